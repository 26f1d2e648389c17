/- What comes of closers, as the document has it, in plain Lean. -/
import Derived.Test.YtccjclmjoegibaaDoorFp
import Derived.Test.YtccjclmjoegibaaDoorQf
import Derived.Test.YtccjclmjoegibaaDoorRb
namespace Go.Proofs.YtccjclmjoegibaaDoor.Ce
open Go.RowKit Go.Maps Go.Proofs.YtccjclmjoegibaaDoor Go.Proofs.YtccjclmjoegibaaDoorW.PrintWords Go.Proofs.YtccjclmjoegibaaDoorW.PrintLast Go.Proofs.YtccjclmjoegibaaDoorW.PrintMore PCloserOrders Hp
set_option linter.unusedVariables false
set_option linter.unusedSimpArgs false
theorem rcrack_f (a b : Int) (t : ByteArray) (h : rightC ⟨a, b, t⟩) (k : Nat) (hk : 40 ≤ k) : oncewebref03_crack.f k a b t = some true := by
  obtain ⟨k, rfl⟩ : ∃ m, k = m + 1 + 1 + 1 := ⟨k - 3, by omega⟩
  unfold oncewebref03_crack.f
  rcases h with ⟨h1 | h1, h2, h3⟩ | ⟨h1, h2, h3⟩ | ⟨h1, h2, h3⟩
  · have e1 : a = 1 := h1
    have e2 : b = 0 := h2
    have e3 : t.size ≤ 4096 := h3
    subst e1; subst e2
    rw [if_pos rfl, oncewebref03_crack.j0, if_pos (by decide), if_pos rfl, decide_eq_true (by omega)]
  · have e1 : a = 2 := h1
    have e2 : b = 0 := h2
    have e3 : t.size ≤ 4096 := h3
    subst e1; subst e2
    rw [if_neg (by decide), oncewebref03_crack.j0, if_pos (by decide), if_pos rfl, decide_eq_true (by omega)]
  · have e1 : a = 9 := h1
    have e2 : b = 1 := h2
    have e3 : nameB t = true := h3
    subst e1; subst e2
    rw [if_neg (by decide), oncewebref03_crack.j0, if_neg (by decide), if_neg (by decide), if_neg (by decide), if_neg (by decide), oncewebref03_crack.j1, if_neg (by decide), if_neg (by decide), if_neg (by decide), oncewebref03_crack.j2, if_neg (by decide), if_pos rfl, if_pos rfl, rname_f t k (by omega), e3]
    rfl
  · have e1 : a = 10 := h1
    have e2 : 1 ≤ b := h2
    have e3 : t = ⟨#[]⟩ := h3
    subst e1; subst e3
    rw [if_neg (by decide), oncewebref03_crack.j0, if_neg (by decide), if_neg (by decide), if_neg (by decide), if_neg (by decide), oncewebref03_crack.j1, if_neg (by decide), if_neg (by decide), if_neg (by decide), oncewebref03_crack.j2, if_neg (by decide), if_neg (by decide), if_pos rfl, if_pos e2, str_zero (show (⟨#[]⟩ : ByteArray).size = 0 from rfl)]
    rfl
theorem rbegins_l0 (f : List S49) (hf : OkF f) : ∀ (n i k : Nat) (fr st : List Int), n = f.length - i → i ≤ f.length → fr.length ≤ i → st.length ≤ i → stk st.length (f.drop i) = some 1 → 2 * n + 50 < k → ∃ r, oncewebref03_begins.l0 k f fr st (i : Int) = some (r, true)
  | 0, i, k + 1, fr, st, hn, hi, h1, h2, h3, hk => by
    refine ⟨fr, ?_⟩
    rw [List.drop_eq_nil_of_le (by omega), stk] at h3
    injection h3 with h3
    rw [oncewebref03_begins.l0, if_neg (by omega), h3]; rfl
  | n + 1, i, k + 1, fr, st, hn, hi, h1, h2, h3, hk => by
    have hlt : i < f.length := by omega
    have hlen := hf.len
    have hw := wsucc i (by omega)
    rw [drop_t49 f i hlt] at h3
    obtain ⟨h4, h5⟩ := stk_step h3
    have hr := hf.right _ (mem_t49 f i hlt)
    have h0 := hr.n0
    obtain ⟨k, rfl⟩ : ∃ m, k = m + 1 := ⟨k - 1, by omega⟩
    rw [oncewebref03_begins.l0, if_pos (by omega), if_pos (by omega), rcrack_f (rd_T49 f (i : Int)).f0 (rd_T49 f (i : Int)).f1 (rd_T49 f (i : Int)).f2 hr (k + 1) (by omega)]
    simp only [Option.bind_some]
    rw [if_pos trivial, oncewebref03_begins.j1, if_neg (by simp; omega)]
    by_cases hz : (rd_T49 f (i : Int)).f1 > 0
    · obtain ⟨m, hm⟩ : ∃ m : Nat, (m : Int) = (st.length : Int) - (rd_T49 f (i : Int)).f1 := ⟨((st.length : Int) - (rd_T49 f (i : Int)).f1).toNat, by omega⟩
      have hwm : wrap64 ((st.length : Int) - (rd_T49 f (i : Int)).f1) = (m : Int) := by rw [hm, w64s (by omega) (by omega)]
      rw [if_pos hz, hwm, if_pos (by omega), if_pos (by omega), if_pos (by omega)]
      simp only [Option.bind_some]
      rw [Int.toNat_natCast]
      have ht : (st.take m).length = m := by rw [List.length_take]; omega
      rw [if_pos (by omega), if_pos (by omega), hw]
      refine rbegins_l0 f hf n (i + 1) k _ _ (by omega) (by omega) (by simp; omega) (by simp; omega) ?_ (by omega)
      rw [List.length_append, ht]
      rw [show ((m + [rd st (m : Int)].length : Nat) : Int) = (st.length : Int) - (rd_T49 f (i : Int)).f1 + 1 from by simp; omega]
      exact h5
    · rw [if_neg hz, if_pos (by omega), if_pos (by omega), hw]
      refine rbegins_l0 f hf n (i + 1) k _ _ (by omega) (by omega) (by simp; omega) (by simp; omega) ?_ (by omega)
      rw [show (((st ++ [(i : Int)]).length : Nat) : Int) = (st.length : Int) - (rd_T49 f (i : Int)).f1 + 1 from by simp; omega]
      exact h5
theorem rfcheck_f (f : List S49) (hf : OkF f) (k : Nat) (hk : 2200 ≤ k) : oncewebref03_Check.f k f = some 0 := by
  have := hf.len
  unfold oncewebref03_Check.f oncewebref03_begins.f
  obtain ⟨r, h⟩ := rbegins_l0 f hf f.length 0 k [] [] rfl (Nat.zero_le _) (Nat.le_refl _) (Nat.le_refl _) hf.st (by omega)
  rw [if_neg (by omega)]
  have h' : oncewebref03_begins.l0 k f [] [] 0 = some (r, true) := h
  rw [h']
  rfl
theorem rwrap_f (a : ByteArray) (f : List S49) (ha : nameB a = true) (hf : OkF f) (hl : f.length + 1 ≤ 1024) (k : Nat) (hk : 2300 ≤ k) : oncewebref03_Wrap.f k a f = some (f ++ [⟨9, 1, a⟩], 0) := by
  unfold oncewebref03_Wrap.f
  rw [rname_f a k (by omega), ha]
  simp only [Option.bind_some]
  rw [if_pos trivial, rfcheck_f f hf k (by omega)]
  simp only [Option.bind_some]
  rw [if_pos trivial]
  have hc : oncewebbase_CopyFail.f f = some f := by
    unfold oncewebbase_CopyFail.f
    simp only [Option.bind_some]
    rw [if_pos (by simp; omega)]; rfl
  rw [hc]
  simp only [Option.bind_some]
  rw [if_pos (by omega)]
  have hb : oncewebref03_long.f (f ++ [⟨9, 1, a⟩]) = some (f ++ [⟨9, 1, a⟩]) := by
    unfold oncewebref03_long.f
    rw [if_neg (by simp; omega)]
  rw [hb]
  rfl
theorem rjoin_l0 (ps : List (List S49)) (h : Pairs ps) (hl : ps.length ≤ 256) : ∀ n i k : Nat, n = ps.length - i → i ≤ ps.length → n + 2300 < k → oncewebref03_Join.l0 k ps (ps.take i).flatten (i : Int) (i : Int) = some (joinL ps, 0)
  | 0, i, k + 1, hn, hi, hk => by
    have he : i = ps.length := by omega
    subst he
    rw [oncewebref03_Join.l0, if_neg (by omega), List.take_length]
    by_cases hz : ps = []
    · subst hz; rfl
    · have hj := joinL_ok h hl hz
      have hp : 0 < ps.length := by
        cases ps with
        | nil => exact absurd rfl hz
        | cons a b => simp
      rw [if_neg (by omega)]
      have hfl := h.flat
      rw [if_pos (by omega)]
      have hb : oncewebref03_long.f (ps.flatten ++ [⟨10, (ps.length : Int), ⟨#[]⟩⟩]) = some (ps.flatten ++ [⟨10, (ps.length : Int), ⟨#[]⟩⟩]) := by
        unfold oncewebref03_long.f
        rw [if_neg (by rw [List.length_append, hfl]; simp; omega)]
      rw [hb, hj.2]
      rfl
  | n + 1, i, k + 1, hn, hi, hk => by
    have hw := wsucc i (by omega)
    obtain ⟨t1, t2⟩ := take_flat ps i (by omega)
    obtain ⟨o1, o2⟩ := h _ t2
    have hfl := (h.take i).flat
    have hti : (ps.take i).length = i := by rw [List.length_take]; omega
    rw [oncewebref03_Join.l0, if_pos (by omega), if_pos (by omega), if_neg (by omega), rfcheck_f _ o1 k (by omega)]
    simp only [Option.bind_some]
    rw [if_pos trivial, if_pos (by omega), if_pos (by omega), hw, ← t1]
    exact rjoin_l0 ps h hl n (i + 1) k (by omega) (by omega) (by omega)
theorem rjoin_f (ps : List (List S49)) (h : Pairs ps) (hl : ps.length ≤ 256) (k : Nat) (hk : 2600 ≤ k) : oncewebref03_Join.f k ps = some (joinL ps, 0) := by
  unfold oncewebref03_Join.f
  rw [if_neg (by omega)]
  exact rjoin_l0 ps h hl ps.length 0 k rfl (Nat.zero_le _) (by omega)
theorem rfails_l1 (l : List S33) (o : List Int) (hl : o.length ≤ 256) (hr : ∀ x ∈ o, 0 ≤ x ∧ x < l.length) : ∀ n i k : Nat, n = o.length - i → i ≤ o.length → 2 * n + 2700 < k → (o.take i).any (fun n => badP (rd_T33 l n)) = false →
    oncewebref19_Fails.l1 k l o (pairsL l (o.take i)) (i : Int) = some (if o.any (fun n => badP (rd_T33 l n)) = true then ([], 190) else (joinL (pairsL l o), 0))
  | 0, i, k + 1, hn, hi, hk, hg => by
    have he : i = o.length := by omega
    subst he
    rw [List.take_length] at hg ⊢
    rw [oncewebref19_Fails.l1, if_neg (by omega), rjoin_f _ (pairsL_ok l o hg) (Nat.le_trans (pairsL_len l o) hl) k (by omega), hg]
    rfl
  | n + 1, i, k + 1, hn, hi, hk, hg => by
    obtain ⟨k, rfl⟩ : ∃ m, k = m + 1 := ⟨k - 1, by omega⟩
    have hw := wsucc i (by omega)
    obtain ⟨t1, t2⟩ := take_rd o i (by omega)
    have hm : rd o (i : Int) ∈ o := by
      rw [rd_nat, Int.toNat_natCast, at_get o i (by omega)]; exact List.getElem_mem _
    have hrx := hr _ hm
    have hpl := pairsL_len l (o.take i)
    rw [List.length_take] at hpl
    have hb0 : badP (rd_T33 l (rd o (i : Int))) = true → o.any (fun n => badP (rd_T33 l n)) = true := fun h => List.any_eq_true.2 ⟨_, hm, h⟩
    have hg1 := bad_app l (o.take i) (rd o (i : Int))
    rw [← t1, hg, Bool.false_or] at hg1
    have hp1 := pairsL_app l (o.take i) [rd o (i : Int)]
    rw [← t1] at hp1
    have hp2 : pairsL l [rd o (i : Int)] = if failsP (rd_T33 l (rd o (i : Int))) = true then [pairP (rd_T33 l (rd o (i : Int)))] else [] := by rw [pairsL, pairsL]
    rw [oncewebref19_Fails.l1, if_pos (by omega), if_pos (by omega), if_pos hrx.1, if_pos hrx.2, rname_f _ (k + 1) (by omega)]
    simp only [Option.bind_some]
    generalize rd_T33 l (rd o (i : Int)) = x at *
    obtain ⟨r, hc1, hc2⟩ := rcloser_f x.f5.f0 x.f5.f1 (k + 1) (by omega)
    by_cases hn1 : nameB x.f1 = true
    · rw [if_pos hn1, hc1]
      simp only [Option.bind_some]
      by_cases hcl : closerB x.f5.f0 x.f5.f1 = true
      · have hbad : badP x = false := by unfold badP; rw [hn1, hcl]; rfl
        rw [hcl] at hc2
        rw [hbad] at hg1
        have hr0 : (r != 0) = false := by simp at hc2; simp [hc2]
        rw [hr0, oncewebref19_Fails.j3, if_neg (by decide)]
        by_cases h3 : x.f5.f0 = 3
        · have hf : failsP x = true := by unfold failsP; simp [h3]
          have hk2 : kindP x = 2 := by unfold kindP; rw [if_pos h3]
          have hok := pairP_ok hbad hf
          have hwr : oncewebref03_Wrap.f k x.f1 [⟨2, 0, x.f5.f1⟩] = some (pairP x, 0) := by
            have h4 : x.f5.f1.size ≤ 4096 := by
              have := hok.right (leafOf (kindP x) x.f5.f1) (by simp [pairP])
              exact this.text
            rw [rwrap_f x.f1 [⟨2, 0, x.f5.f1⟩] hn1 (okLeaf (.inr rfl) h4) (by simp) k (by omega)]
            unfold pairP leafOf cellOf
            rw [hk2]; rfl
          rw [if_pos h3, if_pos (by omega), hwr]
          simp only [Option.bind_some]
          rw [if_pos (by omega), hw]
          rw [hf, if_pos rfl] at hp2
          rw [hp2] at hp1
          rw [← hp1]
          exact rfails_l1 l o hl hr n (i + 1) k (by omega) (by omega) (by omega) hg1
        · rw [if_neg h3]
          by_cases h2 : x.f5.f0 ≥ 2
          · have h2' : x.f5.f0 = 2 := by
              unfold closerB at hcl
              by_cases h5 : x.f5.f0 = 2
              · exact h5
              · rw [if_neg (by omega), if_neg (by omega)] at hcl; exact absurd hcl (by decide)
            have hf : failsP x = true := by unfold failsP; simp [h2']
            have hk1 : kindP x = 1 := by unfold kindP; rw [if_neg h3]
            have hok := pairP_ok hbad hf
            have hwr : oncewebref03_Wrap.f k x.f1 [⟨1, 0, x.f5.f1⟩] = some (pairP x, 0) := by
              have h4 : x.f5.f1.size ≤ 4096 := by
                have := hok.right (leafOf (kindP x) x.f5.f1) (by simp [pairP])
                exact this.text
              rw [rwrap_f x.f1 [⟨1, 0, x.f5.f1⟩] hn1 (okLeaf (.inl rfl) h4) (by simp) k (by omega)]
              unfold pairP leafOf cellOf
              rw [hk1]; rfl
            rw [if_pos h2, hwr]
            simp only [Option.bind_some]
            rw [if_pos (by omega), hw]
            rw [hf, if_pos rfl] at hp2
            rw [hp2] at hp1
            rw [← hp1]
            exact rfails_l1 l o hl hr n (i + 1) k (by omega) (by omega) (by omega) hg1
          · have hf : failsP x = false := by unfold failsP; simp; omega
            rw [if_neg h2, hw]
            rw [hf, if_neg (by decide), ] at hp2
            rw [hp2, List.append_nil] at hp1
            rw [← hp1]
            exact rfails_l1 l o hl hr n (i + 1) k (by omega) (by omega) (by omega) hg1
      · have hbad : badP x = true := by unfold badP; rw [hn1]; simp at hcl; rw [hcl]; rfl
        have hr0 : (r != 0) = true := by
          simp at hcl
          rw [hcl] at hc2
          simp at hc2
          simp [hc2]
        rw [hr0, oncewebref19_Fails.j3, if_pos rfl, hb0 hbad, if_pos rfl]
    · have hbad : badP x = true := by unfold badP; simp at hn1; rw [hn1]; rfl
      rw [if_neg hn1, oncewebref19_Fails.j3, if_pos rfl, hb0 hbad, if_pos rfl]
theorem rfails_l0 (l : List S33) (o : List Int) (hl : o.length ≤ 256) : ∀ n i k : Nat, n = o.length - i → i ≤ o.length → n + 3300 < k → (∀ x ∈ o.take i, 0 ≤ x ∧ x < l.length) →
    oncewebref19_Fails.l0 k l o (i : Int) = some (if o.any (outB l.length) = true then ([], 1) else if o.any (fun n => badP (rd_T33 l n)) = true then ([], 190) else (joinL (pairsL l o), 0))
  | 0, i, k + 1, hn, hi, hk, hg => by
    have he : i = o.length := by omega
    subst he
    rw [List.take_length] at hg
    have h0 : o.any (outB l.length) = false := by
      rw [List.any_eq_false]
      intro x hx
      have := hg x hx
      unfold outB
      simp; omega
    rw [oncewebref19_Fails.l0, if_neg (by omega), h0, if_neg (by decide)]
    exact rfails_l1 l o hl hg o.length 0 k rfl (Nat.zero_le _) (by omega) rfl
  | n + 1, i, k + 1, hn, hi, hk, hg => by
    have hw := wsucc i (by omega)
    obtain ⟨t1, t2⟩ := take_rd o i (by omega)
    have hm : rd o (i : Int) ∈ o := by
      rw [rd_nat, Int.toNat_natCast, at_get o i (by omega)]; exact List.getElem_mem _
    have hb0 : outB l.length (rd o (i : Int)) = true → o.any (outB l.length) = true := fun h => List.any_eq_true.2 ⟨_, hm, h⟩
    rw [oncewebref19_Fails.l0, if_pos (by omega), if_pos (by omega)]
    by_cases h1 : rd o (i : Int) < 0
    · rw [if_pos h1, hb0 (by unfold outB; simp [h1]), if_pos rfl]
    · rw [if_neg h1]
      by_cases h2 : rd o (i : Int) ≥ (l.length : Int)
      · rw [if_pos h2, hb0 (by unfold outB; simp; omega), if_pos rfl]
      · rw [if_neg h2, hw]
        refine rfails_l0 l o hl n (i + 1) k (by omega) (by omega) (by omega) (fun x hx => ?_)
        rw [t1] at hx
        rcases List.mem_append.1 hx with q | q
        · exact hg x q
        · rw [List.mem_singleton.1 q]; omega
theorem rfails_f (l : List S33) (o : List Int) (k : Nat) (hk : 3700 ≤ k) : oncewebref19_Fails.f k l o = some (failsL l o, failsE l o) := by
  obtain ⟨k, rfl⟩ : ∃ m, k = m + 1 := ⟨k - 1, by omega⟩
  unfold oncewebref19_Fails.f
  by_cases h1 : l.length > 256
  · have he : failsE l o = 3 := by unfold failsE; rw [if_pos (.inl h1)]
    rw [if_pos (by omega), oncewebref19_Fails.j0, if_pos rfl, failsL_no he (by decide), he]
  · rw [if_neg (by omega)]
    by_cases h2 : o.length > 256
    · have he : failsE l o = 3 := by unfold failsE; rw [if_pos (.inr h2)]
      rw [decide_eq_true (by omega), oncewebref19_Fails.j0, if_pos rfl, failsL_no he (by decide), he]
    · have h12 : ¬ (l.length > 256 ∨ o.length > 256) := by omega
      rw [decide_eq_false (by omega), oncewebref19_Fails.j0, if_neg (by decide)]
      have := rfails_l0 l o (by omega) o.length 0 k rfl (Nat.zero_le _) (by omega) (fun x hx => absurd hx (by simp))
      have h' : oncewebref19_Fails.l0 k l o 0 = _ := this
      rw [h']
      by_cases h3 : o.any (outB l.length) = true
      · have he : failsE l o = 1 := by unfold failsE; rw [if_neg h12, if_pos h3]
        rw [if_pos h3, failsL_no he (by decide), he]
      · by_cases h4 : o.any (fun n => badP (rd_T33 l n)) = true
        · have he : failsE l o = 190 := by unfold failsE; rw [if_neg h12, if_neg h3, if_pos h4]
          rw [if_neg h3, if_pos h4, failsL_no he (by decide), he]
        · have he : failsE l o = 0 := by unfold failsE; rw [if_neg h12, if_neg h3, if_neg h4]
          rw [if_neg h3, if_neg h4, he]
          unfold failsL
          rw [he, if_pos rfl]
theorem rFails_is (w : World) (A : Option Addr) (c : Nat) (l : List S33) (B : Option Addr) (d : Nat) (o : List Int) (hl : Kd.C k33 w A l.length l) (hc : l.length ≤ c) (ho : Kd.C (Kd.int .i64) w B o.length o) (hd : o.length ≤ d) :
    Calls Tryd.prog 22 #[.slice A l.length c, .slice B o.length d] w fun e w' => FailPost w l o e w' :=
  oncewebref19_Fails.calls 3700 A c l B d o _ _ w hl hc ho hd (rfails_f l o 3700 (Nat.le_refl _))
end Go.Proofs.YtccjclmjoegibaaDoor.Ce
