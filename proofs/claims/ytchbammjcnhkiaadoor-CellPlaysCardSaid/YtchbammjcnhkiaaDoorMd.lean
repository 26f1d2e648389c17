/- The document's checks answer as the code's; the small functions of its cell. -/
import Derived.Test.YtchbammjcnhkiaaDoorCq
import Derived.Test.YtchbammjcnhkiaaDoorQd
import Derived.Test.YtchbammjcnhkiaaDoorQe
import Derived.Test.YtchbammjcnhkiaaDoorCs
set_option linter.unusedVariables false
set_option linter.unusedSimpArgs false
namespace Go.Proofs.YtchbammjcnhkiaaDoor.Ce
open Go.RowKit Go.Maps Go.Proofs.YtchbammjcnhkiaaDoor Go.Proofs.YtchbammjcnhkiaaDoorW.PrintWords Go.Proofs.YtchbammjcnhkiaaDoorW.PrintLast Go.Proofs.YtchbammjcnhkiaaDoorW.PrintMore PCellPlays
theorem w64 {x : Int} (h0 : -4611686018427387904 ≤ x) (h1 : x ≤ 4611686018427387904) : wrap64 x = x := by rw [← i64_w, IntWalk.i64_in _ (by omega)]
def mxl (l : List Int) : Int := l.foldr max 0
theorem mxl_nonneg : ∀ (l : List Int), 0 ≤ mxl l
  | [] => Int.le_refl _
  | a :: l => by have := mxl_nonneg l; show 0 ≤ max a (mxl l); omega
theorem fold_mxl : ∀ (l : List Int) (m : Int), 1 ≤ m → l.foldl (fun m x => max m (x + 1)) m = max m (mxl l + 1)
  | [], m, h => by show m = max m (0 + 1); omega
  | a :: l, m, h => by
    show l.foldl _ (max m (a + 1)) = max m (max a (mxl l) + 1)
    rw [fold_mxl l _ (by omega)]
    omega
theorem deep_mxl (l : List Int) : deepOf l = mxl l + 1 := by
  unfold deepOf
  rw [fold_mxl l 1 (by omega)]
  have := mxl_nonneg l
  omega
theorem mxl_le : ∀ {l : List Int} {b : Int}, 0 ≤ b → (∀ x ∈ l, x ≤ b) → mxl l ≤ b
  | [], b, h, _ => h
  | a :: l, b, h, hx => by
    have h1 := mxl_le (l := l) h (fun x hx' => hx x (List.mem_cons_of_mem _ hx'))
    have h2 := hx a (List.mem_cons_self)
    show max a (mxl l) ≤ b
    omega
theorem le_mxl : ∀ {l : List Int} {x : Int}, x ∈ l → x ≤ mxl l
  | a :: l, x, h => by
    show x ≤ max a (mxl l)
    rcases List.mem_cons.1 h with rfl | h
    · omega
    · have := le_mxl h; omega
/-- A step without the bound on depth. -/
def rStep (st : List Int) (a : S80) : Option (List Int) :=
  if vWell a = true ∧ a.f1 ≤ st.length then some (st.take (st.length - a.f1.toNat) ++ [deepOf (st.drop (st.length - a.f1.toNat))]) else none
def rRun : List Int → List S80 → Option (List Int)
  | st, [] => some st
  | st, a :: l => (rStep st a).bind fun s => rRun s l
theorem rRun_deep : ∀ (l : List S80) (st : List Int) (d : Int), (∀ x ∈ st, 1 ≤ x) → rRun st l = some [d] → (∀ x ∈ st, x ≤ d) ∧ (d ≤ 32 → vRun st l = some [d]) ∧ 1 ≤ d
  | [], st, d, h1, h => by
    simp only [rRun, Option.some.injEq] at h
    subst h
    exact ⟨by simp, fun _ => rfl, h1 d (by simp)⟩
  | a :: l, st, d, h1, h => by
    simp only [rRun] at h
    cases hs : rStep st a with
    | none => rw [hs] at h; exact absurd h (by simp)
    | some s =>
      rw [hs] at h
      have h' : rRun s l = some [d] := h
      unfold rStep at hs
      split at hs
      · rename_i hw
        obtain rfl := Option.some.inj hs
        have hdp := deep_mxl (st.drop (st.length - a.f1.toNat))
        have hnn := mxl_nonneg (st.drop (st.length - a.f1.toNat))
        have hpos : ∀ x ∈ st.take (st.length - a.f1.toNat) ++ [deepOf (st.drop (st.length - a.f1.toNat))], 1 ≤ x := by
          intro x hx
          rcases List.mem_append.1 hx with hx | hx
          · exact h1 x (List.mem_of_mem_take hx)
          · rw [List.mem_singleton] at hx
            omega
        obtain ⟨g1, g2, g3⟩ := rRun_deep l _ d hpos h'
        have hD : deepOf (st.drop (st.length - a.f1.toNat)) ≤ d := g1 _ (by simp)
        refine ⟨fun x hx => ?_, fun hd => ?_, g3⟩
        · rw [← List.take_append_drop (st.length - a.f1.toNat) st] at hx
          rcases List.mem_append.1 hx with hx | hx
          · exact g1 x (List.mem_append_left _ hx)
          · have := le_mxl hx
            omega
        · simp only [vRun, vStep]
          rw [if_pos ⟨hw.1, hw.2, by omega⟩]
          exact g2 hd
      · exact absurd hs (by simp)
theorem vRun_deep : ∀ (l : List S80) (st s : List Int), vRun st l = some s → rRun st l = some s ∧ ((∀ x ∈ st, x ≤ 32) → ∀ x ∈ s, x ≤ 32)
  | [], st, s, h => by
    simp only [vRun, Option.some.injEq] at h
    subst h
    exact ⟨rfl, fun h => h⟩
  | a :: l, st, s, h => by
    simp only [vRun] at h
    cases hs : vStep st a with
    | none => rw [hs] at h; exact absurd h (by simp)
    | some t =>
      rw [hs] at h
      have h' : vRun t l = some s := h
      obtain ⟨g1, g2⟩ := vRun_deep l t s h'
      unfold vStep at hs
      split at hs
      · rename_i hw
        obtain rfl := Option.some.inj hs
        refine ⟨?_, fun hx => g2 ?_⟩
        · simp only [rRun, rStep]
          rw [if_pos ⟨hw.1, hw.2.1⟩]
          exact g1
        · intro x hx'
          rcases List.mem_append.1 hx' with hx' | hx'
          · exact hx x (List.mem_of_mem_take hx')
          · rw [List.mem_singleton] at hx'
            have := hw.2.2
            omega
      · exact absurd hs (by simp)
theorem vWhole_is (l : List S80) : vWhole l = match rRun [] l with
    | some [d] => decide (d ≤ 32)
    | _ => false := by
  unfold vWhole
  cases hv : vRun [] l with
  | none =>
    show false = _
    split
    · rename_i d hr
      by_cases hd : d ≤ 32
      · have := (rRun_deep l [] d (by simp) hr).2.1 hd
        rw [hv] at this
        exact absurd this (by simp)
      · rw [decide_eq_false hd]
    · rfl
  | some s =>
    obtain ⟨g1, g2⟩ := vRun_deep l [] s hv
    rw [g1]
    match s with
    | [] => rfl
    | [d] =>
      have := g2 (by simp) d (by simp)
      show true = decide (d ≤ 32)
      rw [decide_eq_true this]
    | _ :: _ :: _ => rfl
theorem atom_is (a : S80) : oncewebref07_atom.f a.f0 a.f1 a.f2 a.f3 = some (vWell a) := vWell_some a
theorem drop_one {l : List Int} {j : Nat} (h : j < l.length) : l.drop j = rd l j :: l.drop (j + 1) := by
  rw [List.drop_eq_getElem_cons h]
  simp [rd, List.getD, List.getElem?_eq_getElem h]
/-- The inner loop: the greatest of the last ones. -/
theorem deep_loop (l : List S80) (x5 x6 x7 : List Int) (x8 n x10 : Int) (h67 : x6.length = x7.length) (hn : n ≤ x7.length) (hl : x7.length ≤ 1024) (hx : ∀ x ∈ x7, 0 ≤ x ∧ x ≤ 1024) (h5 : x5.length ≤ 1024) (h0 : 0 ≤ n) (b : List Int × Int × Bool) (k : Nat)
    (hk : oncewebref07_begins.l0 k l (x5 ++ [x10]) (x6.take (x6.length - n.toNat) ++ [x10]) (x7.take (x7.length - n.toNat) ++ [deepOf (x7.drop (x7.length - n.toNat))]) (wrap64 (x8 + 1)) = some b) :
    ∀ (d c : Nat), (c : Int) + d = n → ∃ q, oncewebref07_begins.l1 q l x5 x6 x7 x8 n x10 (mxl (x7.drop (x7.length - c))) c = some b := by
  intro d
  induction d with
  | zero =>
    intro c hc
    have hcn : n.toNat = c := by omega
    have hm := mxl_le (l := x7.drop (x7.length - c)) (b := 1024) (by omega) (fun x hx' => (hx x (List.mem_of_mem_drop hx')).2)
    have hm0 := mxl_nonneg (x7.drop (x7.length - c))
    refine ⟨k + 1, ?_⟩
    rw [oncewebref07_begins.l1, if_neg (by omega), w64 (by omega) (by omega), if_pos (by omega), if_pos (by omega), Option.bind_some, w64 (by omega) (by omega), if_pos (by omega), if_pos (by omega), Option.bind_some, if_pos (by simp; omega), if_pos (by simp; omega), if_pos (by omega), w64 (by omega) (by omega)]
    rw [hcn, deep_mxl] at hk
    rw [show ((x6.length : Int) - n).toNat = x6.length - c by omega, show ((x7.length : Int) - n).toNat = x7.length - c by omega]
    exact hk
  | succ d ih =>
    intro c hc
    obtain ⟨q, hq⟩ := ih (c + 1) (by omega)
    refine ⟨q + 1, ?_⟩
    rw [oncewebref07_begins.l1, if_pos (by omega), w64 (x := (x7.length : Int) - 1) (by omega) (by omega), w64 (by omega) (by omega), if_pos (by omega), if_pos (by omega), w64 (by omega) (by omega)]
    have hj : x7.length - (c + 1) < x7.length := by omega
    have e := drop_one hj
    rw [show x7.length - (c + 1) + 1 = x7.length - c by omega] at e
    have hm : mx (mxl (x7.drop (x7.length - c))) (rd x7 ((x7.length : Int) - 1 - c)) = mxl (x7.drop (x7.length - (c + 1))) := by
      rw [e, show (x7.length : Int) - 1 - (c : Int) = ((x7.length - (c + 1) : Nat) : Int) by omega]
      show mx _ _ = max _ (mxl _)
      unfold mx
      omega
    rw [hm]
    exact hq
theorem rd80_drop {l : List S80} {i : Nat} (h : i < l.length) : l.drop i = rd_T80 l i :: l.drop (i + 1) := by
  rw [List.drop_eq_getElem_cons h]
  simp [rd_T80, List.getD, List.getElem?_eq_getElem h]
theorem begins07 (l : List S80) (hl : l.length ≤ 1024) : ∀ n (i : Nat) (x5 x6 st : List Int), i + n = l.length → x6.length = st.length → st.length ≤ i → x5.length ≤ i → (∀ x ∈ st, 0 ≤ x ∧ x ≤ i) →
    ∃ k b, oncewebref07_begins.l0 k l x5 x6 st (i : Int) = some b ∧ (match rRun st (l.drop i) with
      | some [d] => b.2.1 = d ∧ b.2.2 = true
      | _ => b.2.2 = false) := by
  intro n
  induction n with
  | zero =>
    intro i x5 x6 st hi h6 hs h5 hx
    rw [List.drop_eq_nil_of_le (by omega)]
    by_cases h1 : x6.length = 1
    · have hst : st.length = 1 := by omega
      match st, hst with
      | [d], _ =>
        refine ⟨1, (x5, rd [d] 0, true), ?_, rfl, rfl⟩
        rw [oncewebref07_begins.l0, if_neg (by omega), if_pos (by omega), if_pos (by simp)]
    · refine ⟨1, ([], 0, false), ?_, ?_⟩
      · rw [oncewebref07_begins.l0, if_neg (by omega), if_neg (by omega)]
      · match st with
        | [] => rfl
        | [d] => exact absurd h6 (by simpa using h1)
        | _ :: _ :: _ => rfl
  | succ n ih =>
    intro i x5 x6 st hi h6 hs h5 hx
    have hlt : i < l.length := by omega
    rw [rd80_drop hlt]
    generalize ha : rd_T80 l (i : Int) = a
    have hat := atom_is a
    by_cases hw : vWell a = true
    · have hn0 := vWell_n hw
      rw [hw] at hat
      by_cases hc : a.f1 ≤ st.length
      · have hrs : rStep st a = some (st.take (st.length - a.f1.toNat) ++ [deepOf (st.drop (st.length - a.f1.toNat))]) := by unfold rStep; rw [if_pos ⟨hw, hc⟩]
        have hdp := deep_mxl (st.drop (st.length - a.f1.toNat))
        have hm0 := mxl_nonneg (st.drop (st.length - a.f1.toNat))
        have hm1 := mxl_le (l := st.drop (st.length - a.f1.toNat)) (b := i) (by omega) (fun x hx' => (hx x (List.mem_of_mem_drop hx')).2)
        have hxn : ∀ x ∈ st.take (st.length - a.f1.toNat) ++ [deepOf (st.drop (st.length - a.f1.toNat))], 0 ≤ x ∧ x ≤ ((i + 1 : Nat) : Int) := by
          intro x hx'
          rcases List.mem_append.1 hx' with hx' | hx'
          · have := hx x (List.mem_of_mem_take hx'); omega
          · rw [List.mem_singleton] at hx'; omega
        have hrun : rRun st (a :: l.drop (i + 1)) = rRun (st.take (st.length - a.f1.toNat) ++ [deepOf (st.drop (st.length - a.f1.toNat))]) (l.drop (i + 1)) := by simp only [rRun]; rw [hrs]; rfl
        rw [hrun]
        have hwi : wrap64 ((i : Int) + 1) = ((i + 1 : Nat) : Int) := by rw [w64 (by omega) (by omega)]; omega
        by_cases hpos : a.f1 > 0
        · obtain ⟨k, b, hk, hb⟩ := ih (i + 1) (x5 ++ [rd x6 (wrap64 ((x6.length : Int) - a.f1))]) (x6.take (x6.length - a.f1.toNat) ++ [rd x6 (wrap64 ((x6.length : Int) - a.f1))]) (st.take (st.length - a.f1.toNat) ++ [deepOf (st.drop (st.length - a.f1.toNat))]) (by omega) (by simp; omega) (by simp; omega) (by simp; omega) hxn
          rw [← hwi] at hk
          obtain ⟨q, hq⟩ := deep_loop l x5 x6 st i a.f1 _ h6 hc (by omega) (fun x hx' => by have := hx x hx'; omega) (by omega) hn0 b k hk a.f1.toNat 0 (by omega)
          have hq' : oncewebref07_begins.l1 q l x5 x6 st (i : Int) a.f1 (rd x6 (wrap64 ((x6.length : Int) - a.f1))) 0 0 = some b := by
            have e : mxl (st.drop (st.length - 0)) = 0 := by rw [Nat.sub_zero, List.drop_length]; rfl
            rw [e] at hq
            exact hq
          refine ⟨q + 2, b, ?_, hb⟩
          rw [oncewebref07_begins.l0, if_pos (by omega), if_pos (by omega), ha, hat, Option.bind_some, if_pos rfl, oncewebref07_begins.j1, if_neg (by simp; omega), if_pos hpos]
          have e2 : wrap64 ((x6.length : Int) - a.f1) = (x6.length : Int) - a.f1 := w64 (by omega) (by omega)
          rw [if_pos (by rw [e2]; omega), if_pos (by rw [e2]; omega)]
          exact hq'
        · have hz : a.f1 = 0 := by omega
          obtain ⟨k, b, hk, hb⟩ := ih (i + 1) (x5 ++ [(i : Int)]) (x6 ++ [(i : Int)]) (st.take (st.length - a.f1.toNat) ++ [deepOf (st.drop (st.length - a.f1.toNat))]) (by omega) (by simp; omega) (by simp; omega) (by simp; omega) hxn
          refine ⟨k + 2, b, ?_, hb⟩
          rw [oncewebref07_begins.l0, if_pos (by omega), if_pos (by omega), ha, hat, Option.bind_some, if_pos rfl, oncewebref07_begins.j1, if_neg (by simp; omega), if_neg hpos, if_pos (by omega), if_pos (by omega), if_pos (by omega), hwi]
          have e3 : st.take (st.length - a.f1.toNat) ++ [deepOf (st.drop (st.length - a.f1.toNat))] = st ++ [0 + 1] := by
            rw [hz]
            simp
            rfl
          rw [e3] at hk
          exact hk
      · have hrs : rStep st a = none := by unfold rStep; rw [if_neg (fun h => hc h.2)]
        have hrun : rRun st (a :: l.drop (i + 1)) = none := by simp only [rRun]; rw [hrs]; rfl
        rw [hrun]
        refine ⟨2, ([], 0, false), ?_, rfl⟩
        rw [oncewebref07_begins.l0, if_pos (by omega), if_pos (by omega), ha, hat, Option.bind_some, if_pos rfl, oncewebref07_begins.j1, if_pos (by simp; omega)]
    · have hw' : vWell a = false := by simpa using hw
      rw [hw'] at hat
      have hrs : rStep st a = none := by unfold rStep; rw [if_neg (fun h => hw h.1)]
      have hrun : rRun st (a :: l.drop (i + 1)) = none := by simp only [rRun]; rw [hrs]; rfl
      rw [hrun]
      refine ⟨2, ([], 0, false), ?_, rfl⟩
      rw [oncewebref07_begins.l0, if_pos (by omega), if_pos (by omega), ha, hat, Option.bind_some, if_neg (by simp), oncewebref07_begins.j1, if_pos rfl]
theorem check07 (l : List S80) : ∃ k, oncewebref07_Check.f k l = some (vErr l) := by
  unfold oncewebref07_Check.f vErr
  by_cases hl : l.length ≤ 1024
  · obtain ⟨k, b, hk, hb⟩ := begins07 l hl l.length 0 [] [] [] (by omega) rfl (by simp) (by simp) (by simp)
    refine ⟨k, ?_⟩
    rw [if_neg (by omega), if_pos hl]
    unfold oncewebref07_begins.f
    rw [show oncewebref07_begins.l0 k l [] [] [] 0 = some b from hk, Option.bind_some]
    rw [List.drop_zero] at hb
    have hv := vWhole_is l
    split at hb
    · rename_i d hr
      obtain ⟨h1, h2⟩ := hb
      rw [hr] at hv
      have hv : vWhole l = decide (d ≤ 32) := hv
      rw [if_pos h2, h1, hv]
      by_cases hd : d ≤ 32
      · rw [if_neg (by omega), decide_eq_true hd]; rfl
      · rw [if_pos (by omega), decide_eq_false hd]; rfl
    · rename_i hne
      have hv : vWhole l = false := by
        rw [hv]
        split
        · rename_i d hr
          exact absurd hr (fun h => hne d h)
        · rfl
      rw [if_neg (by rw [hb]; decide), hv]
      rfl
  · exact ⟨0, by rw [if_pos (by omega), if_neg hl]⟩
end Go.Proofs.YtchbammjcnhkiaaDoor.Ce
namespace Go.Proofs.YtchbammjcnhkiaaDoor.Ce
open Go.RowKit Go.Maps Go.Proofs.YtchbammjcnhkiaaDoor Go.Proofs.YtchbammjcnhkiaaDoorW.PrintWords Go.Proofs.YtchbammjcnhkiaaDoorW.PrintLast Go.Proofs.YtchbammjcnhkiaaDoorW.PrintMore PCellPlays
theorem in_from (l : List ByteArray) (s : ByteArray) (hl : l.length < 1000) : ∀ (n i k : Nat), i + n = l.length → n < k → oncewebbase_In.l0 k l s (i : Int) = some (inL (l.drop i) s) := by
  intro n
  induction n with
  | zero =>
    intro i k hi hk
    obtain ⟨k, rfl⟩ : ∃ m, k = m + 1 := ⟨k - 1, by omega⟩
    rw [oncewebbase_In.l0, if_neg (by omega), List.drop_eq_nil_of_le (by omega)]
    rfl
  | succ n ih =>
    intro i k hi hk
    obtain ⟨k, rfl⟩ : ∃ m, k = m + 1 := ⟨k - 1, by omega⟩
    have hlt : i < l.length := by omega
    have hd : l.drop i = rdOf ByteArray.empty l i :: l.drop (i + 1) := by
      rw [List.drop_eq_getElem_cons hlt]
      simp [rdOf, List.getD, List.getElem?_eq_getElem hlt]
    rw [oncewebbase_In.l0, if_pos (by omega), if_pos (by omega), hd]
    by_cases he : (rdOf ByteArray.empty l (i : Int)).toList = s.toList
    · rw [if_pos he]
      simp [inL, he]
    · rw [if_neg he, w64 (by omega) (by omega), show ((i : Int) + 1) = ((i + 1 : Nat) : Int) by omega, ih (i + 1) k (by omega) (by omega)]
      simp [inL, Ne.symm he]
theorem in_all (l : List ByteArray) (s : ByteArray) (hl : l.length < 1000) (k : Nat) (hk : l.length < k) : oncewebbase_In.f k l s = some (inL l s) := by
  unfold oncewebbase_In.f
  have := in_from l s hl l.length 0 k (by omega) hk
  rw [List.drop_zero] at this
  exact this
theorem word_from (s : ByteArray) (hs : s.size ≤ 24) : ∀ (n i k : Nat), i + n = s.size → n < k → oncewebbase_Word.l0 k s (i : Int) = some (allW s n i) := by
  intro n
  induction n with
  | zero =>
    intro i k hi hk
    obtain ⟨k, rfl⟩ : ∃ m, k = m + 1 := ⟨k - 1, by omega⟩
    rw [oncewebbase_Word.l0, if_neg (by omega)]
    rfl
  | succ n ih =>
    intro i k hi hk
    obtain ⟨k, rfl⟩ : ∃ m, k = m + 1 := ⟨k - 1, by omega⟩
    have hn := ih (i + 1) k (by omega) (by omega)
    rw [show (((i + 1 : Nat) : Int)) = wrap64 ((i : Int) + 1) by rw [w64 (by omega) (by omega)]; omega] at hn
    rw [oncewebbase_Word.l0, if_pos (by omega), if_pos (by omega)]
    simp only [allW, inWord]
    generalize bt s (i : Int) = c
    by_cases h1 : c ≥ 97
    · by_cases h2 : c ≤ 122
      · rw [if_pos h1, if_pos h2, hn]
        simp [h2, show (97 : Int) ≤ c from h1]
      · rw [if_pos h1, if_neg h2, if_pos (by omega), if_neg (by omega), if_neg (by omega)]
        have e1 : decide (c ≤ 122) = false := decide_eq_false h2
        have e2 : decide (c ≤ 57) = false := decide_eq_false (by omega)
        have e3 : decide (c = 95) = false := decide_eq_false (by omega)
        rw [e1, e2, e3]
        simp
    · have e0 : decide (97 ≤ c) = false := decide_eq_false h1
      rw [if_neg h1, e0]
      by_cases h2 : c ≥ 48
      · by_cases h3 : c ≤ 57
        · rw [if_pos h2, if_pos h3, hn]
          simp [h3, show (48 : Int) ≤ c from h2]
        · have e2 : decide (c ≤ 57) = false := decide_eq_false h3
          rw [if_pos h2, if_neg h3, e2]
          by_cases h4 : c = 95
          · rw [if_pos h4, hn]; simp [h4]
          · rw [if_neg h4]; simp [h4]
      · have e2 : decide (48 ≤ c) = false := decide_eq_false h2
        rw [if_neg h2, e2]
        by_cases h4 : c = 95
        · rw [if_pos h4, hn]; simp [h4]
        · rw [if_neg h4]; simp [h4]
theorem word_all (s : ByteArray) (hs : s.size ≤ 24) (k : Nat) (hk : 40 < k) : oncewebbase_Word.f k s = some (decide (0 < s.size) && wordB s) := by
  unfold oncewebbase_Word.f
  obtain ⟨k, rfl⟩ : ∃ m, k = m + 1 := ⟨k - 1, by omega⟩
  by_cases h0 : 0 < s.size
  · obtain ⟨_, hne⟩ := str_pos h0
    rw [if_neg hne, if_pos (by omega), decide_eq_true h0, Bool.true_and]
    have hw : wordB s = (decide (97 ≤ bt s 0) && decide (bt s 0 ≤ 122) && allW s (s.size - 1) 1) := by
      unfold wordB
      obtain ⟨m, hm⟩ : ∃ m, s.size = m + 1 := ⟨s.size - 1, by omega⟩
      rw [hm]
      simp only [allW, inWord]
      show (decide (97 ≤ bt s 0) && decide (bt s 0 ≤ 122) && (((decide (97 ≤ bt s 0) && decide (bt s 0 ≤ 122) || _) || _) && allW s m 1)) = _
      cases (decide (97 ≤ bt s 0) && decide (bt s 0 ≤ 122)) <;> simp
    have hl := word_from s hs (s.size - 1) 1 k (by omega) (by omega)
    by_cases h1 : bt s 0 < 97
    · rw [if_pos h1, oncewebbase_Word.j0, if_pos rfl, hw, decide_eq_false (p := 97 ≤ bt s 0) (by omega)]
      rfl
    · rw [if_neg h1, oncewebbase_Word.j0, hw, decide_eq_true (p := 97 ≤ bt s 0) (by omega)]
      by_cases h2 : bt s 0 ≤ 122
      · rw [if_neg (by simp; omega), decide_eq_true h2]
        exact hl
      · rw [if_pos (by simp; omega), decide_eq_false h2]
        rfl
  · rw [if_pos (str_zero (by omega)), oncewebbase_Word.j0, if_pos rfl, decide_eq_false h0]
    rfl
theorem name_all (s : ByteArray) (k : Nat) (hk : 40 < k) : oncewebbase_Name.f k s = some (nameB s) := by
  unfold oncewebbase_Name.f nameB
  by_cases hs : s.size ≤ 24
  · rw [if_pos (by omega), word_all s hs k hk, Option.bind_some, decide_eq_true hs, Bool.and_true]
    cases hb : (decide (0 < s.size) && wordB s) with
    | true =>
      rw [if_pos rfl]
      unfold oncewebbase_Keys.f
      rw [Option.bind_some]
      have := in_all keysL s (by decide) k (show 19 < k by omega)
      show (oncewebbase_In.f k keysL s).bind _ = _
      rw [this]
      rfl
    | false =>
      rw [if_neg (by decide)]
      rfl
  · rw [if_neg (by omega), decide_eq_false hs]
    simp
theorem values_size {s : ByteArray} (h : inL valuesL s = true) : s.size ≤ 4096 := by
  unfold inL at h
  obtain ⟨x, hx, he⟩ := List.any_eq_true.1 h
  have he := congrArg List.length (beq_iff_eq.1 he)
  rw [str_len] at he
  have : x.toList.length ≤ 10 := by
    rw [str_len]
    unfold valuesL at hx
    simp only [List.mem_cons, List.not_mem_nil, or_false] at hx
    rcases hx with rfl | rfl | rfl | rfl | rfl | rfl | rfl | rfl | rfl | rfl <;> decide
  omega
theorem name_size {s : ByteArray} (h : nameB s = true) : s.size ≤ 4096 := by
  unfold nameB at h
  simp at h
  omega
theorem empty_is (s : ByteArray) : (s.toList == ([] : List UInt8)) = decide (s.size = 0) := by
  rw [Bool.eq_iff_iff]
  constructor
  · intro h
    have h := congrArg List.length (beq_iff_eq.1 h)
    rw [str_len] at h
    simpa using h
  · intro h
    rw [str_zero (by simpa using h)]
    rfl
theorem words_is (s : ByteArray) (k : Nat) (hk : 40 < k) : (oncewebref03_words.f.bind fun t => (oncewebbase_In.f k t s).bind fun t' => some t') = some (inL valuesL s) := by
  unfold oncewebref03_words.f
  rw [Option.bind_some]
  have := in_all valuesL s (by decide) k (show 10 < k by omega)
  show (oncewebbase_In.f k valuesL s).bind _ = _
  rw [this]
  rfl
theorem crack_is (c : S64) (k : Nat) (hk : 50 < k) : oncewebref03_crack.f k c.f0 c.f1 c.f2 = some (wellB c) := by
  obtain ⟨f, n, s⟩ := c
  dsimp only
  obtain ⟨k, rfl⟩ : ∃ m, k = m + 3 := ⟨k - 3, by omega⟩
  have hnm := name_all s (k + 1) (by omega)
  have hnm2 := name_all s k (by omega)
  have hwd := words_is s (k + 2) (by omega)
  have hcase : f = 1 ∨ f = 2 ∨ f = 3 ∨ f = 4 ∨ f = 5 ∨ f = 6 ∨ f = 7 ∨ f = 8 ∨ f = 9 ∨ f = 10 ∨ f = 11 ∨ (f ≤ 0 ∨ 12 ≤ f) := by omega
  have hsz : decide ((s.size : Int) ≤ 4096) = decide (s.size ≤ 4096) := by rw [Bool.eq_iff_iff]; simp; omega
  have hvs := @values_size s
  have hns := @name_size s
  have hes := empty_is s
  unfold oncewebref03_crack.f wellB
  dsimp only
  rcases hcase with rfl | rfl | rfl | rfl | rfl | rfl | rfl | rfl | rfl | rfl | rfl | hout
  · simp only [oncewebref03_crack.j0]
    by_cases hn : n = 0 <;> simp [sortF, sortsL, partB, fitsB, hn, hsz]
  · simp only [oncewebref03_crack.j0]
    by_cases hn : n = 0 <;> simp [sortF, sortsL, partB, fitsB, hn, hsz]
  · rw [if_neg (by decide), oncewebref03_crack.j0, if_neg (by decide), if_neg (by decide), if_pos rfl, hwd]
    by_cases hn : n = 0
    · rw [if_pos hn]
      cases hb : inL valuesL s with
      | true => simp [sortF, sortsL, partB, fitsB, hn, hb, hvs hb]
      | false => simp [sortF, sortsL, partB, fitsB, hn, hb]
    · rw [if_neg hn]; simp [sortF, sortsL, partB, hn]
  · rw [if_neg (by decide), oncewebref03_crack.j0, if_neg (by decide), if_neg (by decide), if_neg (by decide), if_pos rfl, oncewebref03_crack.j1, if_pos (by decide), hnm]
    by_cases hn : n = 0
    · rw [if_pos hn]
      cases hb : nameB s with
      | true => simp [sortF, sortsL, partB, fitsB, hn, hb, hns hb]
      | false => simp [sortF, sortsL, partB, fitsB, hn, hb]
    · rw [if_neg hn]; simp [sortF, sortsL, partB, hn]
  · rw [if_neg (by decide), oncewebref03_crack.j0, if_neg (by decide), if_neg (by decide), if_neg (by decide), if_neg (by decide), oncewebref03_crack.j1, if_pos (by decide), hnm]
    by_cases hn : n = 0
    · rw [if_pos hn]
      cases hb : nameB s with
      | true => simp [sortF, sortsL, partB, fitsB, hn, hb, hns hb]
      | false => simp [sortF, sortsL, partB, fitsB, hn, hb]
    · rw [if_neg hn]; simp [sortF, sortsL, partB, hn]
  · rw [if_neg (by decide), oncewebref03_crack.j0, if_neg (by decide), if_neg (by decide), if_neg (by decide), if_neg (by decide), oncewebref03_crack.j1, if_neg (by decide), if_pos rfl, oncewebref03_crack.j2, if_pos (by decide), hes]
    by_cases hn : n = 0
    · rw [if_pos hn]
      by_cases hb : s.size = 0 <;> simp [sortF, sortsL, partB, fitsB, hn, hb]
    · rw [if_neg hn]; simp [sortF, sortsL, partB, hn]
  · rw [if_neg (by decide), oncewebref03_crack.j0, if_neg (by decide), if_neg (by decide), if_neg (by decide), if_neg (by decide), oncewebref03_crack.j1, if_neg (by decide), if_neg (by decide), if_pos rfl, oncewebref03_crack.j2, if_pos (by decide), hes]
    by_cases hn : n = 0
    · rw [if_pos hn]
      by_cases hb : s.size = 0 <;> simp [sortF, sortsL, partB, fitsB, hn, hb]
    · rw [if_neg hn]; simp [sortF, sortsL, partB, hn]
  · rw [if_neg (by decide), oncewebref03_crack.j0, if_neg (by decide), if_pos rfl]
    by_cases hn : n = 0
    · rw [if_pos hn]; simp [sortF, sortsL, partB, fitsB, hn, hsz]
    · rw [if_neg hn]
      by_cases hn1 : n = 1
      · rw [if_pos hn1]; simp [sortF, sortsL, partB, fitsB, hn1, hsz]
      · rw [if_neg hn1]; simp [sortF, sortsL, partB, hn, hn1]
  · rw [if_neg (by decide), oncewebref03_crack.j0, if_neg (by decide), if_neg (by decide), if_neg (by decide), if_neg (by decide), oncewebref03_crack.j1, if_neg (by decide), if_neg (by decide), if_neg (by decide), oncewebref03_crack.j2, if_neg (by decide), if_pos rfl, hnm2]
    by_cases hn : n = 1
    · rw [if_pos hn]
      cases hb : nameB s with
      | true => simp [sortF, sortsL, partB, fitsB, hn, hb, hns hb]
      | false => simp [sortF, sortsL, partB, fitsB, hn, hb]
    · rw [if_neg hn]; simp [sortF, sortsL, partB, hn]
  · rw [if_neg (by decide), oncewebref03_crack.j0, if_neg (by decide), if_neg (by decide), if_neg (by decide), if_neg (by decide), oncewebref03_crack.j1, if_neg (by decide), if_neg (by decide), if_neg (by decide), oncewebref03_crack.j2, if_neg (by decide), if_neg (by decide), if_pos rfl, hes]
    by_cases hn : n ≥ 1
    · rw [if_pos hn]
      by_cases hb : s.size = 0 <;> simp [sortF, sortsL, partB, fitsB, hb, show (1 : Int) ≤ n from hn]
    · rw [if_neg hn]
      have e : decide (1 ≤ n) = false := decide_eq_false hn
      simp [sortF, sortsL, partB, e]
  · rw [if_neg (by decide), oncewebref03_crack.j0, if_neg (by decide), if_neg (by decide), if_neg (by decide), if_neg (by decide), oncewebref03_crack.j1, if_neg (by decide), if_neg (by decide), if_neg (by decide), oncewebref03_crack.j2, if_pos (by decide), hes]
    by_cases hn : n = 0
    · rw [if_pos hn]
      by_cases hb : s.size = 0 <;> simp [sortF, sortsL, partB, fitsB, hn, hb]
    · rw [if_neg hn]; simp [sortF, sortsL, partB, hn]
  · have b2 : (f == 2) = false := by simp; omega
    have b5 : (f == 5) = false := by simp; omega
    have b11 : (f == 11) = false := by simp; omega
    rw [if_neg (by omega), oncewebref03_crack.j0, b2, if_neg (by decide), if_neg (by omega), if_neg (by omega), if_neg (by omega), b5, oncewebref03_crack.j1, if_neg (by decide), if_neg (by omega), if_neg (by omega), b11, oncewebref03_crack.j2, if_neg (by decide), if_neg (by omega), if_neg (by omega)]
    have hq : sortF f = 0 := by
      unfold sortF
      by_cases h0 : 0 ≤ f ∧ f < 12
      · rw [if_pos h0, show f = 0 by omega]; rfl
      · rw [if_neg h0]
    rw [hq]
    rfl
theorem rd64_drop {l : List S64} {i : Nat} (h : i < l.length) : l.drop i = rd_T64 l i :: l.drop (i + 1) := by
  rw [List.drop_eq_getElem_cons h]
  simp [rd_T64, List.getD, List.getElem?_eq_getElem h]
theorem begins03 (l : List S64) (hl : l.length ≤ 1024) : ∀ (n i : Nat) (x4 x5 : List Int) (k : Nat), i + n = l.length → x5.length ≤ i → x4.length ≤ i → 60 + 2 * n < k →
    ∃ b, oncewebref03_begins.l0 k l x4 x5 (i : Int) = some b ∧ b.2 = (fRun x5.length (l.drop i) == some 1) := by
  intro n
  induction n with
  | zero =>
    intro i x4 x5 k hi h5 h4 hk
    obtain ⟨k, rfl⟩ : ∃ m, k = m + 1 := ⟨k - 1, by omega⟩
    rw [List.drop_eq_nil_of_le (by omega)]
    refine ⟨(x4, ((x5.length : Int) == 1)), ?_, ?_⟩
    · rw [oncewebref03_begins.l0, if_neg (by omega)]
    · show ((x5.length : Int) == 1) = (some x5.length == some 1)
      rw [Bool.eq_iff_iff]
      simp
      omega
  | succ n ih =>
    intro i x4 x5 k hi h5 h4 hk
    obtain ⟨k, rfl⟩ : ∃ m, k = m + 2 := ⟨k - 2, by omega⟩
    have hlt : i < l.length := by omega
    rw [rd64_drop hlt]
    have hcr := crack_is (rd_T64 l (i : Int)) (k + 1) (by omega)
    generalize ha : rd_T64 l (i : Int) = a at hcr ⊢
    have hwi : wrap64 ((i : Int) + 1) = ((i + 1 : Nat) : Int) := by rw [w64 (by omega) (by omega)]; omega
    have hfail : ∀ (x : Option (List Int × Bool)), x = some ([], false) → fStep x5.length a = none → ∃ b, x = some b ∧ b.2 = (fRun x5.length (a :: l.drop (i + 1)) == some 1) := by
      intro x hx hs
      refine ⟨([], false), hx, ?_⟩
      simp only [fRun]
      rw [hs]
      rfl
    rw [oncewebref03_begins.l0, if_pos (by omega), if_pos (by omega), ha, hcr, Option.bind_some]
    cases hw : wellB a with
    | false =>
      rw [if_neg (by decide), oncewebref03_begins.j1, if_pos rfl]
      exact hfail _ rfl (fStep_no (fun h => by rw [hw] at h; exact absurd h.1 (by decide)))
    | true =>
      rw [if_pos rfl, oncewebref03_begins.j1]
      have hn0 := well_n hw
      by_cases hc : a.f1 ≤ x5.length
      · have hst : fStep x5.length a = some (x5.length - a.f1.toNat + 1) := by unfold fStep; rw [if_pos ⟨hw, hc⟩]
        have hrun : fRun x5.length (a :: l.drop (i + 1)) = fRun (x5.length - a.f1.toNat + 1) (l.drop (i + 1)) := by simp only [fRun]; rw [hst]; rfl
        rw [if_neg (by simp; omega), hrun]
        by_cases hpos : a.f1 > 0
        · have e2 : wrap64 ((x5.length : Int) - a.f1) = (x5.length : Int) - a.f1 := w64 (by omega) (by omega)
          rw [if_pos hpos, e2, if_pos (by omega), if_pos (by omega), if_pos (by omega), Option.bind_some, if_pos (by simp; omega), if_pos (by omega), hwi]
          obtain ⟨b, hb, hb2⟩ := ih (i + 1) (x4 ++ [rd x5 ((x5.length : Int) - a.f1)]) (x5.take ((x5.length : Int) - a.f1).toNat ++ [rd x5 ((x5.length : Int) - a.f1)]) k (by omega) (by simp; omega) (by simp; omega) (by omega)
          refine ⟨b, hb, ?_⟩
          rw [hb2]
          have e4 : (x5.take ((x5.length : Int) - a.f1).toNat ++ [rd x5 ((x5.length : Int) - a.f1)]).length = x5.length - a.f1.toNat + 1 := by simp; omega
          rw [e4]
        · rw [if_neg hpos, if_pos (by omega), if_pos (by omega), hwi]
          obtain ⟨b, hb, hb2⟩ := ih (i + 1) (x4 ++ [(i : Int)]) (x5 ++ [(i : Int)]) k (by omega) (by simp; omega) (by simp; omega) (by omega)
          refine ⟨b, hb, ?_⟩
          rw [hb2]
          have e4 : (x5 ++ [(i : Int)]).length = x5.length - a.f1.toNat + 1 := by simp; omega
          rw [e4]
      · rw [if_pos (by simp; omega)]
        exact hfail _ rfl (fStep_no (fun h => hc h.2))
theorem check03 (l : List S64) : ∃ k, oncewebref03_Check.f k l = some (fErr l) := by
  unfold oncewebref03_Check.f fErr
  by_cases hl : l.length ≤ 1024
  · obtain ⟨b, hb, hb2⟩ := begins03 l hl l.length 0 [] [] (61 + 2 * l.length) (by omega) (by simp) (by simp) (by omega)
    refine ⟨61 + 2 * l.length, ?_⟩
    rw [if_neg (by omega), if_pos hl]
    unfold oncewebref03_begins.f
    rw [show oncewebref03_begins.l0 (61 + 2 * l.length) l [] [] 0 = some b from hb, Option.bind_some, hb2]
    have e : (fRun ([] : List Int).length (l.drop 0) == some 1) = fWhole l := rfl
    rw [e]
    cases fWhole l <;> rfl
  · exact ⟨0, by rw [if_pos (by omega), if_neg hl]⟩
theorem pause_from (f ba fa ca : Int) (tr : Int) (hf : 0 ≤ fa) (hf1 : fa ≤ 16) (hc : ca ≤ 1099511627776) (hf2 : f ≤ 1000) : ∀ (m : Nat) (i n : Int) (k : Nat), 1 ≤ i → i ≤ 1001 → m = (f - i).toNat → 0 ≤ n → n ≤ 1099511627776 * 16 → m < k → oncewebref11_pause.l0 k f n i tr ba fa ca = some (min (pz ca fa m n) ca) := by
  intro m
  induction m with
  | zero =>
    intro i n k h1 h2 hm hn hn2 hk
    obtain ⟨k, rfl⟩ : ∃ m, k = m + 1 := ⟨k - 1, by omega⟩
    rw [oncewebref11_pause.l0, if_neg (by omega)]
    congr 1
    show mn n ca = min n ca
    unfold mn
    omega
  | succ m ih =>
    intro i n k h1 h2 hm hn hn2 hk
    obtain ⟨k, rfl⟩ : ∃ m, k = m + 1 := ⟨k - 1, by omega⟩
    rw [oncewebref11_pause.l0, if_pos (by omega)]
    by_cases hlt : n < ca
    · have h3 : n * fa ≤ 1099511627776 * 16 := Int.mul_le_mul (by omega) hf1 hf (by omega)
      have h4 : 0 ≤ n * fa := Int.mul_nonneg hn hf
      rw [if_pos hlt, w64 (by omega) (by omega), w64 (by omega) (by omega), ih (i + 1) (n * fa) k (by omega) (by omega) (by omega) h4 h3 (by omega)]
      rw [pz, if_neg (by omega)]
    · rw [if_neg hlt, pz, if_pos (by omega)]
      congr 1
      unfold mn
      omega
theorem pause_ref (s : Cel) (f : Int) (hp : Pol s) (h0 : 0 ≤ f) (h1 : f ≤ 1000) : ∃ k, oncewebref11_pause.f k s.tries s.base s.factor s.cap f = some (pauseB s f) := by
  refine ⟨(f - 1).toNat + 1, ?_⟩
  unfold oncewebref11_pause.f pauseB
  have := hp.b0
  have := hp.b1
  have := hp.c1
  exact pause_from f s.base s.factor s.cap s.tries hp.f0 hp.f1 hp.c1 h1 _ 1 s.base _ (by omega) (by omega) rfl hp.b0 (by omega) (by omega)
end Go.Proofs.YtchbammjcnhkiaaDoor.Ce
namespace Go.Proofs.YtchbammjcnhkiaaDoor.Ce
open Go.RowKit Go.Maps Go.Proofs.YtchbammjcnhkiaaDoor Go.Proofs.YtchbammjcnhkiaaDoorW.PrintWords Go.Proofs.YtchbammjcnhkiaaDoorW.PrintLast Go.Proofs.YtchbammjcnhkiaaDoorW.PrintMore PCellPlays
attribute [local go_sem] max2_int min2_int max_two min_two max_three min_three
theorem vcheck7_be (w : World) (A : Option Addr) (c : Nat) (l : List S80) (hr : Kd.C k80 w A l.length l) (hc : l.length ≤ c) {r : Int} (h : vErr l = r) :
    Calls Tryd.prog 57 #[.slice A l.length c] w fun e w' => e = .returned (.int .i64 r) ∧ Below w.heap.size w w' := by
  obtain ⟨k, hk⟩ := check07 l
  rw [h] at hk
  exact oncewebref07_Check.calls k A c l r w hr hc hk
theorem fcheck3_be (w : World) (A : Option Addr) (c : Nat) (l : List S64) (hr : Kd.C k64 w A l.length l) (hc : l.length ≤ c) {r : Int} (h : fErr l = r) :
    Calls Tryd.prog 58 #[.slice A l.length c] w fun e w' => e = .returned (.int .i64 r) ∧ Below w.heap.size w w' := by
  obtain ⟨k, hk⟩ := check03 l
  rw [h] at hk
  exact oncewebref03_Check.calls k A c l r w hr hc hk
set_option maxHeartbeats 1000000 in
theorem good_is (w : World) (k : Int) (A B : Option Addr) (c d : Nat) (l : List S80) (m : List S64) (hr : Kd.C k80 w A l.length l) (hc : l.length ≤ c) (hr2 : Kd.C k64 w B m.length m) (hd : m.length ≤ d) :
    Calls Tryd.prog 52 #[.agg #[.int .i64 k, .slice A l.length c, .slice B m.length d]] w fun e w' => e = .returned (.bool (rightB k l m)) ∧ Below w.heap.size w w' := by
  have HAL : ∀ w' : World, Below w.heap.size w w' → Kd.C k80 w' A l.length l ∧ Kd.C k64 w' B m.length m := fun w' hb => ⟨Kd.C_below hr hb, Kd.C_below hr2 hb⟩
  have HAL := Lib.hid HAL
  have HC := Lib.hid hc
  have HD := Lib.hid hd
  have HM := Lib.hid (And.intro hr.2.1 hr2.2.1)
  clear hr hr2 hc hd
  by_cases e1 : k = 1
  · subst e1
    have HRB := Lib.hid (show rightB 1 l m = (vErr l == 0 && m.length == 0) from rfl)
    generalize hve : vErr l = ve at HRB
    have HV := Lib.hid hve
    clear hve
    cases hm : (m.length : Int) == 0 with
    | false =>
      go_enter Tryd.func52, Tryd.ntmps52
      go_wp2_with fail
      go_ret
      exact ⟨by rw [HRB.out]; simp at hm; simp [hm], (Below.refl _ _).alloc (Nat.le_refl _) _⟩
    | true =>
      go_enter Tryd.func52, Tryd.ntmps52
      go_wp2_with (go_at_call 57; refine (vcheck7_be _ _ _ _ (HAL.out _ ((Below.refl _ _).alloc (Nat.le_refl _) _)).1 HC.out HV.out).mono ?_; rintro _ w1 ⟨rfl, hb⟩; have HB := Lib.hid (below_via hb); clear hb)
      go_ret
      exact ⟨by rw [HRB.out]; simp at hm; simp [hm], HB.out⟩
  by_cases e2 : k = 2
  · subst e2
    have HRB := Lib.hid (show rightB 2 l m = (fErr m == 0 && l.length == 0) from rfl)
    generalize hve : fErr m = ve at HRB
    have HV := Lib.hid hve
    clear hve
    cases hm : (l.length : Int) == 0 with
    | false =>
      go_enter Tryd.func52, Tryd.ntmps52
      go_wp2_with fail
      go_ret
      exact ⟨by rw [HRB.out]; simp at hm; simp [hm], (Below.refl _ _).alloc (Nat.le_refl _) _⟩
    | true =>
      go_enter Tryd.func52, Tryd.ntmps52
      go_wp2_with (go_at_call 58; refine (fcheck3_be _ _ _ _ (HAL.out _ ((Below.refl _ _).alloc (Nat.le_refl _) _)).2 HD.out HV.out).mono ?_; rintro _ w1 ⟨rfl, hb⟩; have kb := blk_below (blk_new w _) hb; have k7 := (blk_cell kb 2).trans rfl; have HB := Lib.hid (below_via hb); clear hb kb)
      go_ret
      exact ⟨by rw [HRB.out]; simp at hm; simp [hm], HB.out⟩
  by_cases e3 : k = 3
  · subst e3
    have HRB := Lib.hid (show rightB 3 l m = (fErr m == 0 && l.length == 0 && (rd_T64 m (m.length - 1)).f0 == 2) from rfl)
    cases hm : (l.length : Int) == 0 with
    | false =>
      go_enter Tryd.func52, Tryd.ntmps52
      go_wp2_with fail
      go_ret
      exact ⟨by rw [HRB.out]; simp at hm; simp [hm], (Below.refl _ _).alloc (Nat.le_refl _) _⟩
    | true =>
      cases hv : fErr m == 0 with
      | false =>
        rw [hv] at HRB
        generalize hve : fErr m = ve at hv
        have HV := Lib.hid hve
        clear hve
        go_enter Tryd.func52, Tryd.ntmps52
        go_wp2_with (go_at_call 58; refine (fcheck3_be _ _ _ _ (HAL.out _ ((Below.refl _ _).alloc (Nat.le_refl _) _)).2 HD.out HV.out).mono ?_; rintro _ w1 ⟨rfl, hb⟩; have kb := blk_below (blk_new w _) hb; have k7 := (blk_cell kb 2).trans rfl; have HB := Lib.hid (below_via hb); clear hb kb)
        go_ret
        exact ⟨by rw [HRB.out]; rfl, HB.out⟩
      | true =>
        rw [hv] at HRB
        have HV := Lib.hid (show fErr m = 0 by simpa using hv)
        clear hv
        have hlm := fErr_ne HV.out
        have hw1 : wrap64 ((m.length : Int) - 1) = (m.length : Int) - 1 := by rw [← i64_w, IntWalk.i64_in _ (by have h9 : m.length ≤ maxLen := HM.out.2; simp only [maxLen] at h9; omega)]
        have h0 : 0 ≤ (m.length : Int) - 1 := by omega
        have h1 : (m.length : Int) - 1 < m.length := by omega
        obtain ⟨ad, rfl, -⟩ := at_T64 (HAL.out w (Below.refl _ _)).2 _ h0 h1
        generalize hq9 : (rd_T64 m (m.length - 1)).f0 = q9 at HRB
        have QX := Lib.hid hq9
        clear hq9
        go_enter Tryd.func52, Tryd.ntmps52
        go_wp2_with (go_at_call 58; refine (fcheck3_be _ _ _ _ (HAL.out _ ((Below.refl _ _).alloc (Nat.le_refl _) _)).2 HD.out HV.out).mono ?_; rintro _ w1 ⟨rfl, hb⟩; have kb := blk_below (blk_new w _) hb; have k7 := (blk_cell kb 2).trans rfl; have HB := Lib.hid (below_via hb); have hat := at_T64 (HAL.out _ HB.out).2 _ h0 h1; obtain ⟨ad', ead, q0, q1, q2⟩ := hat; cases ead; rw [QX.out] at q0; rw [show ((m.length : Int) - 1).toNat = m.length - 1 by omega] at q0; clear hb kb)
        go_ret
        exact ⟨by rw [HRB.out]; simp at hm; simp [hm], HB.out⟩
  have HRB := Lib.hid (show rightB k l m = false by unfold rightB; rw [if_neg e1, if_neg e2, if_neg e3])
  have b1 : (k == 1) = false := by simpa using e1
  have b2 : (k == 2) = false := by simpa using e2
  have b3 : (k == 3) = false := by simpa using e3
  clear e1 e2 e3
  go_enter Tryd.func52, Tryd.ntmps52
  go_wp2_with fail
  go_ret
  exact ⟨by rw [HRB.out]; rfl, (Below.refl _ _).alloc (Nat.le_refl _) _⟩
theorem pause_at (w : World) (s : Cel) (f : Int) (hp : Pol s) (h0 : 0 ≤ f) (h1 : f ≤ 1000) {z : Int} (hz : pauseB s f = z) : Calls Tryd.prog 53 #[.agg #[.int .i64 s.tries, .int .i64 s.base, .int .i64 s.factor, .int .i64 s.cap], .int .i64 f] w fun e w' => e = .returned (.int .i64 z) ∧ Below w.heap.size w w' := by
  obtain ⟨k, hk⟩ := pause_ref s f hp h0 h1
  rw [hz] at hk
  exact oncewebref11_pause.calls k _ _ _ _ _ _ w hk
/-- The document's cell in a box. -/
def Bx (w : World) (g : Nat) (s : Cel) (u v : Value) : Prop := w.heap[g]? = some (.cells (s.cells u v) 56 (0, 0))
theorem Bx.facts {w : World} {b : Nat} {s : Cel} {u v : Value} (h : Bx w b s u v) :
    w.cell? ⟨b, 0, none⟩ = some (.bool s.again) ∧ w.cell? ⟨b, 1, none⟩ = some (.int .i64 s.tries) ∧ w.cell? ⟨b, 2, none⟩ = some (.int .i64 s.base) ∧ w.cell? ⟨b, 3, none⟩ = some (.int .i64 s.factor) ∧ w.cell? ⟨b, 4, none⟩ = some (.int .i64 s.cap) ∧
    w.cell? ⟨b, 5, none⟩ = some (.int .i64 s.state) ∧ w.cell? ⟨b, 6, none⟩ = some (.int .i64 s.gen) ∧ w.cell? ⟨b, 7, none⟩ = some (.int .i64 s.task) ∧ w.cell? ⟨b, 8, none⟩ = some (.int .i64 s.fails) ∧ w.cell? ⟨b, 9, none⟩ = some (.int .i64 s.next) ∧
    w.cell? ⟨b, 10, none⟩ = some (.int .i64 s.last) ∧ w.cell? ⟨b, 11, none⟩ = some (.int .i64 s.kind) ∧ w.cell? ⟨b, 12, none⟩ = some u ∧ w.cell? ⟨b, 13, none⟩ = some v ∧ ∀ k, w.frozen? ⟨b, k, none⟩ = false :=
  ⟨(blk_cell h 0).trans rfl, (blk_cell h 1).trans rfl, (blk_cell h 2).trans rfl, (blk_cell h 3).trans rfl, (blk_cell h 4).trans rfl, (blk_cell h 5).trans rfl, (blk_cell h 6).trans rfl, (blk_cell h 7).trans rfl, (blk_cell h 8).trans rfl, (blk_cell h 9).trans rfl, (blk_cell h 10).trans rfl, (blk_cell h 11).trans rfl, (blk_cell h 12).trans rfl, (blk_cell h 13).trans rfl, fun k => blk_frozen h k⟩
/-- The document's cell as a value. -/
def agg (s : Cel) (u v : Value) : Value := .agg (s.cells u v)
set_option maxRecDepth 100000 in
theorem due_at (w : World) (s : Cel) (A B : Option Addr) (n c m d : Nat) : Calls Tryd.prog 54 #[agg s (.slice A n c) (.slice B m d)] w fun e w' => e = .returned (.bool (mayB s)) ∧ Below w.heap.size w w' := by
  unfold agg Cel.cells
  by_cases h1 : s.state = 4
  · by_cases h2 : s.kind = 2
    · have HO := Lib.hid (show mayB s = decide (s.fails < s.tries) by simp [mayB, h1, h2])
      rw [h1, h2]
      clear h1 h2
      go_enter Tryd.func54, Tryd.ntmps54
      go_wp2
      go_ret
      rw [HO.out]
      exact ⟨rfl, (Below.refl _ _).alloc (Nat.le_refl _) _⟩
    · have HO := Lib.hid (show mayB s = false by simp [mayB, h1, h2])
      have hb2 : (s.kind == 2) = false := by simpa using h2
      rw [h1]
      clear h1 h2
      go_enter Tryd.func54, Tryd.ntmps54
      go_wp2
      go_ret
      rw [HO.out]
      exact ⟨rfl, (Below.refl _ _).alloc (Nat.le_refl _) _⟩
  · have HO := Lib.hid (show mayB s = false by simp [mayB, h1])
    have hb1 : (s.state == 4) = false := by simpa using h1
    clear h1
    go_enter Tryd.func54, Tryd.ntmps54
    go_wp2
    go_ret
    rw [HO.out]
    exact ⟨rfl, (Below.refl _ _).alloc (Nat.le_refl _) _⟩
theorem due_be (w : World) (s : Cel) (A B : Option Addr) (n c m d : Nat) {r : Bool} (h : mayB s = r) : Calls Tryd.prog 54 #[agg s (.slice A n c) (.slice B m d)] w fun e w' => e = .returned (.bool r) ∧ Below w.heap.size w w' := h ▸ due_at w s A B n c m d
set_option maxRecDepth 100000 in
theorem bad_at (w : World) (s : Cel) (A B : Option Addr) (n c m d : Nat) (t : Int) : Calls Tryd.prog 51 #[agg s (.slice A n c) (.slice B m d), .int .i64 t] w fun e w' => e = .returned (.bool (decide (t < s.last) || decide (1099511627776 < t))) ∧ Below w.heap.size w w' := by
  unfold agg Cel.cells
  by_cases h1 : t < s.last
  · rw [decide_eq_true h1]
    go_enter Tryd.func51, Tryd.ntmps51
    go_wp2
    go_ret
    exact ⟨rfl, (Below.refl _ _).alloc (Nat.le_refl _) _⟩
  · rw [decide_eq_false h1]
    go_enter Tryd.func51, Tryd.ntmps51
    go_wp2
    go_ret
    exact ⟨rfl, (Below.refl _ _).alloc (Nat.le_refl _) _⟩
end Go.Proofs.YtchbammjcnhkiaaDoor.Ce
