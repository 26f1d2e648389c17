/- What the document says of scopes and parts, and who is beneath, in plain Lean; closer.Beneath. Who may be closed next, as the document looks for it: of those that nobody of the scope that is left uses, the one that ended last. In plain Lean. -/
import Derived.Test.YtccjclmjoegibaaDoorQp
import Derived.Test.YtccjclmjoegibaaDoorCc
import Derived.Test.YtccjclmjoegibaaDoorGu
namespace Go.Proofs.YtccjclmjoegibaaDoor.Ce
open Go.RowKit Go.Maps Go.Proofs.YtccjclmjoegibaaDoor Go.Proofs.YtccjclmjoegibaaDoorW.PrintWords Go.Proofs.YtccjclmjoegibaaDoorW.PrintLast Go.Proofs.YtccjclmjoegibaaDoorW.PrintMore PCloserOrders Hp
attribute [local go_sem] max2_int min2_int max_two min_two max_three min_three max_four min_four
set_option linter.unusedVariables false
set_option linter.unusedSimpArgs false
theorem rparents_l0 (up : List Int) (h : up.length ≤ 32) : ∀ n i k : Nat, n = up.length - i → i ≤ up.length → n < k → oncewebref19_parents.l0 k up (i : Int) = some (if upB up n i = true then 0 else 5)
 | 0, i, k + 1, hn, hi, hk => by rw [oncewebref19_parents.l0, if_neg (by omega)]; rfl
 | n + 1, i, k + 1, hn, hi, hk => by
  have hw := wsucc i (by omega)
  rw [oncewebref19_parents.l0, if_pos (by omega), if_pos (by omega), upB]
  by_cases h1 : rd up (i : Int) < -1
  ·rw [if_pos h1, decide_eq_false (show ¬ (-1 ≤ rd up (i : Int)) by omega)]; rfl
  ·rw [if_neg h1, decide_eq_true (show -1 ≤ rd up (i : Int) by omega)]
   by_cases h2 : rd up (i : Int) ≥ (i : Int)
   ·rw [if_pos h2, decide_eq_false (show ¬ (rd up (i : Int) < (i : Int)) by omega)]; rfl
   ·rw [if_neg h2, decide_eq_true (show rd up (i : Int) < (i : Int) by omega), hw, rparents_l0 up h n (i + 1) k (by omega) (by omega) (by omega)]; rfl
theorem rparents_f (up : List Int) (k : Nat) (hk : 33 ≤ k) : oncewebref19_parents.f k up = some (scopesE up) := by
 unfold oncewebref19_parents.f scopesE
 by_cases h : up.length > 32
 ·rw [if_pos (by omega), if_pos h]
 ·rw [if_neg (by omega), if_neg h]
  exact rparents_l0 up (by omega) up.length 0 k rfl (Nat.zero_le _) (by omega)
theorem rword_l0 (s : ByteArray) (hs : s.size ≤ 24) : ∀ n i k : Nat, n = s.size - i → i ≤ s.size → n < k → oncewebbase_Word.l0 k s (i : Int) = some (allW s n i)
 | 0, i, k + 1, hn, hi, hk => by rw [oncewebbase_Word.l0, if_neg (by omega)]; rfl
 | n + 1, i, k + 1, hn, hi, hk => by
  have hw := wsucc i (by omega)
  have ih := rword_l0 s hs n (i + 1) k (by omega) (by omega) (by omega)
  rw [oncewebbase_Word.l0, if_pos (by omega), if_pos (by omega), allW, hw, ih]
  generalize bt s (i : Int) = c
  unfold inWord
  by_cases a1 : c ≥ 97
  ·by_cases a2 : c ≤ 122
   ·rw [if_pos a1, if_pos a2, decide_eq_true (show 97 ≤ c from a1), decide_eq_true a2]; simp
   ·have b1 : c ≥ 48 := by omega
    have b2 : ¬ c ≤ 57 := by omega
    have b3 : ¬ c = 95 := by omega
    rw [if_pos a1, if_neg a2, if_pos b1, if_neg b2, if_neg b3, decide_eq_false a2, decide_eq_false b2, decide_eq_false b3]; simp
  ·have a2 : ¬ 97 ≤ c := a1
   rw [if_neg a1, decide_eq_false a2]
   by_cases b1 : c ≥ 48
   ·by_cases b2 : c ≤ 57
    ·rw [if_pos b1, if_pos b2, decide_eq_true (show 48 ≤ c from b1), decide_eq_true b2]; simp
    ·rw [if_pos b1, if_neg b2, decide_eq_false b2]
     by_cases b3 : c = 95
     ·rw [if_pos b3, decide_eq_true b3]; simp
     ·rw [if_neg b3, decide_eq_false b3]; simp
   ·have b3 : ¬ c = 95 := by omega
    rw [if_neg b1, if_neg b3, decide_eq_false (show ¬ 48 ≤ c from b1), decide_eq_false b3]; simp
theorem rword_f (s : ByteArray) (hs : s.size ≤ 24) (k : Nat) (hk : 27 ≤ k) : oncewebbase_Word.f k s = some (decide (0 < s.size) && wordB s) := by
 obtain ⟨k, rfl⟩ : ∃ m, k = m + 1 := ⟨k - 1, by omega⟩
 unfold oncewebbase_Word.f
 by_cases h0 : 0 < s.size
 ·rw [if_neg (str_pos h0).2, if_pos (by omega), decide_eq_true h0, Bool.true_and]
  unfold wordB
  by_cases h1 : bt s 0 < 97
  ·rw [if_pos h1, oncewebbase_Word.j0, if_pos rfl, decide_eq_false (show ¬ 97 ≤ bt s 0 by omega)]; rfl
  ·rw [if_neg h1, oncewebbase_Word.j0, decide_eq_true (show 97 ≤ bt s 0 by omega), Bool.true_and]
   by_cases h2 : bt s 0 ≤ 122
   ·rw [if_neg (by simp; omega), decide_eq_true h2, Bool.true_and]
    have := rword_l0 s hs (s.size - 1) 1 k rfl (by omega) (by omega)
    rw [show ((1 : Nat) : Int) = 1 from rfl] at this
    rw [this]
    obtain ⟨n, hn⟩ : ∃ n, s.size = n + 1 := ⟨s.size - 1, by omega⟩
    rw [hn, allW, show n + 1 - 1 = n from rfl]
    have h3 : inWord (bt s ((0 : Nat) : Int)) = true := by
     rw [show ((0 : Nat) : Int) = 0 from rfl]
     unfold inWord
     rw [decide_eq_true (show 97 ≤ bt s 0 by omega), decide_eq_true h2]; rfl
    rw [h3]; rfl
   ·rw [if_pos (by simp; omega), decide_eq_false h2]; rfl
 ·rw [if_pos (str_zero (by omega)), oncewebbase_Word.j0, if_pos rfl, decide_eq_false h0]; rfl
theorem rin_l0 (l : List ByteArray) (s : ByteArray) (hl : l.length < 1000) : ∀ n i k : Nat, n = l.length - i → i ≤ l.length → n < k → oncewebbase_In.l0 k l s (i : Int) = some (inL (l.drop i) s)
 | 0, i, k + 1, hn, hi, hk => by rw [oncewebbase_In.l0, if_neg (by omega), List.drop_eq_nil_of_le (by omega)]; rfl
 | n + 1, i, k + 1, hn, hi, hk => by
  have hw := wsucc i (by omega)
  have ih := rin_l0 l s hl n (i + 1) k (by omega) (by omega) (by omega)
  have hlt : i < l.length := by omega
  have hd : l.drop i = rdOf ByteArray.empty l i :: l.drop (i + 1) := by
   rw [List.drop_eq_getElem_cons hlt]
   simp [rdOf, List.getD, List.getElem?_eq_getElem hlt]
  rw [oncewebbase_In.l0, if_pos (by omega), if_pos (by omega), hw, ih, hd]
  by_cases he : (rdOf ByteArray.empty l i).toList = s.toList
  ·rw [if_pos he]; simp [inL, he]
  ·rw [if_neg he]
   have : ¬ s.toList = (rdOf ByteArray.empty l i).toList := fun q => he q.symm
   simp [inL, this]
theorem rname_f (s : ByteArray) (k : Nat) (hk : 32 ≤ k) : oncewebbase_Name.f k s = some (nameB s) := by
 unfold oncewebbase_Name.f nameB
 by_cases h : s.size ≤ 24
 ·have hi := rin_l0 keysL s (by decide) keysL.length 0 k rfl (Nat.zero_le _) (by have : keysL.length = 19 := rfl; omega)
  rw [if_pos (by omega), rword_f s h k (by omega), decide_eq_true h]
  simp only [Option.bind_some, Bool.and_true]
  cases hw : (decide (0 < s.size) && wordB s) with
  | true =>
   rw [if_pos rfl]
   show ((oncewebbase_In.f k keysL s).bind fun t181 => some (!t181)) = _
   unfold oncewebbase_In.f
   have h2 : oncewebbase_In.l0 k keysL s 0 = some (inL keysL s) := hi
   rw [h2]; rfl
  | false => rw [if_neg (by decide)]; rfl
 ·rw [if_neg (by omega), decide_eq_false h]; simp
theorem rcloser_f (c : Int) (t : ByteArray) (k : Nat) (hk : 1 ≤ k) : ∃ r, oncewebref05_CloserError.f k c t = some r ∧ (r == 0) = closerB c t := by
 obtain ⟨k, rfl⟩ : ∃ m, k = m + 1 := ⟨k - 1, by omega⟩
 unfold oncewebref05_CloserError.f closerB
 by_cases h1 : c < 0
 ·refine ⟨51, by rw [if_pos h1, oncewebref05_CloserError.j0, if_pos rfl], ?_⟩
  rw [if_neg (by omega), if_neg (by omega)]; rfl
 ·by_cases h2 : c > 3
  ·refine ⟨51, by rw [if_neg h1, if_pos h2, oncewebref05_CloserError.j0, if_pos rfl], ?_⟩
   rw [if_neg (by omega), if_neg (by omega)]; rfl
  ·by_cases h3 : c < 2
   ·have e1 : ¬ (c = 2 ∨ c = 3) := by omega
    have e2 : c = 0 ∨ c = 1 := by omega
    rw [if_neg h1, if_neg h2, if_pos h3, oncewebref05_CloserError.j0, if_neg e1, if_pos e2]
    by_cases h4 : t.toList = []
    ·have h0 : t.size = 0 := by have := str_len t; rw [h4] at this; simpa using this.symm
     refine ⟨0, ?_, ?_⟩
     ·rw [h4, if_neg (by decide), if_neg (by omega)]
     ·rw [h4]; rfl
    ·refine ⟨51, ?_, ?_⟩
     ·rw [if_pos (by simpa using h4)]
     ·simp [h4]
   ·have e1 : c = 2 ∨ c = 3 := by omega
    rw [if_neg h1, if_neg h2, if_neg h3, oncewebref05_CloserError.j0, if_neg (by decide), if_pos e1]
    by_cases h4 : t.size ≤ 4096
    ·exact ⟨0, by rw [if_neg (by omega)], by rw [decide_eq_true h4]; rfl⟩
    ·exact ⟨3, by rw [if_pos (by omega)], by rw [decide_eq_false h4]; rfl⟩
theorem rpart_l0 (pa : Int) (x0 : Int) (x1 : ByteArray) (x2 : Bool) (x3 : Int) (u : List Int) (x5 : Int) (x6 : ByteArray) (hl : u.length ≤ 1048576) : ∀ n i k : Nat, n = u.length - i → i ≤ u.length → n < k → oncewebref19_part.l0 k pa (i : Int) x0 x1 x2 x3 u x5 x6 = some (!(u.drop i).any (outB pa))
 | 0, i, k + 1, hn, hi, hk => by rw [oncewebref19_part.l0, if_neg (by omega), List.drop_eq_nil_of_le (by omega)]; rfl
 | n + 1, i, k + 1, hn, hi, hk => by
  have hw := wsucc i (by omega)
  have ih := rpart_l0 pa x0 x1 x2 x3 u x5 x6 hl n (i + 1) k (by omega) (by omega) (by omega)
  have hlt : i < u.length := by omega
  have hd : u.drop i = rd u (i : Int) :: u.drop (i + 1) := by
   rw [List.drop_eq_getElem_cons hlt, rd_nat, Int.toNat_natCast, at_get u i hlt]
  rw [oncewebref19_part.l0, if_pos (by omega), if_pos (by omega), hw, ih, hd]
  generalize rd u (i : Int) = c
  rw [List.any_cons]
  unfold outB
  by_cases a1 : c < 0
  ·rw [if_pos a1, decide_eq_true a1]; rfl
  ·rw [if_neg a1, decide_eq_false a1]
   by_cases a2 : c ≥ pa
   ·rw [if_pos a2, decide_eq_true a2]; rfl
   ·rw [if_neg a2, decide_eq_false a2]; rfl
theorem rpart_f (sc pa : Int) (x : S33) (hl : x.f4.length ≤ 1048576) (k : Nat) (hk : 1048600 ≤ k) : oncewebref19_part.f k sc pa x.f0 x.f1 x.f2 x.f3 x.f4 x.f5.f0 x.f5.f1 = some (rightB sc pa x) := by
 obtain ⟨k, rfl⟩ : ∃ m, k = (m + 1) + 1 := ⟨k - 2, by omega⟩
 unfold oncewebref19_part.f rightB
 have hj : ∀ b, oncewebref19_part.j0 (k + 1 + 1) pa b x.f0 x.f1 x.f2 x.f3 x.f4 x.f5.f0 x.f5.f1 = some (!b && ((if x.f2 = true then decide (1 ≤ x.f3) && decide (x.f3 ≤ 1099511627776) else decide (x.f3 = 0)) && !x.f4.any (outB pa))) := by
  intro b
  rw [oncewebref19_part.j0]
  have hj1 : ∀ c, oncewebref19_part.j1 (k + 1) pa c x.f0 x.f1 x.f2 x.f3 x.f4 x.f5.f0 x.f5.f1 = some (!c && !x.f4.any (outB pa)) := by
   intro c
   rw [oncewebref19_part.j1]
   cases c with
   | true => rfl
   | false =>
    rw [if_neg (by decide)]
    have := rpart_l0 pa x.f0 x.f1 x.f2 x.f3 x.f4 x.f5.f0 x.f5.f1 hl x.f4.length 0 k rfl (Nat.zero_le _) (by omega)
    rw [List.drop_zero] at this
    exact this
  cases b with
  | true => rfl
  | false =>
   rw [if_neg (by decide)]
   by_cases h2 : x.f2 = true
   ·rw [if_pos h2, if_pos h2, hj1, hj1]
    by_cases a1 : x.f3 < 1
    ·rw [if_pos a1, decide_eq_false (show ¬ 1 ≤ x.f3 by omega)]; rfl
    ·rw [if_neg a1, decide_eq_true (show 1 ≤ x.f3 by omega)]
     by_cases a2 : x.f3 > 1099511627776
     ·rw [if_pos a2, decide_eq_false (show ¬ x.f3 ≤ 1099511627776 by omega)]; rfl
     ·rw [if_neg a2, decide_eq_true (show x.f3 ≤ 1099511627776 by omega)]; rfl
   ·rw [if_neg h2, if_neg h2, hj1]
    by_cases a1 : x.f3 = 0
    ·rw [a1]; rfl
    ·rw [decide_eq_false a1, show (x.f3 != 0) = true by simpa using a1]; rfl
 rw [hj]
 by_cases h0 : x.f0 < 0
 ·rw [if_pos h0, decide_eq_false (show ¬ 0 ≤ x.f0 by omega)]; rfl
 ·rw [if_neg h0, decide_eq_true (show 0 ≤ x.f0 by omega)]
  by_cases h1 : x.f0 ≥ sc
  ·rw [if_pos h1, decide_eq_false (show ¬ x.f0 < sc by omega)]; rfl
  ·rw [if_neg h1, decide_eq_true (show x.f0 < sc by omega), rname_f x.f1 (k + 1 + 1) (by omega)]
   simp only [Option.bind_some]
   cases hn : nameB x.f1 with
   | false => rw [if_neg (by decide)]; rfl
   | true =>
    rw [if_pos rfl]
    obtain ⟨r, h2, h3⟩ := rcloser_f x.f5.f0 x.f5.f1 (k + 1 + 1) (by omega)
    rw [h2, ← h3]
    simp only [Option.bind_some]
    rw [hj]
    cases hr : (r == 0) with
    | true => simp at hr; subst hr; rfl
    | false => simp at hr; rw [show (r != 0) = true by simpa using hr]; rfl
theorem rcheck_l0 (up : List Int) (l : List S33) (hl : l.length ≤ 256) (hus : ∀ x ∈ l, x.f4.length ≤ 1048576) : ∀ n i k : Nat, n = l.length - i → i ≤ l.length → n + 1048600 < k → oncewebref19_Check.l0 k up l (i : Int) = some (if partsB up.length l.length l n i = true then 0 else 190)
 | 0, i, k + 1, hn, hi, hk => by rw [oncewebref19_Check.l0, if_neg (by omega)]; rfl
 | n + 1, i, k + 1, hn, hi, hk => by
  have hw := wsucc i (by omega)
  have ih := rcheck_l0 up l hl hus n (i + 1) k (by omega) (by omega) (by omega)
  have hm : rd_T33 l (i : Int) ∈ l := by
   unfold rd_T33
   rw [Int.toNat_natCast, List.getD_eq_getElem?_getD, List.getElem?_eq_getElem (by omega)]
   exact List.getElem_mem _
  rw [oncewebref19_Check.l0, if_pos (by omega), if_pos (by omega), hw, ih, rpart_f _ _ _ (hus _ hm) k (by omega), partsB]
  simp only [Option.bind_some]
  cases rightB up.length l.length (rd_T33 l (i : Int)) with
  | true => rw [if_pos rfl, Bool.true_and]
  | false => rfl
theorem rcheck_f (up : List Int) (l : List S33) (hus : ∀ x ∈ l, x.f4.length ≤ 1048576) (k : Nat) (hk : 1048900 ≤ k) : oncewebref19_Check.f k up l = some (checkE up l) := by
 unfold oncewebref19_Check.f checkE
 rw [rparents_f up k (by omega)]
 simp only [Option.bind_some]
 by_cases h0 : scopesE up = 0
 ·rw [if_pos h0, if_neg (show ¬ scopesE up ≠ 0 by simpa using h0)]
  by_cases h1 : l.length > 256
  ·rw [if_pos (by omega), if_pos h1]
  ·rw [if_neg (by omega), if_neg h1]
   exact rcheck_l0 up l (by omega) hus l.length 0 k rfl (Nat.zero_le _) (by omega)
 ·rw [if_neg h0, if_pos h0]
theorem rcheck_is (w : World) (U : Option Addr) (cu : Nat) (up : List Int) (A : Option Addr) (c : Nat) (l : List S33) (hu : Kd.C (Kd.int .i64) w U up.length up) (hcu : up.length ≤ cu) (hl : Kd.C k33 w A l.length l) (hc : l.length ≤ c) (hus : ∀ x ∈ l, x.f4.length ≤ 1048576) :
  Calls Tryd.prog 15 #[.slice U up.length cu, .slice A l.length c] w fun e w' => e = .returned (.int .i64 (checkE up l)) ∧ Below w.heap.size w w' :=
 oncewebref19_Check.calls 1048900 U cu up A c l _ w hu hcu hl hc (rcheck_f up l hus _ (Nat.le_refl _))
/-- What is wrong where it is asked who is beneath. -/
def benE (up : List Int) (top : Int) : Int := if scopesE up ≠ 0 then scopesE up else if top < 0 ∨ top ≥ up.length then 1 else 0
def BenPost (w : World) (up : List Int) (top : Int) (e : Ending) (w' : World) : Prop :=
 ∃ v r, e = .returned (.tuple #[v, .int .i64 (benE up top)]) ∧ Kd.R (Kd.int .i64) 3 w' w.heap.size (fun _ => True) v r ∧ Below w.heap.size w w' ∧ (benE up top ≠ 0 → r = []) ∧ (benE up top = 0 → Ben up top r)
theorem Up.neg {up : List Int} {top s : Int} (ht : 0 ≤ top) (hs : s < 0) : ¬ Up up top s := fun h => by
 cases h with
 | here => omega
 | step h0 _ _ => omega
theorem rben_l0 (up : List Int) (U : UpOk up) (top : Int) (ht : 0 ≤ top) : ∀ (n k : Nat) (s : Int), s < n → s < up.length → -1 ≤ s → n < k → ∃ b, oncewebref19_beneath.l0 k up s top = some b ∧ (b = true ↔ Up up top s)
 | n, 0, s, h1, h2, h3, hk => absurd hk (Nat.not_lt_zero _)
 | n, k + 1, s, h1, h2, h3, hk => by
  by_cases h0 : s ≥ 0
  ·by_cases h4 : s = top
   ·refine ⟨true, ?_, fun _ => h4 ▸ .here, fun _ => rfl⟩
    rw [oncewebref19_beneath.l0, if_pos h0, if_pos h4, h4]; simp
   ·have hu := U s h0 h2
    match n, h1, hk with
    | 0, h1, hk => exact absurd h1 (by omega)
    | n + 1, h1, hk =>
     obtain ⟨b, e1, e2⟩ := rben_l0 up U top ht n k (rd up s) (by omega) (by omega) (by omega) (by omega)
     refine ⟨b, ?_, ?_⟩
     ·rw [oncewebref19_beneath.l0, if_pos h0, if_neg h4, if_pos h0, if_pos h2, e1]
     ·rw [e2, Up.cases up top s ht h0 h2]
      constructor
      ·intro h
       refine .inr ⟨?_, h⟩
       rcases Int.lt_or_le (rd up s) 0 with q | q
       ·exact absurd h (Up.neg ht q)
       ·exact q
      ·rintro (h | ⟨_, h⟩)
       ·exact absurd h h4
       ·exact h
  ·refine ⟨false, ?_, ?_⟩
   ·rw [oncewebref19_beneath.l0, if_neg h0]
    have : ¬ s = top := by omega
    simp [this]
   ·exact ⟨fun h => absurd h (by decide), fun h => absurd h (Up.neg ht (by omega))⟩
theorem rBen_l0 (up : List Int) (U : UpOk up) (hl : up.length ≤ 32) (top : Int) (ht : 0 ≤ top) : ∀ (n k : Nat) (out : List Int), n ≤ up.length → n + 40 < k → out.length + n ≤ up.length → (∀ x, x ∈ out ↔ n ≤ x ∧ x < up.length ∧ Up up top x) → out.Pairwise (fun a b => a > b) →
  ∃ r, oncewebref19_Beneath.l0 k up top out ((n : Int) - 1) = some (r, 0) ∧ Ben up top r
 | 0, k + 1, out, hn, hk, hlen, M, S => ⟨out, by rw [oncewebref19_Beneath.l0, if_neg (by omega)], ⟨fun x => by rw [M]; simp, S⟩⟩
 | n + 1, k + 1, out, hn, hk, hlen, M, S => by
  have e0 : ((n + 1 : Nat) : Int) - 1 = (n : Int) := by omega
  obtain ⟨b, e1, e2⟩ := rben_l0 up U top ht (n + 1) k (n : Int) (by omega) (by omega) (by omega) (by omega)
  rw [e0, oncewebref19_Beneath.l0, if_pos (by omega)]
  unfold oncewebref19_beneath.f
  rw [e1, w64s (by omega) (by omega)]
  simp only [Option.bind_some]
  cases b with
  | true =>
   rw [if_pos rfl, if_pos (by omega)]
   refine rBen_l0 up U hl top ht n k _ (by omega) (by omega) (by simp; omega) (fun x => ?_) ?_
   ·rw [List.mem_append, M, List.mem_singleton]
    constructor
    ·rintro (⟨a, b, c⟩ | rfl)
     ·exact ⟨by omega, b, c⟩
     ·exact ⟨by omega, by omega, e2.1 rfl⟩
    ·rintro ⟨a, b, c⟩
     by_cases e : x = n
     ·exact .inr e
     ·exact .inl ⟨by omega, b, c⟩
   ·rw [List.pairwise_append]
    refine ⟨S, by simp, fun a ha b hb => ?_⟩
    rw [List.mem_singleton.1 hb]
    have := ((M a).1 ha).1
    omega
  | false =>
   rw [if_neg (by decide)]
   refine rBen_l0 up U hl top ht n k out (by omega) (by omega) (by omega) (fun x => ?_) S
   rw [M]
   constructor
   ·rintro ⟨a, b, c⟩; exact ⟨by omega, b, c⟩
   ·rintro ⟨a, b, c⟩
    refine ⟨?_, b, c⟩
    by_cases e : x = n
    ·rw [e] at c; exact absurd (e2.2 c) (by decide)
    ·omega
theorem rBeneath_is (w : World) (U : Option Addr) (cu : Nat) (up : List Int) (top : Int) (hu : Kd.C (Kd.int .i64) w U up.length up) (hcu : up.length ≤ cu) :
  Calls Tryd.prog 17 #[.slice U up.length cu, .int .i64 top] w fun e w' => BenPost w up top e w' := by
 have key : ∀ r, oncewebref19_Beneath.f 200 up top = some (r, benE up top) → (benE up top ≠ 0 → r = []) → (benE up top = 0 → Ben up top r) → Calls Tryd.prog 17 #[.slice U up.length cu, .int .i64 top] w fun e w' => BenPost w up top e w' := fun r h h1 h2 =>
  (oncewebref19_Beneath.calls 200 U cu up top r _ w hu hcu h).mono (fun e w' ⟨v, a, b, c⟩ => ⟨v, r, a, b, c, h1, h2⟩)
 have hf : oncewebref19_Beneath.f 200 up top = (oncewebref19_parents.f 200 up).bind fun t196 => (if t196 = 0 then (if top < 0 then (oncewebref19_Beneath.j0 200 up top true) else (oncewebref19_Beneath.j0 200 up top (decide (top ≥ (up.length : Int))))) else (some (([] : List Int), t196))) := rfl
 rw [rparents_f up 200 (by omega)] at hf
 simp only [Option.bind_some] at hf
 by_cases h0 : scopesE up = 0
 ·rw [if_pos h0] at hf
  by_cases h1 : top < 0 ∨ top ≥ up.length
  ·have he : benE up top = 1 := by unfold benE; rw [if_neg (by simpa using h0), if_pos h1]
   refine key [] ?_ (fun _ => rfl) (fun q => absurd (he.symm.trans q) (by decide))
   rw [hf, he]
   by_cases h2 : top < 0
   ·rw [if_pos h2, oncewebref19_Beneath.j0, if_pos rfl]
   ·rw [if_neg h2, oncewebref19_Beneath.j0, if_pos (decide_eq_true (h1.elim (fun q => absurd q h2) id))]
  ·have he : benE up top = 0 := by unfold benE; rw [if_neg (by simpa using h0), if_neg h1]
   have h2 : ¬ top < 0 := fun q => h1 (.inl q)
   have h3 : ¬ top ≥ (up.length : Int) := fun q => h1 (.inr q)
   obtain ⟨u1, u2⟩ := scopes_ok up h0
   obtain ⟨r, e1, e2⟩ := rBen_l0 up u1 u2 top (by omega) up.length 199 [] (Nat.le_refl _) (by omega) (by simp) (fun x => by simp; omega) List.Pairwise.nil
   refine key r ?_ (fun q => absurd he q) (fun _ => e2)
   rw [hf, he, if_neg h2, oncewebref19_Beneath.j0, if_neg (by simpa using h3), w64s (by omega) (by omega), e1]
 ·have he : benE up top = scopesE up := by unfold benE; rw [if_pos h0]
  refine key [] ?_ (fun _ => rfl) (fun q => absurd (he.symm.trans q) h0)
  rw [hf, he, if_neg h0]
set_option maxHeartbeats 4000000 in
theorem cBeneath_is (w : World) (U : Option Addr) (cu : Nat) (up : List Int) (top : Int) (hu : Kd.C (Kd.int .i64) w U up.length up) (hcu : up.length ≤ cu) :
  Calls Tryd.prog 16 #[.slice U up.length cu, .int .i64 top] w fun e w' => BenPost w up top e w' := by
 have HU := Lib.hid (And.intro hu hcu)
 have HSC := Lib.hid (scopes_is w U cu up hu hcu)
 obtain ⟨se, hse⟩ : ∃ se, se = scopesE up := ⟨_, rfl⟩
 have HSE := Lib.hid hse
 rw [← hse] at HSC
 clear hu hcu hse
 by_cases h0 : se = 0
 rotate_left
 ·have h0b : (se != 0) = true := by simpa using h0
  have HD := Lib.hid (show benE up top = se ∧ se ≠ 0 from ⟨by rw [benE, ← HSE.out, if_pos h0], h0⟩)
  clear h0
  go_enter Tryd.func16, Tryd.ntmps16
  go_wp2_with fail
  refine HSC.out.mono ?_
  rintro _ w2 ⟨rfl, ⟨n, rfl⟩⟩
  go_wp2_with fail
  try go_quiet (fail)
  go_wp2_with fail
  go_ret2
  exact ⟨_, [], by rw [HD.out.1]; rfl, Kd.R_nil _ _ _ _ _, pw_below_drewN (Below.refl _ _) n, fun _ => rfl, fun q => absurd (HD.out.1.symm.trans q) HD.out.2⟩
 subst h0
 by_cases h1 : top < 0 ∨ top ≥ up.length
 ·have HD := Lib.hid (show benE up top = 1 by rw [benE, ← HSE.out, if_neg (by simp), if_pos h1])
  go_enter Tryd.func16, Tryd.ntmps16
  go_wp2_with fail
  refine HSC.out.mono ?_
  rintro _ w2 ⟨rfl, ⟨n, rfl⟩⟩
  by_cases h2 : top < 0
  ·go_wp2_with fail
   go_ret2
   exact ⟨_, [], by rw [HD.out]; rfl, Kd.R_nil _ _ _ _ _, pw_below_drewN (Below.refl _ _) n, fun _ => rfl, fun q => by rw [HD.out] at q; exact absurd q (by decide)⟩
  ·have h3 : top ≥ (up.length : Int) := h1.elim (fun q => absurd q h2) id
   clear h1
   go_wp2_with fail
   go_ret2
   exact ⟨_, [], by rw [HD.out]; rfl, Kd.R_nil _ _ _ _ _, pw_below_drewN (Below.refl _ _) n, fun _ => rfl, fun q => by rw [HD.out] at q; exact absurd q (by decide)⟩
 have HD := Lib.hid (show benE up top = 0 by rw [benE, ← HSE.out, if_neg (by simp), if_neg h1])
 have h2 : ¬ top < 0 := fun q => h1 (.inl q)
 have h3 : ¬ top ≥ (up.length : Int) := fun q => h1 (.inr q)
 have HV := Lib.hid (scopes_ok up HSE.out.symm)
 have HTOP := Lib.hid (show 0 ≤ top by omega)
 clear h1
 go_enter Tryd.func16, Tryd.ntmps16
 go_wp2_with fail
 refine HSC.out.mono ?_
 rintro _ w2 ⟨rfl, ⟨n, rfl⟩⟩
 obtain ⟨bs, hben, hbc⟩ := beneath_is (w.drewN n) U cu up top (Kd.C_below HU.out.1 (pw_below_drewN (Below.refl _ _) n)) HU.out.2 HV.out.1 HV.out.2 HTOP.out
 have HBEN := Lib.hid hben
 have HBC := Lib.hid hbc
 clear hben hbc HSC
 go_wp2_with fail
 refine HBC.out.mono ?_
 rintro _ w4 ⟨v4, rfl, hv4, hb4⟩
 have HR4 := Lib.hid (And.intro hv4 hb4)
 clear hv4 hb4
 go_wp2_with fail
 go_ret2
 exact ⟨_, bs, by rw [HD.out]; rfl, HR4.out.1, (pw_below_drewN (Below.refl _ _) n).trans HR4.out.2, fun q => absurd HD.out q, fun _ => HBEN.out⟩
end Go.Proofs.YtccjclmjoegibaaDoor.Ce
namespace Go.Proofs.YtccjclmjoegibaaDoor.Ce
open Go.RowKit Go.Maps Go.Proofs.YtccjclmjoegibaaDoor Go.Proofs.YtccjclmjoegibaaDoorW.PrintWords Go.Proofs.YtccjclmjoegibaaDoorW.PrintLast Go.Proofs.YtccjclmjoegibaaDoorW.PrintMore PCloserOrders Hp
set_option linter.unusedVariables false
set_option linter.unusedSimpArgs false
theorem has_l0 (o : List Int) (x : Int) (hl : o.length ≤ 1000000) : ∀ n i k : Nat, n = o.length - i → i ≤ o.length → n < k → oncewebbase_Has.l0 k o x (i : Int) = some (decide (x ∈ o.drop i))
 | 0, i, k + 1, hn, hi, hk => by rw [oncewebbase_Has.l0, if_neg (by omega), List.drop_eq_nil_of_le (by omega)]; simp
 | n + 1, i, k + 1, hn, hi, hk => by
  have hw := wsucc i (by omega)
  have ih := has_l0 o x hl n (i + 1) k (by omega) (by omega) (by omega)
  have hlt : i < o.length := by omega
  have hd : o.drop i = rd o (i : Int) :: o.drop (i + 1) := by
   rw [List.drop_eq_getElem_cons hlt, rd_nat, Int.toNat_natCast, at_get o i hlt]
  rw [oncewebbase_Has.l0, if_pos (by omega), if_pos (by omega), hw, ih, hd]
  by_cases e : rd o (i : Int) = x
  ·rw [if_pos e, e]; simp
  ·rw [if_neg e]
   have : ¬ x = rd o (i : Int) := fun q => e q.symm
   simp [this]
theorem has_is (w : World) (A : Option Addr) (c : Nat) (o : List Int) (x : Int) (hr : Kd.C (Kd.int .i64) w A o.length o) (hc : o.length ≤ c) (hl : o.length ≤ 1000000) :
  Calls Tryd.prog 36 #[.slice A o.length c, .int .i64 x] w fun e w' => e = .returned (.bool (decide (x ∈ o))) ∧ Drawn0 w w' :=
 oncewebbase_Has.calls (o.length + 1) A c o x _ w hr hc (has_l0 o x hl o.length 0 _ rfl (Nat.zero_le _) (Nat.lt_succ_self _))
/-- A ready part of a scope. -/
def inS (l : List S33) (s : Int) (x : Int) : Bool := decide ((rd_T33 l x).f0 = s) && (rd_T33 l x).f2
def useF (l : List S33) (M : List (List Bool)) (s : Int) (o : List Int) (i k : Int) : Bool := decide (k ≠ i) && (inS l s k && (decide (k ∉ o) && relP M k i))
def freeF (l : List S33) (M : List (List Bool)) (s : Int) (o : List Int) (i : Int) : Nat → Bool
 | 0 => true
 | k + 1 => freeF l M s o i k && !useF l M s o i (k : Int)
def candB (l : List S33) (M : List (List Bool)) (s : Int) (o : List Int) (i : Int) : Bool := inS l s i && (decide (i ∉ o) && freeF l M s o i l.length)
def bestF (l : List S33) (M : List (List Bool)) (s : Int) (o : List Int) : Nat → Int
 | 0 => -1
 | i + 1 => if candB l M s o (i : Int) = true ∧ (bestF l M s o i < 0 ∨ (rd_T33 l (i : Int)).f3 ≥ (rd_T33 l (bestF l M s o i)).f3) then (i : Int) else bestF l M s o i
theorem freeF_iff (l : List S33) (M : List (List Bool)) (s : Int) (o : List Int) (i : Int) : ∀ n : Nat, freeF l M s o i n = true ↔ ∀ k : Int, 0 ≤ k → k < n → useF l M s o i k = false
 | 0 => ⟨fun _ k h0 h1 => by omega, fun _ => rfl⟩
 | n + 1 => by
  rw [freeF, Bool.and_eq_true, freeF_iff l M s o i n, Bool.not_eq_true']
  constructor
  ·rintro ⟨h1, h2⟩ k h0 hk
   by_cases e : k = n
   ·rw [e]; exact h2
   ·exact h1 k h0 (by omega)
  ·intro h
   exact ⟨fun k h0 hk => h k h0 (by omega), h _ (by omega) (by omega)⟩
theorem bestF_spec (l : List S33) (M : List (List Bool)) (s : Int) (o : List Int) : ∀ n : Nat,
  (bestF l M s o n = -1 ∧ ∀ y : Int, 0 ≤ y → y < n → candB l M s o y = false) ∨
  (0 ≤ bestF l M s o n ∧ bestF l M s o n < n ∧ candB l M s o (bestF l M s o n) = true ∧ ∀ y : Int, 0 ≤ y → y < n → candB l M s o y = true → aheadB l y (bestF l M s o n) = false)
 | 0 => .inl ⟨rfl, fun y h0 h1 => by omega⟩
 | n + 1 => by
  have ih := bestF_spec l M s o n
  rw [bestF]
  by_cases hc : candB l M s o (n : Int) = true
  ·by_cases hb : bestF l M s o n < 0 ∨ (rd_T33 l (n : Int)).f3 ≥ (rd_T33 l (bestF l M s o n)).f3
   ·rw [if_pos ⟨hc, hb⟩]
    refine .inr ⟨by omega, by omega, hc, fun y h0 h1 hy => ?_⟩
    rw [ahead_false]
    by_cases e : y = n
    ·subst e; omega
    ·rcases ih with ⟨_, h2⟩ | ⟨h2, h3, h4, h5⟩
     ·have := h2 y h0 (by omega); rw [hy] at this; exact absurd this (by decide)
     ·have := h5 y h0 (by omega) hy
      rw [ahead_false] at this
      rcases hb with hb | hb <;> omega
   ·rw [if_neg (fun q => hb q.2)]
    rcases ih with ⟨h1, _⟩ | ⟨h2, h3, h4, h5⟩
    ·exact absurd (.inl (by omega)) hb
    ·refine .inr ⟨h2, by omega, h4, fun y h0 h1 hy => ?_⟩
     by_cases e : y = n
     ·rw [e, ahead_false]
      have : ¬ (rd_T33 l (n : Int)).f3 ≥ (rd_T33 l (bestF l M s o n)).f3 := fun q => hb (.inr q)
      omega
     ·exact h5 y h0 (by omega) hy
  ·rw [if_neg (fun q => hc q.1)]
   have hcn : ∀ y : Int, y = n → candB l M s o y = false := fun y e => by rw [e]; simpa using hc
   rcases ih with ⟨h1, h2⟩ | ⟨h2, h3, h4, h5⟩
   ·refine .inl ⟨h1, fun y h0 hy => ?_⟩
    by_cases e : y = n
    ·exact hcn y e
    ·exact h2 y h0 (by omega)
   ·refine .inr ⟨h2, by omega, h4, fun y h0 h1 hy => ?_⟩
    by_cases e : y = n
    ·have := hcn y e; rw [hy] at this; exact absurd this (by decide)
    ·exact h5 y h0 (by omega) hy
/-- What has been picked so far. -/
structure PI (lt P : Int → Int → Bool) (all q : List Int) : Prop where
 nodup : q.Nodup
 sub : ∀ x ∈ q, x ∈ all
 pick : Hp.Picked lt P all q
theorem PI.nil (lt P : Int → Int → Bool) (all : List Int) : PI lt P all [] := ⟨List.nodup_nil, fun x hx => absurd hx (by simp), fun p x hx => absurd hx (by simp)⟩
theorem PI.step {lt P : Int → Int → Bool} {all q : List Int} (H : PI lt P all q) {x : Int} (hx : x ∈ all) (hn : x ∉ q) (hf : ∀ a ∈ all, P a x = true → a ∈ q) (hb : ∀ y ∈ all, y ∉ q → (∀ a ∈ all, P a y = true → a ∈ q) → lt y x = false) : PI lt P all (q ++ [x]) := by
 refine ⟨?_, fun y hy => ?_, fun p y hy => ?_⟩
 ·rw [List.nodup_append]
  exact ⟨H.nodup, by simp, fun a ha b hb => by rw [List.mem_singleton.1 hb]; exact fun e => hn (e ▸ ha)⟩
 ·rcases List.mem_append.1 hy with z | z
  ·exact H.sub y z
  ·rw [List.mem_singleton.1 z]; exact hx
 ·rcases Nat.lt_or_ge p q.length with z | z
  ·rw [List.getElem?_append_left z] at hy
   have := H.pick p y hy
   rw [List.take_append_of_le_length (by omega)]
   exact this
  ·have hp : p = q.length := by
    rcases Nat.lt_or_ge p (q ++ [x]).length with y2 | y2
    ·simp at y2; omega
    ·rw [List.getElem?_eq_none y2] at hy; exact absurd hy (by simp)
   subst hp
   rw [List.getElem?_append_right z, Nat.sub_self] at hy
   injection hy with hy
   subst hy
   rw [List.take_left']
   ·exact ⟨hf, hb⟩
   ·rfl
theorem PI.done {lt P : Int → Int → Bool} {all q : List Int} (C : Acyc P) (H : PI lt P all q) (hno : ∀ y ∈ all, y ∉ q → ¬ ∀ a ∈ all, P a y = true → a ∈ q) : Hp.Good lt P all q := by
 have hall : ∀ (m : Nat) (b : Int), b ∈ all → b ∉ q → left_ P all q b = m → False := by
  intro m
  induction m using Nat.strongRecOn with
  | _ m ih =>
   intro b hb hbo hm
   have hex : ∃ a ∈ all, P a b = true ∧ a ∉ q := by
    refine Classical.byContradiction fun hc => hno b hb hbo (fun a ha hp => ?_)
    exact Classical.byContradiction fun hn => hc ⟨a, ha, hp, hn⟩
   obtain ⟨a, ha, hp, hao⟩ := hex
   have hlt : left_ P all q a < left_ P all q b := by
    unfold left_
    refine countP_lt all (fun x _ hx => ?_) ⟨a, ha, ?_, ?_⟩
    ·simp at hx ⊢
     exact ⟨C.trans _ _ _ hx.1 hp, hx.2⟩
    ·simp [C.irr a]
    ·simp [hp, hao]
   exact ih _ (by omega) a ha hao rfl
 exact ⟨H.nodup, fun x => ⟨H.sub x, fun hx => Classical.byContradiction fun hn => hall _ x hx hn rfl⟩, H.pick⟩
theorem PI.len {lt P : Int → Int → Bool} {all q : List Int} (H : PI lt P all q) : q.length ≤ all.length := nodup_len _ _ H.nodup H.sub
theorem inS_mem (l : List S33) (s x : Int) (h0 : 0 ≤ x) (h1 : x < l.length) : inS l s x = true ↔ x ∈ allF l s l.length := by
 rw [allF_mem]
 unfold inS
 simp only [Bool.and_eq_true, decide_eq_true_eq]
 constructor
 ·rintro ⟨a, b⟩; exact ⟨h0, h1, b, a⟩
 ·rintro ⟨_, _, b, a⟩; exact ⟨a, b⟩
theorem cand_iff (l : List S33) (M : List (List Bool)) (hac : Acyc (relP M)) (s : Int) (ou q : List Int) (hd : ∀ x ∈ ou, x ∉ allF l s l.length) (y : Int) (h0 : 0 ≤ y) (h1 : y < l.length) :
  candB l M s (ou ++ q) y = true ↔ y ∈ allF l s l.length ∧ y ∉ q ∧ ∀ a ∈ allF l s l.length, relP M a y = true → a ∈ q := by
 have hmem : ∀ x, x ∈ allF l s l.length → (x ∈ ou ++ q ↔ x ∈ q) := fun x hx => by
  rw [List.mem_append]
  exact ⟨fun h => h.elim (fun z => absurd hx (hd x z)) id, .inr⟩
 unfold candB
 rw [Bool.and_eq_true, Bool.and_eq_true, inS_mem l s y h0 h1, decide_eq_true_eq, freeF_iff]
 constructor
 ·rintro ⟨a, b, c⟩
  refine ⟨a, fun z => b ((hmem y a).2 z), fun k hk hr => ?_⟩
  have hk' := (allF_mem l s k _).1 hk
  have := c k hk'.1 hk'.2.1
  unfold useF at this
  rw [(inS_mem l s k hk'.1 hk'.2.1).2 hk, hr] at this
  by_cases e : k = y
  ·subst e; rw [hac.irr] at hr; exact absurd hr (by decide)
  ·simp [e] at this
   exact (hmem k hk).1 (by rw [List.mem_append]; by_cases z : k ∈ ou <;> simp [z] at this ⊢; exact this)
 ·rintro ⟨a, b, c⟩
  refine ⟨a, fun z => b ((hmem y a).1 z), fun k k0 k1 => ?_⟩
  cases hu : useF l M s (ou ++ q) y k with
  | false => rfl
  | true =>
   unfold useF at hu
   simp only [Bool.and_eq_true, decide_eq_true_eq] at hu
   have hka := (inS_mem l s k k0 k1).1 hu.2.1
   exact absurd ((hmem k hka).2 (c k hka hu.2.2.2)) hu.2.2.1
theorem best_none (l : List S33) (M : List (List Bool)) (hac : Acyc (relP M)) (s : Int) (ou q : List Int) (hd : ∀ x ∈ ou, x ∉ allF l s l.length) (H : PI (aheadB l) (relP M) (allF l s l.length) q) (hb : bestF l M s (ou ++ q) l.length < 0) : Hp.Good (aheadB l) (relP M) (allF l s l.length) q := by
 rcases bestF_spec l M s (ou ++ q) l.length with ⟨_, h⟩ | ⟨h, _⟩
 ·refine H.done hac (fun y hy hn hf => ?_)
  have hy' := (allF_mem l s y _).1 hy
  have := h y hy'.1 hy'.2.1
  rw [(cand_iff l M hac s ou q hd y hy'.1 hy'.2.1).2 ⟨hy, hn, hf⟩] at this
  exact absurd this (by decide)
 ·omega
theorem best_some (l : List S33) (M : List (List Bool)) (hac : Acyc (relP M)) (s : Int) (ou q : List Int) (hd : ∀ x ∈ ou, x ∉ allF l s l.length) (H : PI (aheadB l) (relP M) (allF l s l.length) q) (hb : ¬ bestF l M s (ou ++ q) l.length < 0) : PI (aheadB l) (relP M) (allF l s l.length) (q ++ [bestF l M s (ou ++ q) l.length]) := by
 rcases bestF_spec l M s (ou ++ q) l.length with ⟨h, _⟩ | ⟨h0, h1, h2, h3⟩
 ·omega
 ·rw [cand_iff l M hac s ou q hd _ h0 h1] at h2
  refine H.step h2.1 h2.2.1 h2.2.2 (fun y hy hn hf => ?_)
  have hy' := (allF_mem l s y _).1 hy
  exact h3 y hy'.1 hy'.2.1 ((cand_iff l M hac s ou q hd y hy'.1 hy'.2.1).2 ⟨hy, hn, hf⟩)
end Go.Proofs.YtccjclmjoegibaaDoor.Ce
