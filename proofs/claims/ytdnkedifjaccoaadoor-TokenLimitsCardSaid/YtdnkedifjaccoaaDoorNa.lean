/- Whether a text is a name: the words that the package's variable holds. -/
import Derived.Test.YtdnkedifjaccoaaDoorK
import Derived.Test.YtdnkedifjaccoaaDoorQ2
namespace Go.Proofs.YtdnkedifjaccoaaDoor.Ce
open Go.RowKit Go.Maps Go.Proofs.YtdnkedifjaccoaaDoor Go.Proofs.YtdnkedifjaccoaaDoorW.PrintWords Go.Proofs.YtdnkedifjaccoaaDoorW.PrintLast Go.Proofs.YtdnkedifjaccoaaDoorW.PrintMore PToken
attribute [local go_sem] max2_int min2_int max_two min_two max_three min_three max_four min_four
set_option linter.unusedVariables false
set_option linter.unusedSimpArgs false
def keysL : List ByteArray := [⟨#[99, 101, 108, 108]⟩, ⟨#[97, 103, 97, 105, 110]⟩, ⟨#[116, 114, 105, 101, 115]⟩, ⟨#[98, 97, 115, 101]⟩, ⟨#[102, 97, 99, 116, 111, 114]⟩, ⟨#[99, 97, 112]⟩, ⟨#[99, 108, 111, 115, 101]⟩, ⟨#[102, 105, 110, 101]⟩, ⟨#[102, 97, 105, 108]⟩, ⟨#[112, 97, 110, 105, 99]⟩, ⟨#[105, 102]⟩, ⟨#[116, 104, 101, 110]⟩, ⟨#[101, 108, 115, 101]⟩, ⟨#[116, 114, 121]⟩, ⟨#[119, 97, 105, 116]⟩, ⟨#[108, 101, 116]⟩, ⟨#[105, 110]⟩, ⟨#[105, 116, 101, 109]⟩, ⟨#[115, 105, 122, 101]⟩]
/-- What the package's words hold. -/
structure Laid (w : World) : Prop where
  keys : ∀ j : Nat, j < 19 → w.cell? ⟨0, j, none⟩ = (keysL.map Value.string)[j]?
  size : 1 ≤ w.heap.size
theorem cell_blk {w w' : World} {b j : Nat} (h : w'.heap[b]? = w.heap[b]?) : w'.cell? ⟨b, j, none⟩ = w.cell? ⟨b, j, none⟩ := by simp [World.cell?, h]
theorem Laid.to {w w' : World} (h : Laid w) (hs : w.heap.size ≤ w'.heap.size) (hb : ∀ b, b < 1 → w'.heap[b]? = w.heap[b]?) : Laid w' :=
  ⟨fun j hj => (cell_blk (hb 0 (by omega))).trans (h.keys j hj), Nat.le_trans h.size hs⟩
theorem Laid.below {w w' : World} (h : Laid w) (hb : Below w.heap.size w w') : Laid w' := h.to hb.size (fun b hb' => hb.block b (by have := h.size; omega))
theorem Laid.drewN {w : World} (h : Laid w) (n : Nat) : Laid (w.drewN n) := ⟨h.keys, h.size⟩
theorem row_str {w : World} {b : Nat} {l : List ByteArray} (hm : l.length ≤ maxLen) (h : ∀ j : Nat, j < l.length → w.cell? ⟨b, j, none⟩ = (l.map Value.string)[j]?) : Kd.C Kd.string w (some ⟨b, 0, none⟩) l.length l := by
  refine ⟨rfl, hm, fun _ => ⟨⟨b, 0, none⟩, rfl, fun j x hj => ?_⟩⟩
  have hlt : j < l.length := by
    rcases Nat.lt_or_ge j l.length with k | k
    · exact k
    · rw [List.getElem?_eq_none k] at hj; exact absurd hj (by simp)
  refine ⟨[.string x], rfl, rfl, fun i u hu => ?_⟩
  cases i with
  | zero =>
    have h1 := h j hlt
    simp at hu
    subst hu
    have e : (⟨b, 0, none⟩ : Addr).add (j * Kd.string.sz + 0) = ⟨b, j, none⟩ := by
      show (⟨b, 0, none⟩ : Addr).add (j * 1 + 0) = ⟨b, j, none⟩
      unfold Addr.add
      split
      · rename_i h2
        have : j = 0 := by omega
        subst this
        rfl
      · simp
    rw [e, h1, List.getElem?_map, hj]
    rfl
  | succ i => simp at hu
def inL (l : List ByteArray) (s : ByteArray) : Bool := l.any fun x => s.toList == x.toList
theorem index_ok (l : List ByteArray) (s : ByteArray) (hl : l.length < 1000) : ∀ n i : Nat, n = l.length - i → i ≤ l.length → ∃ k r, slices_Index_string_string.l0 k l s l.length i = some r ∧ (decide (r ≥ 0) = inL (l.drop i) s)
  | 0, i, hn, hi => ⟨1, -1, by
      rw [slices_Index_string_string.l0, if_neg (by omega)], by
      rw [List.drop_eq_nil_of_le (by omega)]; rfl⟩
  | n + 1, i, hn, hi => by
    obtain ⟨k, r, h1, h2⟩ := index_ok l s hl n (i + 1) (by omega) (by omega)
    have hlt : i < l.length := by omega
    have hd : l.drop i = rdOf ByteArray.empty l i :: l.drop (i + 1) := by
      rw [List.drop_eq_getElem_cons hlt]
      simp [rdOf, List.getD, List.getElem?_eq_getElem hlt]
    by_cases he : s.toList = (rdOf ByteArray.empty l i).toList
    · refine ⟨k + 1, i, ?_, ?_⟩
      · rw [slices_Index_string_string.l0, if_pos (by omega), if_pos (by omega), if_pos (by omega), if_pos he]
      · rw [hd]
        simp [inL, he]
    · refine ⟨k + 1, r, ?_, ?_⟩
      · rw [slices_Index_string_string.l0, if_pos (by omega), if_pos (by omega), if_pos (by omega), if_neg he]
        rw [← i64_w, IntWalk.i64_in _ (by omega)]
        exact h1
      · rw [h2, hd]
        simp [inL, he]
theorem contains_is (w : World) (A : Option Addr) (c : Nat) (l : List ByteArray) (s : ByteArray) (hr : Kd.C Kd.string w A l.length l) (hc : l.length ≤ c) (hl : l.length < 1000) :
    Calls Tryd.prog 60 #[.slice A l.length c, .string s] w fun e w' => e = .returned (.bool (inL l s)) ∧ Drawn0 w w' := by
  obtain ⟨k, r, h1, h2⟩ := index_ok l s hl _ 0 rfl (Nat.zero_le _)
  refine slices_Contains_string_string.calls k A c l s _ w hr hc ?_
  unfold slices_Contains_string_string.f slices_Index_string_string.f
  rw [show slices_Index_string_string.l0 k l s (l.length : Int) 0 = some r from h1]
  exact congrArg some h2
/-- A letter of a word's inside. -/
def inWord (c : Int) : Bool := (decide (97 ≤ c) && decide (c ≤ 122)) || (decide (48 ≤ c) && decide (c ≤ 57)) || decide (c = 95)
def allW (s : ByteArray) : Nat → Nat → Bool
  | 0, _ => true
  | n + 1, i => inWord (bt s i) && allW s n (i + 1)
def wordB (s : ByteArray) : Bool := decide (97 ≤ bt s 0) && decide (bt s 0 ≤ 122) && allW s s.size 0
theorem letter_is (c : Int) : lex_letter.f c = some (decide (97 ≤ c) && decide (c ≤ 122)) := by
  unfold lex_letter.f
  split
  · rename_i h; simp [h]
  · rename_i h; simp; omega
theorem digit_is (c : Int) : lex_digit.f c = some (decide (48 ≤ c) && decide (c ≤ 57)) := by
  unfold lex_digit.f
  split
  · rename_i h; simp [h]
  · rename_i h; simp; omega
theorem word_l0 (s : ByteArray) (hs : s.size ≤ 24) : ∀ n i : Nat, n = s.size - i → i ≤ s.size → ∃ k r, lex_word.l0 k s i = some r ∧ (r == (s.size : Int)) = allW s n i
  | 0, i, hn, hi => ⟨1, i, by rw [lex_word.l0, if_neg (by omega)], by
      have : i = s.size := by omega
      simp [this, allW]⟩
  | n + 1, i, hn, hi => by
    obtain ⟨k, r, h1, h2⟩ := word_l0 s hs n (i + 1) (by omega) (by omega)
    have hw : wrap64 ((i : Int) + 1) = ((i + 1 : Nat) : Int) := by rw [← i64_w, IntWalk.i64_in _ (by omega)]; omega
    cases hl : (decide (97 ≤ bt s i) && decide (bt s i ≤ 122)) with
    | true =>
      refine ⟨k + 1, r, ?_, ?_⟩
      · rw [lex_word.l0, if_pos (by omega), if_pos (by omega), letter_is, hl]
        rw [hw]; exact h1
      · rw [h2, allW, inWord, hl]; rfl
    | false =>
      cases hd : (decide (48 ≤ bt s i) && decide (bt s i ≤ 57)) with
      | true =>
        refine ⟨k + 1, r, ?_, ?_⟩
        · rw [lex_word.l0, if_pos (by omega), if_pos (by omega), letter_is, hl]
          show ((lex_digit.f (bt s i)).bind _) = _
          rw [digit_is, hd, hw]; exact h1
        · rw [h2, allW, inWord, hl, hd]; rfl
      | false =>
        by_cases hu : bt s i = 95
        · refine ⟨k + 1, r, ?_, ?_⟩
          · rw [lex_word.l0, if_pos (by omega), if_pos (by omega), letter_is, hl]
            show ((lex_digit.f (bt s i)).bind _) = _
            rw [digit_is, hd, hw]
            show (if bt s i = 95 then _ else _) = _
            rw [if_pos hu]; exact h1
          · rw [h2, allW, inWord, hl, hd, decide_eq_true hu]; rfl
        · refine ⟨k + 1, i, ?_, ?_⟩
          · rw [lex_word.l0, if_pos (by omega), if_pos (by omega), letter_is, hl]
            show ((lex_digit.f (bt s i)).bind _) = _
            rw [digit_is, hd]
            show (if bt s i = 95 then _ else _) = _
            rw [if_neg hu]
          · rw [allW, inWord, hl, hd, decide_eq_false hu]
            simp
            omega
theorem word_ok (s : ByteArray) (h0 : 0 < s.size) (hs : s.size ≤ 24) : ∃ k r, lex_word.f k s 0 = some r ∧ (r == (s.size : Int)) = wordB s := by
  obtain ⟨k, r, h1, h2⟩ := word_l0 s hs s.size 0 rfl (Nat.zero_le _)
  cases hl : (decide (97 ≤ bt s 0) && decide (bt s 0 ≤ 122)) with
  | true =>
    refine ⟨k + 1, r, ?_, by rw [h2, wordB, hl]; rfl⟩
    rw [lex_word.f, if_neg (by omega), if_pos (by omega), if_pos (by omega), letter_is, hl]
    exact h1
  | false =>
    refine ⟨k + 1, 0, ?_, ?_⟩
    · rw [lex_word.f, if_neg (by omega), if_pos (by omega), if_pos (by omega), letter_is, hl]
      rfl
    · rw [wordB, hl]
      simp
      omega
theorem word_is (w : World) (s : ByteArray) (h0 : 0 < s.size) (hs : s.size ≤ 24) : ∃ r, (r == (s.size : Int)) = wordB s ∧ Calls Tryd.prog 49 #[.string s, .int .i64 0] w fun e w' => e = .returned (.int .i64 r) ∧ Drawn0 w w' := by
  obtain ⟨k, r, h1, h2⟩ := word_ok s h0 hs
  exact ⟨r, h2, lex_word.calls k s 0 r w h1⟩
theorem key_is (w : World) (s : ByteArray) (h : Laid w) : Calls Tryd.prog 50 #[.string s] w fun e w' => e = .returned (.bool (inL keysL s)) ∧ Drawn0 w w' := by
  have HK := Lib.hid (contains_is w (some ⟨0, 0, none⟩) 19 keysL s (row_str (by decide) h.keys) (by decide) (by decide))
  have hl : keysL.length = 19 := rfl
  rw [hl] at HK
  clear h hl
  go_enter Tryd.func50, Tryd.ntmps50
  go_wp2_with (go_at_call 60; refine HK.out.mono ?_; rintro _ w1 ⟨rfl, hd⟩; have HD := Lib.hid hd; clear hd)
  go_ret
  exact ⟨rfl, HD.out⟩
def nameB (s : ByteArray) : Bool := decide (0 < s.size) && decide (s.size ≤ 24) && wordB s && !inL keysL s
theorem str_len (s : ByteArray) : s.toList.length = s.size := by rw [ByteArray.toList_eq, Array.length_toList]; rfl
theorem str_pos {s : ByteArray} (h : 0 < s.size) : s.toList.isEmpty = false ∧ s.toList ≠ [] := by
  have := str_len s
  cases hs : s.toList with
  | nil => rw [hs] at this; simp at this; omega
  | cons a l => exact ⟨rfl, by simp⟩
theorem str_zero {s : ByteArray} (h : s.size = 0) : s.toList = [] := by
  have := str_len s
  exact List.eq_nil_of_length_eq_zero (by omega)
theorem name_is (w : World) (s : ByteArray) (h : Laid w) : Calls Tryd.prog 36 #[.string s] w fun e w' => e = .returned (.bool (nameB s)) ∧ Drawn0 w w' := by
  by_cases h0 : 0 < s.size
  · obtain ⟨he, hn⟩ := str_pos h0
    by_cases h1 : s.size ≤ 24
    · obtain ⟨r, hr, hw⟩ := word_is w s h0 h1
      have HW := Lib.hid hw
      have HL := Lib.hid h
      have h1' : (s.size : Int) ≤ 24 := by omega
      have HV := Lib.hid (show nameB s = (wordB s && !inL keysL s) by unfold nameB; rw [decide_eq_true h0, decide_eq_true h1]; rfl)
      clear hw h
      cases hb : wordB s with
      | true =>
        rw [hb] at hr
        go_enter Tryd.func36, Tryd.ntmps36
        go_wp2_with (first | (go_at_call 49; refine HW.out.mono ?_; rintro _ w1 ⟨rfl, ⟨m, rfl⟩⟩) | (go_at_call 50; refine (key_is _ s (HL.out.drewN m)).mono ?_; rintro _ w2 ⟨rfl, ⟨m2, rfl⟩⟩))
        go_ret
        exact ⟨by rw [HV.out, hb]; rfl, ⟨_, rfl⟩⟩
      | false =>
        rw [hb] at hr
        go_enter Tryd.func36, Tryd.ntmps36
        go_wp2_with (first | (go_at_call 49; refine HW.out.mono ?_; rintro _ w1 ⟨rfl, ⟨m, rfl⟩⟩))
        go_ret
        exact ⟨by rw [HV.out, hb]; rfl, ⟨_, rfl⟩⟩
    · have h1' : ¬ (s.size : Int) ≤ 24 := by omega
      have HV := Lib.hid (show nameB s = false by unfold nameB; rw [decide_eq_false h1]; simp)
      clear h h1
      go_enter Tryd.func36, Tryd.ntmps36
      go_wp2_with fail
      go_ret
      exact ⟨by rw [HV.out]; rfl, ⟨0, rfl⟩⟩
  · have he := str_zero (s := s) (by omega)
    have HV := Lib.hid (show nameB s = false by unfold nameB; rw [decide_eq_false h0]; rfl)
    clear h h0
    go_enter Tryd.func36, Tryd.ntmps36
    go_wp2_with fail
    go_ret
    exact ⟨by rw [HV.out]; rfl, ⟨0, rfl⟩⟩
end Go.Proofs.YtdnkedifjaccoaaDoor.Ce
