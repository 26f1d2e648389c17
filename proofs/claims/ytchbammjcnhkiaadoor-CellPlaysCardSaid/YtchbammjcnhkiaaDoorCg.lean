/- What fail.Check answers: a failure's cracks, by a stack; the words that the package's variables hold. -/
import Derived.Test.YtchbammjcnhkiaaDoorCv
import Derived.Test.YtchbammjcnhkiaaDoorQf
namespace Go.Proofs.YtchbammjcnhkiaaDoor.Ce
open Go.RowKit Go.Maps Go.Proofs.YtchbammjcnhkiaaDoor Go.Proofs.YtchbammjcnhkiaaDoorW.PrintWords Go.Proofs.YtchbammjcnhkiaaDoorW.PrintLast Go.Proofs.YtchbammjcnhkiaaDoorW.PrintMore PCellPlays
attribute [local go_sem] max2_int min2_int max_two min_two max_three min_three
def sortsL : List Int := [0, 1, 1, 1, 1, 1, 1, 1, 2, 3, 4, 1]
def valuesL : List ByteArray := [⟨#[108, 105, 115, 116]⟩, ⟨#[97, 100, 100]⟩, ⟨#[115, 117, 98]⟩, ⟨#[109, 117, 108]⟩, ⟨#[106, 111, 105, 110]⟩, ⟨#[105, 116, 101, 109]⟩, ⟨#[115, 105, 122, 101]⟩, ⟨#[105, 102]⟩, ⟨#[102, 97, 105, 108]⟩, ⟨#[112, 97, 110, 105, 99]⟩]
def keysL : List ByteArray := [⟨#[99, 101, 108, 108]⟩, ⟨#[97, 103, 97, 105, 110]⟩, ⟨#[116, 114, 105, 101, 115]⟩, ⟨#[98, 97, 115, 101]⟩, ⟨#[102, 97, 99, 116, 111, 114]⟩, ⟨#[99, 97, 112]⟩, ⟨#[99, 108, 111, 115, 101]⟩, ⟨#[102, 105, 110, 101]⟩, ⟨#[102, 97, 105, 108]⟩, ⟨#[112, 97, 110, 105, 99]⟩, ⟨#[105, 102]⟩, ⟨#[116, 104, 101, 110]⟩, ⟨#[101, 108, 115, 101]⟩, ⟨#[116, 114, 121]⟩, ⟨#[119, 97, 105, 116]⟩, ⟨#[108, 101, 116]⟩, ⟨#[105, 110]⟩, ⟨#[105, 116, 101, 109]⟩, ⟨#[115, 105, 122, 101]⟩]
/-- What the three package variables hold. -/
structure Laid (w : World) : Prop where
  sorts : ∀ j : Nat, j < 12 → w.cell? ⟨0, j, none⟩ = (sortsL.map (Value.int .i64))[j]?
  values : ∀ j : Nat, j < 10 → w.cell? ⟨1, j, none⟩ = (valuesL.map Value.string)[j]?
  keys : ∀ j : Nat, j < 19 → w.cell? ⟨2, j, none⟩ = (keysL.map Value.string)[j]?
  size : 3 ≤ w.heap.size
theorem cell_blk {w w' : World} {b j : Nat} (h : w'.heap[b]? = w.heap[b]?) : w'.cell? ⟨b, j, none⟩ = w.cell? ⟨b, j, none⟩ := by simp [World.cell?, h]
theorem Laid.to {w w' : World} (h : Laid w) (hs : w.heap.size ≤ w'.heap.size) (hb : ∀ b, b < 3 → w'.heap[b]? = w.heap[b]?) : Laid w' :=
  ⟨fun j hj => (cell_blk (hb 0 (by omega))).trans (h.sorts j hj), fun j hj => (cell_blk (hb 1 (by omega))).trans (h.values j hj), fun j hj => (cell_blk (hb 2 (by omega))).trans (h.keys j hj), Nat.le_trans h.size hs⟩
theorem Laid.below {w w' : World} (h : Laid w) (hb : Below w.heap.size w w') : Laid w' := h.to hb.size (fun b hb' => hb.block b (by have := h.size; omega))
theorem Laid.chg {w w' : World} {S : Nat → Prop} (h : Laid w) (hc : Chg S w w') (hs : ∀ b, S b → 3 ≤ b) : Laid w' := h.to hc.size (fun b hb => hc.block b (by have := h.size; omega) (fun s => by have := hs b s; omega))
theorem Laid.drewN {w : World} (h : Laid w) (n : Nat) : Laid (w.drewN n) := ⟨h.sorts, h.values, h.keys, h.size⟩
theorem row_str {w : World} {b : Nat} {l : List ByteArray} (hm : l.length ≤ maxLen) (h : ∀ j : Nat, j < l.length → w.cell? ⟨b, j, none⟩ = (l.map Value.string)[j]?) : Kd.C Kd.string w (some ⟨b, 0, none⟩) l.length l := by
  refine ⟨rfl, hm, fun _ => ⟨⟨b, 0, none⟩, rfl, fun j x hj => ?_⟩⟩
  have hlt : j < l.length := by
    rcases Nat.lt_or_ge j l.length with k | k
    · exact k
    · rw [List.getElem?_eq_none k] at hj; exact absurd hj (by simp)
  refine ⟨[.string x], rfl, rfl, fun i u hu => ?_⟩
  cases i with
  | zero =>
    have h1 := h j hlt
    simp at hu
    subst hu
    have e : (⟨b, 0, none⟩ : Addr).add (j * Kd.string.sz + 0) = ⟨b, j, none⟩ := by
      show (⟨b, 0, none⟩ : Addr).add (j * 1 + 0) = ⟨b, j, none⟩
      unfold Addr.add
      split
      · rename_i h2
        have : j = 0 := by omega
        subst this
        rfl
      · simp
    rw [e, h1, List.getElem?_map, hj]
    rfl
  | succ i => simp at hu
def inL (l : List ByteArray) (s : ByteArray) : Bool := l.any fun x => s.toList == x.toList
theorem index_ok (l : List ByteArray) (s : ByteArray) (hl : l.length < 1000) : ∀ n i : Nat, n = l.length - i → i ≤ l.length → ∃ k r, slices_Index_string_string.l0 k l s l.length i = some r ∧ (decide (r ≥ 0) = inL (l.drop i) s)
  | 0, i, hn, hi => ⟨1, -1, by
      rw [slices_Index_string_string.l0, if_neg (by omega)], by
      rw [List.drop_eq_nil_of_le (by omega)]; rfl⟩
  | n + 1, i, hn, hi => by
    obtain ⟨k, r, h1, h2⟩ := index_ok l s hl n (i + 1) (by omega) (by omega)
    have hlt : i < l.length := by omega
    have hd : l.drop i = rdOf ByteArray.empty l i :: l.drop (i + 1) := by
      rw [List.drop_eq_getElem_cons hlt]
      simp [rdOf, List.getD, List.getElem?_eq_getElem hlt]
    by_cases he : s.toList = (rdOf ByteArray.empty l i).toList
    · refine ⟨k + 1, i, ?_, ?_⟩
      · rw [slices_Index_string_string.l0, if_pos (by omega), if_pos (by omega), if_pos (by omega), if_pos he]
      · rw [hd]
        simp [inL, he]
    · refine ⟨k + 1, r, ?_, ?_⟩
      · rw [slices_Index_string_string.l0, if_pos (by omega), if_pos (by omega), if_pos (by omega), if_neg he]
        rw [← i64_w, IntWalk.i64_in _ (by omega)]
        exact h1
      · rw [h2, hd]
        simp [inL, he]
theorem contains_is (w : World) (A : Option Addr) (c : Nat) (l : List ByteArray) (s : ByteArray) (hr : Kd.C Kd.string w A l.length l) (hc : l.length ≤ c) (hl : l.length < 1000) :
    Calls Tryd.prog 67 #[.slice A l.length c, .string s] w fun e w' => e = .returned (.bool (inL l s)) ∧ Drawn0 w w' := by
  obtain ⟨k, r, h1, h2⟩ := index_ok l s hl _ 0 rfl (Nat.zero_le _)
  refine slices_Contains_string_string.calls k A c l s _ w hr hc ?_
  unfold slices_Contains_string_string.f slices_Index_string_string.f
  rw [show slices_Index_string_string.l0 k l s (l.length : Int) 0 = some r from h1]
  exact congrArg some h2
/-- A letter of a word's inside. -/
def inWord (c : Int) : Bool := (decide (97 ≤ c) && decide (c ≤ 122)) || (decide (48 ≤ c) && decide (c ≤ 57)) || decide (c = 95)
def allW (s : ByteArray) : Nat → Nat → Bool
  | 0, _ => true
  | n + 1, i => inWord (bt s i) && allW s n (i + 1)
def wordB (s : ByteArray) : Bool := decide (97 ≤ bt s 0) && decide (bt s 0 ≤ 122) && allW s s.size 0
theorem letter_is (c : Int) : lex_letter.f c = some (decide (97 ≤ c) && decide (c ≤ 122)) := by
  unfold lex_letter.f
  split
  · rename_i h; simp [h]
  · rename_i h; simp; omega
theorem digit_is (c : Int) : lex_digit.f c = some (decide (48 ≤ c) && decide (c ≤ 57)) := by
  unfold lex_digit.f
  split
  · rename_i h; simp [h]
  · rename_i h; simp; omega
theorem word_l0 (s : ByteArray) (hs : s.size ≤ 24) : ∀ n i : Nat, n = s.size - i → i ≤ s.size → ∃ k r, lex_word.l0 k s i = some r ∧ (r == (s.size : Int)) = allW s n i
  | 0, i, hn, hi => ⟨1, i, by rw [lex_word.l0, if_neg (by omega)], by
      have : i = s.size := by omega
      simp [this, allW]⟩
  | n + 1, i, hn, hi => by
    obtain ⟨k, r, h1, h2⟩ := word_l0 s hs n (i + 1) (by omega) (by omega)
    have hw : wrap64 ((i : Int) + 1) = ((i + 1 : Nat) : Int) := by rw [← i64_w, IntWalk.i64_in _ (by omega)]; omega
    cases hl : (decide (97 ≤ bt s i) && decide (bt s i ≤ 122)) with
    | true =>
      refine ⟨k + 1, r, ?_, ?_⟩
      · rw [lex_word.l0, if_pos (by omega), if_pos (by omega), letter_is, hl]
        rw [hw]; exact h1
      · rw [h2, allW, inWord, hl]; rfl
    | false =>
      cases hd : (decide (48 ≤ bt s i) && decide (bt s i ≤ 57)) with
      | true =>
        refine ⟨k + 1, r, ?_, ?_⟩
        · rw [lex_word.l0, if_pos (by omega), if_pos (by omega), letter_is, hl]
          show ((lex_digit.f (bt s i)).bind _) = _
          rw [digit_is, hd, hw]; exact h1
        · rw [h2, allW, inWord, hl, hd]; rfl
      | false =>
        by_cases hu : bt s i = 95
        · refine ⟨k + 1, r, ?_, ?_⟩
          · rw [lex_word.l0, if_pos (by omega), if_pos (by omega), letter_is, hl]
            show ((lex_digit.f (bt s i)).bind _) = _
            rw [digit_is, hd, hw]
            show (if bt s i = 95 then _ else _) = _
            rw [if_pos hu]; exact h1
          · rw [h2, allW, inWord, hl, hd, decide_eq_true hu]; rfl
        · refine ⟨k + 1, i, ?_, ?_⟩
          · rw [lex_word.l0, if_pos (by omega), if_pos (by omega), letter_is, hl]
            show ((lex_digit.f (bt s i)).bind _) = _
            rw [digit_is, hd]
            show (if bt s i = 95 then _ else _) = _
            rw [if_neg hu]
          · rw [allW, inWord, hl, hd, decide_eq_false hu]
            simp
            omega
theorem word_ok (s : ByteArray) (h0 : 0 < s.size) (hs : s.size ≤ 24) : ∃ k r, lex_word.f k s 0 = some r ∧ (r == (s.size : Int)) = wordB s := by
  obtain ⟨k, r, h1, h2⟩ := word_l0 s hs s.size 0 rfl (Nat.zero_le _)
  cases hl : (decide (97 ≤ bt s 0) && decide (bt s 0 ≤ 122)) with
  | true =>
    refine ⟨k + 1, r, ?_, by rw [h2, wordB, hl]; rfl⟩
    rw [lex_word.f, if_neg (by omega), if_pos (by omega), if_pos (by omega), letter_is, hl]
    exact h1
  | false =>
    refine ⟨k + 1, 0, ?_, ?_⟩
    · rw [lex_word.f, if_neg (by omega), if_pos (by omega), if_pos (by omega), letter_is, hl]
      rfl
    · rw [wordB, hl]
      simp
      omega
theorem word_is (w : World) (s : ByteArray) (h0 : 0 < s.size) (hs : s.size ≤ 24) : ∃ r, (r == (s.size : Int)) = wordB s ∧ Calls Tryd.prog 73 #[.string s, .int .i64 0] w fun e w' => e = .returned (.int .i64 r) ∧ Drawn0 w w' := by
  obtain ⟨k, r, h1, h2⟩ := word_ok s h0 hs
  exact ⟨r, h2, lex_word.calls k s 0 r w h1⟩
theorem key_is (w : World) (s : ByteArray) (h : Laid w) : Calls Tryd.prog 74 #[.string s] w fun e w' => e = .returned (.bool (inL keysL s)) ∧ Drawn0 w w' := by
  have HK := Lib.hid (contains_is w (some ⟨2, 0, none⟩) 19 keysL s (row_str (by decide) h.keys) (by decide) (by decide))
  have hl : keysL.length = 19 := rfl
  rw [hl] at HK
  clear h hl
  go_enter Tryd.func74, Tryd.ntmps74
  go_wp2_with (go_at_call 67; refine HK.out.mono ?_; rintro _ w1 ⟨rfl, hd⟩; have HD := Lib.hid hd; clear hd)
  go_ret
  exact ⟨rfl, HD.out⟩
def nameB (s : ByteArray) : Bool := decide (0 < s.size) && decide (s.size ≤ 24) && wordB s && !inL keysL s
theorem str_len (s : ByteArray) : s.toList.length = s.size := by rw [ByteArray.toList_eq, Array.length_toList]; rfl
theorem str_pos {s : ByteArray} (h : 0 < s.size) : s.toList.isEmpty = false ∧ s.toList ≠ [] := by
  have := str_len s
  cases hs : s.toList with
  | nil => rw [hs] at this; simp at this; omega
  | cons a l => exact ⟨rfl, by simp⟩
theorem str_zero {s : ByteArray} (h : s.size = 0) : s.toList = [] := by
  have := str_len s
  exact List.eq_nil_of_length_eq_zero (by omega)
theorem name_is (w : World) (s : ByteArray) (h : Laid w) : Calls Tryd.prog 68 #[.string s] w fun e w' => e = .returned (.bool (nameB s)) ∧ Drawn0 w w' := by
  by_cases h0 : 0 < s.size
  · obtain ⟨he, hn⟩ := str_pos h0
    by_cases h1 : s.size ≤ 24
    · obtain ⟨r, hr, hw⟩ := word_is w s h0 h1
      have HW := Lib.hid hw
      have HL := Lib.hid h
      have h1' : (s.size : Int) ≤ 24 := by omega
      have HV := Lib.hid (show nameB s = (wordB s && !inL keysL s) by unfold nameB; rw [decide_eq_true h0, decide_eq_true h1]; rfl)
      clear hw h
      cases hb : wordB s with
      | true =>
        rw [hb] at hr
        go_enter Tryd.func68, Tryd.ntmps68
        go_wp2_with (first | (go_at_call 73; refine HW.out.mono ?_; rintro _ w1 ⟨rfl, ⟨m, rfl⟩⟩) | (go_at_call 74; refine (key_is _ s (HL.out.drewN m)).mono ?_; rintro _ w2 ⟨rfl, ⟨m2, rfl⟩⟩))
        go_ret
        exact ⟨by rw [HV.out, hb]; rfl, ⟨_, rfl⟩⟩
      | false =>
        rw [hb] at hr
        go_enter Tryd.func68, Tryd.ntmps68
        go_wp2_with (first | (go_at_call 73; refine HW.out.mono ?_; rintro _ w1 ⟨rfl, ⟨m, rfl⟩⟩))
        go_ret
        exact ⟨by rw [HV.out, hb]; rfl, ⟨_, rfl⟩⟩
    · have h1' : ¬ (s.size : Int) ≤ 24 := by omega
      have HV := Lib.hid (show nameB s = false by unfold nameB; rw [decide_eq_false h1]; simp)
      clear h h1
      go_enter Tryd.func68, Tryd.ntmps68
      go_wp2_with fail
      go_ret
      exact ⟨by rw [HV.out]; rfl, ⟨0, rfl⟩⟩
  · have he := str_zero (s := s) (by omega)
    have HV := Lib.hid (show nameB s = false by unfold nameB; rw [decide_eq_false h0]; rfl)
    clear h h0
    go_enter Tryd.func68, Tryd.ntmps68
    go_wp2_with fail
    go_ret
    exact ⟨by rw [HV.out]; rfl, ⟨0, rfl⟩⟩
def sortF (k : Int) : Int := if 0 ≤ k ∧ k < 12 then sortsL.getD k.toNat 0 else 0
theorem sort_is (w : World) (k : Int) (h : Laid w) : Calls Tryd.prog 63 #[.int .i64 k] w fun e w' => e = .returned (.int .i64 (sortF k)) ∧ Drawn0 w w' := by
  by_cases h0 : 0 ≤ k
  · by_cases h1 : k < 12
    · have hc := h.sorts k.toNat (by omega)
      have hg : (sortsL.map (Value.int .i64))[k.toNat]? = some (.int .i64 (sortF k)) := by
        unfold sortF
        rw [if_pos ⟨h0, h1⟩]
        have hk : k.toNat < sortsL.length := by show k.toNat < 12; omega
        rw [List.getElem?_map, List.getElem?_eq_getElem hk]
        simp [List.getD, List.getElem?_eq_getElem hk]
      rw [hg] at hc
      have h0' : ¬ k < 0 := by omega
      have h1' : ¬ 12 ≤ k := by omega
      clear h hg
      generalize sortF k = r at *
      go_enter Tryd.func63, Tryd.ntmps63
      go_wp2_with fail
      go_ret
      exact ⟨rfl, ⟨0, rfl⟩⟩
    · have h1' : 12 ≤ k := by omega
      have HV := Lib.hid (show sortF k = 0 by unfold sortF; rw [if_neg (fun h => h1 h.2)])
      clear h
      go_enter Tryd.func63, Tryd.ntmps63
      go_wp2_with fail
      go_ret
      exact ⟨by rw [HV.out]; rfl, ⟨0, rfl⟩⟩
  · have h0' : k < 0 := by omega
    have HV := Lib.hid (show sortF k = 0 by unfold sortF; rw [if_neg (fun h => h0 h.1)])
    clear h
    go_enter Tryd.func63, Tryd.ntmps63
    go_wp2_with fail
    go_ret
    exact ⟨by rw [HV.out]; rfl, ⟨0, rfl⟩⟩
def fitsB (k : Int) (s : ByteArray) : Bool :=
  if k = 1 ∨ k = 2 ∨ k = 8 then true else if k = 3 then inL valuesL s else if k = 4 ∨ k = 5 ∨ k = 9 then nameB s else decide (s.size = 0)
theorem fits_is (w : World) (k : Int) (s : ByteArray) (h : Laid w) : Calls Tryd.prog 64 #[.int .i64 k, .string s] w fun e w' => e = .returned (.bool (fitsB k s)) ∧ Drawn0 w w' := by
  have HL := Lib.hid h
  have HC := Lib.hid (contains_is w (some ⟨1, 0, none⟩) 10 valuesL s (row_str (by decide) h.values) (by decide) (by decide))
  rw [show valuesL.length = 10 from rfl] at HC
  clear h
  by_cases e1 : k = 1
  · subst e1
    go_enter Tryd.func64, Tryd.ntmps64
    go_wp2_with fail
    go_ret
    exact ⟨rfl, ⟨0, rfl⟩⟩
  by_cases e2 : k = 2
  · subst e2
    go_enter Tryd.func64, Tryd.ntmps64
    go_wp2_with fail
    go_ret
    exact ⟨rfl, ⟨0, rfl⟩⟩
  by_cases e8 : k = 8
  · subst e8
    go_enter Tryd.func64, Tryd.ntmps64
    go_wp2_with fail
    go_ret
    exact ⟨rfl, ⟨0, rfl⟩⟩
  by_cases e3 : k = 3
  · subst e3
    go_enter Tryd.func64, Tryd.ntmps64
    go_wp2_with (go_at_call 67; refine HC.out.mono ?_; rintro _ w1 ⟨rfl, hd⟩; have HD := Lib.hid hd; clear hd)
    go_ret
    exact ⟨rfl, HD.out⟩
  by_cases e4 : k = 4
  · subst e4
    go_enter Tryd.func64, Tryd.ntmps64
    go_wp2_with (go_at_call 68; refine (name_is _ s HL.out).mono ?_; rintro _ w1 ⟨rfl, hd⟩; have HD := Lib.hid hd; clear hd)
    go_ret
    exact ⟨rfl, HD.out⟩
  by_cases e5 : k = 5
  · subst e5
    go_enter Tryd.func64, Tryd.ntmps64
    go_wp2_with (go_at_call 68; refine (name_is _ s HL.out).mono ?_; rintro _ w1 ⟨rfl, hd⟩; have HD := Lib.hid hd; clear hd)
    go_ret
    exact ⟨rfl, HD.out⟩
  by_cases e9 : k = 9
  · subst e9
    go_enter Tryd.func64, Tryd.ntmps64
    go_wp2_with (go_at_call 68; refine (name_is _ s HL.out).mono ?_; rintro _ w1 ⟨rfl, hd⟩; have HD := Lib.hid hd; clear hd)
    go_ret
    exact ⟨rfl, HD.out⟩
  have HV := Lib.hid (show fitsB k s = decide (s.size = 0) by unfold fitsB; rw [if_neg (by omega), if_neg (by omega), if_neg (by omega)])
  have b1 : (k == 1) = false := by simpa using e1
  have b2 : (k == 2) = false := by simpa using e2
  have b3 : (k == 3) = false := by simpa using e3
  have b4 : (k == 4) = false := by simpa using e4
  have b5 : (k == 5) = false := by simpa using e5
  have b8 : (k == 8) = false := by simpa using e8
  have b9 : (k == 9) = false := by simpa using e9
  clear e1 e2 e3 e4 e5 e8 e9 HC HL
  by_cases h0 : 0 < s.size
  · obtain ⟨he, hn⟩ := str_pos h0
    have HZ := Lib.hid (show decide (s.size = 0) = false from decide_eq_false (by omega))
    clear h0
    go_enter Tryd.func64, Tryd.ntmps64
    go_wp2_with fail
    go_ret
    exact ⟨by rw [HV.out, HZ.out]; rfl, ⟨0, rfl⟩⟩
  · have he := str_zero (s := s) (by omega)
    have HZ := Lib.hid (show decide (s.size = 0) = true from decide_eq_true (by omega))
    clear h0
    go_enter Tryd.func64, Tryd.ntmps64
    go_wp2_with fail
    go_ret
    exact ⟨by rw [HV.out, HZ.out]; rfl, ⟨0, rfl⟩⟩
def partB (q n : Int) : Bool :=
  if q = 1 then n == 0 else if q = 2 then n == 0 || n == 1 else if q = 3 then n == 1 else if q = 4 then decide (1 ≤ n) else false
def wellB (c : S64) : Bool := partB (sortF c.f0) c.f1 && decide (c.f2.size ≤ 4096) && fitsB c.f0 c.f2
theorem well_any (w : World) (c : S64) (h : Laid w) : Calls Tryd.prog 60 #[.agg #[.int .i64 c.f0, .int .i64 c.f1, .string c.f2]] w fun e w' => e = .returned (.bool (wellB c)) ∧ Below w.heap.size w w' := by
  obtain ⟨k, n, s⟩ := c
  dsimp only
  have HL := Lib.hid h
  clear h
  go_enter Tryd.func60, Tryd.ntmps60
  go_wp2_with (first | (go_at_call 63; refine (sort_is _ k (HL.out.below ((Below.refl _ _).alloc (Nat.le_refl _) _))).mono ?_; rintro _ w1 ⟨rfl, ⟨m, rfl⟩⟩) | (go_at_call 64; refine (fits_is _ k s ((HL.out.below ((Below.refl _ _).alloc (Nat.le_refl _) _)).drewN m)).mono ?_; rintro _ w2 ⟨rfl, ⟨m2, rfl⟩⟩))
  all_goals
    go_ret
    refine ⟨?_, by repeat (first | exact Below.refl _ _ | apply pw_below_drewN | apply below_alloc)⟩
    refine congrArg Ending.returned (congrArg Value.bool ?_)
    first
      | (simp_all [wellB, partB]; done)
      | (simp_all [wellB, partB]; omega)
end Go.Proofs.YtchbammjcnhkiaaDoor.Ce
