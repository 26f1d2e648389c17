/- The order and what comes of it: closer.Close, the document's Close; failures that are the same. -/
import Derived.Test.YtccjclmjoegibaaDoorFf
import Derived.Deep.QuietTactic
import Derived.BigQuiet
namespace Go.Proofs.YtccjclmjoegibaaDoor.Ce
open Go.RowKit Go.Maps Go.Proofs.YtccjclmjoegibaaDoor Go.Proofs.YtccjclmjoegibaaDoorW.PrintWords Go.Proofs.YtccjclmjoegibaaDoorW.PrintLast Go.Proofs.YtccjclmjoegibaaDoorW.PrintMore PCloserOrders Hp
attribute [local go_sem] max2_int min2_int max_two min_two max_three min_three max_four min_four
set_option linter.unusedVariables false
set_option linter.unusedSimpArgs false
theorem ClosedAs.facts {up : List Int} {l : List S33} {top : Int} {o : List Int} (C : ClosedAs up l top o) : o.Nodup ∧ ∀ x ∈ o, 0 ≤ x ∧ x < l.length := by
  obtain ⟨bs, outs, M, hB, hF, hL, rfl, hg⟩ := C.ex
  have hq : ∀ (t : Nat) (ht : t < outs.length), Hp.Good (aheadB l) (relP M) (allF l (bs[t]'(by omega)) l.length) outs[t] := fun t ht => hg t _ _ (List.getElem?_eq_getElem (by omega)) (List.getElem?_eq_getElem ht)
  refine ⟨List.pairwise_flatten.2 ⟨fun q hm => ?_, ?_⟩, fun x hx => ?_⟩
  · obtain ⟨t, ht, e⟩ := List.mem_iff_getElem.1 hm
    rw [← e]; exact (hq t ht).nodup
  · rw [List.pairwise_iff_getElem]
    intro i j hi hj hij x h1 y h2' e
    have h2 : x ∈ outs[j] := by rw [e]; exact h2'
    have a1 := (allF_mem l _ x _).1 (((hq i hi).mem x).1 h1)
    have a2 := (allF_mem l _ x _).1 (((hq j hj).mem x).1 h2)
    have h5 := List.pairwise_iff_getElem.1 hB.fall i j (by omega) (by omega) hij
    omega
  · obtain ⟨q, hm, hxq⟩ := List.mem_flatten.1 hx
    obtain ⟨t, ht, e⟩ := List.mem_iff_getElem.1 hm
    rw [← e] at hxq
    have a1 := (allF_mem l _ x _).1 (((hq t ht).mem x).1 hxq)
    omega
theorem parts_right (sc pa : Int) (l : List S33) : ∀ n i : Nat, i + n = l.length → partsB sc pa l n i = true → ∀ a : Int, (i : Int) ≤ a → a < l.length → rightB sc pa (rd_T33 l a) = true
  | 0, i, hi, h, a, h1, h2 => by omega
  | n + 1, i, hi, h, a, h1, h2 => by
    rw [partsB] at h
    simp only [Bool.and_eq_true] at h
    by_cases e : a = i
    · subst e; exact h.1
    · exact parts_right sc pa l n (i + 1) (by omega) h.2 a (by omega) h2
theorem check_right {up : List Int} {l : List S33} (h : checkE up l = 0) : ∀ a : Int, 0 ≤ a → a < l.length → badP (rd_T33 l a) = false := by
  unfold checkE at h
  by_cases h1 : scopesE up ≠ 0
  · rw [if_pos h1] at h; exact absurd h h1
  · rw [if_neg h1] at h
    by_cases h2 : l.length > 256
    · rw [if_pos h2] at h; exact absurd h (by decide)
    · rw [if_neg h2] at h
      by_cases h3 : partsB up.length l.length l l.length 0 = true
      · intro a a0 a1
        have := parts_right _ _ l l.length 0 (by omega) h3 a (by omega) a1
        unfold rightB at this
        simp only [Bool.and_eq_true] at this
        unfold badP
        rw [this.2.2.1, this.2.2.2.1]; rfl
      · rw [if_neg h3] at h; exact absurd h (by decide)
theorem order_check {up : List Int} {l : List S33} {top : Int} (h : orderE up l top = 0) : checkE up l = 0 := by
  unfold orderE at h
  by_cases h1 : checkE up l ≠ 0
  · rw [if_pos h1] at h; exact absurd h h1
  · exact Classical.not_not.1 h1
theorem closed_fails {up : List Int} {l : List S33} {top : Int} {o : List Int} (h : orderE up l top = 0) (C : ClosedAs up l top o) : failsE l o = 0 ∧ o.length ≤ 256 := by
  obtain ⟨u, hl⟩ := order_ok h
  obtain ⟨nd, hr⟩ := C.facts
  have hn : o.length ≤ 256 := by
    have := nodup_len o ((List.range l.length).map Int.ofNat) nd (fun x hx => by
      have := hr x hx
      exact List.mem_map.2 ⟨x.toNat, List.mem_range.2 (by omega), by show ((x.toNat : Nat) : Int) = x; omega⟩)
    simp at this
    omega
  refine ⟨(failsE_0 (by omega) ?_ ?_).1, hn⟩
  · rw [List.any_eq_false]
    intro x hx
    have := hr x hx
    unfold outB
    simp; omega
  · rw [List.any_eq_false]
    intro x hx
    have := hr x hx
    rw [check_right (order_check h) x this.1 this.2]; decide
/-- What is answered where a scope is closed. -/
def ClosePost (w : World) (up : List Int) (l : List S33) (top : Int) (rr : Int) (e : Ending) (w' : World) : Prop :=
  ∃ v o vf f, e = .returned (.tuple #[v, vf, .int .i64 rr]) ∧ Kd.R (Kd.int .i64) 3 w' w.heap.size (fun _ => True) v o ∧ Kd.R k49 49 w' w.heap.size (fun _ => True) vf f ∧ Below w.heap.size w w' ∧ (rr ≠ 0 → o = [] ∧ f = []) ∧ (rr = 0 → ClosedAs up l top o ∧ f = failsL l o)
set_option maxHeartbeats 4000000 in
set_option maxRecDepth 100000 in
theorem cClose_is (w : World) (U : Option Addr) (cu : Nat) (up : List Int) (A : Option Addr) (c : Nat) (l : List S33) (top : Int) (hla : LaidF w) (hu : Kd.C (Kd.int .i64) w U up.length up) (hcu : up.length ≤ cu) (hl : Kd.C k33 w A l.length l) (hc : l.length ≤ c) (hus : ∀ x ∈ l, x.f4.length ≤ 1048576) (ht : unS l [] l.length ≤ 1048576) :
    Calls Tryd.prog 24 #[.slice U up.length cu, .slice A l.length c, .int .i64 top] w fun e w' => ClosePost w up l top (orderE up l top) e w' := by
  have HO := Lib.hid (Order_is w U cu up A c l top hla.keys hu hcu hl hc hus ht)
  have HL := Lib.hid (And.intro hl hc)
  have HLA := Lib.hid hla
  obtain ⟨rr, hrr⟩ : ∃ rr, rr = orderE up l top := ⟨_, rfl⟩
  have HRR := Lib.hid hrr
  rw [← hrr]
  rw [← hrr] at HO
  clear hla hu hcu hl hc hus ht hrr
  by_cases h0 : rr = 0
  rotate_left
  · have h0b : (rr != 0) = true := by simpa using h0
    have HZ := Lib.hid h0
    clear h0
    go_enter Tryd.func24, Tryd.ntmps24
    go_wp2_with fail
    refine HO.out.mono ?_
    rintro _ w2 ⟨v2, o2, rfl, hr2, hb2, hz2, ho2⟩
    have HB2 := Lib.hid hb2
    clear hr2 hb2 hz2 ho2 HO
    go_wp2_with fail
    try go_quiet (fail)
    go_wp2_with fail
    go_ret3
    exact ⟨_, [], _, [], rfl, Kd.R_nil _ _ _ _ _, Kd.R_nil _ _ _ _ _, HB2.out, fun _ => ⟨rfl, rfl⟩, fun q => absurd q HZ.out⟩
  subst h0
  go_enter Tryd.func24, Tryd.ntmps24
  go_wp2_with fail
  refine HO.out.mono ?_
  rintro _ w2 ⟨v2, o2, rfl, hr2, hb2, -, ho2⟩
  have HCF := Lib.hid (closed_fails HRR.out.symm (ho2 rfl))
  have HCA := Lib.hid (ho2 rfl)
  obtain ⟨B2, d2, rfl⟩ := Kd.R_slice hr2
  have HR2 := Lib.hid hr2
  have HB2 := Lib.hid hb2
  have HFA := Lib.hid (cFails_is w2 A c l B2 d2 o2 (HLA.out.below hb2) (Kd.C_below HL.out.1 hb2) HL.out.2 (Kd.R_reads' hr2).2.2 (Kd.R_reads' hr2).2.1)
  clear hr2 hb2 ho2 HO
  go_wp2_with fail
  refine HFA.out.mono ?_
  rintro _ w3 ⟨v3, rfl, hr3, hb3⟩
  rw [HCF.out.1]
  have HR3 := Lib.hid (And.intro (Kd.R_lower hr3 HB2.out.size) (And.intro (Kd.R_below HR2.out hb3) (below_step HB2.out hb3)))
  clear hr3 hb3 HFA
  go_wp2_with fail
  try go_quiet (fail)
  go_wp2_with fail
  go_ret3
  exact ⟨_, o2, _, failsL l o2, rfl, HR3.out.2.1, HR3.out.1, HR3.out.2.2, fun q => absurd rfl q, fun _ => ⟨HCA.out, rfl⟩⟩
set_option maxHeartbeats 4000000 in
set_option maxRecDepth 100000 in
theorem sameFail_is (w : World) (A B : Option Addr) (c d : Nat) (l : List S49) (ha : Kd.C k49 w A l.length l) (hb : Kd.C k49 w B l.length l) (hn : l.length ≤ 1048576) :
    Calls Tryd.prog 23 #[.slice A l.length c, .slice B l.length d] w fun e w' => e = .returned (.bool true) ∧ ∃ n, w' = w.drewN n := by
  have HA := Lib.hid ha
  have HB := Lib.hid hb
  have HN := Lib.hid hn
  clear ha hb hn
  go_enter Tryd.func23, Tryd.ntmps23
  go_wp2_with fail
  go_loopg [5] l.length (fun gk v5 wr => ∃ i : Nat, v5 = .int .i64 i ∧ gk = l.length - i ∧ Hid (i ≤ l.length) ∧ Hid (∃ n, wr = w.drewN n))
  case atStart => exact ⟨0, rfl, by simp, Lib.hid (Nat.zero_le _), Lib.hid ⟨0, rfl⟩⟩
  case round =>
    obtain ⟨i, rfl, rfl, HI, HW⟩ := hrel
    by_cases hlt : i < l.length
    rotate_left
    · have hlt' : ¬ (i : Int) < (l.length : Int) := by omega
      clear hlt
      go_wp2_with fail
      go_ret
      exact ⟨rfl, HW.out⟩
    have hlt' : (i : Int) < (l.length : Int) := by omega
    have hwi : wrap64 ((i : Int) + 1) = ((i + 1 : Nat) : Int) := wsucc i (by have := HN.out; omega)
    have HLI := Lib.hid hlt
    obtain ⟨n, hwn⟩ := HW.out
    have hA2 := Kd.C_below HA.out (pw_below_drewN (Below.refl w.heap.size w) n)
    have hB2 := Kd.C_below HB.out (pw_below_drewN (Below.refl w.heap.size w) n)
    rw [← hwn] at hA2 hB2
    have HWN := Lib.hid hwn
    obtain ⟨ad, rfl, p0, p1, p2⟩ := at_T49 hA2 (i : Int) (by omega) hlt'
    obtain ⟨bd, rfl, q0, q1, q2⟩ := at_T49 hB2 (i : Int) (by omega) hlt'
    rw [Int.toNat_natCast] at p0 p1 p2 q0 q1 q2
    have i0 : (0 : Int) ≤ (i : Int) := Int.natCast_nonneg i
    generalize rd_T49 l (i : Int) = x at *
    clear hlt hA2 hB2 hwn HW
    go_wp2_with fail
    go_quiet (fail)
    go_wp2_with fail
    go_roundg (l.length - (i + 1))
    case measure => exact Nat.sub_lt_sub_left HLI.out (Nat.lt_succ_self _)
    case rel => exact ⟨i + 1, by first | rfl | rw [hwi], rfl, Lib.hid HLI.out, Lib.hid ⟨_, by rw [HWN.out, World.drewN_drewN]⟩⟩
end Go.Proofs.YtccjclmjoegibaaDoor.Ce
