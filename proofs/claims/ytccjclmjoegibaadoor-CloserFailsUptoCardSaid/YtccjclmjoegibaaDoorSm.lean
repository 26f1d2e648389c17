/- Copies of parts; whether parts are the same: the walk where they are. -/
import Derived.Test.YtccjclmjoegibaaDoorGu
import Derived.Test.YtccjclmjoegibaaDoorQs
import Derived.Test.YtccjclmjoegibaaDoorOc
import Derived.Deep.QuietTactic
import Derived.BigQuiet
namespace Go.Proofs.YtccjclmjoegibaaDoor.Ce
open Go.RowKit Go.Maps Go.Proofs.YtccjclmjoegibaaDoor Go.Proofs.YtccjclmjoegibaaDoorW.PrintWords Go.Proofs.YtccjclmjoegibaaDoorW.PrintLast Go.Proofs.YtccjclmjoegibaaDoorW.PrintMore PCloserOrders Hp
attribute [local go_sem] max2_int min2_int max_two min_two max_three min_three max_four min_four
set_option linter.unusedVariables false
set_option linter.unusedSimpArgs false
theorem copied_l0 (l : List S33) (hl : l.length ≤ 1048576) (hus : ∀ x ∈ l, x.f4.length ≤ 1048576) : ∀ n i k : Nat, n = l.length - i → i ≤ l.length → n < k → onceweblaw19_copied.l0 k l (l.take i) (i : Int) = some l
  | 0, i, k + 1, hn, hi, hk => by rw [onceweblaw19_copied.l0, if_neg (by omega), List.take_of_length_le (by omega)]
  | n + 1, i, k + 1, hn, hi, hk => by
    have hw := wsucc i (by omega)
    have ih := copied_l0 l hl hus n (i + 1) k (by omega) (by omega) (by omega)
    have hlt : i < l.length := by omega
    have hx : rd_T33 l (i : Int) = l[i] := by
      unfold rd_T33
      rw [Int.toNat_natCast, List.getD_eq_getElem?_getD, List.getElem?_eq_getElem hlt]; rfl
    have hm := hus l[i] (List.getElem_mem hlt)
    rw [onceweblaw19_copied.l0, if_pos (by omega), if_pos (by omega), hx]
    have hc : oncewebbase_CopyInts.f l[i].f4 = some l[i].f4 := by
      unfold oncewebbase_CopyInts.f
      simp only [Option.bind_some]
      rw [if_pos (by simp; omega)]; rfl
    rw [hc]
    simp only [Option.bind_some]
    rw [if_pos (by rw [List.length_take]; omega), hw]
    have ht : l.take (i + 1) = l.take i ++ [l[i]] := by rw [List.take_add_one, List.getElem?_eq_getElem hlt]; rfl
    rw [ht] at ih
    exact ih
theorem copied_is (w : World) (A : Option Addr) (c : Nat) (l : List S33) (hl : Kd.C k33 w A l.length l) (hc : l.length ≤ c) (hn : l.length ≤ 1048576) (hus : ∀ x ∈ l, x.f4.length ≤ 1048576) :
    Calls Tryd.prog 13 #[.slice A l.length c] w fun e w' => ∃ v, e = .returned v ∧ Kd.R k33 33 w' w.heap.size (fun _ => True) v l ∧ Below w.heap.size w w' :=
  (onceweblaw19_copied.calls (l.length + 1) A c l l w hl hc (by have := copied_l0 l hn hus l.length 0 (l.length + 1) rfl (Nat.zero_le _) (Nat.lt_succ_self _); exact this)).mono (fun e w' ⟨v, h1, h2, h3⟩ => ⟨v, h1, Kd.S_R h2, h3⟩)
theorem copyInts_is (w : World) (A : Option Addr) (c : Nat) (l : List Int) (hl : Kd.C (Kd.int .i64) w A l.length l) (hc : l.length ≤ c) (hn : l.length ≤ 1048576) :
    Calls Tryd.prog 12 #[.slice A l.length c] w fun e w' => ∃ v, e = .returned v ∧ Kd.R (Kd.int .i64) 3 w' w.heap.size (fun _ => True) v l ∧ Below w.heap.size w w' :=
  oncewebbase_CopyInts.calls A c l l w hl hc (by
    unfold oncewebbase_CopyInts.f
    simp only [Option.bind_some]
    rw [if_pos (by simp; omega)]; rfl)
set_option maxHeartbeats 4000000 in
set_option maxRecDepth 100000 in
theorem samep_is (w : World) (A B : Option Addr) (c d : Nat) (l : List S33) (ha : Kd.C k33 w A l.length l) (hb : Kd.C k33 w B l.length l) (hn : l.length ≤ 1048576) (hus : ∀ x ∈ l, x.f4.length ≤ 1000000000) :
    Calls Tryd.prog 20 #[.slice A l.length c, .slice B l.length d] w fun e w' => e = .returned (.bool true) ∧ ∃ n, w' = w.drewN n := by
  have HA := Lib.hid ha
  have HB := Lib.hid hb
  have HN := Lib.hid hn
  have HUS := Lib.hid hus
  clear ha hb hn hus
  go_enter Tryd.func20, Tryd.ntmps20
  go_wp2_with fail
  go_loopg [5] l.length (fun gk v5 wr => ∃ i : Nat, v5 = .int .i64 i ∧ gk = l.length - i ∧ Hid (i ≤ l.length) ∧ Hid (∃ n, wr = w.drewN n))
  case atStart => exact ⟨0, rfl, by simp, Lib.hid (Nat.zero_le _), Lib.hid ⟨0, rfl⟩⟩
  case round =>
    obtain ⟨i, rfl, rfl, HI, HW⟩ := hrel
    by_cases hlt : i < l.length
    rotate_left
    · have hlt' : ¬ (i : Int) < (l.length : Int) := by omega
      clear hlt
      go_wp2_with fail
      go_ret
      exact ⟨rfl, HW.out⟩
    have hlt' : (i : Int) < (l.length : Int) := by omega
    have hwi : wrap64 ((i : Int) + 1) = ((i + 1 : Nat) : Int) := wsucc i (by have := HN.out; omega)
    have HLI := Lib.hid hlt
    obtain ⟨n, hwn⟩ := HW.out
    have hA2 := Kd.C_below HA.out (pw_below_drewN (Below.refl w.heap.size w) n)
    have hB2 := Kd.C_below HB.out (pw_below_drewN (Below.refl w.heap.size w) n)
    rw [← hwn] at hA2 hB2
    have HWN := Lib.hid hwn
    obtain ⟨ad, A4, c4, rfl, p0, p1, p2, p3, p4, p5, p6, p7, p8⟩ := part_at hA2 i hlt
    obtain ⟨bd, A5, c5, rfl, q0, q1, q2, q3, q4, q5, q6, q7, q8⟩ := part_at hB2 i hlt
    have i0 : (0 : Int) ≤ (i : Int) := Int.natCast_nonneg i
    have HX := Lib.hid (HUS.out (rd_T33 l (i : Int)) (by
      unfold rd_T33
      rw [Int.toNat_natCast, List.getD_eq_getElem?_getD, List.getElem?_eq_getElem hlt]
      exact List.getElem_mem _))
    generalize rd_T33 l (i : Int) = x at *
    have HSM := Lib.hid (fun (m : Nat) => (same_is (wr.drewN m) A4 A5 c4 c5 x.f4 x.f4 (Kd.C_below p8 (pw_below_drewN (Below.refl wr.heap.size wr) m)) p7 (Kd.C_below q8 (pw_below_drewN (Below.refl wr.heap.size wr) m)) q7 HX.out).mono (fun (e : Ending) w' h => show e = .returned (.bool true) ∧ ∃ k, w' = (wr.drewN m).drewN k from ⟨h.1.trans (by simp), h.2.out⟩))
    clear hlt p7 p8 q7 q8 hA2 hB2 hwn HW
    go_wp2_with fail
    go_quiet (((go_at_call 18; exact Calls.quiet_of (HSM.out _))))
    go_wp2_with fail
    go_roundg (l.length - (i + 1))
    case measure => exact Nat.sub_lt_sub_left HLI.out (Nat.lt_succ_self _)
    case rel => exact ⟨i + 1, by first | rfl | rw [hwi], rfl, Lib.hid HLI.out, Lib.hid ⟨_, by rw [HWN.out, World.drewN_drewN]⟩⟩
section
open Go.Deep Go.ChangeShapes Go.WideShapes Go.Joins
variable {H : Type} {enc : TypeId × Value → H} {w : World} {base b0 : Nat} {spare : Nat → Bool} {held : Bool} {r : Reach} {v : Value} {d0 : DataW H} {p : List MemPlace}
theorem cost_len (l : List S33) : l.length ≤ (l.map partCost).sum := by
  induction l with
  | nil => simp
  | cons a l ih => simp only [List.map_cons, List.sum_cons, partCost, List.length_cons] at ih ⊢; omega
/-- The parts, opened under the bound; how many they are. -/
theorem open_parts2 (hv : Value.okWide Tryd.prog w r b0 23 v) (h : DataW.Trod enc Tryd.prog w base spare held 23 v d0 p) (hb : Rows.uptoBulk d0 ≤ 1048576) :
    ∃ (A : Option Addr) (l : List S33) (c : Nat), v = .slice A l.length c ∧ l.length ≤ c ∧ Kd.C k33 w A l.length l ∧ (∀ x ∈ l, x.f4.length ≤ 1048576) ∧ unS l [] l.length ≤ 1048576 ∧ l.length ≤ 1048576 := by
  obtain ⟨a, len, cap, rfl⟩ := okWide_slice Tryd.underlying23 hv
  obtain ⟨fuel, hf⟩ := h
  obtain ⟨A, l, c, hcs, hc, hr, hs⟩ := open_bulk k33 partCost Tryd.underlying23 (by kernel_rfl) dec_part hf
  simp [Value.cells] at hcs
  obtain ⟨rfl, rfl, rfl⟩ := hcs
  have hs' : (l.map partCost).sum + 1 ≤ 1048576 := Nat.le_trans hs hb
  refine ⟨_, l, _, rfl, hc, hr, fun x hx => ?_, ?_, ?_⟩
  · have := cost_mem hx; omega
  · rw [sum_unS l l.length (Nat.le_refl _), List.take_length]
    have := cost_le l
    omega
  · have := cost_len l; omega
end
end Go.Proofs.YtccjclmjoegibaaDoor.Ce
