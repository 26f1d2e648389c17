/- The order and what comes of it, as the document has it. -/
import Derived.Test.YtccjclmjoegibaaDoorFc
import Derived.Test.YtccjclmjoegibaaDoorRf
import Derived.Test.YtccjclmjoegibaaDoorRo
namespace Go.Proofs.YtccjclmjoegibaaDoor.Ce
open Go.RowKit Go.Maps Go.Proofs.YtccjclmjoegibaaDoor Go.Proofs.YtccjclmjoegibaaDoorW.PrintWords Go.Proofs.YtccjclmjoegibaaDoorW.PrintLast Go.Proofs.YtccjclmjoegibaaDoorW.PrintMore PCloserOrders Hp
attribute [local go_sem] max2_int min2_int max_two min_two max_three min_three max_four min_four
set_option linter.unusedVariables false
set_option linter.unusedSimpArgs false
set_option maxHeartbeats 4000000 in
set_option maxRecDepth 100000 in
theorem rClose_is (w : World) (U : Option Addr) (cu : Nat) (up : List Int) (A : Option Addr) (c : Nat) (l : List S33) (top : Int) (hu : Kd.C (Kd.int .i64) w U up.length up) (hcu : up.length ≤ cu) (hl : Kd.C k33 w A l.length l) (hc : l.length ≤ c) (hus : ∀ x ∈ l, x.f4.length ≤ 1048576) (ht : unS l [] l.length ≤ 1048576) :
    Calls Tryd.prog 25 #[.slice U up.length cu, .slice A l.length c, .int .i64 top] w fun e w' => ClosePost w up l top (orderE up l top) e w' := by
  have HO := Lib.hid (rOrder_is w U cu up A c l top hu hcu hl hc hus ht)
  have HL := Lib.hid (And.intro hl hc)
  obtain ⟨rr, hrr⟩ : ∃ rr, rr = orderE up l top := ⟨_, rfl⟩
  have HRR := Lib.hid hrr
  rw [← hrr]
  rw [← hrr] at HO
  clear hu hcu hl hc hus ht hrr
  by_cases h0 : rr = 0
  rotate_left
  · have h0b : (rr != 0) = true := by simpa using h0
    have HZ := Lib.hid h0
    clear h0
    go_enter Tryd.func25, Tryd.ntmps25
    go_wp2_with fail
    refine HO.out.mono ?_
    rintro _ w2 ⟨v2, o2, rfl, hr2, hb2, hz2, ho2⟩
    have HB2 := Lib.hid hb2
    clear hr2 hb2 hz2 ho2 HO
    go_wp2_with fail
    try go_quiet (fail)
    go_wp2_with fail
    go_ret3
    exact ⟨_, [], _, [], rfl, Kd.R_nil _ _ _ _ _, Kd.R_nil _ _ _ _ _, HB2.out, fun _ => ⟨rfl, rfl⟩, fun q => absurd q HZ.out⟩
  subst h0
  go_enter Tryd.func25, Tryd.ntmps25
  go_wp2_with fail
  refine HO.out.mono ?_
  rintro _ w2 ⟨v2, o2, rfl, hr2, hb2, -, ho2⟩
  have HCF := Lib.hid (closed_fails HRR.out.symm (ho2 rfl))
  have HCA := Lib.hid (ho2 rfl)
  obtain ⟨B2, d2, rfl⟩ := Kd.R_slice hr2
  have HR2 := Lib.hid hr2
  have HB2 := Lib.hid hb2
  have HFA := Lib.hid (rFails_is w2 A c l B2 d2 o2 (Kd.C_below HL.out.1 hb2) HL.out.2 (Kd.R_reads' hr2).2.2 (Kd.R_reads' hr2).2.1)
  clear hr2 hb2 ho2 HO
  go_wp2_with fail
  refine HFA.out.mono ?_
  rintro _ w3 ⟨v3, rfl, hr3, hb3⟩
  rw [HCF.out.1]
  have HR3 := Lib.hid (And.intro (Kd.R_lower hr3 HB2.out.size) (And.intro (Kd.R_below HR2.out hb3) (below_step HB2.out hb3)))
  clear hr3 hb3 HFA
  go_wp2_with fail
  try go_quiet (fail)
  go_wp2_with fail
  go_ret3
  exact ⟨_, o2, _, failsL l o2, rfl, HR3.out.2.1, HR3.out.1, HR3.out.2.2, fun q => absurd rfl q, fun _ => ⟨HCA.out, rfl⟩⟩
end Go.Proofs.YtccjclmjoegibaaDoor.Ce
