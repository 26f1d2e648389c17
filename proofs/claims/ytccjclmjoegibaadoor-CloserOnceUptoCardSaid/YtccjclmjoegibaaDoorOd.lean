/- What is closed, in order: the walk of closer.Order. -/
import Derived.Test.YtccjclmjoegibaaDoorRv
namespace Go.Proofs.YtccjclmjoegibaaDoor.Ce
open Go.RowKit Go.Maps Go.Proofs.YtccjclmjoegibaaDoor Go.Proofs.YtccjclmjoegibaaDoorW.PrintWords Go.Proofs.YtccjclmjoegibaaDoorW.PrintLast Go.Proofs.YtccjclmjoegibaaDoorW.PrintMore PCloserOrders Hp
attribute [local go_sem] max2_int min2_int max_two min_two max_three min_three max_four min_four
set_option linter.unusedVariables false
set_option linter.unusedSimpArgs false
theorem rd_L6_nat (M : List (List Bool)) (a : Int) : rd_L6 M a = rd_L6 M (a.toNat : Int) := rfl
theorem rdOf_nat (r : List Bool) (a : Int) : rdOf false r a = rdOf false r (a.toNat : Int) := rfl
theorem Found.rch {l : List S33} {M : List (List Bool)} (F : Found l M) (a b : Int) (h : rdOf false (rd_L6 M a) b = true) : Rch l (a.toNat : Int) (b.toNat : Int) := by
  rw [rd_L6_nat, rdOf_nat] at h
  have ha : a.toNat < l.length := by
    rcases Nat.lt_or_ge a.toNat l.length with q | q
    · exact q
    · have : rd_L6 M (a.toNat : Int) = [] := by
        unfold rd_L6
        rw [Int.toNat_natCast, List.getD_eq_getElem?_getD, List.getElem?_eq_none (by rw [F.len]; exact q)]
        rfl
      rw [this] at h
      exact absurd h (by simp [rdOf])
  have hr := F.rows (a.toNat : Int) (by omega) (by omega)
  have hb : b.toNat < l.length := by
    rcases Nat.lt_or_ge b.toNat l.length with q | q
    · exact q
    · have : rdOf false (rd_L6 M (a.toNat : Int)) (b.toNat : Int) = false := by
        unfold rdOf
        rw [Int.toNat_natCast, List.getD_eq_getElem?_getD, List.getElem?_eq_none (by omega)]
        rfl
      rw [this] at h
      exact absurd h (by decide)
  exact (F.is _ _ (by omega) (by omega) (by omega) (by omega)).1 h
theorem Found.of {l : List S33} {M : List (List Bool)} (V : Valid l) (F : Found l M) (a b : Int) (a1 : a.toNat < l.length) (h : Rch l (a.toNat : Int) (b.toNat : Int)) : rdOf false (rd_L6 M a) b = true := by
  rw [rd_L6_nat, rdOf_nat]
  have := h.rng V (by omega) (by omega)
  exact (F.is _ _ (by omega) (by omega) (by omega) (by omega)).2 h
theorem Found.lt {l : List S33} {M : List (List Bool)} (F : Found l M) (a b : Int) (h : rdOf false (rd_L6 M a) b = true) : a.toNat < l.length := by
  rcases Nat.lt_or_ge a.toNat l.length with q | q
  · exact q
  · have : rd_L6 M a = [] := by
      unfold rd_L6
      rw [List.getD_eq_getElem?_getD, List.getElem?_eq_none (by rw [F.len]; exact q)]
      rfl
    rw [this] at h
    exact absurd h (by simp [rdOf])
theorem Found.acyc {l : List S33} {M : List (List Bool)} (V : Valid l) (F : Found l M) : Acyc (relP M) := by
  refine ⟨fun a => by unfold relP; cases rdOf false (rd_L6 M a) a <;> rfl, fun a b c h1 h2 => ?_⟩
  unfold relP at h1 h2 ⊢
  simp only [Bool.and_eq_true, Bool.not_eq_true'] at h1 h2 ⊢
  have r1 := F.rch a b h1.1
  have r2 := F.rch b c h2.1
  refine ⟨F.of V a c (F.lt a b h1.1) (r1.trans r2), ?_⟩
  cases h : rdOf false (rd_L6 M c) a with
  | false => rfl
  | true =>
    have r3 := F.rch c a h
    have := F.of V c b (F.lt c a h) (r3.trans r1)
    rw [h2.2] at this
    exact absurd this (by decide)
/-- What is closed, in order: scope by scope. -/
structure ClosedAs (up : List Int) (l : List S33) (top : Int) (o : List Int) : Prop where
  ex : ∃ (bs : List Int) (outs : List (List Int)) (M : List (List Bool)), Ben up top bs ∧ Found l M ∧ outs.length = bs.length ∧ o = outs.flatten ∧ ∀ (j : Nat) b q, bs[j]? = some b → outs[j]? = some q → Hp.Good (aheadB l) (relP M) (allF l b l.length) q
def orderE (up : List Int) (l : List S33) (top : Int) : Int := if checkE up l ≠ 0 then checkE up l else if top < 0 ∨ top ≥ up.length then 1 else 0
theorem parts_valid (sc : Int) (l : List S33) : ∀ n i : Nat, i + n = l.length → partsB sc l.length l n i = true → ∀ a : Int, (i : Int) ≤ a → a < l.length → ∀ x ∈ usesOf l a, 0 ≤ x ∧ x < l.length
  | 0, i, hi, h, a, h1, h2, x, hx => by omega
  | n + 1, i, hi, h, a, h1, h2, x, hx => by
    rw [partsB] at h
    simp only [Bool.and_eq_true] at h
    by_cases e : a = i
    · subst e
      have h3 := h.1
      unfold rightB at h3
      simp only [Bool.and_eq_true, Bool.not_eq_true'] at h3
      have h4 := h3.2.2.2.2.2
      rw [List.any_eq_false] at h4
      have h5 := h4 x hx
      unfold outB at h5
      simp at h5
      omega
    · exact parts_valid sc l n (i + 1) (by omega) h.2 a (by omega) h2 x hx
theorem check_ok (up : List Int) (l : List S33) (h : checkE up l = 0) : UpOk up ∧ up.length ≤ 32 ∧ l.length ≤ 256 ∧ Valid l := by
  unfold checkE at h
  by_cases h1 : scopesE up ≠ 0
  · rw [if_pos h1] at h; exact absurd h h1
  · rw [if_neg h1] at h
    have h0 : scopesE up = 0 := Classical.not_not.1 h1
    obtain ⟨u1, u2⟩ := scopes_ok up h0
    by_cases h2 : l.length > 256
    · rw [if_pos h2] at h; exact absurd h (by decide)
    · rw [if_neg h2] at h
      by_cases h3 : partsB up.length l.length l l.length 0 = true
      · exact ⟨u1, u2, by omega, fun a a0 a1 x hx => parts_valid up.length l l.length 0 (by omega) h3 a (by omega) a1 x hx⟩
      · rw [if_neg h3] at h; exact absurd h (by decide)
theorem Good.len {lt P : Int → Int → Bool} {all out : List Int} (G : Hp.Good lt P all out) : out.length ≤ all.length := nodup_len _ _ G.nodup (fun x hx => (G.mem x).1 hx)
theorem flat_len : ∀ (outs : List (List Int)), (∀ q ∈ outs, q.length ≤ 256) → outs.flatten.length ≤ 256 * outs.length
  | [], _ => by simp
  | q :: r, h => by
    have := flat_len r (fun x hx => h x (List.mem_cons_of_mem _ hx))
    have := h q List.mem_cons_self
    simp only [List.flatten_cons, List.length_append, List.length_cons]
    omega
def OrdPost (w : World) (up : List Int) (l : List S33) (top : Int) (rr : Int) (e : Ending) (w' : World) : Prop :=
  ∃ v o, e = .returned (.tuple #[v, .int .i64 rr]) ∧ Kd.R (Kd.int .i64) 3 w' w.heap.size (fun _ => True) v o ∧ Below w.heap.size w w' ∧ (rr ≠ 0 → v = .slice none 0 0 ∧ o = []) ∧ (rr = 0 → ClosedAs up l top o)
set_option maxHeartbeats 8000000 in
set_option maxRecDepth 100000 in
theorem Order_is (w : World) (U : Option Addr) (cu : Nat) (up : List Int) (A : Option Addr) (c : Nat) (l : List S33) (top : Int) (hla : Laid w) (hu : Kd.C (Kd.int .i64) w U up.length up) (hcu : up.length ≤ cu) (hl : Kd.C k33 w A l.length l) (hc : l.length ≤ c) (hus : ∀ x ∈ l, x.f4.length ≤ 1048576) (ht : unS l [] l.length ≤ 1048576) :
    Calls Tryd.prog 9 #[.slice U up.length cu, .slice A l.length c, .int .i64 top] w fun e w' => OrdPost w up l top (orderE up l top) e w' := by
  have HCK := Lib.hid (check_is w U cu up A c l hla hu hcu hl hc hus)
  have HU := Lib.hid (And.intro hu hcu)
  have HL := Lib.hid (And.intro hl hc)
  have HT := Lib.hid ht
  obtain ⟨rr, hrr⟩ : ∃ rr, rr = orderE up l top := ⟨_, rfl⟩
  have HRR := Lib.hid hrr
  rw [← hrr]
  obtain ⟨ce, hce⟩ : ∃ ce, ce = checkE up l := ⟨_, rfl⟩
  have HCE := Lib.hid hce
  rw [← hce] at HCK
  clear hla hu hcu hl hc hus ht hrr hce
  by_cases h0 : ce = 0
  rotate_left
  · have h0b : (ce != 0) = true := by simpa using h0
    have HD := Lib.hid (show rr = ce by rw [HRR.out, orderE, ← HCE.out, if_pos h0])
    have HNZ := Lib.hid h0
    clear h0
    go_enter Tryd.func9, Tryd.ntmps9
    go_wp2_with fail
    refine HCK.out.mono ?_
    rintro _ w2 ⟨rfl, hb2⟩
    have HB2 := Lib.hid hb2
    clear hb2
    go_wp2_with fail
    try go_quiet (fail)
    go_wp2_with fail
    go_ret2
    exact ⟨_, [], by rw [HD.out]; rfl, Kd.R_nil _ _ _ _ _, HB2.out, fun _ => ⟨rfl, rfl⟩, fun q => absurd (HD.out.symm.trans q) HNZ.out⟩
  subst h0
  have HV := Lib.hid (check_ok up l HCE.out.symm)
  by_cases h1 : top < 0 ∨ top ≥ up.length
  · have HD := Lib.hid (show rr = 1 by rw [HRR.out, orderE, ← HCE.out, if_neg (by simp), if_pos h1])
    go_enter Tryd.func9, Tryd.ntmps9
    go_wp2_with fail
    refine HCK.out.mono ?_
    rintro _ w2 ⟨rfl, hb2⟩
    have HB2 := Lib.hid hb2
    clear hb2
    by_cases h2 : top < 0
    · go_wp2_with fail
      go_ret2
      exact ⟨_, [], by rw [HD.out]; rfl, Kd.R_nil _ _ _ _ _, HB2.out, fun _ => ⟨rfl, rfl⟩, fun q => by rw [HD.out] at q; exact absurd q (by decide)⟩
    · have h3 : top ≥ (up.length : Int) := h1.elim (fun q => absurd q h2) id
      clear h1
      go_wp2_with fail
      go_ret2
      exact ⟨_, [], by rw [HD.out]; rfl, Kd.R_nil _ _ _ _ _, HB2.out, fun _ => ⟨rfl, rfl⟩, fun q => by rw [HD.out] at q; exact absurd q (by decide)⟩
  have HD := Lib.hid (show rr = 0 by rw [HRR.out, orderE, ← HCE.out, if_neg (by simp), if_neg h1])
  have h2 : ¬ top < 0 := fun q => h1 (.inl q)
  have h3 : ¬ top ≥ (up.length : Int) := fun q => h1 (.inr q)
  have HTOP := Lib.hid (show 0 ≤ top by omega)
  clear h1 HRR HCE
  go_enter Tryd.func9, Tryd.ntmps9
  go_wp2_with fail
  refine HCK.out.mono ?_
  rintro _ w2 ⟨rfl, hb2⟩
  have HB2 := Lib.hid hb2
  have HUS := Lib.hid (uses_is w2 A c l (Kd.C_below HL.out.1 hb2) HL.out.2 HV.out.2.2.1 HV.out.2.2.2 HT.out)
  clear hb2 HCK
  go_wp2_with fail
  refine HUS.out.mono ?_
  rintro _ w3 ⟨UM, cm, M, rfl, hM, hF, hb3⟩
  have HB3 := Lib.hid (below_step HB2.out hb3)
  have HF := Lib.hid hF
  have HM := Lib.hid hM
  obtain ⟨bs, hben, hbc⟩ := beneath_is w3 U cu up top (Kd.C_below HU.out.1 HB3.out) HU.out.2 HV.out.1 HV.out.2.1 HTOP.out
  have HBEN := Lib.hid hben
  have HBC := Lib.hid hbc
  clear hM hF hb3 hben hbc HUS HB2
  go_wp2_with fail
  refine HBC.out.mono ?_
  rintro _ w4 ⟨v4, rfl, hv4, hb4⟩
  have HB4 := Lib.hid (below_step HB3.out hb4)
  have HM4 := Lib.hid (Kd.C_below HM.out hb4)
  have HV4 := Lib.hid hv4
  clear hb4 hv4 HBC HM HB3
  obtain ⟨B4, d4, rfl⟩ := Kd.R_slice HV4.out
  go_wp2_with fail
  go_loopg [10, 33] bs.length (fun gk v10 v33 wr => ∃ (j : Nat) (outs : List (List Int)) (ou : List Int), v33 = .int .i64 j ∧ gk = bs.length - j ∧ Hid (j ≤ bs.length ∧ outs.length = j ∧ ∀ (t : Nat) b q, bs[t]? = some b → outs[t]? = some q → Hp.Good (aheadB l) (relP M) (allF l b l.length) q) ∧ Hid (Kd.R (Kd.int .i64) 3 wr w4.heap.size (fun _ => True) v10 ou) ∧ Hid (ou = outs.flatten) ∧ Hid (Below w4.heap.size w4 wr))
  case atStart => exact ⟨0, [], [], rfl, by simp, Lib.hid ⟨Nat.zero_le _, rfl, fun t b q _ h => absurd h (by simp)⟩, Lib.hid (Kd.R_nil _ _ _ _ _), Lib.hid rfl, Lib.hid (Below.refl _ _)⟩
  case round =>
    obtain ⟨j, outs, ou, rfl, rfl, HJ, HR, HOU, HB⟩ := hrel
    obtain ⟨B7, d7, rfl⟩ := Kd.R_slice HR.out
    by_cases hlt : j < bs.length
    rotate_left
    · have hlt' : ¬ (j : Int) < (bs.length : Int) := by omega
      have HCL := Lib.hid (show ClosedAs up l top ou from ⟨bs, outs, M, HBEN.out, HF.out, by have := HJ.out; omega, HOU.out, HJ.out.2.2⟩)
      have HRF := Lib.hid (Kd.R_lower HR.out HB4.out.size)
      have HBF := Lib.hid (below_step HB4.out HB.out)
      clear hlt
      go_wp2_with fail
      try go_quiet (fail)
      go_wp2_with fail
      go_ret2
      exact ⟨_, ou, by rw [HD.out]; rfl, HRF.out, HBF.out, fun q => absurd HD.out q, fun _ => HCL.out⟩
    have hlt' : (j : Int) < (bs.length : Int) := by omega
    have HBL := Lib.hid (show bs.length ≤ 32 from Nat.le_trans HBEN.out.len HV.out.2.1)
    have hwj : wrap64 ((j : Int) + 1) = ((j + 1 : Nat) : Int) := by
      have := HBL.out
      rw [← i64_w, IntWalk.i64_in _ (by omega)]; omega
    obtain ⟨ab, rfl, qb⟩ := Kd.at_int (Kd.C_below (Kd.R_reads' HV4.out).2.2 HB.out) (j : Int) (by omega) hlt'
    rw [Int.toNat_natCast] at qb
    obtain ⟨b, hb⟩ : ∃ b, b = rd bs (j : Int) := ⟨_, rfl⟩
    have HBJ := Lib.hid (show bs[j]? = some b by
      rw [hb, rd_nat, Int.toNat_natCast, at_get bs j hlt]
      exact List.getElem?_eq_getElem hlt)
    rw [← hb] at qb
    have HLTT := Lib.hid hlt
    have HORD := Lib.hid (order_is wr A c l b UM cm M (Kd.C_below HL.out.1 (below_step HB4.out HB.out)) HL.out.2 (Kd.C_below HM4.out HB.out) HV.out.2.2.1 HF.out.len HF.out.rows (HF.out.acyc HV.out.2.2.2))
    have HFL := Lib.hid (show ou.length ≤ 256 * outs.length from HOU.out ▸ flat_len outs (fun q hq => by
      obtain ⟨t, ht, e⟩ := List.mem_iff_getElem.1 hq
      have htb : t < bs.length := by have := HJ.out.2.1; omega
      have hg := HJ.out.2.2 t bs[t] q (List.getElem?_eq_getElem htb) (by rw [List.getElem?_eq_getElem ht, e])
      have h5 := Good.len hg
      have h6 := allF_len l bs[t] l.length
      have := HV.out.2.2.1
      omega))
    clear hb hlt
    go_wp2_with fail
    refine HORD.out.mono ?_
    rintro _ w6 ⟨v6, o6, rfl, hr6, hb6, hg6⟩
    have HG6 := Lib.hid hg6
    have HO6 := Lib.hid (show o6.length ≤ 256 by have h5 := Good.len hg6; have h6 := allF_len l b l.length; have := HV.out.2.2.1; omega)
    have HB6 := Lib.hid (below_step HB.out hb6)
    have HR6 := Lib.hid (Kd.R_below HR.out hb6)
    obtain ⟨A6, c6, rfl, hc6, hC6⟩ := Kd.R_reads hr6
    have HC6 := Lib.hid hC6
    clear hr6 hb6 hg6 hC6 hc6 HORD qb
    go_wp2_with (first | ((with_reducible refine gate_builtin (b := .append) (xs := #[.tmp 37, .tmp 41]) rfl ?_); (try (refine gate_guard (by rfl) ?_; dsimp only)); at_builtin; refine Kd.R_append_rows (Kd.int .i64) (w0 := w4) w4.heap.size rfl (.tmp 37) (.tmp 41) 22 3 (.int .i64 0) 8 rfl Tryd.underlying22 info3 rfl (by decide) (by omega) (.slice B7 ou.length d7) ou o6 _ _ _ (fun _ => True) (fun _ => False) rfl rfl HR6.out HC6.out (fun _ _ h => h) (fun _ h => h.elim) (fun _ _ => trivial) HB6.out HB6.out.size (by have := HFL.out; have := HO6.out; have := HJ.out.2.1; have := HBL.out; have := HLTT.out; omega) ?_; intro v42 w10 ho hb hg hat; have HO := Lib.hid ho; have HB7 := Lib.hid hb; clear ho hb hg hat) | fail)
    go_roundg (bs.length - (j + 1))
    case measure => have := HLTT.out; omega
    case rel => exact ⟨j + 1, outs ++ [o6], ou ++ o6, by first | rfl | rw [hwj], rfl, Lib.hid ⟨HLTT.out, by rw [List.length_append, HJ.out.2.1]; rfl, fun t b' q h1 h2 => by
      rcases Nat.lt_or_ge t outs.length with z | z
      · rw [List.getElem?_append_left z] at h2
        exact HJ.out.2.2 t b' q h1 h2
      · have ht : t = j := by
          have hl2 : t < (outs ++ [o6]).length := by
            rcases Nat.lt_or_ge t (outs ++ [o6]).length with y | y
            · exact y
            · rw [List.getElem?_eq_none y] at h2; exact absurd h2 (by simp)
          rw [List.length_append, HJ.out.2.1] at hl2
          have := HJ.out.2.1
          simp at hl2
          omega
        subst ht
        rw [HBJ.out] at h1
        injection h1 with h1
        subst h1
        rw [List.getElem?_append_right z, HJ.out.2.1, Nat.sub_self] at h2
        injection h2 with h2
        subst h2
        exact HG6.out⟩, HO, Lib.hid (by rw [List.flatten_append, List.flatten_singleton, HOU.out]), HB7⟩
end Go.Proofs.YtccjclmjoegibaaDoor.Ce
