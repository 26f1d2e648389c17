/- Whom each part uses, at once or by way of others: the walk. -/
import Derived.Test.YtccjclmjoegibaaDoorUm
namespace Go.Proofs.YtccjclmjoegibaaDoor.Ce
open Go.RowKit Go.Maps Go.Proofs.YtccjclmjoegibaaDoor Go.Proofs.YtccjclmjoegibaaDoorW.PrintWords Go.Proofs.YtccjclmjoegibaaDoorW.PrintLast Go.Proofs.YtccjclmjoegibaaDoorW.PrintMore PCloserOrders Hp
attribute [local go_sem] max2_int min2_int max_two min_two max_three min_three max_four min_four
set_option linter.unusedVariables false
set_option linter.unusedSimpArgs false
/-- What has been found: of each part, of each other one, whether it is used. -/
structure Found (l : List S33) (M : List (List Bool)) : Prop where
  len : M.length = l.length
  rows : ∀ i : Int, 0 ≤ i → i < l.length → (rd_L6 M i).length = l.length
  is : ∀ i k : Int, 0 ≤ i → i < l.length → 0 ≤ k → k < l.length → (rdOf false (rd_L6 M i) k = true ↔ Rch l i k)
theorem UM.found {w wr : World} {gm : Nat} {l : List S33} {M : List (List Bool)} (H : UM w wr gm l l.length M) : Found l M := by
  have hg : ∀ i : Int, 0 ≤ i → i < l.length → M[i.toNat]? = some (rd_L6 M i) := fun i h0 h1 => by
    unfold rd_L6
    have : i.toNat < M.length := by rw [H.len]; omega
    rw [List.getD_eq_getElem?_getD, List.getElem?_eq_getElem this]
    rfl
  refine ⟨H.len, fun i h0 h1 => (H.rows _ _ (hg i h0 h1)).1, fun i k h0 h1 k0 k1 => ?_⟩
  have := (H.rows _ _ (hg i h0 h1)).2 k k0 k1
  rw [Int.toNat_of_nonneg h0] at this
  exact this
set_option maxHeartbeats 8000000 in
set_option maxRecDepth 100000 in
theorem uses_is (w : World) (A : Option Addr) (c : Nat) (l : List S33) (hl : Kd.C k33 w A l.length l) (hlc : l.length ≤ c) (hn : l.length ≤ 256) (hv : Valid l) (ht : unS l [] l.length ≤ 1048576) :
    Calls Tryd.prog 27 #[.slice A l.length c] w fun e w' => ∃ U cu M, e = .returned (.slice U M.length cu) ∧ Kd.C (Kd.slice 4 Kd.bool) w' U M.length M ∧ Found l M ∧ Below w.heap.size w w' := by
  have HLP := Lib.hid hl
  have HN := Lib.hid hn
  have HV := Lib.hid hv
  have HT := Lib.hid ht
  clear hl hn hlc hv ht
  go_enter Tryd.func27, Tryd.ntmps27
  go_wp2_with (first | ((with_reducible refine gate_dst (N := 9) rfl ?_); refine Kd.R_make (Kd.slice 4 Kd.bool) _ 34 rfl (N := 9) rfl 28 _ _ rfl (l.length : Int) rfl rfl Tryd.underlying28 (.slice none 0 0) 24 info34 rfl (by decide) (by omega) [] (ok := fun _ => True) (okp := fun _ => True) ⟨_, rfl, Kd.R_nil _ _ _ _ _⟩ (fun _ hk => hk) trivial (by omega) (by have := HN.out; omega) (Below.refl _ _) (Nat.le_refl _) ?_; intro v9 w5 ho hb hg hnew; have HO := Lib.hid ho; have HB5 := Lib.hid hb; clear ho hb hg hnew) | fail)
  obtain ⟨B9, d9, rfl⟩ := Kd.R_slice HO.out
  rw [Int.toNat_natCast] at HO
  rw [Int.toNat_natCast, List.length_replicate]
  by_cases hz : l.length = 0
  · have hz' : (l.length : Int) = 0 := by omega
    obtain rfl : l = [] := List.eq_nil_of_length_eq_zero hz
    clear hz hz'
    go_wp2_with fail
    go_loopg [12] 0 (fun gk v12 wr => v12 = .int .i64 0 ∧ Hid (Below w.heap.size w wr))
    case atStart => exact ⟨rfl, HB5⟩
    case round =>
      obtain ⟨rfl, HB⟩ := hrel
      go_wp2_with fail
      go_ret
      exact ⟨B9, d9, [], rfl, ⟨rfl, by simp, fun h => absurd h (by simp)⟩, ⟨rfl, fun i h0 h1 => by simp at h1; omega, fun i k h0 h1 => by simp at h1; omega⟩, HB.out⟩
  obtain ⟨gm, capm, em, hgm, hgl, ⟨cur, hcur⟩⟩ := Kd.R_form HO.out (by rw [List.length_replicate]; omega)
  rw [List.length_replicate] at em
  injection em with em _ ec
  subst em
  subst ec
  have hsz : l.length ≤ cur.size := by
    obtain ⟨inner, _, h | ⟨g, cap, cur2, e, hg, hb, hc, hm, hs, ht⟩⟩ := Kd.R_own HO.out
    · exact absurd h.1 (by simp)
    · injection e with e _ _
      injection e with e
      injection e with e _ _
      subst e
      rw [hcur] at hb
      injection hb with hb
      injection hb with hb _ _
      subst hb
      rw [List.length_replicate] at hc
      have : (Kd.slice 4 Kd.bool).sz = 1 := rfl
      rw [this] at hs
      omega
  have HU0 := Lib.hid (show UM w w5 gm l 0 [] from ⟨⟨cur, hcur, hsz, fun j x hj => absurd hj (by simp)⟩, rfl, hgm, HB5.out, fun j x hj => absurd hj (by simp)⟩)
  clear HO HB5 hgm hgl hcur hsz hz
  go_wp2_with fail
  go_loopg [12] l.length (fun gk v12 wr => ∃ (i : Nat) (M : List (List Bool)), v12 = .int .i64 i ∧ gk = l.length - i ∧ Hid (i ≤ l.length) ∧ Hid (UM w wr gm l i M))
  case atStart => exact ⟨0, [], rfl, by simp, Lib.hid (Nat.zero_le _), HU0⟩
  case round =>
    clear HU0
    obtain ⟨i, M, rfl, rfl, HI, HM⟩ := hrel
    by_cases hlt : i < l.length
    rotate_left
    · have hlt' : ¬ (i : Int) < (l.length : Int) := by omega
      obtain rfl : i = l.length := by have := HI.out; omega
      have HFD := Lib.hid (And.intro (HM.out.reads (by have := HN.out; omega)) HM.out.found)
      have HML := Lib.hid HM.out.len
      go_wp2_with fail
      go_ret
      exact ⟨_, d9, M, by rw [HML.out]; rfl, HFD.out.1, HFD.out.2, HM.out.bel⟩
    have hlt' : (i : Int) < (l.length : Int) := by omega
    have hwi : wrap64 ((i : Int) + 1) = ((i + 1 : Nat) : Int) := by
      have := HN.out
      rw [← i64_w, IntWalk.i64_in _ (by omega)]; omega
    have HLT := Lib.hid hlt
    clear hlt
    go_upto_region 6 with (first | ((with_reducible refine gate_dst (N := 19) rfl ?_); refine Kd.R_make Kd.bool _ 4 rfl (N := 19) rfl 34 _ _ rfl (l.length : Int) rfl rfl Tryd.underlying34 (.bool false) 1 info4 rfl (by decide) (by omega) false (ok := fun _ => True) (okp := fun _ => True) rfl (fun _ hk => hk) trivial (by omega) (by have := HN.out; omega) (Below.refl _ _) (Nat.le_refl _) ?_; intro v19 w6 ho hb hg hnew; rw [Int.toNat_natCast] at ho; obtain ⟨gr, capr, eg, _⟩ := Kd.R_form ho (by rw [List.length_replicate]; have := HLT.out; omega); rw [List.length_replicate] at eg; subst eg; have HO := Lib.hid ho; have HB6 := Lib.hid hb; obtain ⟨⟨u0, y0⟩, y1⟩ := HM.out.cell HLT.out hb; clear ho hb hg hnew) | fail)
    obtain ⟨w7, e7⟩ : ∃ w7, w7 = w6.setCell ⟨gm, i, none⟩ (.slice (some ⟨gr, 0, none⟩) l.length capr) := ⟨_, rfl⟩
    rw [← e7]
    have hs7 : w7.heap.size = w6.heap.size := by rw [e7]; simp [World.setCell]
    have hb7 : Below w.heap.size w w7 := by
      rw [e7]
      have h6 := below_step HM.out.bel HB6.out
      exact Chg.below h6 ((Chg.refl (· = gm) w6).setCell (p := ⟨gm, i, none⟩) rfl _) (fun k e => by have := HM.out.gmb; omega) h6.size
    have HW7 := Lib.hid (And.intro e7 hs7)
    have HB7 := Lib.hid hb7
    clear e7 hs7 hb7 y0 y1
    obtain ⟨ad, A4, c4, rfl, -, -, -, -, p4, -, -, p7, p8⟩ := part_at (Kd.C_below HLP.out HB7.out) i HLT.out
    have HUL := Lib.hid (show (usesOf l (i : Int)).length ≤ 1048576 from Nat.le_trans (unS_one l (i : Int) (by omega) l.length hlt') HT.out)
    have HCL := Lib.hid (clone_is w7 A4 c4 (usesOf l (i : Int)) p8 (by have := HUL.out; omega))
    obtain ⟨B, hB⟩ : ∃ B, B = wr.heap.size := ⟨_, rfl⟩
    have HBB := Lib.hid hB
    clear p7 p8 hB
    go_wp2_with fail
    refine HCL.out.mono ?_
    rintro _ w8 ⟨vt, rfl, hrt, hb8⟩
    rw [HW7.out.2] at hrt hb8
    rw [HW7.out.1] at hb8
    have hUC := HM.out.begin HLT.out HB6.out HO.out hb8 hrt
    rw [← HBB.out] at hUC
    have HU0 := Lib.hid hUC
    have HML := Lib.hid (And.intro HM.out.len HM.out.rows)
    clear hUC hrt hb8 HCL HW7 HB7 HO HB6 HM HBB p4
    go_wp2_with fail
    go_loopg [5] ((usesOf l (i : Int)).length + unS l (List.replicate l.length false) l.length) (fun gk v5 wr2 => ∃ (row : List Bool) (todo : List Int), gk = todo.length + unS l row l.length ∧ Hid (gk ≤ 2097152 ∧ DI l (i : Int) row todo) ∧ Hid (UC w wr2 gm B l i M gr capr row v5 todo))
    case atStart => exact ⟨_, _, rfl, Lib.hid ⟨by have := HUL.out; have := unS_le l (List.replicate l.length false) l.length; have := HT.out; omega, DI.start l (i : Int)⟩, HU0⟩
    case round =>
      clear HU0
      obtain ⟨row, todo, hgk, HD, HU⟩ := hrel
      have HG := Lib.hid hgk
      clear hgk
      obtain ⟨B5, d5, rfl⟩ := Kd.R_slice HU.out.todo
      by_cases hp : 0 < todo.length
      rotate_left
      · have hp' : ¬ (todo.length : Int) > 0 := by omega
        obtain rfl : todo = [] := List.eq_nil_of_length_eq_zero (by omega)
        have HM2 := Lib.hid (HU.out.finish HML.out.1 HD.out.2.rl (HD.out.2.done HV.out (by omega) (by have := HLT.out; omega)) HML.out.2)
        clear hp
        go_wp2_with fail
        go_roundg (l.length - (i + 1))
        case measure => have := HLT.out; omega
        case rel => exact ⟨i + 1, _, by first | rfl | rw [hwi], rfl, Lib.hid HLT.out, HM2⟩
      have hp' : (todo.length : Int) > 0 := by omega
      obtain ⟨m, hm⟩ : ∃ m, m = todo.length - 1 := ⟨_, rfl⟩
      have HMM := Lib.hid (And.intro hm hp)
      have hw1 : wrap64 ((todo.length : Int) - 1) = (m : Int) := by
        have := HD.out.1; have := HG.out
        rw [← i64_w, IntWalk.i64_in _ (by omega)]; omega
      have hm0 : (0 : Int) ≤ (m : Int) := by omega
      have hm1 : (m : Int) < (todo.length : Int) := by omega
      have hm2 : (m : Int) ≤ (d5 : Int) := by have := (Kd.R_reads' HU.out.todo).2.1; omega
      obtain ⟨g5, cap5, e5, -, -, -⟩ := Kd.R_form HU.out.todo hp
      injection e5 with e5 _ ec5
      subst e5
      subst ec5
      have q5 : wr.cell? ⟨g5, m, none⟩ = some (.int .i64 (at_ todo m)) := (Kd.R_celln (0 : Int) HU.out.todo (m : Int) hm0 hm1).1
      have HTP := Lib.hid (show Rch l (i : Int) (at_ todo m) from hm ▸ HD.out.2.top hp)
      have HBR := Lib.hid (HTP.out.rng HV.out (by omega) (by have := HLT.out; omega))
      have HTL := Lib.hid (show (todo.take m).length = m by rw [List.length_take]; omega)
      have HSE := Lib.hid (fun h => hm ▸ HD.out.2.seen hp h)
      have HFR := Lib.hid (fun h => hm ▸ HD.out.2.fresh HV.out (by omega) (by have := HLT.out; omega) hp h)
      rw [← hm] at HSE HFR
      obtain ⟨b, hb⟩ : ∃ b, b = at_ todo m := ⟨_, rfl⟩
      rw [← hb] at q5 HTP HBR HSE HFR
      clear hb hm hp
      have b0 : (0 : Int) ≤ b := HBR.out.1
      have b1 : b < (l.length : Int) := HBR.out.2
      have i0 : (0 : Int) ≤ (i : Int) := by omega
      have qm := HU.out.mcell
      obtain ⟨r0, r1⟩ := HU.out.rcell b b0 b1
      cases hs : rdOf false row b with
      | true =>
        rw [hs] at r0
        have HD2 := Lib.hid (HSE.out hs)
        clear hs
        have HU2 := Lib.hid (HU.out.pop m (by have := HMM.out; omega))
        go_wp2_with fail
        go_roundg (gk - 1)
        case measure => have := HG.out; have := HMM.out; omega
        case rel => exact ⟨row, todo.take m, by rw [HTL.out]; have := HG.out; have := HMM.out; omega, Lib.hid ⟨by have := HD.out.1; omega, HD2.out⟩, HU2⟩
      | false =>
        rw [hs] at r0
        have HD2 := Lib.hid (HFR.out hs)
        have HUS := Lib.hid (show unS l (row.set b.toNat true) l.length + (usesOf l b).length = unS l row l.length by
          have := unS_set l row b b0 (by have := HD.out.2.rl; omega) hs l.length
          rw [if_pos b1] at this
          exact this)
        have HAL := Lib.hid (show (m + (usesOf l b).length) * 8 ≤ 140737488355328 by have := HUS.out; have := HD.out.1; have := HG.out; have := HMM.out; omega)
        clear hs
        go_upto_region 12 with fail
        obtain ⟨w9, e9⟩ : ∃ w9, w9 = wr.setCell ⟨gr, b.toNat, none⟩ (.bool true) := ⟨_, rfl⟩
        have hU9 := (HU.out.pop m (by have := HMM.out; omega)).mark b
        rw [← e9] at hU9
        have HU9 := Lib.hid hU9
        rw [← e9]
        clear e9 hU9 r0 r1 qm q5 HU
        obtain ⟨ad', A5, c5, ea, -, -, -, -, p4, -, -, p7, p8⟩ := at_T33 (Kd.C_below HLP.out HU9.out.bel) b b0 b1
        obtain rfl : ad = ad' := by injection ea
        have HP8 := Lib.hid p8
        clear ea p8
        go_wp2_with (first | ((with_reducible refine gate_builtin (b := .append) (xs := #[.tmp 55, .tmp 60]) rfl ?_); (try (refine gate_guard (by rfl) ?_; dsimp only)); at_builtin; refine Kd.R_append_rows (Kd.int .i64) (w0 := w) w.heap.size rfl (.tmp 55) (.tmp 60) 22 3 (.int .i64 0) 8 rfl Tryd.underlying22 info3 rfl (by decide) (by omega) (.slice (some ⟨g5, 0, none⟩) m d5) (todo.take m) (usesOf l b) _ _ _ (fun _ => True) (fun _ => False) rfl rfl HU9.out.todo HP8.out (fun _ _ h => h) (fun _ h => h.elim) (fun _ _ => trivial) HU9.out.bel HU9.out.bel.size ?aL ?_; (case aL => rw [HTL.out]; exact HAL.out); intro v61 w10 ho hb hg hat; have HU10 := Lib.hid (HU9.out.grown ho hb hg); clear ho hb hg hat) | fail)
        go_roundg (gk - 1)
        case measure => have := HG.out; have := HMM.out; omega
        case rel => exact ⟨_, _, by rw [List.length_append, HTL.out]; have := HG.out; have := HMM.out; have := HUS.out; omega, Lib.hid ⟨by have := HD.out.1; omega, HD2.out⟩, HU10⟩
end Go.Proofs.YtccjclmjoegibaaDoor.Ce
