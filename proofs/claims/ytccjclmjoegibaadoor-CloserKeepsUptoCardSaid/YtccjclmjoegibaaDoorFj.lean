/- fail.Leaf, fail.Wrap, fail.Join, and a copy of a failure: the walks where the failure is right. -/
import Derived.Test.YtccjclmjoegibaaDoorFb
namespace Go.Proofs.YtccjclmjoegibaaDoor.Ce
open Go.RowKit Go.Maps Go.Proofs.YtccjclmjoegibaaDoor Go.Proofs.YtccjclmjoegibaaDoorW.PrintWords Go.Proofs.YtccjclmjoegibaaDoorW.PrintLast Go.Proofs.YtccjclmjoegibaaDoorW.PrintMore PCloserOrders Hp
attribute [local go_sem] max2_int min2_int max_two min_two max_three min_three max_four min_four
set_option linter.unusedVariables false
set_option linter.unusedSimpArgs false
theorem lit49 (w : World) (c : S49) : Kd.R k49 49 (w.alloc (.cells #[.int .i64 c.f0, .int .i64 c.f1, .string c.f2] 49)) w.heap.size (fun _ => True) (.slice (some ⟨w.heap.size, 0, none⟩) 1 1) [c] := by
 refine mkR k49 [c] [.int .i64 c.f0, .int .i64 c.f1, .string c.f2] (blk_new _ _) (Nat.le_refl _) trivial rfl (by simp) (fun j p hj => ?_)
 match j, hj with
 | 0, hj =>
  obtain rfl : c = p := by injection hj
  exact k49_mkM _ _ _ c
 | j + 1, hj => exact absurd hj (by simp)
set_option maxHeartbeats 4000000 in
set_option maxRecDepth 100000 in
theorem fleaf_is (w : World) (k : Int) (t : ByteArray) (hla : LaidF w) (hk : k = 1 ∨ k = 2) (ht : t.size ≤ 4096) :
  Calls Tryd.prog 41 #[.int .i64 k, .string t] w fun e w' => ∃ v, e = .returned (.tuple #[v, .int .i64 0]) ∧ Kd.R k49 49 w' w.heap.size (fun _ => True) v [leafOf k t] ∧ Below w.heap.size w w' := by
 have hs := sort_is w hla k (hk.elim .inl (fun h => .inr (.inl h)))
 have he : sortK k = 1 := by rcases hk with rfl | rfl <;> rfl
 rw [he] at hs
 have HS := Lib.hid hs
 have HF := Lib.hid (fits_is w hla k 0 t (.inl ⟨hk, rfl, ht⟩))
 have ht' : (t.size : Int) ≤ 4096 := by omega
 have ht2 : ¬ (4096 : Int) < (t.size : Int) := by omega
 clear hla hk ht hs he
 go_enter Tryd.func41, Tryd.ntmps41
 go_wp2_with fail
 refine HS.out.mono ?_
 rintro _ w2 ⟨rfl, rfl⟩
 go_wp2_with fail
 refine HF.out.mono ?_
 rintro _ w3 ⟨rfl, hb3⟩
 have HB3 := Lib.hid hb3
 clear hb3 ht' ht2 HS HF
 go_wp2_with fail
 have HO5 := Lib.hid (lit49 w3 (leafOf k t))
 have HB5 := Lib.hid (below_alloc (Below.refl w3.heap.size w3) (.cells #[.int .i64 k, .int .i64 0, .string t] 49))
 go_ret2
 first
  | exact ⟨_, rfl, Kd.R_lower HO5.out HB3.out.size, below_step HB3.out HB5.out⟩
  | exact ⟨⟨_, rfl, Kd.R_lower HO5.out HB3.out.size⟩, below_step HB3.out HB5.out⟩
set_option maxRecDepth 100000 in
theorem fclone_is (w : World) (A : Option Addr) (c : Nat) (l : List S49) (hr : Kd.C k49 w A l.length l) (hl : l.length ≤ 1000000) :
  Calls Tryd.prog 62 #[.slice A l.length c] w fun e w' => ∃ v, e = .returned v ∧ Kd.R k49 49 w' w.heap.size (fun _ => True) v l ∧ Below w.heap.size w w' := by
 have hnil := fun w => Lib.run_eql_slice_nil (P := Tryd.prog) w 44 49 A l.length c 0 0 Tryd.underlying44
 cases A with
 | none =>
  have h0 : l.length = 0 := by
   rcases Nat.eq_zero_or_pos l.length with h | h
   ·exact h
   ·obtain ⟨ad, h, _⟩ := hr.2.2 h
    cases h
  obtain rfl := List.eq_nil_of_length_eq_zero h0
  clear hr hl h0
  simp only [Option.isNone, List.length_nil] at hnil
  rw [List.length_nil]
  go_enter Tryd.func62, Tryd.ntmps62
  go_wp2_with fail
  go_ret
  exact ⟨_, rfl, Kd.R_nil _ _ _ _ _, Below.refl _ _⟩
 | some ad =>
  have HR := Lib.hid hr
  have HL := Lib.hid hl
  clear hr hl
  simp only [Option.isNone] at hnil
  go_enter Tryd.func62, Tryd.ntmps62
  go_wp2_with (first | ((with_reducible refine gate_dst (N := 5) rfl ?_); refine Kd.R_lit k49 (w0 := w) w.heap.size 49 rfl (N := 5) rfl (xs := ([] : List S49)) (inner := []) (ok := fun _ => True) (okp := fun _ => True) (by first | (go_simp; done) | (go_simp; rfl)) (Reps.none _ _) (fun _ hk => hk) trivial (Below.refl _ _) (Nat.le_refl _) (by simp) ?_; intro v1 w1 ho hb hg hn; have HO := Lib.hid ho; have HB := Lib.hid hb; clear ho hb hg hn) | ((with_reducible refine gate_builtin (b := .append) (xs := #[.tmp 5, .tmp 6]) rfl ?_); at_builtin; refine Kd.R_append_rows k49 (w0 := w) w.heap.size rfl (.tmp 5) (.tmp 6) 44 49 (.agg #[(.int .i64 0), (.int .i64 0), (.string ⟨#[]⟩)]) 32 rfl Tryd.underlying44 info49 rfl (by decide) (by omega) v1 [] l _ _ _ (fun _ => True) (fun _ => False) rfl rfl HO.out (Kd.C_below HR.out HB.out) (fun x cs h => by rw [k49_open h]; exact k49_mkM _ _ _ x) (fun _ h => h.elim) (fun _ _ => trivial) HB.out HB.out.size (by have := HL.out; simp; omega) ?_; intro v2 w2 ho hb hg hat; have HO2 := Lib.hid ho; have HB2 := Lib.hid hb; clear ho hb hg hat))
  rw [List.nil_append] at HO2
  go_ret
  exact ⟨_, rfl, HO2.out, HB2.out⟩
theorem fbounded_f (f : List S49) (h : f.length ≤ 1024) : fail_bounded.f f = some f := by
 unfold fail_bounded.f
 rw [if_neg (by omega)]
set_option maxHeartbeats 4000000 in
set_option maxRecDepth 100000 in
theorem fwrap_is (w : World) (n : ByteArray) (A : Option Addr) (c : Nat) (f : List S49) (hla : LaidF w) (hl : Kd.C k49 w A f.length f) (hn : nameB n = true) (hf : OkF f) (hlen : f.length + 1 ≤ 1024) :
  Calls Tryd.prog 42 #[.string n, .slice A f.length c] w fun e w' => ∃ v, e = .returned (.tuple #[v, .int .i64 0]) ∧ Kd.R k49 49 w' w.heap.size (fun _ => True) v (f ++ [cellOf n]) ∧ Below w.heap.size w w' := by
 have hnm := name_is w n hla.keys
 rw [hn] at hnm
 have HNM := Lib.hid hnm
 have HLA := Lib.hid hla
 have HL := Lib.hid hl
 have HF := Lib.hid hf
 have HN := Lib.hid hlen
 clear hnm hn hla hl hf hlen
 go_enter Tryd.func42, Tryd.ntmps42
 go_wp2_with fail
 refine HNM.out.mono ?_
 rintro _ w2 ⟨rfl, ⟨m, e2⟩⟩
 have HB2 := Lib.hid (show Below w.heap.size w w2 from by rw [e2]; exact pw_below_drewN (Below.refl _ _) m)
 have HC := Lib.hid (fcheck_is w2 A c f (HLA.out.below HB2.out) (Kd.C_below HL.out HB2.out) HF.out)
 clear e2 HNM
 go_wp2_with fail
 refine HC.out.mono ?_
 rintro _ w3 ⟨rfl, hb3⟩
 have HB3 := Lib.hid (below_step HB2.out hb3)
 have HK := Lib.hid (fclone_is w3 A c f (Kd.C_below HL.out HB3.out) (by have := HN.out; omega))
 clear hb3 HC HB2
 go_wp2_with fail
 refine HK.out.mono ?_
 rintro _ w4 ⟨v4, rfl, hr4, hb4⟩
 have HR4 := Lib.hid hr4
 have HB4 := Lib.hid hb4
 clear hr4 hb4 HK
 go_wp2_with (first | ((with_reducible refine gate_builtin (b := .append) (xs := #[.tmp 16, .tmp 19]) rfl ?_); at_builtin; refine Kd.R_append k49 (w0 := w3) w3.heap.size rfl (.tmp 16) (.tmp 19) 44 49 (.agg #[(.int .i64 0), (.int .i64 0), (.string ⟨#[]⟩)]) 32 rfl Tryd.underlying44 info49 rfl (by decide) (by omega) v4 f (cellOf n) [.int .i64 9, .int .i64 1, .string n] (fun _ => True) (fun _ => False) rfl rfl (k49_mkM _ _ _ (cellOf n)) (fun _ hk => hk.elim) (fun _ _ => trivial) HR4.out HB4.out HB4.out.size (by have := HN.out; omega) ?_; intro v5 w5 ho hb hg hat; have HR5 := Lib.hid ho; have HB5 := Lib.hid hb; have HBD := Lib.hid (fail_bounded.calls (fun _ => True) v5 (f ++ [cellOf n]) _ w3 w5 hb ho (fbounded_f _ (by rw [List.length_append]; exact HN.out))); clear ho hb hg hat) | fail)
 refine HBD.out.mono ?_
 rintro _ w6 ⟨v6, rfl, hr6, hb6, -⟩
 have HR6 := Lib.hid (Kd.R_lower (Kd.R_mono hr6 (fun _ _ => trivial) : Kd.R k49 49 w6 w3.heap.size (fun _ => True) v6 (f ++ [cellOf n])) HB3.out.size)
 have HB6 := Lib.hid (below_step HB3.out hb6)
 clear hr6 hb6 HBD HR5 HB5 HR4 HB4
 go_wp2_with fail
 go_ret2
 first
  | exact ⟨_, rfl, HR6.out, HB6.out⟩
  | exact ⟨⟨_, rfl, HR6.out⟩, HB6.out⟩
theorem flat_le {ps : List (List S49)} (h : Pairs ps) (hl : ps.length ≤ 256) (i : Nat) (hi : i ≤ ps.length) : (ps.take i).flatten.length = 2 * i := by
 rw [(h.take i).flat, List.length_take]; omega
set_option maxHeartbeats 8000000 in
set_option maxRecDepth 100000 in
theorem fjoin_is (w : World) (A : Option Addr) (c : Nat) (ps : List (List S49)) (hla : LaidF w) (hl : Kd.C (Kd.slice 49 k49) w A ps.length ps) (hp : Pairs ps) (hn : ps.length ≤ 256) :
  Calls Tryd.prog 43 #[.slice A ps.length c] w fun e w' => ∃ v, e = .returned (.tuple #[v, .int .i64 0]) ∧ Kd.R k49 49 w' w.heap.size (fun _ => True) v (joinL ps) ∧ Below w.heap.size w w' := by
 have HLA := Lib.hid hla
 have HL := Lib.hid hl
 have HP := Lib.hid hp
 have HN := Lib.hid hn
 have h4 : ¬ (4096 : Int) < (ps.length : Int) := by omega
 clear hla hl hp hn
 go_enter Tryd.func43, Tryd.ntmps43
 go_wp2_with fail
 clear h4
 go_loopg [4, 5, 14] ps.length (fun gk v4 v5 v14 wr => ∃ i : Nat, v14 = .int .i64 i ∧ v4 = .int .i64 i ∧ gk = ps.length - i ∧ Hid (i ≤ ps.length) ∧ Hid (Kd.R k49 49 wr w.heap.size (fun _ => True) v5 (ps.take i).flatten) ∧ Hid (Below w.heap.size w wr))
 case atStart => exact ⟨0, rfl, rfl, by simp, Lib.hid (Nat.zero_le _), Lib.hid (Kd.R_nil _ _ _ _ _), Lib.hid (Below.refl _ _)⟩
 case round =>
  obtain ⟨i, rfl, rfl, rfl, HI, HR, HB⟩ := hrel
  obtain ⟨o, ho⟩ : ∃ o, o = (ps.take i).flatten := ⟨_, rfl⟩
  rw [← ho] at HR
  have HO := Lib.hid ho
  have HOL := Lib.hid (show o.length = 2 * i by rw [ho]; exact flat_le HP.out HN.out i HI.out)
  clear ho
  obtain ⟨B5, d5, rfl⟩ := Kd.R_slice HR.out
  by_cases hlt : i < ps.length
  rotate_left
  ·have hlt' : ¬ (i : Int) < (ps.length : Int) := by omega
   obtain rfl : i = ps.length := by have := HI.out; omega
   by_cases hz : ps.length = 0
   ·have hz1 : (ps.length : Int) = 0 := by omega
    have HJ := Lib.hid (show joinL ps = [] by unfold joinL; rw [if_pos (List.eq_nil_of_length_eq_zero hz)])
    clear hlt hz
    go_wp2_with fail
    go_ret2
    first
     | exact ⟨_, rfl, by rw [HJ.out]; exact Kd.R_nil _ _ _ _ _, HB.out⟩
     | exact ⟨⟨_, rfl, by rw [HJ.out]; exact Kd.R_nil _ _ _ _ _⟩, HB.out⟩
   ·have hz1 : ¬ (ps.length : Int) = 0 := by omega
    have hz2 : ((ps.length : Int) == 0) = false := by simpa using hz1
    have HJ := Lib.hid (joinL_ok HP.out HN.out (fun e => hz (by rw [e]; rfl)))
    have HOO := Lib.hid (show joinL ps = o ++ [joinOf ps.length] by rw [HJ.out.2, HO.out, List.take_length])
    clear hlt hz
    go_wp2_with (first | ((with_reducible refine gate_builtin (b := .append) (xs := #[.tmp 37, .tmp 40]) rfl ?_); at_builtin; refine Kd.R_append k49 (w0 := w) w.heap.size rfl (.tmp 37) (.tmp 40) 44 49 (.agg #[(.int .i64 0), (.int .i64 0), (.string ⟨#[]⟩)]) 32 rfl Tryd.underlying44 info49 rfl (by decide) (by omega) (.slice B5 o.length d5) o (joinOf ps.length) [.int .i64 10, .int .i64 (ps.length : Int), .string ⟨#[]⟩] (fun _ => True) (fun _ => False) rfl rfl (k49_mkM _ _ _ (joinOf ps.length)) (fun _ hk => hk.elim) (fun _ _ => trivial) HR.out HB.out HB.out.size (by have := HOL.out; have := HN.out; omega) ?_; intro v6 w6 ho6 hb6 hg hat; have HBD := Lib.hid (fail_bounded.calls (fun _ => True) v6 (o ++ [joinOf ps.length]) _ w w6 hb6 ho6 (fbounded_f _ (by rw [← HOO.out]; exact HJ.out.1.len))); clear ho6 hb6 hg hat) | fail)
    refine HBD.out.mono ?_
    rintro _ w7 ⟨v7, rfl, hr7, hb7, -⟩
    have HR7 := Lib.hid (show Kd.R k49 49 w7 w.heap.size (fun _ => True) v7 (joinL ps) by rw [HOO.out]; exact Kd.R_mono hr7 (fun _ _ => trivial))
    have HB7 := Lib.hid hb7
    clear hr7 hb7 HBD
    go_wp2_with fail
    go_ret2
    first
     | exact ⟨_, rfl, HR7.out, HB7.out⟩
     | exact ⟨⟨_, rfl, HR7.out⟩, HB7.out⟩
  have hlt' : (i : Int) < (ps.length : Int) := by omega
  have hwi : wrap64 ((i : Int) + 1) = ((i + 1 : Nat) : Int) := wsucc i (by have := HN.out; omega)
  have HLI := Lib.hid hlt
  have HTF := Lib.hid (take_flat ps i hlt)
  obtain ⟨ap, A7, c7, rfl, p0, p1, p2⟩ := at_L7 (Kd.C_below HL.out HB.out) (i : Int) (by omega) hlt'
  rw [Int.toNat_natCast] at p0
  obtain ⟨p, hpe⟩ : ∃ p, p = rd_L7 ps (i : Int) := ⟨_, rfl⟩
  rw [← hpe] at HTF p0 p1 p2
  have HPP := Lib.hid (HP.out p HTF.out.2)
  have hp2 : (p.length : Int) = 2 := by have := HPP.out.2; omega
  have HP2 := Lib.hid p2
  have HCK := Lib.hid (fcheck_is wr A7 c7 p (HLA.out.below HB.out) p2 HPP.out.1)
  have i0 : (0 : Int) ≤ (i : Int) := Int.natCast_nonneg i
  have hol : (o.length : Int) ≤ 1024 := by have := HOL.out; have := HN.out; have := HI.out; omega
  have hpl : ¬ (p.length : Int) = 0 := by omega
  have hpl2 : ((p.length : Int) == 0) = false := by simpa using hpl
  clear hpe hlt p1 p2 hp2
  go_wp2_with fail
  refine HCK.out.mono ?_
  rintro _ w5 ⟨rfl, hb5⟩
  have HR5 := Lib.hid (Kd.R_below HR.out hb5)
  have HB5 := Lib.hid (below_step HB.out hb5)
  have HP5 := Lib.hid (Kd.C_below HP2.out hb5)
  clear hb5 p0 HCK hpl hpl2
  go_wp2_with (first | ((with_reducible refine gate_builtin (b := .append) (xs := #[.tmp 31, .tmp 32]) rfl ?_); (try (refine gate_guard (by rfl) ?_; dsimp only)); at_builtin; refine Kd.R_append_rows k49 (w0 := w) w.heap.size rfl (.tmp 31) (.tmp 32) 44 49 (.agg #[(.int .i64 0), (.int .i64 0), (.string ⟨#[]⟩)]) 32 rfl Tryd.underlying44 info49 rfl (by decide) (by omega) (.slice B5 o.length d5) o p _ _ _ (fun _ => True) (fun _ => False) rfl rfl HR5.out HP5.out (fun x cs h => by rw [k49_open h]; exact k49_mkM _ _ _ x) (fun _ h => h.elim) (fun _ _ => trivial) HB5.out HB5.out.size (by have := HOL.out; have := HN.out; have := HPP.out.2; have := HI.out; omega) ?_; intro v6 w6 ho hb hg hat; have HR6 := Lib.hid ho; have HB6 := Lib.hid hb; clear ho hb hg hat) | fail)
  go_roundg (ps.length - (i + 1))
  case measure => exact Nat.sub_lt_sub_left HLI.out (Nat.lt_succ_self _)
  case rel => exact ⟨i + 1, by first | rfl | rw [hwi], by first | rfl | rw [hwi], rfl, Lib.hid HLI.out, Lib.hid (by rw [HTF.out.1, ← HO.out]; exact HR6.out), HB6⟩
end Go.Proofs.YtccjclmjoegibaaDoor.Ce
