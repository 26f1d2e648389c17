/- A copy of a failure; fail.Token: the walks. -/
import Derived.Test.YtdnkedifjaccoaaDoorFi
import Derived.WalkSpells
namespace Go.Proofs.YtdnkedifjaccoaaDoor.Ce
open Go.RowKit Go.Maps Go.Proofs.YtdnkedifjaccoaaDoor Go.Proofs.YtdnkedifjaccoaaDoorW.PrintWords Go.Proofs.YtdnkedifjaccoaaDoorW.PrintLast Go.Proofs.YtdnkedifjaccoaaDoorW.PrintMore PToken
attribute [local go_sem] max2_int min2_int max_two min_two max_three min_three max_four min_four
set_option linter.unusedVariables false
set_option linter.unusedSimpArgs false
theorem mkR {α : Type} (d : Kd α) {w : World} {g e base : Nat} {ok : Nat → Prop} (xs : List α) (inner : List Value) (hb : w.heap[g]? = some (.cells inner.toArray e (0, 0))) (hg : base ≤ g) (hok : ok g) (hl : inner.length = xs.length * d.sz) (hm : xs.length ≤ 1000000)
    (hr : ∀ j p, xs[j]? = some p → d.M w base (fun k => ok k ∧ some k ≠ some g) p ((inner.drop (j * d.sz)).take d.sz)) : d.R e w base ok (.slice (some ⟨g, 0, none⟩) xs.length xs.length) xs := by
  refine ⟨fun k hk => ?_, inner, ⟨hl, .inr ⟨g, xs.length, inner.toArray, rfl, hg, hb, Nat.le_refl _, by have : maxLen = 9223372036854775807 := rfl; omega, by simp [hl], ?_⟩⟩, hl, hr⟩
  · have : k = g := by injection hk with hk; exact hk.symm
    rw [this]; exact hok
  · rw [← hl]; simp
theorem lit56 (w : World) (c : S56) : Kd.R k56 56 (w.alloc (.cells #[.int .i64 c.f0, .int .i64 c.f1, .string c.f2] 56)) w.heap.size (fun _ => True) (.slice (some ⟨w.heap.size, 0, none⟩) 1 1) [c] := by
  refine mkR k56 [c] [.int .i64 c.f0, .int .i64 c.f1, .string c.f2] (blk_new _ _) (Nat.le_refl _) trivial rfl (by simp) (fun j p hj => ?_)
  match j, hj with
  | 0, hj =>
    obtain rfl : c = p := by injection hj
    exact k56_mkM _ _ _ c
  | j + 1, hj => exact absurd hj (by simp)
set_option maxRecDepth 100000 in
theorem fclone_is (w : World) (A : Option Addr) (c : Nat) (l : List S56) (hr : Kd.C k56 w A l.length l) (hl : l.length ≤ 1000000) :
    Calls Tryd.prog 25 #[.slice A l.length c] w fun e w' => ∃ v, e = .returned v ∧ Kd.R k56 56 w' w.heap.size (fun _ => True) v l ∧ Below w.heap.size w w' := by
  have hnil := fun w => Lib.run_eql_slice_nil (P := Tryd.prog) w 38 56 A l.length c 0 0 Tryd.underlying38
  cases A with
  | none =>
    have h0 : l.length = 0 := by
      rcases Nat.eq_zero_or_pos l.length with h | h
      · exact h
      · obtain ⟨ad, h, _⟩ := hr.2.2 h
        cases h
    obtain rfl := List.eq_nil_of_length_eq_zero h0
    clear hr hl h0
    simp only [Option.isNone, List.length_nil] at hnil
    rw [List.length_nil]
    go_enter Tryd.func25, Tryd.ntmps25
    go_wp2_with fail
    go_ret
    exact ⟨_, rfl, Kd.R_nil _ _ _ _ _, Below.refl _ _⟩
  | some ad =>
    have HR := Lib.hid hr
    have HL := Lib.hid hl
    clear hr hl
    simp only [Option.isNone] at hnil
    go_enter Tryd.func25, Tryd.ntmps25
    go_wp2_with (first | ((with_reducible refine gate_dst (N := 5) rfl ?_); refine Kd.R_lit k56 (w0 := w) w.heap.size 56 rfl (N := 5) rfl (xs := ([] : List S56)) (inner := []) (ok := fun _ => True) (okp := fun _ => True) (by first | (go_simp; done) | (go_simp; rfl)) (Reps.none _ _) (fun _ hk => hk) trivial (Below.refl _ _) (Nat.le_refl _) (by simp) ?_; intro v1 w1 ho hb hg hn; have HO := Lib.hid ho; have HB := Lib.hid hb; clear ho hb hg hn) | ((with_reducible refine gate_builtin (b := .append) (xs := #[.tmp 5, .tmp 6]) rfl ?_); at_builtin; refine Kd.R_append_rows k56 (w0 := w) w.heap.size rfl (.tmp 5) (.tmp 6) 38 56 (.agg #[(.int .i64 0), (.int .i64 0), (.string ⟨#[]⟩)]) 32 rfl Tryd.underlying38 info56 rfl (by decide) (by omega) v1 [] l _ _ _ (fun _ => True) (fun _ => False) rfl rfl HO.out (Kd.C_below HR.out HB.out) (fun x cs h => by rw [k56_open h]; exact k56_mkM _ _ _ x) (fun _ h => h.elim) (fun _ _ => trivial) HB.out HB.out.size (by have := HL.out; simp; omega) ?_; intro v2 w2 ho hb hg hat; have HO2 := Lib.hid ho; have HB2 := Lib.hid hb; clear ho hb hg hat))
    rw [List.nil_append] at HO2
    go_ret
    exact ⟨_, rfl, HO2.out, HB2.out⟩
/-- A failure, or FLong in its place. -/
def bndL (f : List S56) : List S56 := if f.length > 1024 then [⟨11, 0, ⟨#[]⟩⟩] else f
theorem fbounded_f (f : List S56) : fail_bounded.f f = some (bndL f) := by
  unfold fail_bounded.f bndL
  by_cases h : f.length > 1024
  · rw [if_pos (by omega), if_pos h]
  · rw [if_neg (by omega), if_neg h]
/-- The failure of a token: its error, its cracks. -/
def tokE (f : List S56) : Int := if f.length = 0 then 0 else checkF f
def tokL (t : ByteArray) (f : List S56) : List S56 := if f.length = 0 then [⟨8, 0, t⟩] else if checkF f ≠ 0 then [] else bndL (f ++ [⟨8, 1, t⟩])
theorem checkF_len {f : List S56} (h : checkF f = 0) : f.length ≤ 1024 := by
  unfold checkF at h
  by_cases h1 : f.length > 1024
  · rw [if_pos h1] at h; exact absurd h (by decide)
  · omega
def TokPost (w : World) (t : ByteArray) (f : List S56) (e : Ending) (w' : World) : Prop :=
  ∃ v, e = .returned (.tuple #[v, .int .i64 (tokE f)]) ∧ Kd.R k56 56 w' w.heap.size (fun _ => True) v (tokL t f) ∧ Below w.heap.size w w'
set_option maxHeartbeats 4000000 in
set_option maxRecDepth 100000 in
theorem ftoken_is (w : World) (t : ByteArray) (A : Option Addr) (c : Nat) (f : List S56) (hla : LaidF w) (hl : Kd.C k56 w A f.length f) (ht : t.size ≤ 4096) :
    Calls Tryd.prog 48 #[.string t, .slice A f.length c] w fun e w' => TokPost w t f e w' := by
  have ht1 : ¬ (4096 : Int) < (t.size : Int) := by omega
  have ht2 : decide ((4096 : Int) < (t.size : Int)) = false := decide_eq_false ht1
  by_cases h0 : f.length = 0
  · have HE := Lib.hid (show tokE f = 0 ∧ tokL t f = [⟨8, 0, t⟩] by unfold tokE tokL; rw [if_pos h0, if_pos h0]; exact ⟨rfl, rfl⟩)
    have h0i : (f.length : Int) = 0 := by omega
    clear hla hl ht h0
    go_enter Tryd.func48, Tryd.ntmps48
    go_wp2_with fail
    have HO5 := Lib.hid (lit56 w ⟨8, 0, t⟩)
    have HB5 := Lib.hid (below_alloc (Below.refl w.heap.size w) (.cells #[.int .i64 8, .int .i64 0, .string t] 56))
    go_ret2
    first
      | exact ⟨_, by rw [HE.out.1]; rfl, by rw [HE.out.2]; exact HO5.out, HB5.out⟩
      | exact ⟨_, by rw [HE.out.1], by rw [HE.out.2]; exact HO5.out, HB5.out⟩
  have h0i : ¬ (f.length : Int) = 0 := by omega
  have h0j : ((f.length : Int) == 0) = false := by simpa using h0i
  have h0k : decide (f.length = 0) = false := by simpa using h0
  have HCK := Lib.hid (fcheck_is w A c f hla hl)
  have HL := Lib.hid hl
  have HE1 := Lib.hid (show tokE f = checkF f ∧ tokL t f = if checkF f ≠ 0 then [] else bndL (f ++ [⟨8, 1, t⟩]) by unfold tokE tokL; rw [if_neg h0, if_neg h0]; exact ⟨rfl, rfl⟩)
  have HLN := Lib.hid (fun (h : checkF f = 0) => checkF_len h)
  clear hla hl ht h0
  generalize checkF f = ce at *
  by_cases hz : ce = 0
  rotate_left
  · have HE := Lib.hid (show tokE f = ce ∧ tokL t f = [] from ⟨HE1.out.1, by rw [HE1.out.2, if_pos hz]⟩)
    have hzb : (ce != 0) = true := by simpa using hz
    clear hz
    go_enter Tryd.func48, Tryd.ntmps48
    go_wp2_with fail
    refine HCK.out.mono ?_
    rintro _ w2 ⟨rfl, hb2⟩
    have HB2 := Lib.hid hb2
    clear hb2
    go_wp2_with fail
    try go_quiet (fail)
    go_wp2_with fail
    go_ret2
    first
      | exact ⟨_, by rw [HE.out.1]; rfl, by rw [HE.out.2]; exact Kd.R_nil _ _ _ _ _, HB2.out⟩
      | exact ⟨_, by rw [HE.out.1], by rw [HE.out.2]; exact Kd.R_nil _ _ _ _ _, HB2.out⟩
  subst hz
  have HE := Lib.hid (show tokE f = 0 ∧ tokL t f = bndL (f ++ [⟨8, 1, t⟩]) from ⟨HE1.out.1, by rw [HE1.out.2, if_neg (by simp)]⟩)
  have HN := Lib.hid (HLN.out rfl)
  clear HE1 HLN
  go_enter Tryd.func48, Tryd.ntmps48
  go_wp2_with fail
  refine HCK.out.mono ?_
  rintro _ w3 ⟨rfl, hb3⟩
  have HB3 := Lib.hid hb3
  have HK := Lib.hid (fclone_is w3 A c f (Kd.C_below HL.out hb3) (by have := HN.out; omega))
  clear hb3 HCK
  go_wp2_with fail
  refine HK.out.mono ?_
  rintro _ w4 ⟨v4, rfl, hr4, hb4⟩
  have HR4 := Lib.hid hr4
  have HB4 := Lib.hid hb4
  clear hr4 hb4 HK
  go_wp2_with (first | ((with_reducible refine gate_builtin (b := .append) (xs := #[.tmp 22, .tmp 25]) rfl ?_); at_builtin; refine Kd.R_append k56 (w0 := w3) w3.heap.size rfl (.tmp 22) (.tmp 25) 38 56 (.agg #[(.int .i64 0), (.int .i64 0), (.string ⟨#[]⟩)]) 32 rfl Tryd.underlying38 info56 rfl (by decide) (by omega) v4 f ⟨8, 1, t⟩ [.int .i64 8, .int .i64 1, .string t] (fun _ => True) (fun _ => False) rfl rfl (k56_mkM _ _ _ ⟨8, 1, t⟩) (fun _ hk => hk.elim) (fun _ _ => trivial) HR4.out HB4.out HB4.out.size (by have := HN.out; omega) ?_; intro v5 w5 ho hb hg hat; have HBD := Lib.hid (fail_bounded.calls (fun _ => True) v5 (f ++ [⟨8, 1, t⟩]) _ w3 w5 hb ho (fbounded_f _)); clear ho hb hg hat) | fail)
  refine HBD.out.mono ?_
  rintro _ w6 ⟨v6, rfl, hr6, hb6, -⟩
  have HR6 := Lib.hid (Kd.R_lower (Kd.R_mono hr6 (fun _ _ => trivial) : Kd.R k56 56 w6 w3.heap.size (fun _ => True) v6 (bndL (f ++ [⟨8, 1, t⟩]))) HB3.out.size)
  have HB6 := Lib.hid (below_step HB3.out hb6)
  clear hr6 hb6 HBD HR4 HB4
  go_wp2_with fail
  go_ret2
  first
    | exact ⟨_, by rw [HE.out.1]; rfl, by rw [HE.out.2]; exact HR6.out, HB6.out⟩
    | exact ⟨_, by rw [HE.out.1], by rw [HE.out.2]; exact HR6.out, HB6.out⟩
end Go.Proofs.YtdnkedifjaccoaaDoor.Ce
