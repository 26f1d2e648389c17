/- The chapter's first example, as the statements try it first. -/
import Derived.Test.YtccjclmjoegibaaDoorRr
import Derived.Test.YtccjclmjoegibaaDoorGu

namespace Go.Proofs.YtccjclmjoegibaaDoor.Ce
open Go.RowKit Go.Maps Go.Proofs.YtccjclmjoegibaaDoor Go.Proofs.YtccjclmjoegibaaDoorW.PrintWords Go.Proofs.YtccjclmjoegibaaDoorW.PrintLast Go.Proofs.YtccjclmjoegibaaDoorW.PrintMore PCloserOrders Hp
attribute [local go_sem] max2_int min2_int max_two min_two max_three min_three max_four min_four
set_option linter.unusedVariables false
set_option linter.unusedSimpArgs false
def pickB (lt P : Int → Int → Bool) (all out : List Int) : Bool := (List.range out.length).all fun p => (all.all fun a => !(P a (at_ out p)) || (out.take p).contains a) && (all.all fun y => (out.take p).contains y || !(all.all fun a => !(P a y) || (out.take p).contains a) || !(lt y (at_ out p)))
theorem pickB_ok {lt P : Int → Int → Bool} {all out : List Int} (h : pickB lt P all out = true) : Picked lt P all out := by
  intro p x hx
  have hp : p < out.length := by
    rcases Nat.lt_or_ge p out.length with q | q
    · exact q
    · rw [List.getElem?_eq_none q] at hx; exact absurd hx (by simp)
  have hxe : at_ out p = x := by
    rw [at_get out p hp]
    rw [List.getElem?_eq_getElem hp] at hx
    injection hx
  unfold pickB at h
  rw [List.all_eq_true] at h
  have h1 := h p (List.mem_range.2 hp)
  rw [hxe, Bool.and_eq_true, List.all_eq_true, List.all_eq_true] at h1
  refine ⟨fun a ha hq => ?_, fun y hy hn hq => ?_⟩
  · have := h1.1 a ha
    rw [hq] at this
    simpa using this
  · have := h1.2 y hy
    have hall : (all.all fun a => !(P a y) || (out.take p).contains a) = true := by
      rw [List.all_eq_true]
      intro a ha
      cases hpa : P a y with
      | false => rfl
      | true => simpa using hq a ha hpa
    rw [hall] at this
    simp [hn] at this
    exact this
def pA : S33 := ⟨0, ⟨#[97]⟩, true, 2, [1], ⟨0, ⟨#[]⟩⟩⟩
def pB : S33 := ⟨0, ⟨#[98]⟩, true, 1, [], ⟨0, ⟨#[]⟩⟩⟩
def pC : S33 := ⟨0, ⟨#[99]⟩, true, 3, [], ⟨0, ⟨#[]⟩⟩⟩
theorem ck2 : orderE [-1] [pA, pB] 0 = 0 := by decide +kernel
theorem ck3 : orderE [-1] [pA, pB, pC] 0 = 0 := by decide +kernel
theorem uses_ck (l : List S33) (hl : l.length = 2 ∨ l.length = 3) (h0 : usesOf l 0 = [1]) (h1 : usesOf l 1 = []) (h2 : usesOf l 2 = []) (a b : Int) (ha : a = 0 ∨ a = 1 ∨ a = 2) : Rch l a b ↔ a = 0 ∧ b = 1 := by
  constructor
  · intro h
    induction h with
    | one q =>
      rcases ha with rfl | rfl | rfl
      · rw [h0] at q; exact ⟨rfl, List.mem_singleton.1 q⟩
      · rw [h1] at q; exact absurd q (by simp)
      · rw [h2] at q; exact absurd q (by simp)
    | more _ q ih =>
      obtain ⟨_, rfl⟩ := ih
      rw [h1] at q
      exact absurd q (by simp)
  · rintro ⟨rfl, rfl⟩
    exact .one (by rw [h0]; simp)
def pP (a b : Int) : Bool := decide (a = 0) && decide (b = 1)
theorem rel_ck (l : List S33) (hl : l.length = 2 ∨ l.length = 3) (h0 : usesOf l 0 = [1]) (h1 : usesOf l 1 = []) (h2 : usesOf l 2 = []) {M : List (List Bool)} (F : Found l M) (a b : Int) (a0 : 0 ≤ a) (a1 : a < l.length) (b0 : 0 ≤ b) (b1 : b < l.length) : relP M a b = pP a b := by
  have hab : (rdOf false (rd_L6 M a) b = true) ↔ a = 0 ∧ b = 1 := (F.is a b a0 a1 b0 b1).trans (uses_ck l hl h0 h1 h2 a b (by omega))
  have hba : (rdOf false (rd_L6 M b) a = true) ↔ b = 0 ∧ a = 1 := (F.is b a b0 b1 a0 a1).trans (uses_ck l hl h0 h1 h2 b a (by omega))
  unfold relP pP
  cases h : rdOf false (rd_L6 M a) b with
  | false =>
    have : ¬ (a = 0 ∧ b = 1) := fun q => by rw [hab.2 q] at h; exact absurd h (by decide)
    by_cases e : a = 0
    · have : b ≠ 1 := fun q => this ⟨e, q⟩
      simp [this]
    · simp [e]
  | true =>
    obtain ⟨rfl, rfl⟩ := hab.1 h
    cases h' : rdOf false (rd_L6 M 1) 0 with
    | false => rfl
    | true => exact absurd (hba.1 h').1 (by decide)
theorem ben_one {bs : List Int} (B : Ben [-1] 0 bs) : bs = [0] := by
  have hm : ∀ x, x ∈ bs ↔ x = 0 := fun x => by
    rw [B.mem]
    constructor
    · rintro ⟨h0, h1, _⟩; simp at h1; omega
    · rintro rfl; exact ⟨by omega, by simp, .here⟩
  cases bs with
  | nil => exact absurd ((hm 0).2 rfl) (by simp)
  | cons a r =>
    have ha := (hm a).1 List.mem_cons_self
    cases r with
    | nil => rw [ha]
    | cons b r =>
      have hb := (hm b).1 (by simp)
      have := B.fall
      rw [List.pairwise_cons] at this
      have := this.1 b (by simp)
      omega
theorem closed_one {l : List S33} {o q : List Int} (C : ClosedAs [-1] l 0 o) (hq : ∀ M, Found l M → Hp.Good (aheadB l) (relP M) (allF l 0 l.length) q) : o = q := by
  obtain ⟨bs, outs, M, B, F, hl, ho, hg⟩ := C.ex
  obtain rfl := ben_one B
  cases outs with
  | nil => exact absurd hl (by decide)
  | cons x r =>
    cases r with
    | cons y r => simp at hl
    | nil =>
      rw [ho, List.flatten_singleton]
      exact Good.uniq (ahead_tot l) (hg 0 0 x rfl rfl) (hq M F)
theorem good2 {M : List (List Bool)} (F : Found [pA, pB] M) : Hp.Good (aheadB [pA, pB]) (relP M) (allF [pA, pB] 0 2) [0, 1] := by
  have ha : allF [pA, pB] 0 2 = [0, 1] := by decide +kernel
  rw [ha]
  refine Good.congr (P := pP) (fun x hx y hy => ?_) ⟨by decide, fun _ => Iff.rfl, pickB_ok (by decide +kernel)⟩
  refine (rel_ck _ (.inl rfl) rfl rfl rfl F x y ?_ ?_ ?_ ?_).symm <;> simp at hx hy ⊢ <;> omega
theorem good3 {M : List (List Bool)} (F : Found [pA, pB, pC] M) : Hp.Good (aheadB [pA, pB, pC]) (relP M) (allF [pA, pB, pC] 0 3) [2, 0, 1] := by
  have ha : allF [pA, pB, pC] 0 3 = [0, 1, 2] := by decide +kernel
  rw [ha]
  refine Good.congr (P := pP) (fun x hx y hy => ?_) ⟨by decide, fun x => by simp; omega, pickB_ok (by decide +kernel)⟩
  refine (rel_ck _ (.inr rfl) rfl rfl rfl F x y ?_ ?_ ?_ ?_).symm <;> simp at hx hy ⊢ <;> omega
theorem two_parts {w : World} {g1 g2 base : Nat} (hk1 : w.heap[g1]? = some (.cells #[.int .i64 1] 3 (0, 0))) (hk2 : w.heap[g2]? = some (.cells #[.int .i64 0, .string ⟨#[97]⟩, .bool true, .int .i64 2, .slice (some ⟨g1, 0, none⟩) 1 1, .int .i64 0, .string ⟨#[]⟩, .int .i64 0, .string ⟨#[98]⟩, .bool true, .int .i64 1, .slice none 0 0, .int .i64 0, .string ⟨#[]⟩] 33 (0, 0))) (h1 : base ≤ g1) (h2 : base ≤ g2) (hne : g1 ≠ g2) :
    Kd.R k33 33 w base (fun _ => True) (.slice (some ⟨g2, 0, none⟩) 2 2) [pA, pB] := by
  refine mkR k33 [pA, pB] [.int .i64 0, .string ⟨#[97]⟩, .bool true, .int .i64 2, .slice (some ⟨g1, 0, none⟩) 1 1, .int .i64 0, .string ⟨#[]⟩, .int .i64 0, .string ⟨#[98]⟩, .bool true, .int .i64 1, .slice none 0 0, .int .i64 0, .string ⟨#[]⟩] hk2 h2 trivial rfl (by decide) (fun j p hj => ?_)
  match j, hj with
  | 0, hj =>
    obtain rfl : pA = p := by injection hj
    exact k33_mkM w base _ pA (mkInts [1] hk1 h1 ⟨trivial, by intro e; injection e with e; exact hne e⟩ (by decide))
  | 1, hj =>
    obtain rfl : pB = p := by injection hj
    exact k33_mkM w base _ pB (Kd.R_nil _ _ _ _ _)
  | j + 2, hj => exact absurd hj (by simp)
set_option maxHeartbeats 4000000 in
set_option maxRecDepth 100000 in
theorem works_is (w : World) (hla : Laid w) : Calls Tryd.prog 8 #[] w fun e w' => e = .returned (.bool true) ∧ Below w.heap.size w w' := by
  have HLA := Lib.hid hla
  clear hla
  go_enter Tryd.func8, Tryd.ntmps8
  go_upto_region 2 with fail
  obtain ⟨w2, g1, g2, e2, eg1, eg2, hR, hb2⟩ : ∃ w2 g1 g2, w2 = (w.alloc (.cells #[.int .i64 1] 3)).alloc (.cells #[.int .i64 0, .string ⟨#[97]⟩, .bool true, .int .i64 2, .slice (some ⟨w.heap.size, 0, none⟩) 1 1, .int .i64 0, .string ⟨#[]⟩, .int .i64 0, .string ⟨#[98]⟩, .bool true, .int .i64 1, .slice none 0 0, .int .i64 0, .string ⟨#[]⟩] 33) ∧ g1 = w.heap.size ∧ g2 = w.heap.size + 1 ∧ Kd.R k33 33 w2 w.heap.size (fun _ => True) (.slice (some ⟨g2, 0, none⟩) 2 2) [pA, pB] ∧ Below w.heap.size w w2 := by
    refine ⟨_, _, _, rfl, rfl, rfl, two_parts (g1 := w.heap.size) (blk_alloc (blk_new _ _) _) ?_ (Nat.le_refl _) (by omega) (by omega), below_alloc (below_alloc (Below.refl _ _) _) _⟩
    have := blk_new (w.alloc (.cells #[.int .i64 1] 3)) (.cells #[.int .i64 0, .string ⟨#[97]⟩, .bool true, .int .i64 2, .slice (some ⟨w.heap.size, 0, none⟩) 1 1, .int .i64 0, .string ⟨#[]⟩, .int .i64 0, .string ⟨#[98]⟩, .bool true, .int .i64 1, .slice none 0 0, .int .i64 0, .string ⟨#[]⟩] 33)
    rw [World.size_alloc] at this
    exact this
  rw [← e2, ← eg2]
  have HR := Lib.hid hR
  have HB2 := Lib.hid hb2
  obtain ⟨w3, e3, hb3, hu3⟩ : ∃ w3, w3 = w2.alloc (.cells #[.int .i64 (-1)] 3) ∧ Below w2.heap.size w2 w3 ∧ Kd.C (Kd.int .i64) w3 (some ⟨w2.heap.size, 0, none⟩) 1 [-1] := by
    refine ⟨_, rfl, below_alloc (Below.refl _ _) _, ?_⟩
    exact (Kd.R_reads' (mkInts (w := w2.alloc (.cells #[.int .i64 (-1)] 3)) (g := w2.heap.size) (base := 0) (ok := fun _ => True) [-1] (blk_new _ _) (Nat.zero_le _) trivial (by decide))).2.2
  have HB3 := Lib.hid (below_step hb2 hb3)
  have HR3 := Lib.hid (Kd.R_below hR hb3)
  have HO := Lib.hid (Order_is w3 (some ⟨w2.heap.size, 0, none⟩) 1 [-1] (some ⟨g2, 0, none⟩) 2 [pA, pB] 0 (HLA.out.below HB3.out) hu3 (by decide) (Kd.R_reads' HR3.out).2.2 (by decide) (by decide) (by decide))
  rw [ck2] at HO
  have HE3 := Lib.hid e3
  clear e2 eg1 eg2 hR hb2 hb3 hu3 e3
  go_wp2_with fail
  rw [← HE3.out]
  refine HO.out.mono ?_
  rintro _ w4 ⟨v, o, rfl, hr4, hb4, -, hcl⟩
  obtain rfl : o = [0, 1] := closed_one (hcl rfl) (fun M F => good2 F)
  have HB4 := Lib.hid (below_step HB3.out hb4)
  have HL4 := Lib.hid (Kd.R_below HR3.out hb4)
  obtain ⟨A4, c4, rfl⟩ := Kd.R_slice hr4
  have HV4 := Lib.hid (Kd.R_lower hr4 (Nat.zero_le _))
  clear hcl hr4 hb4 HO HE3 HR HB2 HB3 HR3
  have HU5 := Lib.hid (mkInts (w := w4.alloc (.cells #[.int .i64 (-1)] 3)) (g := w4.heap.size) (base := 0) (ok := fun _ => True) [-1] (blk_new _ _) (Nat.zero_le _) trivial (by decide))
  have HB5 := Lib.hid (below_alloc HB4.out (.cells #[.int .i64 (-1)] 3))
  have HL5 := Lib.hid (Kd.R_alloc HL4.out (.cells #[.int .i64 (-1)] 3))
  have HV5 := Lib.hid (Kd.R_alloc HV4.out (.cells #[.int .i64 (-1)] 3))
  go_wp2_with (first | ((with_reducible refine gate_builtin (b := .append) (xs := #[.tmp 18, .tmp 20]) rfl ?_); (try (refine gate_guard (by rfl) ?_; dsimp only)); at_builtin; refine Kd.R_append k33 (w0 := w) (W := w4.alloc (.cells #[.int .i64 (-1)] 3)) w.heap.size rfl (.tmp 18) (.tmp 20) 23 33 (.agg #[(.int .i64 0), (.string ⟨#[]⟩), (.bool false), (.int .i64 0), (.slice none 0 0), (.int .i64 0), (.string ⟨#[]⟩)]) 88 rfl Tryd.underlying23 info33 rfl (by decide) (by omega) (.slice (some ⟨g2, 0, none⟩) 2 2) [pA, pB] pC [.int .i64 0, .string ⟨#[99]⟩, .bool true, .int .i64 3, .slice none 0 0, .int .i64 0, .string ⟨#[]⟩] (fun _ => True) (fun _ => False) rfl (by first | rfl | (rw [World.size_alloc]; rfl)) ?aP (fun _ hk => hk.elim) ?aF ?aO ?aB ?aS (by decide) ?_; (case aP => exact k33_mkM _ _ _ pC (Kd.R_nil _ _ _ _ _)); (case aF => exact fun _ _ => trivial); (case aO => exact HL5.out); (case aB => exact HB5.out); (case aS => exact HB5.out.size); intro v6 w6 ho hb hg hat; obtain ⟨A6, c6, rfl⟩ := Kd.R_slice ho; have HL6 := Lib.hid ho; have HB6 := Lib.hid hb; have HU6 := Lib.hid (Kd.R_over' HU5.out (Kd.R_typed HL5.out) (by decide) hg); have HV6 := Lib.hid (Kd.R_over' HV5.out (Kd.R_typed HL5.out) (by decide) hg); have HO := Lib.hid (Order_is w6 (some ⟨w4.heap.size, 0, none⟩) 1 [-1] A6 c6 [pA, pB, pC] 0 (HLA.out.below hb) (Kd.R_reads' HU6.out).2.2 (by decide) (Kd.R_reads' ho).2.2 (Kd.R_reads' ho).2.1 (by decide) (by decide)); clear ho hb hg hat) | fail)
  rw [ck3] at HO
  refine HO.out.mono ?_
  rintro _ w7 ⟨v7, o7, rfl, hr7, hb7, -, hcl⟩
  obtain rfl : o7 = [2, 0, 1] := closed_one (hcl rfl) (fun M F => good3 F)
  have HB7 := Lib.hid (below_step HB6.out hb7)
  have HV7 := Lib.hid (Kd.R_below HV6.out hb7)
  obtain ⟨A7, c7, rfl⟩ := Kd.R_slice hr7
  have HQ7 := Lib.hid (Kd.R_lower hr7 (Nat.zero_le _))
  clear hcl hr7 hb7 HO HB4 HL4 HV4 HU5 HB5 HL5 HV5 HL6 HB6 HU6 HV6
  have HS1 := Lib.hid (same_is (w7.alloc (.cells #[.int .i64 0, .int .i64 1] 3)) A4 (some ⟨w7.heap.size, 0, none⟩) c4 2 [0, 1] [0, 1] (Kd.R_reads' (Kd.R_alloc HV7.out _)).2.2 (Kd.R_reads' HV7.out).2.1 (Kd.R_reads' (mkInts (w := w7.alloc (.cells #[.int .i64 0, .int .i64 1] 3)) (g := w7.heap.size) (base := 0) (ok := fun _ => True) [0, 1] (blk_new _ _) (Nat.zero_le _) trivial (by decide))).2.2 (by decide) (by decide))
  rw [decide_eq_true rfl] at HS1
  go_wp2_with fail
  refine HS1.out.mono ?_
  rintro _ w8 ⟨rfl, ⟨n, rfl⟩⟩
  have HB8 := Lib.hid ((below_alloc HB7.out (.cells #[.int .i64 0, .int .i64 1] 3)).trans (pw_below_drewN (Below.refl _ _) n))
  have HQ8 := Lib.hid (Kd.R_drewN (Kd.R_alloc HQ7.out (.cells #[.int .i64 0, .int .i64 1] 3)) n)
  obtain ⟨w8, e8⟩ : ∃ w8, w8 = (w7.alloc (.cells #[.int .i64 0, .int .i64 1] 3)).drewN n := ⟨_, rfl⟩
  rw [← e8] at HB8 HQ8 ⊢
  clear e8 HS1
  have HS2 := Lib.hid (same_is (w8.alloc (.cells #[.int .i64 2, .int .i64 0, .int .i64 1] 3)) A7 (some ⟨w8.heap.size, 0, none⟩) c7 3 [2, 0, 1] [2, 0, 1] (Kd.R_reads' (Kd.R_alloc HQ8.out _)).2.2 (Kd.R_reads' HQ8.out).2.1 (Kd.R_reads' (mkInts (w := w8.alloc (.cells #[.int .i64 2, .int .i64 0, .int .i64 1] 3)) (g := w8.heap.size) (base := 0) (ok := fun _ => True) [2, 0, 1] (blk_new _ _) (Nat.zero_le _) trivial (by decide))).2.2 (by decide) (by decide))
  rw [decide_eq_true rfl] at HS2
  go_wp2_with fail
  refine HS2.out.mono ?_
  rintro _ w9 ⟨rfl, ⟨n2, rfl⟩⟩
  go_wp2_with fail
  go_ret
  exact ⟨rfl, (below_alloc HB8.out _).trans (pw_below_drewN (Below.refl _ _) n2)⟩
end Go.Proofs.YtccjclmjoegibaaDoor.Ce
