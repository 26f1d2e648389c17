/- The leaves of a failure: in plain Lean, and the walk of fail.Leaves where the failure is right. -/
import Derived.Test.YtccjclmjoegibaaDoorFc
namespace Go.Proofs.YtccjclmjoegibaaDoor.Ce
open Go.RowKit Go.Maps Go.Proofs.YtccjclmjoegibaaDoor Go.Proofs.YtccjclmjoegibaaDoorW.PrintWords Go.Proofs.YtccjclmjoegibaaDoorW.PrintLast Go.Proofs.YtccjclmjoegibaaDoorW.PrintMore PCloserOrders Hp
attribute [local go_sem] max2_int min2_int max_two min_two max_three min_three max_four min_four
set_option linter.unusedVariables false
set_option linter.unusedSimpArgs false
/-- All leaves, in order, each as a failure. -/
def leavesL : List S49 → List (List S49)
  | [] => []
  | c :: r => if c.f1 = 0 then [c] :: leavesL r else leavesL r
theorem leavesL_app : ∀ a b : List S49, leavesL (a ++ b) = leavesL a ++ leavesL b
  | [], b => rfl
  | c :: a, b => by
    rw [List.cons_append, leavesL, leavesL, leavesL_app a b]
    split <;> rfl
theorem leavesL_len : ∀ a : List S49, (leavesL a).length ≤ a.length
  | [] => Nat.le_refl _
  | c :: a => by
    have := leavesL_len a
    rw [leavesL]
    split <;> simp <;> omega
/-- What is wanted: of each closer that fails or panics its failure, in order. -/
def wantsL (l : List S33) : List Int → List (List S49)
  | [] => []
  | n :: r => if failsP (rd_T33 l n) = true then [leafOf (kindP (rd_T33 l n)) (rd_T33 l n).f5.f1] :: wantsL l r else wantsL l r
theorem wantsL_app (l : List S33) : ∀ a b : List Int, wantsL l (a ++ b) = wantsL l a ++ wantsL l b
  | [], b => rfl
  | n :: a, b => by
    rw [List.cons_append, wantsL, wantsL, wantsL_app l a b]
    split <;> rfl
theorem wantsL_len (l : List S33) : ∀ a : List Int, (wantsL l a).length = (pairsL l a).length
  | [] => rfl
  | n :: a => by
    have := wantsL_len l a
    rw [wantsL, pairsL]
    split <;> simp [this]
theorem leaves_pairs (l : List S33) : ∀ a : List Int, leavesL (pairsL l a).flatten = wantsL l a
  | [] => rfl
  | n :: a => by
    have ih := leaves_pairs l a
    rw [wantsL, pairsL]
    split
    · rw [List.flatten_cons, leavesL_app, ih]
      unfold pairP
      rw [leavesL, if_pos (show (leafOf (kindP (rd_T33 l n)) (rd_T33 l n).f5.f1).f1 = 0 from rfl), leavesL, if_neg (show ¬ (cellOf (rd_T33 l n).f1).f1 = 0 by show ¬ (1 : Int) = 0; decide)]
      rfl
    · exact ih
theorem leaves_join (l : List S33) (o : List Int) (h : Pairs (pairsL l o)) (hl : (pairsL l o).length ≤ 256) : leavesL (joinL (pairsL l o)) = wantsL l o := by
  by_cases e : pairsL l o = []
  · have := wantsL_len l o
    rw [e] at this
    rw [e, List.eq_nil_of_length_eq_zero this]
    rfl
  · have hp : 0 < (pairsL l o).length := by
      cases hq : pairsL l o with
      | nil => exact absurd hq e
      | cons a b => simp
    rw [(joinL_ok h hl e).2, leavesL_app, leaves_pairs, leavesL, if_neg (show ¬ (joinOf ((pairsL l o).length : Int)).f1 = 0 by show ¬ (((pairsL l o).length : Nat) : Int) = 0; omega)]
    simp [leavesL]
theorem take_t49 (f : List S49) (i : Nat) (hi : i < f.length) : f.take (i + 1) = f.take i ++ [rd_T49 f (i : Int)] := by
  rw [List.take_add_one, List.getElem?_eq_getElem hi]
  congr 1
  unfold rd_T49
  rw [Int.toNat_natCast, List.getD_eq_getElem?_getD, List.getElem?_eq_getElem hi]
  rfl
theorem R_fresh {α : Type} {d : Kd α} {e : Nat} {w w1 : World} {base : Nat} {v u : Value} {xs : List α} (h : d.R e w1 base (fun _ => True) v xs) (hu : ∀ k, u.ownBlock = some k → k < base) : d.R e w1 base (fun k => True ∧ some k ≠ u.ownBlock) v xs :=
  Kd.R_mono (Kd.R_bound h) (fun k q => ⟨trivial, fun e => by have := hu k e.symm; have := q.2.1; omega⟩)
set_option maxHeartbeats 4000000 in
set_option maxRecDepth 100000 in
theorem fleaves_is (w : World) (A : Option Addr) (c : Nat) (f : List S49) (hla : LaidF w) (hl : Kd.C k49 w A f.length f) (hf : OkF f) :
    Calls Tryd.prog 26 #[.slice A f.length c] w fun e w' => ∃ v, e = .returned (.tuple #[v, .int .i64 0]) ∧ Kd.R (Kd.slice 49 k49) 44 w' w.heap.size (fun _ => True) v (leavesL f) ∧ Below w.heap.size w w' := by
  have HCK := Lib.hid (fcheck_is w A c f hla hl hf)
  have HL := Lib.hid hl
  have HN := Lib.hid hf.len
  clear hla hl hf
  go_enter Tryd.func26, Tryd.ntmps26
  go_wp2_with fail
  refine HCK.out.mono ?_
  rintro _ w2 ⟨rfl, hb2⟩
  have HB2 := Lib.hid hb2
  clear hb2 HCK
  go_wp2_with fail
  go_loopg [5, 15] f.length (fun gk v5 v15 wr => ∃ i : Nat, v15 = .int .i64 i ∧ gk = f.length - i ∧ Hid (i ≤ f.length) ∧ Hid (Kd.R (Kd.slice 49 k49) 44 wr w.heap.size (fun _ => True) v5 (leavesL (f.take i))) ∧ Hid (Below w.heap.size w wr))
  case atStart => exact ⟨0, rfl, by simp, Lib.hid (Nat.zero_le _), Lib.hid (Kd.R_nil _ _ _ _ _), HB2⟩
  case round =>
    clear HB2
    obtain ⟨i, rfl, rfl, HI, HR, HB⟩ := hrel
    obtain ⟨o, ho⟩ : ∃ o, o = leavesL (f.take i) := ⟨_, rfl⟩
    rw [← ho] at HR
    have HO := Lib.hid ho
    have HOL := Lib.hid (show o.length ≤ 1024 by rw [ho]; have := leavesL_len (f.take i); rw [List.length_take] at this; have := HN.out; omega)
    clear ho
    obtain ⟨B5, d5, rfl⟩ := Kd.R_slice HR.out
    by_cases hlt : i < f.length
    rotate_left
    · have hlt' : ¬ (i : Int) < (f.length : Int) := by omega
      have HE := Lib.hid (show o = leavesL f by rw [HO.out, List.take_of_length_le (by omega)])
      clear hlt
      go_wp2_with fail
      go_ret2
      first
        | exact ⟨_, rfl, by rw [← HE.out]; exact HR.out, HB.out⟩
        | exact ⟨⟨_, rfl, by rw [← HE.out]; exact HR.out⟩, HB.out⟩
    have hlt' : (i : Int) < (f.length : Int) := by omega
    have hwi : wrap64 ((i : Int) + 1) = ((i + 1 : Nat) : Int) := wsucc i (by have := HN.out; omega)
    have HLI := Lib.hid hlt
    have HTK := Lib.hid (take_t49 f i hlt)
    obtain ⟨ad, rfl, p0, p1, p2⟩ := at_T49 (Kd.C_below HL.out HB.out) (i : Int) (by omega) hlt'
    rw [Int.toNat_natCast] at p0 p1 p2
    have i0 : (0 : Int) ≤ (i : Int) := Int.natCast_nonneg i
    obtain ⟨x, hx⟩ : ∃ x, x = rd_T49 f (i : Int) := ⟨_, rfl⟩
    rw [← hx] at HTK p0 p1 p2
    have HLV := Lib.hid (show leavesL (f.take (i + 1)) = o ++ (if x.f1 = 0 then [[x]] else []) by rw [HTK.out, leavesL_app, ← HO.out, leavesL]; rfl)
    clear hx hlt
    go_upto_region 8 with fail
    obtain ⟨w3, e3⟩ : ∃ w3, w3 = wr.alloc (.cells #[.int .i64 x.f0, .int .i64 x.f1, .string x.f2] 49) := ⟨_, rfl⟩
    have hbw : Below wr.heap.size wr w3 := by rw [e3]; exact below_alloc (Below.refl _ _) _
    have k3 : w3.heap[wr.heap.size]? = some (.cells #[.int .i64 x.f0, .int .i64 x.f1, .string x.f2] 49 (0, 0)) := by rw [e3]; exact blk_new _ _
    rw [← e3]
    obtain ⟨bx, hbx⟩ : ∃ bx, bx = wr.heap.size := ⟨_, rfl⟩
    rw [← hbx] at k3 ⊢
    have HR3 := Lib.hid (Kd.R_below HR.out hbw)
    have HB3 := Lib.hid (below_step HB.out hbw)
    have HLT := Lib.hid (fun k (hk : (Value.slice B5 o.length d5).ownBlock = some k) => Kd.R_lt HR3.out k hk)
    have q0 := (blk_cell k3 0).trans rfl
    have q1 := (blk_cell k3 1).trans rfl
    have q2 := (blk_cell k3 2).trans rfl
    clear e3 hbw k3 hbx p0 p1 p2 HR HB
    by_cases hz : x.f1 = 0
    · have HZ := Lib.hid (show leavesL (f.take (i + 1)) = o ++ [[x]] by rw [HLV.out, if_pos hz])
      have hz1 : (x.f1 == 0) = true := by simpa using hz
      have HM := Lib.hid (lit49 w3 x)
      have HBA := Lib.hid (below_alloc (Below.refl w3.heap.size w3) (.cells #[.int .i64 x.f0, .int .i64 x.f1, .string x.f2] 49))
      clear hz
      go_wp2_with (first | ((with_reducible refine gate_builtin (b := .append) (xs := #[.tmp 22, .tmp 25]) rfl ?_); at_builtin; refine Kd.R_append (Kd.slice 49 k49) (w0 := w) (W := w3.alloc (.cells #[.int .i64 x.f0, .int .i64 x.f1, .string x.f2] 49)) w.heap.size rfl (.tmp 22) (.tmp 25) 53 44 (.slice none 0 0) 24 rfl Tryd.underlying53 info44 rfl (by decide) (by omega) (.slice B5 o.length d5) o [x] [.slice (some ⟨w3.heap.size, 0, none⟩) 1 1] (fun _ => True) (fun k => True ∧ some k ≠ (Value.slice B5 o.length d5).ownBlock) rfl (by first | rfl | (rw [World.size_alloc]; rfl)) ⟨_, rfl, Kd.R_lower (R_fresh (w := w3) HM.out HLT.out) HB3.out.size⟩ (fun _ hk => hk) (fun _ _ => trivial) (Kd.R_below HR3.out HBA.out) (below_step HB3.out HBA.out) (below_step HB3.out HBA.out).size (by have := HOL.out; omega) ?_; intro v8 w8 ho hb hg hat; have HR8 := Lib.hid ho; have HB8 := Lib.hid hb; clear ho hb hg hat) | fail)
      go_roundg (f.length - (i + 1))
      case measure => exact Nat.sub_lt_sub_left HLI.out (Nat.lt_succ_self _)
      case rel => exact ⟨i + 1, by first | rfl | rw [hwi], rfl, Lib.hid HLI.out, Lib.hid (by rw [HZ.out]; exact HR8.out), HB8⟩
    · have HZ := Lib.hid (show leavesL (f.take (i + 1)) = o by rw [HLV.out, if_neg hz, List.append_nil])
      have hz1 : (x.f1 == 0) = false := by simpa using hz
      have hz2 : decide (x.f1 = 0) = false := by simpa using hz
      clear hz
      go_wp2_with fail
      go_roundg (f.length - (i + 1))
      case measure => exact Nat.sub_lt_sub_left HLI.out (Nat.lt_succ_self _)
      case rel => exact ⟨i + 1, by first | rfl | rw [hwi], rfl, Lib.hid HLI.out, Lib.hid (by rw [HZ.out]; exact HR3.out), HB3⟩
end Go.Proofs.YtccjclmjoegibaaDoor.Ce
