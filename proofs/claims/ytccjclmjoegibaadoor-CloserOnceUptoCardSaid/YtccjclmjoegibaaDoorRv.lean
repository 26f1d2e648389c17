/- A scope and all beneath it: what the printed function comes to, in plain Lean. -/
import Derived.Test.YtccjclmjoegibaaDoorUw
import Derived.Test.YtccjclmjoegibaaDoorPCloserOrdersx2
namespace Go.Proofs.YtccjclmjoegibaaDoor.Ce
open Go.RowKit Go.Maps Go.Proofs.YtccjclmjoegibaaDoor Go.Proofs.YtccjclmjoegibaaDoorW.PrintWords Go.Proofs.YtccjclmjoegibaaDoorW.PrintLast Go.Proofs.YtccjclmjoegibaaDoorW.PrintMore PCloserOrders Hp
set_option linter.unusedVariables false
set_option linter.unusedSimpArgs false
/-- The reversal loop between two places. -/
theorem rev_l0 (o : List Int) (hl : o.length ≤ 1000000) : ∀ (n : Nat) (x : List Int) (i : Nat), o.length - 2 * i = n → 2 * i ≤ o.length + 1 → x.length = o.length → (∀ p, p < o.length → at_ x p = if p < i ∨ o.length - 1 - p < i then at_ o (o.length - 1 - p) else at_ o p) →
    ∃ k, slices_Reverse_int_int.l0 k x (i : Int) ((o.length : Int) - 1 - i) = some o.reverse := by
  intro n
  induction n using Nat.strongRecOn with
  | _ n ih =>
    intro x i hn hi hx hp
    by_cases hlt : (i : Int) < (o.length : Int) - 1 - i
    · have hj0 : (0 : Int) ≤ (o.length : Int) - 1 - i := by omega
      have e1 : wrap64 ((i : Int) + 1) = ((i + 1 : Nat) : Int) := by rw [w64s (by omega) (by omega)]; omega
      have e2 : wrap64 (((o.length : Int) - 1 - i) - 1) = (o.length : Int) - 1 - ((i + 1 : Nat) : Int) := by rw [w64s (by omega) (by omega)]; omega
      obtain ⟨j, hj⟩ : ∃ j : Nat, (j : Int) = (o.length : Int) - 1 - i := ⟨((o.length : Int) - 1 - i).toNat, by omega⟩
      have hjn : ((o.length : Int) - 1 - i).toNat = j := by omega
      obtain ⟨k, hk⟩ := ih (o.length - 2 * (i + 1)) (by omega) (swap x i j) (i + 1) rfl (by omega) (by rw [swap_len, hx]) (fun p hpl => by
        rw [at_swap x i j p (by omega) (by omega)]
        by_cases c1 : p = j
        · rw [if_pos c1, hp i (by omega), if_neg (by omega), if_pos (by omega)]
          congr 1
          omega
        · rw [if_neg c1]
          by_cases c2 : p = i
          · rw [if_pos c2, hp j (by omega), if_neg (by omega), if_pos (by omega)]
            congr 1
            omega
          · rw [if_neg c2, hp p hpl]
            by_cases c3 : p < i ∨ o.length - 1 - p < i
            · rw [if_pos c3, if_pos (by omega)]
            · rw [if_neg c3, if_neg (by omega)])
      refine ⟨k + 1, ?_⟩
      rw [slices_Reverse_int_int.l0, if_pos hlt, if_pos hj0, if_pos (by omega), if_pos (by omega), if_pos (by omega), e1, e2]
      rw [hjn, Int.toNat_natCast]
      have hs : (x.set i (rd x ((o.length : Int) - 1 - i))).set j (rd x (i : Int)) = swap x i j := by
        unfold swap
        rw [rd_nat, rd_nat, hjn, Int.toNat_natCast]
      rw [hs]
      exact hk
    · refine ⟨1, ?_⟩
      rw [slices_Reverse_int_int.l0, if_neg hlt]
      refine congrArg some (list_ext (by rw [hx, List.length_reverse]) (fun p hpl => ?_))
      rw [hx] at hpl
      rw [hp p hpl]
      have hr : at_ o.reverse p = at_ o (o.length - 1 - p) := by
        rw [at_get _ _ (by rw [List.length_reverse]; exact hpl), at_get _ _ (by omega), List.getElem_reverse]
      rw [hr]
      by_cases c : p < i ∨ o.length - 1 - p < i
      · rw [if_pos c]
      · rw [if_neg c]
        congr 1
        omega
theorem rev_ok (o : List Int) (hl : o.length ≤ 1000000) : ∃ k, slices_Reverse_int_int.f k o = some o.reverse := by
  obtain ⟨k, hk⟩ := rev_l0 o hl _ o 0 rfl (by omega) rfl (fun p hp => by rw [if_neg (by omega)])
  refine ⟨k, ?_⟩
  unfold slices_Reverse_int_int.f
  rw [w64s (by omega) (by omega)]
  have : ((o.length : Int) - 1 - ((0 : Nat) : Int)) = (o.length : Int) - 1 := by omega
  rw [this] at hk
  exact hk

/-- From a scope one comes up to another one. -/
inductive Up (up : List Int) (top : Int) : Int → Prop
  | here : Up up top top
  | step {s : Int} : 0 ≤ s → s < up.length → Up up top (rd up s) → Up up top s
def UpOk (up : List Int) : Prop := ∀ s : Int, 0 ≤ s → s < up.length → -1 ≤ rd up s ∧ rd up s < s
theorem upB_ok (up : List Int) : ∀ n i : Nat, upB up n i = true → ∀ s : Int, (i : Int) ≤ s → s < i + n → -1 ≤ rd up s ∧ rd up s < s
  | 0, i, _, s, h1, h2 => by omega
  | n + 1, i, h, s, h1, h2 => by
    rw [upB] at h
    simp only [Bool.and_eq_true, decide_eq_true_eq] at h
    by_cases e : s = i
    · subst e; exact h.1
    · exact upB_ok up n (i + 1) h.2 s (by omega) (by omega)
theorem scopes_ok (up : List Int) (h : scopesE up = 0) : UpOk up ∧ up.length ≤ 32 := by
  unfold scopesE at h
  by_cases h1 : up.length > 32
  · rw [if_pos h1] at h; exact absurd h (by decide)
  · rw [if_neg h1] at h
    by_cases h2 : upB up up.length 0 = true
    · exact ⟨fun s h0 hs => upB_ok up up.length 0 h2 s (by omega) (by omega), by omega⟩
    · rw [if_neg h2] at h; exact absurd h (by decide)
theorem Up.cases (up : List Int) (top s : Int) (ht : 0 ≤ top) (h0 : 0 ≤ s) (h1 : s < up.length) : Up up top s ↔ s = top ∨ (rd up s ≥ 0 ∧ Up up top (rd up s)) := by
  constructor
  · intro h
    cases h with
    | here => exact .inl rfl
    | step _ _ h =>
      refine .inr ⟨?_, h⟩
      cases h with
      | here => exact ht
      | step q _ _ => exact q
  · rintro (rfl | ⟨_, h⟩)
    · exact .here
    · exact .step h0 h1 h
/-- A scope and all beneath it, falling. -/
structure Ben (up : List Int) (top : Int) (r : List Int) : Prop where
  mem : ∀ x, x ∈ r ↔ 0 ≤ x ∧ x < up.length ∧ Up up top x
  fall : r.Pairwise (fun a b => a > b)
theorem ben_l0 (up : List Int) (U : UpOk up) (hl : up.length ≤ 32) (top : Int) (ht : 0 ≤ top) : ∀ (n i : Nat) (is : List Bool) (out : List Int), n = up.length - i → i ≤ up.length → is.length = up.length →
    (∀ j : Int, 0 ≤ j → j < i → (rdOf false is j = true ↔ Up up top j)) → (∀ x, x ∈ out ↔ 0 ≤ x ∧ x < i ∧ Up up top x) → out.Pairwise (fun a b => a < b) → out.length ≤ i →
    ∃ k r, closer_beneath.l0 k top is out up (up.length : Int) (i : Int) = some r ∧ Ben up top r
  | 0, i, is, out, hn, hi, hl1, H, M, S, L => by
    obtain ⟨k, hk⟩ := rev_ok out (by omega)
    have he : i = up.length := by omega
    subst he
    refine ⟨k + 1, out.reverse, ?_, fun x => ?_, ?_⟩
    · rw [closer_beneath.l0, if_neg (by omega), hk]; rfl
    · rw [List.mem_reverse, M]
    · rw [List.pairwise_reverse]; exact S
  | n + 1, i, is, out, hn, hi, hl1, H, M, S, L => by
    have hw : wrap64 ((i : Int) + 1) = ((i + 1 : Nat) : Int) := by rw [w64s (by omega) (by omega)]; omega
    have hb : i < is.length := by omega
    have hset : ∀ (v : Bool) (j : Int), 0 ≤ j → rdOf false (is.set (i : Int).toNat v) j = if j = i then v else rdOf false is j := fun v j h0 => rdOf_set is (i : Int) v j (by omega) (by omega) h0
    have hups := U (i : Int) (by omega) (by omega)
    have key : ∀ v : Bool, (v = true ↔ Up up top (i : Int)) → ∃ k r, (if rdOf false (is.set (i : Int).toNat v) (i : Int) = true then (if out.length < 17592186044416 then (closer_beneath.l0 k top (is.set (i : Int).toNat v) (out ++ [(i : Int)]) up (up.length : Int) (wrap64 ((i : Int) + 1))) else none) else closer_beneath.l0 k top (is.set (i : Int).toNat v) out up (up.length : Int) (wrap64 ((i : Int) + 1))) = some r ∧ Ben up top r := by
      intro v hv
      have HH : ∀ j : Int, 0 ≤ j → j < ((i + 1 : Nat) : Int) → (rdOf false (is.set (i : Int).toNat v) j = true ↔ Up up top j) := fun j h0 h1 => by
        rw [hset v j h0]
        by_cases e : j = i
        · rw [if_pos e, e]; exact hv
        · rw [if_neg e]; exact H j h0 (by omega)
      rw [hset v (i : Int) (by omega), if_pos rfl, hw]
      cases hvv : v with
      | true =>
        obtain ⟨k, r, h1, h2⟩ := ben_l0 up U hl top ht n (i + 1) (is.set (i : Int).toNat v) (out ++ [(i : Int)]) (by omega) (by omega) (by simpa using hl1) HH (fun x => by
          rw [List.mem_append, M, List.mem_singleton]
          constructor
          · rintro (⟨a, b, c⟩ | rfl)
            · exact ⟨a, by omega, c⟩
            · exact ⟨by omega, by omega, hv.1 hvv⟩
          · rintro ⟨a, b, c⟩
            by_cases e : x = i
            · exact .inr e
            · exact .inl ⟨a, by omega, c⟩) (by
          rw [List.pairwise_append]
          refine ⟨S, by simp, fun a ha b hb => ?_⟩
          rw [List.mem_singleton.1 hb]
          exact ((M a).1 ha).2.1) (by simp; omega)
        rw [hvv] at h1
        exact ⟨k, r, by rw [if_pos rfl, if_pos (by omega)]; exact h1, h2⟩
      | false =>
        obtain ⟨k, r, h1, h2⟩ := ben_l0 up U hl top ht n (i + 1) (is.set (i : Int).toNat v) out (by omega) (by omega) (by simpa using hl1) HH (fun x => by
          rw [M]
          constructor
          · rintro ⟨a, b, c⟩; exact ⟨a, by omega, c⟩
          · rintro ⟨a, b, c⟩
            refine ⟨a, ?_, c⟩
            by_cases e : x = i
            · rw [e] at c; have := hv.2 c; rw [hvv] at this; exact absurd this (by decide)
            · omega) S (by omega)
        rw [hvv] at h1
        exact ⟨k, r, by rw [if_neg (by decide)]; exact h1, h2⟩
    have hcs := Up.cases up top (i : Int) ht (by omega) (by omega)
    by_cases c1 : (i : Int) = top
    · obtain ⟨k, r, h1, h2⟩ := key true ⟨fun _ => hcs.2 (.inl c1), fun _ => rfl⟩
      exact ⟨k + 1, r, by rw [closer_beneath.l0, if_pos (by omega), if_pos (by omega), if_pos (by omega), if_pos c1, if_pos (by omega)]; exact h1, h2⟩
    · by_cases c2 : rd up (i : Int) ≥ 0
      · obtain ⟨k, r, h1, h2⟩ := key (rdOf false is (rd up (i : Int))) (by
          rw [H _ c2 hups.2, hcs]
          exact ⟨fun q => .inr ⟨c2, q⟩, fun q => q.elim (fun q => absurd q c1) (fun q => q.2)⟩)
        exact ⟨k + 1, r, by rw [closer_beneath.l0, if_pos (by omega), if_pos (by omega), if_pos (by omega), if_neg c1, if_pos c2, if_pos c2, if_pos (by omega), if_pos (by omega)]; exact h1, h2⟩
      · obtain ⟨k, r, h1, h2⟩ := key false (by
          rw [hcs]
          exact ⟨fun q => absurd q (by decide), fun q => q.elim (fun q => absurd q c1) (fun q => absurd q.1 c2)⟩)
        exact ⟨k + 1, r, by rw [closer_beneath.l0, if_pos (by omega), if_pos (by omega), if_pos (by omega), if_neg c1, if_neg c2, if_pos (by omega)]; exact h1, h2⟩
theorem beneath_is (w : World) (U : Option Addr) (cu : Nat) (up : List Int) (top : Int) (hu : Kd.C (Kd.int .i64) w U up.length up) (hcu : up.length ≤ cu) (ho : UpOk up) (hl : up.length ≤ 32) (ht : 0 ≤ top) :
    ∃ r, Ben up top r ∧ Calls Tryd.prog 28 #[.slice U up.length cu, .int .i64 top] w fun e w' => ∃ v, e = .returned v ∧ Kd.R (Kd.int .i64) 3 w' w.heap.size (fun _ => True) v r ∧ Below w.heap.size w w' := by
  obtain ⟨k, r, h1, h2⟩ := ben_l0 up ho hl top ht up.length 0 (List.replicate up.length false) [] rfl (Nat.zero_le _) (by simp) (fun j h0 h1 => by omega) (fun x => by simp; omega) List.Pairwise.nil (Nat.zero_le _)
  refine ⟨r, h2, closer_beneath.calls k U cu up top r w hu hcu ?_⟩
  unfold closer_beneath.f
  rw [if_pos (by omega), if_pos (by omega), Int.toNat_natCast]
  exact h1
theorem Ben.len {up : List Int} {top : Int} {r : List Int} (B : Ben up top r) : r.length ≤ up.length := by
  have hn : r.Nodup := B.fall.imp (fun h => by omega)
  have := nodup_len r ((List.range up.length).map Int.ofNat) hn (fun x hx => by
    obtain ⟨h0, h1, _⟩ := (B.mem x).1 hx
    exact List.mem_map.2 ⟨x.toNat, List.mem_range.2 (by omega), by show ((x.toNat : Nat) : Int) = x; omega⟩)
  simpa using this
end Go.Proofs.YtccjclmjoegibaaDoor.Ce
