/- What the statements' own functions come to: SameInts, reached, under. -/
import Derived.Test.YtccjclmjoegibaaDoorCc
import Derived.Test.YtccjclmjoegibaaDoorQs
import Derived.Test.YtccjclmjoegibaaDoorQr
namespace Go.Proofs.YtccjclmjoegibaaDoor.Ce
open Go.RowKit Go.Maps Go.Proofs.YtccjclmjoegibaaDoor Go.Proofs.YtccjclmjoegibaaDoorW.PrintWords Go.Proofs.YtccjclmjoegibaaDoorW.PrintLast Go.Proofs.YtccjclmjoegibaaDoorW.PrintMore PCloserOrders Hp
set_option linter.unusedVariables false
set_option linter.unusedSimpArgs false
theorem under_l0 (up : List Int) (U : UpOk up) (hl : up.length ≤ 32) (top : Int) (ht : 0 ≤ top) : ∀ (m : Nat) (s : Int) (i : Nat), (s + 1).toNat = m → -1 ≤ s → s < up.length → i + s < up.length → ∃ k b, onceweblaw19_under.l0 k up s top (i : Int) = some b ∧ (b = true ↔ Up up top s) := by
  intro m
  induction m using Nat.strongRecOn with
  | _ m ih =>
    intro s i hm h0 h1 h2
    by_cases hs : s = -1
    · refine ⟨2, false, ?_, ?_⟩
      · rw [onceweblaw19_under.l0]
        subst hs
        by_cases hi : (i : Int) ≤ (up.length : Int)
        · rw [if_pos hi, if_neg (by decide), onceweblaw19_under.j1, if_neg (by decide)]
        · rw [if_neg hi, onceweblaw19_under.j1, if_neg (by decide)]
      · refine ⟨fun q => absurd q (by decide), fun q => ?_⟩
        subst hs
        cases q with
        | here => omega
        | step q _ _ => omega
    · have hcs := Up.cases up top s ht (by omega) h1
      by_cases e : s = top
      · refine ⟨2, true, ?_, ⟨fun _ => hcs.2 (.inl e), fun _ => rfl⟩⟩
        rw [onceweblaw19_under.l0, if_pos (by omega), if_pos (by omega), decide_eq_true h1, onceweblaw19_under.j1, if_pos rfl, if_pos e]
      · have hu := U s (by omega) h1
        obtain ⟨k, b, hk, hb⟩ := ih (rd up s + 1).toNat (by omega) (rd up s) (i + 1) rfl hu.1 (by omega) (by omega)
        have hw : wrap64 ((i : Int) + 1) = ((i + 1 : Nat) : Int) := by rw [w64s (by omega) (by omega)]; omega
        refine ⟨k + 2, b, ?_, ?_⟩
        · rw [onceweblaw19_under.l0, if_pos (by omega), if_pos (by omega), decide_eq_true h1, onceweblaw19_under.j1, if_pos rfl, if_neg e, if_pos (by omega), if_pos h1, hw]
          exact hk
        · rw [hb, hcs]
          refine ⟨fun q => .inr ⟨?_, q⟩, fun q => q.elim (fun q => absurd q e) (fun q => q.2)⟩
          cases q with
          | here => exact ht
          | step q _ _ => exact q
theorem under_is (w : World) (A : Option Addr) (c : Nat) (up : List Int) (s top : Int) (hr : Kd.C (Kd.int .i64) w A up.length up) (hc : up.length ≤ c) (U : UpOk up) (hl : up.length ≤ 32) (ht : 0 ≤ top) (h0 : 0 ≤ s) (h1 : s < up.length) :
    ∃ b, (b = true ↔ Up up top s) ∧ Calls Tryd.prog 11 #[.slice A up.length c, .int .i64 s, .int .i64 top] w fun e w' => e = .returned (.bool b) ∧ Drawn0 w w' := by
  obtain ⟨k, b, hk, hb⟩ := under_l0 up U hl top ht _ s 0 rfl (by omega) h1 (by omega)
  exact ⟨b, hb, onceweblaw19_under.calls k A c up s top b w hr hc hk⟩

theorem copy_f (l : List Int) (h : l.length ≤ 1048576) : oncewebbase_CopyInts.f l = some l := by
  unfold oncewebbase_CopyInts.f
  show (if ([] : List Int).length + l.length < 17592186044416 then some ([] ++ l) else none) = some l
  rw [if_pos (by simp; omega)]
  rfl
/-- The rows that stand already. -/
def RowsOk (l : List S33) (i : Nat) (M : List (List Bool)) : Prop := M.length = i ∧ ∀ (j : Nat) x, M[j]? = some x → x.length = l.length ∧ ∀ k : Int, 0 ≤ k → k < l.length → (rdOf false x k = true ↔ Rch l j k)
theorem RowsOk.add {l : List S33} {i : Nat} {M : List (List Bool)} {row : List Bool} (H : RowsOk l i M) (hrl : row.length = l.length) (hrr : ∀ k : Int, 0 ≤ k → k < l.length → (rdOf false row k = true ↔ Rch l (i : Int) k)) : RowsOk l (i + 1) (M ++ [row]) := by
  refine ⟨by simp [H.1], fun j x hj => ?_⟩
  rcases Nat.lt_or_ge j M.length with q | q
  · rw [List.getElem?_append_left q] at hj; exact H.2 j x hj
  · rw [List.getElem?_append_right q] at hj
    have : j - M.length = 0 := by
      rcases Nat.eq_zero_or_pos (j - M.length) with z | z
      · exact z
      · rw [List.getElem?_eq_none (by simp; omega)] at hj; exact absurd hj (by simp)
    rw [this] at hj
    simp at hj
    subst hj
    have : j = i := by have := H.1; omega
    subst this
    exact ⟨hrl, hrr⟩
theorem RowsOk.found {l : List S33} {M : List (List Bool)} (H : RowsOk l l.length M) : Found l M := by
  have hg : ∀ i : Int, 0 ≤ i → i < l.length → M[i.toNat]? = some (rd_L6 M i) := fun i h0 h1 => by
    unfold rd_L6
    have : i.toNat < M.length := by rw [H.1]; omega
    rw [List.getD_eq_getElem?_getD, List.getElem?_eq_getElem this]
    rfl
  refine ⟨H.1, fun i h0 h1 => (H.2 _ _ (hg i h0 h1)).1, fun i k h0 h1 k0 k1 => ?_⟩
  have := (H.2 _ _ (hg i h0 h1)).2 k k0 k1
  rw [Int.toNat_of_nonneg h0] at this
  exact this
theorem reached_go (l : List S33) (V : Valid l) (hn : l.length ≤ 256) (hT : unS l [] l.length ≤ 1048576) : ∀ (n i : Nat), n = l.length - i → i ≤ l.length → ∀ M, RowsOk l i M → ∃ k M', onceweblaw19_reached.l0 k l M (i : Int) = some M' ∧ Found l M'
  | 0, i, hi, hil, M, HM => by
    have : i = l.length := by omega
    subst this
    exact ⟨1, M, by rw [onceweblaw19_reached.l0, if_neg (by omega)], HM.found⟩
  | n + 1, i, hi, hil, M, HM => by
    have hlt : (i : Int) < l.length := by omega
    have hw : wrap64 ((i : Int) + 1) = ((i + 1 : Nat) : Int) := by rw [w64s (by omega) (by omega)]; omega
    have inner : ∀ (m : Nat) (row : List Bool) (todo : List Int), todo.length + unS l row l.length = m → m ≤ 2097152 → DI l (i : Int) row todo → ∃ k M', onceweblaw19_reached.l1 k l M (i : Int) row todo = some M' ∧ Found l M' := by
      intro m
      induction m using Nat.strongRecOn with
      | _ m ih =>
        intro row todo hm hmb D
        by_cases hp : 0 < todo.length
        rotate_left
        · obtain rfl : todo = [] := List.eq_nil_of_length_eq_zero (by omega)
          obtain ⟨k, M', h1, h2⟩ := reached_go l V hn hT n (i + 1) (by omega) (by omega) (M ++ [row]) (HM.add D.rl (D.done V (by omega) hlt))
          refine ⟨k + 1, M', ?_, h2⟩
          rw [onceweblaw19_reached.l1, if_neg (by simp), if_pos (by have := HM.1; omega), hw]
          exact h1
        · have hw1 : wrap64 ((todo.length : Int) - 1) = ((todo.length - 1 : Nat) : Int) := by rw [w64s (by omega) (by omega)]; omega
          have htop := D.top hp
          have hbr := htop.rng V (by omega) hlt
          have hrd : rd todo ((todo.length - 1 : Nat) : Int) = at_ todo (todo.length - 1) := rfl
          have htk : (todo.take (todo.length - 1)).length = todo.length - 1 := by rw [List.length_take]; omega
          cases hs : rdOf false row (at_ todo (todo.length - 1)) with
          | true =>
            obtain ⟨k, M', h1, h2⟩ := ih (m - 1) (by omega) row (todo.take (todo.length - 1)) (by rw [htk]; omega) (by omega) (D.seen hp hs)
            refine ⟨k + 1, M', ?_, h2⟩
            rw [onceweblaw19_reached.l1, if_pos (by omega), hw1, if_pos (by omega), if_pos (by omega), if_pos (by omega), hrd]
            show (if at_ todo (todo.length - 1) ≥ 0 then _ else _) = _
            rw [if_pos hbr.1, if_pos hbr.2, if_pos hbr.1, if_pos (by rw [D.rl]; exact hbr.2), if_pos hs, Int.toNat_natCast]
            exact h1
          | false =>
            have hus := unS_set l row (at_ todo (todo.length - 1)) hbr.1 (by have := D.rl; omega) hs l.length
            rw [if_pos hbr.2] at hus
            have hsz : (todo.take (todo.length - 1)).length + (usesOf l (at_ todo (todo.length - 1))).length < 17592186044416 := by rw [htk]; omega
            obtain ⟨k, M', h1, h2⟩ := ih (m - 1) (by omega) _ _ (by rw [List.length_append, htk]; omega) (by omega) (D.fresh V (by omega) hlt hp hs)
            refine ⟨k + 1, M', ?_, h2⟩
            rw [onceweblaw19_reached.l1, if_pos (by omega), hw1, if_pos (by omega), if_pos (by omega), if_pos (by omega), hrd]
            show (if at_ todo (todo.length - 1) ≥ 0 then _ else _) = _
            rw [if_pos hbr.1, if_pos hbr.2, if_pos hbr.1, if_pos (by rw [D.rl]; exact hbr.2), if_neg (by rw [hs]; decide), Int.toNat_natCast, if_pos hsz]
            exact h1
    have hul : (usesOf l (i : Int)).length ≤ 1048576 := Nat.le_trans (unS_one l (i : Int) (by omega) l.length hlt) hT
    obtain ⟨k, M', h1, h2⟩ := inner _ (List.replicate l.length false) (usesOf l (i : Int)) rfl (by have := unS_le l (List.replicate l.length false) l.length; omega) (DI.start l (i : Int))
    refine ⟨k + 1, M', ?_, h2⟩
    rw [onceweblaw19_reached.l0, if_pos hlt, if_pos (by omega), if_pos (by omega), if_pos (by omega), copy_f _ hul]
    show onceweblaw19_reached.l1 k l M (i : Int) (List.replicate ((l.length : Int) : Int).toNat false) (usesOf l (i : Int)) = some M'
    rw [Int.toNat_natCast]
    exact h1
theorem reached_is (w : World) (A : Option Addr) (c : Nat) (l : List S33) (hl : Kd.C k33 w A l.length l) (hc : l.length ≤ c) (V : Valid l) (hn : l.length ≤ 256) (hT : unS l [] l.length ≤ 1048576) :
    ∃ M, Found l M ∧ Calls Tryd.prog 10 #[.slice A l.length c] w fun e w' => ∃ U cu, e = .returned (.slice U M.length cu) ∧ Kd.C (Kd.slice 4 Kd.bool) w' U M.length M ∧ Below w.heap.size w w' := by
  obtain ⟨k, M, h1, h2⟩ := reached_go l V hn hT l.length 0 rfl (Nat.zero_le _) [] ⟨rfl, fun j x hj => absurd hj (by simp)⟩
  refine ⟨M, h2, (onceweblaw19_reached.calls k A c l M w hl hc h1).mono ?_⟩
  rintro e w' ⟨v, rfl, hv, hb⟩
  obtain ⟨U, cu, rfl, _, hC⟩ := Kd.S_reads hv
  exact ⟨U, cu, rfl, hC, hb⟩
end Go.Proofs.YtccjclmjoegibaaDoor.Ce
