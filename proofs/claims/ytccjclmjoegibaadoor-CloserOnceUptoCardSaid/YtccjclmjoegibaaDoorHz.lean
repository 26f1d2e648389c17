/- Push and Pop of Go's heap, over the parts that may be closed next. -/
import Derived.Test.YtccjclmjoegibaaDoorHy
namespace Go.Proofs.YtccjclmjoegibaaDoor.Ce
open Go.RowKit Go.Maps Go.Proofs.YtccjclmjoegibaaDoor Go.Proofs.YtccjclmjoegibaaDoorW.PrintWords Go.Proofs.YtccjclmjoegibaaDoorW.PrintLast Go.Proofs.YtccjclmjoegibaaDoorW.PrintMore PCloserOrders Hp
attribute [local go_sem] max2_int min2_int max_two min_two max_three min_three max_four min_four
set_option linter.unusedVariables false
set_option linter.unusedSimpArgs false
set_option maxHeartbeats 4000000 in
theorem hpush_is (w0 w : World) (hb : Nat) (ok : Nat → Prop) (A : Option Addr) (c : Nat) (l : List S33) (v : Value) (h : List Int) (x : Int) (H : HS w0 w hb ok A c l v h) (hx : 0 ≤ x ∧ x < l.length) (hl : h.length < 900000) :
    Calls Tryd.prog 52 #[.iface 73 (.pointer (some ⟨hb, 0, none⟩)), .iface 3 (.int .i64 x)] w fun e w' => e = .returned (.tuple #[]) ∧ (∃ v', HS w0 w' hb (fun k => ok k ∨ w.heap.size ≤ k) A c l v' (pushL (aheadB l) h x)) ∧ Chg (fun k => k = hb ∨ ok k) w w' := by
  have HP := Lib.hid (pushm_is w0 w hb ok A c l v h x H hx (by omega))
  have HL := Lib.hid hl
  clear H hx hl
  have hm1 := m_push
  have hm2 := m_len
  go_enter Tryd.func52, Tryd.ntmps52
  go_wp2_with fail
  refine HP.out.mono ?_
  rintro _ w3 ⟨rfl, ⟨v3, h3⟩, c3⟩
  have H3 := Lib.hid h3
  have C3 := Lib.hid c3
  have HN := Lib.hid (len_is w0 w3 hb _ A c l v3 _ h3)
  have HU := Lib.hid (up_is w0 w3 hb _ A c l v3 _ h.length h3 (by simp) (by simp; have := HL.out; omega))
  have hw : wrap64 (((h ++ [x]).length : Int) - 1) = (h.length : Int) := by
    have := HL.out
    rw [← i64_w, IntWalk.i64_in _ (by simp; omega)]; simp
  clear h3 c3 HP
  generalize (h ++ [x]).length = n at *
  go_wp2_with fail
  refine HN.out.mono ?_
  rintro _ w4 ⟨rfl, rfl⟩
  go_wp2_with fail
  refine HU.out.mono ?_
  rintro _ w5 ⟨rfl, h5, c5⟩
  go_wp2_with fail
  go_end0
  exact ⟨rfl, ⟨_, h5⟩, ⟨c5.os.trans C3.out.os, c5.tape.trans C3.out.tape, c5.output.trans C3.out.output, Nat.le_trans C3.out.size c5.size, fun k hk hs => (c5.block k (Nat.lt_of_lt_of_le hk C3.out.size) (fun q => hs (q.elim .inr (fun q => absurd hk (by omega))))).trans (C3.out.block k hk hs)⟩⟩
set_option maxHeartbeats 4000000 in
theorem hpop_is (w0 w : World) (hb : Nat) (ok : Nat → Prop) (A : Option Addr) (c : Nat) (l : List S33) (v : Value) (h : List Int) (H : HS w0 w hb ok A c l v h) (hp : 0 < h.length) (hl : h.length < 900000) (hh : Heap (aheadB l) h h.length) :
    Calls Tryd.prog 54 #[.iface 73 (.pointer (some ⟨hb, 0, none⟩))] w fun e w' => e = .returned (.iface 3 (.int .i64 (at_ h 0))) ∧ (∃ v', HS w0 w' hb ok A c l v' (popL (aheadB l) h)) ∧ Chg (fun k => k = hb ∨ ok k) w w' := by
  have HG := Lib.hid (pop_heap (ahead_ord l) h hp hh)
  have HN := Lib.hid (len_is w0 w hb ok A c l v h H)
  have HS1 := Lib.hid (swap_is w0 w hb ok A c l v h 0 (h.length - 1) H hp (by omega))
  have HL := Lib.hid (And.intro hp hl)
  have hw : wrap64 ((h.length : Int) - 1) = ((h.length - 1 : Nat) : Int) := by rw [← i64_w, IntWalk.i64_in _ (by omega)]; omega
  obtain ⟨n, hn⟩ : ∃ n, n = h.length - 1 := ⟨_, rfl⟩
  have HNN := Lib.hid hn
  rw [← hn] at hw HS1 HG
  have hpop : popL (aheadB l) h = (downL (aheadB l) (swap h 0 n) 0 n).take n := by unfold popL; rw [hn]
  rw [hpop] at HG ⊢
  clear H hp hl hh hn hpop
  have hm1 := m_len
  have hm2 := m_swap
  have hm3 := m_pop
  go_enter Tryd.func54, Tryd.ntmps54
  go_wp2_with fail
  refine HN.out.mono ?_
  rintro _ w2 ⟨rfl, rfl⟩
  go_wp2_with fail
  refine HS1.out.mono ?_
  rintro _ w3 ⟨rfl, h3, c3⟩
  have C3 := Lib.hid c3
  have HD := Lib.hid (down_is w0 w3 hb ok A c l v _ 0 n h3 (by rw [swap_len]; have := HNN.out; omega) (by omega) (by rw [swap_len]; have := HL.out; omega))
  clear h3 c3 HS1
  go_wp2_with fail
  refine HD.out.mono ?_
  rintro _ w4 ⟨⟨b, rfl⟩, h4, c4⟩
  have C4 := Lib.hid c4
  have HP := Lib.hid (popm_is w0 w4 hb ok A c l v _ h4 (by rw [HG.out.2.2.2.2.1]; exact HL.out.1) (by rw [HG.out.2.2.2.2.1]; have := HL.out.2; omega))
  rw [HG.out.2.2.2.2.1, ← HNN.out, HG.out.2.2.2.1] at HP
  clear h4 c4 HD
  go_wp2_with fail
  refine HP.out.mono ?_
  rintro _ w5 ⟨rfl, h5, c5⟩
  go_wp2_with fail
  go_ret
  exact ⟨rfl, h5, ((C3.out.mono (fun _ q => .inr q)).trans (C4.out.mono (fun _ q => .inr q))).trans (c5.mono (fun _ q => .inl q))⟩
end Go.Proofs.YtccjclmjoegibaaDoor.Ce
