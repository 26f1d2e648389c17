/- Whoever hangs on a cancelled one is cancelled: what the law sees, in plain Lean. -/
import Derived.Test.YtdnkedifjaccoaaDoorSt
namespace Go.Proofs.YtdnkedifjaccoaaDoor.Ce
open Go.RowKit Go.Maps Go.Proofs.YtdnkedifjaccoaaDoor Go.Proofs.YtdnkedifjaccoaaDoorW.PrintWords Go.Proofs.YtdnkedifjaccoaaDoorW.PrintLast Go.Proofs.YtdnkedifjaccoaaDoorW.PrintMore PToken
set_option linter.unusedVariables false
set_option linter.unusedSimpArgs false
def fr1 : ByteArray := ⟨#[102, 114, 101, 115, 104, 95, 49]⟩
def fr2 : ByteArray := ⟨#[102, 114, 101, 115, 104, 95, 50]⟩
theorem fr1_name : nameB fr1 = true := by decide +kernel
theorem fr2_name : nameB fr2 = true := by decide +kernel
theorem fr_ne : fr1.toList ≠ fr2.toList := by decide +kernel
theorem tokE_nil : tokE [] = 0 := by unfold tokE; rfl
namespace Tree
variable {T : Tree} {q : Nat}
/-- What one is that is made below another one. -/
theorem made_new (W : WF T) (a : ByteArray) (hq : q < T.toks.length) :
    (T.made a [q]).toks.length = T.toks.length + 1 ∧ (∀ j, j < T.toks.length → (T.made a [q]).tk j = T.tk j) ∧ (T.made a [q]).tk T.toks.length = ⟨a, [q], -1, (T.tk q).done, if (T.tk q).done = true then (T.tk q).why else []⟩ := by
  refine ⟨made_len _ _ _, ?_, ?_⟩
  · intro j hj
    cases hd : (T.tk q).done with
    | true => rw [made_done W a hq hd, tk_turn _ _ _ _ (by simp [Tree.add]), if_neg (by omega), tk_add, if_neg (by omega)]
    | false => rw [made_free W a hq hd, tk_add, if_neg (by omega)]
  · cases hd : (T.tk q).done with
    | true => rw [made_done W a hq hd, tk_turn _ _ _ _ (by simp [Tree.add]), if_pos rfl, tk_add, if_pos rfl, if_pos rfl]
    | false => rw [made_free W a hq hd, tk_add, if_pos rfl, if_neg (by decide)]
theorem finds_one {nm : ByteArray} (h : T.find nm = some q) : T.finds [nm] = some [q] := by
  unfold finds; rw [h]; rfl
/-- A making that goes well. -/
theorem make_well (G : Good T) (a : ByteArray) {nm : ByteArray} (ha : nameB a = true) (hf : T.find a = none) (h : T.find nm = some q) (hl : T.toks.length < 256) :
    T.makeC a [nm] = T.made a [q] ∧ T.makeE a [nm] = 0 ∧ T.makeB a [nm] = (T.tk q).done := by
  have h1 : T.makeC a [nm] = T.made a [q] := by
    unfold makeC
    rw [if_pos ⟨ha, hf, by simp, hl⟩, finds_one h]
  have h2 : T.makeE a [nm] = 0 := by
    unfold makeE
    rw [if_pos ha, hf]
    simp only [List.length_cons, List.length_nil]
    rw [if_neg (by omega), finds_one h]
    simp only
    rw [if_neg (by omega)]
  refine ⟨h1, h2, ?_⟩
  unfold makeB
  rw [if_pos h2, h1, (made_new G.wf a (find_some h).1).2.2]
theorem cancel_nil_E {nm : ByteArray} (h : T.find nm = some q) : T.cancelE nm [] = 0 := by
  unfold cancelE; rw [h]; rfl
theorem cancel_nil_C {nm : ByteArray} (h : T.find nm = some q) : T.cancelC nm [] = T.cancel q [] := by
  unfold cancelC; rw [h]
theorem failE_done {nm : ByteArray} (h : T.find nm = some q) (hd : (T.tk q).done = true) : T.failE nm = 0 ∧ T.failL nm = (T.tk q).why := by
  unfold failE failL; rw [h]; exact ⟨if_pos hd, if_pos hd⟩
/-- What the law sees behind both makings. -/
structure HangA (T T2 : Tree) (nm : ByteArray) (q : Nat) : Prop where
  good : Good T2
  len : T2.toks.length = T.toks.length + 2
  f0 : T2.find nm = some q
  f1 : T2.find fr1 = some T.toks.length
  f2 : T2.find fr2 = some (T.toks.length + 1)
  lt : q < T.toks.length
  d1 : (T2.tk T.toks.length).done = (T2.tk q).done
  d2 : (T2.tk (T.toks.length + 1)).done = (T2.tk q).done
  p1 : (T2.tk T.toks.length).par = [q]
  p2 : (T2.tk (T.toks.length + 1)).par = [T.toks.length]
  w : (T2.tk q).done = true → (T2.tk T.toks.length).why = (T2.tk q).why ∧ (T2.tk (T.toks.length + 1)).why = (T2.tk q).why
  dq : (T2.tk q).done = (T.tk q).done
  nm0 : (T2.tk q).name = nm
theorem hang_a (G : Good T) {nm : ByteArray} (hq : q < T.toks.length) (hnm : (T.tk q).name = nm) (h1 : T.find fr1 = none) (h2 : T.find fr2 = none) (hl : T.toks.length < 255) :
    T.makeE fr1 [nm] = 0 ∧ T.makeB fr1 [nm] = (T.tk q).done ∧ (T.makeC fr1 [nm]).makeE fr2 [fr1] = 0 ∧ (T.makeC fr1 [nm]).makeB fr2 [fr1] = (T.tk q).done ∧ HangA T ((T.makeC fr1 [nm]).makeC fr2 [fr1]) nm q := by
  have hf0 := G.find hq (by rw [hnm])
  obtain ⟨e1, e2, e3⟩ := make_well G fr1 fr1_name h1 hf0 (by omega)
  have G1 := (makeC_good G fr1 [nm]).1
  obtain ⟨m1, m2, m3⟩ := made_new G.wf fr1 hq
  rw [← e1] at m1 m2 m3
  generalize T.makeC fr1 [nm] = T1 at *
  have g1 : T1.find fr1 = some T.toks.length := G1.find (by omega) (by rw [m3])
  have g2 : T1.find fr2 = none := by
    cases hf : T1.find fr2 with
    | none => rfl
    | some i =>
      have h3 := find_some hf
      by_cases e : i = T.toks.length
      · rw [e, m3] at h3; exact absurd h3.2 fr_ne
      · rw [m2 i (by omega)] at h3; exact absurd h3.2 (find_none h2 i (by omega))
  obtain ⟨k1, k2, k3⟩ := make_well G1 fr2 fr2_name g2 g1 (by omega)
  have G2 := (makeC_good G1 fr2 [fr1]).1
  obtain ⟨n1, n2, n3⟩ := made_new (q := T.toks.length) G1.wf fr2 (by omega)
  rw [← k1] at n1 n2 n3
  generalize T1.makeC fr2 [fr1] = T2 at *
  rw [m1] at n1 n2 n3
  have q1 : T2.tk q = T.tk q := by rw [n2 q (by omega), m2 q hq]
  have q2 : T2.tk T.toks.length = ⟨fr1, [q], -1, (T.tk q).done, if (T.tk q).done = true then (T.tk q).why else []⟩ := by rw [n2 _ (by omega), m3]
  rw [m3] at n3
  refine ⟨e2, e3, k2, by rw [k3, m3], G2, by omega, G2.find (by omega) (by rw [q1, hnm]), G2.find (by omega) (by rw [q2]), G2.find (by omega) (by rw [n3]), hq, by rw [q2, q1], by rw [n3, q1], by rw [q2], by rw [n3], fun hd => ?_, by rw [q1], by rw [q1, hnm]⟩
  rw [q1] at hd
  rw [q2, n3, q1]
  simp [hd]
/-- What it sees at the end. -/
structure HangZ (T3 : Tree) (nm : ByteArray) : Prop where
  e0 : T3.failE nm = 0
  e1 : T3.failE fr1 = 0
  e2 : T3.failE fr2 = 0
  l1 : T3.failL fr1 = T3.failL nm
  l2 : T3.failL fr2 = T3.failL nm
  ne : T3.failL nm ≠ []
  c : T3.cancelC nm [] = T3
  ce : T3.cancelE nm [] = 0
theorem hang_z {T3 : Tree} {nm : ByteArray} {n : Nat} (W : WF T3) (f0 : T3.find nm = some q) (f1 : T3.find fr1 = some n) (f2 : T3.find fr2 = some (n + 1)) (d0 : (T3.tk q).done = true) (d1 : (T3.tk n).done = true) (d2 : (T3.tk (n + 1)).done = true)
    (w1 : (T3.tk n).why = (T3.tk q).why) (w2 : (T3.tk (n + 1)).why = (T3.tk q).why) : HangZ T3 nm := by
  have a0 := failE_done f0 d0
  have a1 := failE_done f1 d1
  have a2 := failE_done f2 d2
  refine ⟨a0.1, a1.1, a2.1, by rw [a1.2, a0.2, w1], by rw [a2.2, a0.2, w2], by rw [a0.2]; exact W.why q d0, ?_, cancel_nil_E f0⟩
  rw [cancel_nil_C f0]
  unfold Tree.cancel
  rw [if_pos d0]
theorem HangA.done {T2 : Tree} {nm : ByteArray} (h : HangA T T2 nm q) (hd : (T.tk q).done = true) : HangZ T2 nm := by
  have hq : (T2.tk q).done = true := by rw [h.dq, hd]
  exact hang_z h.good.wf h.f0 h.f1 h.f2 hq (by rw [h.d1, hq]) (by rw [h.d2, hq]) (h.w hq).1 (h.w hq).2
theorem HangA.free {T2 : Tree} {nm : ByteArray} (h : HangA T T2 nm q) (hd : (T.tk q).done = false) :
    T2.cancelE nm [] = 0 ∧ (∃ m, newN T2 (T2.cancelC nm []) = nm :: (m ++ [fr1, fr2])) ∧ HangZ (T2.cancelC nm []) nm := by
  have hq : (T2.tk q).done = false := by rw [h.dq, hd]
  have G3 := cancelC_good h.good nm []
  obtain ⟨⟨m, hm⟩, w0, w1, w2, d0, d1, d2⟩ := hangs (c := []) h.good.wf h.len h.lt hq (by rw [h.d1, hq]) (by rw [h.d2, hq]) h.p1 h.p2 tokE_nil
  rw [← cancel_nil_C h.f0] at hm w0 w1 w2 d0 d1 d2
  have hlen : (T2.cancelC nm []).toks.length = T2.toks.length := by rw [cancel_nil_C h.f0, cancel_len]
  generalize T2.cancelC nm [] = T3 at *
  have hl := h.len
  have n0 : (T3.tk q).name = nm := by rw [(G3.2.same q (by have := h.lt; omega)).1, h.nm0]
  have n1 : (T3.tk T.toks.length).name.toList = fr1.toList := by rw [(G3.2.same _ (by omega)).1]; exact (find_some h.f1).2
  have n2 : (T3.tk (T.toks.length + 1)).name.toList = fr2.toList := by rw [(G3.2.same _ (by omega)).1]; exact (find_some h.f2).2
  refine ⟨cancel_nil_E h.f0, ⟨T3.namesOf m, ?_⟩, hang_z G3.1.wf (G3.1.find (by have := h.lt; omega) (by rw [n0])) (G3.1.find (by omega) n1) (G3.1.find (by omega) n2) d0 d1 d2 (by rw [w1, w0]) (by rw [w2, w0])⟩
  unfold newN
  rw [hm, List.drop_left]
  unfold namesOf
  simp only [List.map_cons, List.map_append, List.map_nil, n0, bytes_eq n1, bytes_eq n2]
end Tree
end Go.Proofs.YtdnkedifjaccoaaDoor.Ce
