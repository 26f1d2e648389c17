/- There is one order alone in which parts are closed; small words. -/
import Derived.Test.YtccjclmjoegibaaDoorCc
namespace Go.Proofs.YtccjclmjoegibaaDoor.Ce
open Go.RowKit Go.Maps Go.Proofs.YtccjclmjoegibaaDoor Go.Proofs.YtccjclmjoegibaaDoorW.PrintWords Go.Proofs.YtccjclmjoegibaaDoorW.PrintLast Go.Proofs.YtccjclmjoegibaaDoorW.PrintMore PCloserOrders Hp
attribute [local go_sem] max2_int min2_int max_two min_two max_three min_three max_four min_four
set_option linter.unusedVariables false
set_option linter.unusedSimpArgs false
theorem wsucc (i : Nat) (h : i ≤ 1000000000) : wrap64 ((i : Int) + 1) = ((i + 1 : Nat) : Int) := by rw [w64s (by omega) (by omega)]; omega
theorem pair_uniq : ∀ {a b : List Int}, a.Pairwise (fun x y => x > y) → b.Pairwise (fun x y => x > y) → (∀ x, x ∈ a ↔ x ∈ b) → a = b
  | [], [], _, _, _ => rfl
  | [], y :: r, _, _, h => absurd ((h y).2 List.mem_cons_self) (by simp)
  | x :: r, [], _, _, h => absurd ((h x).1 List.mem_cons_self) (by simp)
  | x :: a, y :: b, ha, hb, h => by
    rw [List.pairwise_cons] at ha hb
    have hx := (h x).1 List.mem_cons_self
    have hy := (h y).2 List.mem_cons_self
    have hxy : x = y := by
      rcases List.mem_cons.1 hx with q | q
      · exact q
      · rcases List.mem_cons.1 hy with z | z
        · exact z.symm
        · have := hb.1 x q; have := ha.1 y z; omega
    subst hxy
    rw [pair_uniq ha.2 hb.2 (fun z => ?_)]
    constructor
    · intro hz
      rcases List.mem_cons.1 ((h z).1 (List.mem_cons_of_mem _ hz)) with q | q
      · have := ha.1 z hz; omega
      · exact q
    · intro hz
      rcases List.mem_cons.1 ((h z).2 (List.mem_cons_of_mem _ hz)) with q | q
      · have := hb.1 z hz; omega
      · exact q
theorem Ben.uniq {up : List Int} {top : Int} {a b : List Int} (A : Ben up top a) (B : Ben up top b) : a = b := pair_uniq A.fall B.fall (fun x => (A.mem x).trans (B.mem x).symm)
theorem ahead_tot (l : List S33) (x y : Int) (h1 : aheadB l x y = false) (h2 : aheadB l y x = false) : x = y := by
  rw [ahead_false] at h1 h2
  omega
theorem nd_take {l : List Int} (h : l.Nodup) {p : Nat} (hp : p < l.length) : l[p] ∉ l.take p := fun q => by
  rw [← List.take_append_drop p l] at h
  have hd : l[p] ∈ l.drop p := by rw [List.drop_eq_getElem_cons hp]; exact List.mem_cons_self
  exact (List.nodup_append.1 h).2.2 _ q _ hd rfl
theorem Good.uniq {lt P : Int → Int → Bool} (tot : ∀ x y, lt x y = false → lt y x = false → x = y) {all a b : List Int} (G1 : Hp.Good lt P all a) (G2 : Hp.Good lt P all b) : a = b := by
  have hl : a.length = b.length := Nat.le_antisymm (nodup_len a b G1.nodup (fun x hx => (G2.mem x).2 ((G1.mem x).1 hx))) (nodup_len b a G2.nodup (fun x hx => (G1.mem x).2 ((G2.mem x).1 hx)))
  have hp : ∀ p, p ≤ a.length → a.take p = b.take p := by
    intro p
    induction p with
    | zero => intro _; simp
    | succ p ih =>
      intro hle
      have ih' := ih (by omega)
      have ha : a[p]? = some a[p] := List.getElem?_eq_getElem (by omega)
      have hb : b[p]? = some (b[p]'(by omega)) := List.getElem?_eq_getElem (by omega)
      have k1 := G1.pick p _ ha
      have k2 := G2.pick p _ hb
      have na : a[p] ∉ a.take p := nd_take G1.nodup (by omega)
      have nb : b[p]'(by omega) ∉ b.take p := nd_take G2.nodup (by omega)
      have e1 := k1.2 (b[p]'(by omega)) ((G2.mem _).1 (List.getElem_mem _)) (by rw [ih']; exact nb) (by rw [ih']; exact k2.1)
      have e2 := k2.2 a[p] ((G1.mem _).1 (List.getElem_mem _)) (by rw [← ih']; exact na) (by rw [← ih']; exact k1.1)
      have e := tot _ _ e2 e1
      rw [List.take_add_one, List.take_add_one, ha, hb, ih', e]
  have := hp a.length (Nat.le_refl _)
  rwa [List.take_length, hl, List.take_length] at this
theorem Good.congr {lt P Q : Int → Int → Bool} {all a : List Int} (h : ∀ x ∈ all, ∀ y ∈ all, P x y = Q x y) (G : Hp.Good lt P all a) : Hp.Good lt Q all a := by
  refine ⟨G.nodup, G.mem, fun p x hx => ?_⟩
  have hxa : x ∈ all := (G.mem x).1 (List.mem_of_getElem? hx)
  obtain ⟨h1, h2⟩ := G.pick p x hx
  exact ⟨fun y hy hq => h1 y hy (by rw [h y hy x hxa]; exact hq), fun y hy hn hq => h2 y hy hn (fun z hz hp => hq z hz (by rw [← h z hz y hy]; exact hp))⟩
theorem mkR {α : Type} (d : Kd α) {w : World} {g e base : Nat} {ok : Nat → Prop} (xs : List α) (inner : List Value) (hb : w.heap[g]? = some (.cells inner.toArray e (0, 0))) (hg : base ≤ g) (hok : ok g) (hl : inner.length = xs.length * d.sz) (hm : xs.length ≤ 1000000)
    (hr : ∀ j p, xs[j]? = some p → d.M w base (fun k => ok k ∧ some k ≠ some g) p ((inner.drop (j * d.sz)).take d.sz)) : d.R e w base ok (.slice (some ⟨g, 0, none⟩) xs.length xs.length) xs := by
  refine ⟨fun k hk => ?_, inner, ⟨hl, .inr ⟨g, xs.length, inner.toArray, rfl, hg, hb, Nat.le_refl _, by have : maxLen = 9223372036854775807 := rfl; omega, by simp [hl], ?_⟩⟩, hl, hr⟩
  · have : k = g := by injection hk with hk; exact hk.symm
    rw [this]; exact hok
  · rw [← hl]; simp
theorem mkInts {w : World} {g base : Nat} {ok : Nat → Prop} (xs : List Int) (hb : w.heap[g]? = some (.cells (xs.map (Value.int .i64)).toArray 3 (0, 0))) (hg : base ≤ g) (hok : ok g) (hm : xs.length ≤ 1000000) : Kd.R (Kd.int .i64) 3 w base ok (.slice (some ⟨g, 0, none⟩) xs.length xs.length) xs := by
  refine mkR (Kd.int .i64) xs (xs.map (Value.int .i64)) hb hg hok (by rw [List.length_map]; exact (Nat.mul_one _).symm) hm (fun j p hj => ?_)
  have hs : (Kd.int .i64).sz = 1 := rfl
  rw [hs, Nat.mul_one]
  have hlt : j < xs.length := by
    rcases Nat.lt_or_ge j xs.length with q | q
    · exact q
    · rw [List.getElem?_eq_none q] at hj; exact absurd hj (by simp)
  have hp : p = xs[j] := by
    rw [List.getElem?_eq_getElem hlt] at hj
    injection hj with hj
    exact hj.symm
  have : ((xs.map (Value.int .i64)).drop j).take 1 = [.int .i64 p] := by
    rw [List.drop_eq_getElem_cons (by simpa using hlt), List.take_succ_cons, List.take_zero, List.getElem_map, hp]
  rw [this]
  rfl
theorem Found.same {l : List S33} {M N : List (List Bool)} (F : Found l M) (G : Found l N) (a b : Int) (a0 : 0 ≤ a) (a1 : a < l.length) (b0 : 0 ≤ b) (b1 : b < l.length) : relP M a b = relP N a b := by
  have h1 : rdOf false (rd_L6 M a) b = rdOf false (rd_L6 N a) b := by
    have := (F.is a b a0 a1 b0 b1).trans (G.is a b a0 a1 b0 b1).symm
    exact Bool.eq_iff_iff.2 this
  have h2 : rdOf false (rd_L6 M b) a = rdOf false (rd_L6 N b) a := by
    have := (F.is b a b0 b1 a0 a1).trans (G.is b a b0 b1 a0 a1).symm
    exact Bool.eq_iff_iff.2 this
  unfold relP
  rw [h1, h2]
theorem ClosedAs.uniq {up : List Int} {l : List S33} {top : Int} {a b : List Int} (A : ClosedAs up l top a) (B : ClosedAs up l top b) : a = b := by
  obtain ⟨bs, outs, M, hB, hF, hL, rfl, hg⟩ := A.ex
  obtain ⟨bt, outt, N, hB', hF', hL', rfl, hg'⟩ := B.ex
  obtain rfl := hB.uniq hB'
  refine congrArg List.flatten (List.ext_getElem (by omega) (fun j h1 h2 => ?_))
  have e1 := hg j (bs[j]'(by omega)) _ (List.getElem?_eq_getElem (by omega)) (List.getElem?_eq_getElem h1)
  have e2 := hg' j (bs[j]'(by omega)) _ (List.getElem?_eq_getElem (by omega)) (List.getElem?_eq_getElem h2)
  refine Good.uniq (ahead_tot l) e1 (Good.congr (fun x hx y hy => ?_) e2)
  have h3 := (allF_mem l _ x _).1 hx
  have h4 := (allF_mem l _ y _).1 hy
  exact (hF'.same hF x y h3.1 h3.2.1 h4.1 h4.2.1)
theorem OrdPost.len {w w' : World} {up : List Int} {l : List S33} {top : Int} {o : List Int} (hl : l.length ≤ 256) (hu : up.length ≤ 32) (C : ClosedAs up l top o) : o.length ≤ 8192 := by
  obtain ⟨bs, outs, M, hB, hF, hL, rfl, hg⟩ := C.ex
  have := flat_len outs (fun q hq => by
    obtain ⟨t, ht, e⟩ := List.mem_iff_getElem.1 hq
    have hg2 := hg t (bs[t]'(by omega)) q (List.getElem?_eq_getElem (by omega)) (by rw [List.getElem?_eq_getElem ht, e])
    have h5 := Good.len hg2
    have h6 := allF_len l (bs[t]'(by omega)) l.length
    omega)
  have := hB.len
  omega
theorem order_ok {up : List Int} {l : List S33} {top : Int} (h : orderE up l top = 0) : up.length ≤ 32 ∧ l.length ≤ 256 := by
  unfold orderE at h
  by_cases h1 : checkE up l ≠ 0
  · rw [if_pos h1] at h; exact absurd h h1
  · have := check_ok up l (Classical.not_not.1 h1)
    exact ⟨this.2.1, this.2.2.1⟩
end Go.Proofs.YtccjclmjoegibaaDoor.Ce
