/- What New makes. -/
import Derived.Test.YtchbammjcnhkiaaDoorCb
namespace Go.Proofs.YtchbammjcnhkiaaDoor.Ce
open Go.RowKit Go.Maps Go.Proofs.YtchbammjcnhkiaaDoor Go.Proofs.YtchbammjcnhkiaaDoorW.PrintWords Go.Proofs.YtchbammjcnhkiaaDoorW.PrintLast Go.Proofs.YtchbammjcnhkiaaDoorW.PrintMore
def freshC (a : Bool) (tr ba fa ca : Int) : Cel := ⟨a, tr, ba, fa, ca, 1, 0, 0, 0, 0, 0, 0⟩
/-- Is it a policy? -/
def polOk (tr ba fa ca : Int) : Prop := (tr = 0 ∧ ba = 0 ∧ fa = 0 ∧ ca = 0) ∨ ((1 ≤ tr ∧ tr ≤ 64) ∧ (0 ≤ ba ∧ ba ≤ 1073741824) ∧ (1 ≤ fa ∧ fa ≤ 16) ∧ (ba ≤ ca ∧ ca ≤ 1099511627776))
abbrev NewC (w : World) (a : Bool) (tr ba fa ca : Int) (Q : Ending → World → Prop) : Prop := Calls Tryd.prog 8 #[.bool a, .agg #[.int .i64 tr, .int .i64 ba, .int .i64 fa, .int .i64 ca]] w Q
set_option maxRecDepth 100000 in
theorem new_zero (w : World) (a : Bool) : NewC w a 0 0 0 0 fun e w' => ∃ b, e = .returned (.tuple #[.pointer (some ⟨b, 0, none⟩), .int .i64 0]) ∧ At w' b (freshC a 0 0 0 0) (.slice none 0 0) (.slice none 0 0) ∧ Below w.heap.size w w' ∧ w.heap.size ≤ b := by
  unfold NewC
  go_enter Tryd.func8, Tryd.ntmps8
  go_wp2
  go_ret2
  exact ⟨w.heap.size + 1, rfl, by have := blk_new (w.alloc (.cells #[.int .i64 0, .int .i64 0, .int .i64 0, .int .i64 0] 23)) (.cells ((freshC a 0 0 0 0).cells (.slice none 0 0) (.slice none 0 0)) 66); rw [World.size_alloc] at this; exact this, ((Below.refl _ _).alloc (Nat.le_refl _) _).alloc (by rw [World.size_alloc]; omega) _, by omega⟩
set_option maxRecDepth 100000 in
theorem new_ok (w : World) (a : Bool) (tr ba fa ca : Int) (h1 : 1 ≤ tr) (h2 : tr ≤ 64) (h3 : 0 ≤ ba) (h4 : ba ≤ 1073741824) (h5 : 1 ≤ fa) (h6 : fa ≤ 16) (h7 : ba ≤ ca) (h8 : ca ≤ 1099511627776) : NewC w a tr ba fa ca fun e w' => ∃ b, e = .returned (.tuple #[.pointer (some ⟨b, 0, none⟩), .int .i64 0]) ∧ At w' b (freshC a tr ba fa ca) (.slice none 0 0) (.slice none 0 0) ∧ Below w.heap.size w w' ∧ w.heap.size ≤ b := by
  have hb : (tr == 0) = false := by simpa using (by omega : ¬ tr = 0)
  have n1 : ¬ tr < 1 := by omega
  have n2 : ¬ 64 < tr := by omega
  have n3 : ¬ ba < 0 := by omega
  have n4 : ¬ 1073741824 < ba := by omega
  have n5 : ¬ fa < 1 := by omega
  have n6 : ¬ 16 < fa := by omega
  have n7 : ¬ ca < ba := by omega
  have n8 : ¬ 1099511627776 < ca := by omega
  clear h1 h2 h3 h4 h5 h6 h7 h8
  unfold NewC
  go_enter Tryd.func8, Tryd.ntmps8
  go_wp2
  go_ret2
  exact ⟨w.heap.size + 1, rfl, by have := blk_new (w.alloc (.cells #[.int .i64 tr, .int .i64 ba, .int .i64 fa, .int .i64 ca] 23)) (.cells ((freshC a tr ba fa ca).cells (.slice none 0 0) (.slice none 0 0)) 66); rw [World.size_alloc] at this; exact this, ((Below.refl _ _).alloc (Nat.le_refl _) _).alloc (by rw [World.size_alloc]; omega) _, by omega⟩
set_option maxRecDepth 100000 in
theorem bad_1a (w : World) (a : Bool) (tr ba fa ca : Int) (h : tr < 0) : NewC w a tr ba fa ca fun e w' => e = .returned (.tuple #[.pointer none, .int .i64 50]) ∧ Below w.heap.size w w' := by
  have hb : (tr == 0) = false := by simpa using (by omega : ¬ tr = 0)
  have n1 : tr < 1 := by omega
  clear h
  unfold NewC
  go_enter Tryd.func8, Tryd.ntmps8
  go_wp2
  go_ret2
  exact ⟨rfl, (Below.refl _ _).alloc (Nat.le_refl _) _⟩
set_option maxRecDepth 100000 in
theorem bad_1b (w : World) (a : Bool) (ba fa ca : Int) (h : ba ≠ 0) : NewC w a 0 ba fa ca fun e w' => e = .returned (.tuple #[.pointer none, .int .i64 50]) ∧ Below w.heap.size w w' := by
  have hb : (ba == 0) = false := by simpa using h
  clear h
  unfold NewC
  go_enter Tryd.func8, Tryd.ntmps8
  go_wp2
  go_ret2
  exact ⟨rfl, (Below.refl _ _).alloc (Nat.le_refl _) _⟩
set_option maxRecDepth 100000 in
theorem bad_1c (w : World) (a : Bool) (fa ca : Int) (h : fa ≠ 0) : NewC w a 0 0 fa ca fun e w' => e = .returned (.tuple #[.pointer none, .int .i64 50]) ∧ Below w.heap.size w w' := by
  have hb : (fa == 0) = false := by simpa using h
  clear h
  unfold NewC
  go_enter Tryd.func8, Tryd.ntmps8
  go_wp2
  go_ret2
  exact ⟨rfl, (Below.refl _ _).alloc (Nat.le_refl _) _⟩
set_option maxRecDepth 100000 in
theorem bad_1d (w : World) (a : Bool) (ca : Int) (h : ca ≠ 0) : NewC w a 0 0 0 ca fun e w' => e = .returned (.tuple #[.pointer none, .int .i64 50]) ∧ Below w.heap.size w w' := by
  have hb : (ca == 0) = false := by simpa using h
  clear h
  unfold NewC
  go_enter Tryd.func8, Tryd.ntmps8
  go_wp2
  go_ret2
  exact ⟨rfl, (Below.refl _ _).alloc (Nat.le_refl _) _⟩
set_option maxRecDepth 100000 in
theorem bad_2 (w : World) (a : Bool) (tr ba fa ca : Int) (_h0 : 1 ≤ tr)  (n2 : 64 < tr) : NewC w a tr ba fa ca fun e w' => e = .returned (.tuple #[.pointer none, .int .i64 50]) ∧ Below w.heap.size w w' := by
  have hb : (tr == 0) = false := by simpa using (by omega : ¬ tr = 0)
  have n1 : ¬ tr < 1 := by omega
  clear _h0
  unfold NewC
  go_enter Tryd.func8, Tryd.ntmps8
  go_wp2
  go_ret2
  exact ⟨rfl, (Below.refl _ _).alloc (Nat.le_refl _) _⟩
set_option maxRecDepth 100000 in
theorem bad_3 (w : World) (a : Bool) (tr ba fa ca : Int) (h0 : 1 ≤ tr) (n2 : ¬ 64 < tr) (n3 : ba < 0) : NewC w a tr ba fa ca fun e w' => e = .returned (.tuple #[.pointer none, .int .i64 50]) ∧ Below w.heap.size w w' := by
  have hb : (tr == 0) = false := by simpa using (by omega : ¬ tr = 0)
  have n1 : ¬ tr < 1 := by omega
  clear h0
  unfold NewC
  go_enter Tryd.func8, Tryd.ntmps8
  go_wp2
  go_ret2
  exact ⟨rfl, (Below.refl _ _).alloc (Nat.le_refl _) _⟩
set_option maxRecDepth 100000 in
theorem bad_4 (w : World) (a : Bool) (tr ba fa ca : Int) (h0 : 1 ≤ tr) (n2 : ¬ 64 < tr) (n3 : ¬ ba < 0) (n4 : 1073741824 < ba) : NewC w a tr ba fa ca fun e w' => e = .returned (.tuple #[.pointer none, .int .i64 50]) ∧ Below w.heap.size w w' := by
  have hb : (tr == 0) = false := by simpa using (by omega : ¬ tr = 0)
  have n1 : ¬ tr < 1 := by omega
  clear h0
  unfold NewC
  go_enter Tryd.func8, Tryd.ntmps8
  go_wp2
  go_ret2
  exact ⟨rfl, (Below.refl _ _).alloc (Nat.le_refl _) _⟩
set_option maxRecDepth 100000 in
theorem bad_5 (w : World) (a : Bool) (tr ba fa ca : Int) (h0 : 1 ≤ tr) (n2 : ¬ 64 < tr) (n3 : ¬ ba < 0) (n4 : ¬ 1073741824 < ba) (n5 : fa < 1) : NewC w a tr ba fa ca fun e w' => e = .returned (.tuple #[.pointer none, .int .i64 50]) ∧ Below w.heap.size w w' := by
  have hb : (tr == 0) = false := by simpa using (by omega : ¬ tr = 0)
  have n1 : ¬ tr < 1 := by omega
  clear h0
  unfold NewC
  go_enter Tryd.func8, Tryd.ntmps8
  go_wp2
  go_ret2
  exact ⟨rfl, (Below.refl _ _).alloc (Nat.le_refl _) _⟩
set_option maxRecDepth 100000 in
theorem bad_6 (w : World) (a : Bool) (tr ba fa ca : Int) (h0 : 1 ≤ tr) (n2 : ¬ 64 < tr) (n3 : ¬ ba < 0) (n4 : ¬ 1073741824 < ba) (n5 : ¬ fa < 1) (n6 : 16 < fa) : NewC w a tr ba fa ca fun e w' => e = .returned (.tuple #[.pointer none, .int .i64 50]) ∧ Below w.heap.size w w' := by
  have hb : (tr == 0) = false := by simpa using (by omega : ¬ tr = 0)
  have n1 : ¬ tr < 1 := by omega
  clear h0
  unfold NewC
  go_enter Tryd.func8, Tryd.ntmps8
  go_wp2
  go_ret2
  exact ⟨rfl, (Below.refl _ _).alloc (Nat.le_refl _) _⟩
set_option maxRecDepth 100000 in
theorem bad_7 (w : World) (a : Bool) (tr ba fa ca : Int) (h0 : 1 ≤ tr) (n2 : ¬ 64 < tr) (n3 : ¬ ba < 0) (n4 : ¬ 1073741824 < ba) (n5 : ¬ fa < 1) (n6 : ¬ 16 < fa) (n7 : ca < ba) : NewC w a tr ba fa ca fun e w' => e = .returned (.tuple #[.pointer none, .int .i64 50]) ∧ Below w.heap.size w w' := by
  have hb : (tr == 0) = false := by simpa using (by omega : ¬ tr = 0)
  have n1 : ¬ tr < 1 := by omega
  clear h0
  unfold NewC
  go_enter Tryd.func8, Tryd.ntmps8
  go_wp2
  go_ret2
  exact ⟨rfl, (Below.refl _ _).alloc (Nat.le_refl _) _⟩
set_option maxRecDepth 100000 in
theorem bad_8 (w : World) (a : Bool) (tr ba fa ca : Int) (h0 : 1 ≤ tr) (n2 : ¬ 64 < tr) (n3 : ¬ ba < 0) (n4 : ¬ 1073741824 < ba) (n5 : ¬ fa < 1) (n6 : ¬ 16 < fa) (n7 : ¬ ca < ba) (n8 : 1099511627776 < ca) : NewC w a tr ba fa ca fun e w' => e = .returned (.tuple #[.pointer none, .int .i64 50]) ∧ Below w.heap.size w w' := by
  have hb : (tr == 0) = false := by simpa using (by omega : ¬ tr = 0)
  have n1 : ¬ tr < 1 := by omega
  clear h0
  unfold NewC
  go_enter Tryd.func8, Tryd.ntmps8
  go_wp2
  go_ret2
  exact ⟨rfl, (Below.refl _ _).alloc (Nat.le_refl _) _⟩
instance (tr ba fa ca : Int) : Decidable (polOk tr ba fa ca) := by unfold polOk; infer_instance
theorem new_bad (w : World) (a : Bool) (tr ba fa ca : Int) (h : ¬ polOk tr ba fa ca) : NewC w a tr ba fa ca fun e w' => e = .returned (.tuple #[.pointer none, .int .i64 50]) ∧ Below w.heap.size w w' := by
  unfold polOk at h
  by_cases h1 : 1 ≤ tr
  · by_cases n2 : 64 < tr
    · exact bad_2 w a tr ba fa ca h1 n2
    · by_cases n3 : ba < 0
      · exact bad_3 w a tr ba fa ca h1 n2 n3
      · by_cases n4 : 1073741824 < ba
        · exact bad_4 w a tr ba fa ca h1 n2 n3 n4
        · by_cases n5 : fa < 1
          · exact bad_5 w a tr ba fa ca h1 n2 n3 n4 n5
          · by_cases n6 : 16 < fa
            · exact bad_6 w a tr ba fa ca h1 n2 n3 n4 n5 n6
            · by_cases n7 : ca < ba
              · exact bad_7 w a tr ba fa ca h1 n2 n3 n4 n5 n6 n7
              · exact bad_8 w a tr ba fa ca h1 n2 n3 n4 n5 n6 n7 (by omega)
  · by_cases n1 : tr < 0
    · exact bad_1a w a tr ba fa ca n1
    · obtain rfl : tr = 0 := by omega
      by_cases n2 : ba = 0
      · subst n2
        by_cases n3 : fa = 0
        · subst n3
          exact bad_1d w a ca (fun e => h (Or.inl ⟨rfl, rfl, rfl, e⟩))
        · exact bad_1c w a fa ca n3
      · exact bad_1b w a ba fa ca n2
theorem new_good (w : World) (a : Bool) (tr ba fa ca : Int) (h : polOk tr ba fa ca) : NewC w a tr ba fa ca fun e w' => ∃ b, e = .returned (.tuple #[.pointer (some ⟨b, 0, none⟩), .int .i64 0]) ∧ At w' b (freshC a tr ba fa ca) (.slice none 0 0) (.slice none 0 0) ∧ Below w.heap.size w w' ∧ w.heap.size ≤ b := by
  rcases h with ⟨rfl, rfl, rfl, rfl⟩ | ⟨⟨h1, h2⟩, ⟨h3, h4⟩, ⟨h5, h6⟩, h7, h8⟩
  · exact new_zero w a
  · exact new_ok w a tr ba fa ca h1 h2 h3 h4 h5 h6 h7 h8
end Go.Proofs.YtchbammjcnhkiaaDoor.Ce
