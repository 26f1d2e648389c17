/- What comes of closers, as the document has it: turned from what print.sh wrote for a law of this seat. -/
import Derived.Test.YtccjclmjoegibaaDoorQk
namespace Go.Proofs.YtccjclmjoegibaaDoor.PCloserOrders
open Go.RowKit Go.Proofs.YtccjclmjoegibaaDoorW.PrintWords Go.Proofs.YtccjclmjoegibaaDoorW.PrintLast Go.Proofs.YtccjclmjoegibaaDoorW.PrintMore
attribute [local go_sem] max2_int min2_int max_two min_two max_three min_three max_four min_four   -- for this text's walks alone
set_option linter.unusedVariables false
set_option linter.unusedSimpArgs false

/-! ### oncewebref19_Fails: function 22 -/
mutual
def oncewebref19_Fails.j0 : Nat → List (S33) → List Int → Bool → Option ((List (S49)) × Int)
 | 0,_,_,_ => none
 | k + 1,x0,x1,x20 => if x20 = true then (some (([] : List (S49)),3)) else (oncewebref19_Fails.l0 k x0 x1 0)
def oncewebref19_Fails.l0 : Nat → List (S33) → List Int → Int → Option ((List (S49)) × Int)
 | 0,_,_,_ => none
 | k + 1,x0,x1,x6 => if x6 < (x1.length : Int) then (if 0 ≤ x6 then (if (rd x1 x6) < 0 then (some (([] : List (S49)),1)) else (if (rd x1 x6) ≥ (x0.length : Int) then (some (([] : List (S49)),1)) else (oncewebref19_Fails.l0 k x0 x1 (wrap64 (x6 + 1))))) else (none)) else (oncewebref19_Fails.l1 k x0 x1 (([] : List (List (S49)))) 0)
def oncewebref19_Fails.l1 : Nat → List (S33) → List Int → List (List (S49)) → Int → Option ((List (S49)) × Int)
 | 0,_,_,_,_ => none
 | k + 1,x0,x1,x7,x8 => if x8 < (x1.length : Int) then (if 0 ≤ x8 then (if 0 ≤ (rd x1 x8) then (if (rd x1 x8) < (x0.length : Int) then ((oncewebbase_Name.f k ((rd_T33 x0 (rd x1 x8)).f1)).bind fun t256 => (if t256 = true then ((oncewebref05_CloserError.f k ((rd_T33 x0 (rd x1 x8)).f5.f0) ((rd_T33 x0 (rd x1 x8)).f5.f1)).bind fun t257 => (oncewebref19_Fails.j3 k x0 x1 x7 x8 (t257 != 0) ((rd_T33 x0 (rd x1 x8)).f0) ((rd_T33 x0 (rd x1 x8)).f1) ((rd_T33 x0 (rd x1 x8)).f2) ((rd_T33 x0 (rd x1 x8)).f3) ((rd_T33 x0 (rd x1 x8)).f4) ((rd_T33 x0 (rd x1 x8)).f5.f0) ((rd_T33 x0 (rd x1 x8)).f5.f1))) else (oncewebref19_Fails.j3 k x0 x1 x7 x8 true ((rd_T33 x0 (rd x1 x8)).f0) ((rd_T33 x0 (rd x1 x8)).f1) ((rd_T33 x0 (rd x1 x8)).f2) ((rd_T33 x0 (rd x1 x8)).f3) ((rd_T33 x0 (rd x1 x8)).f4) ((rd_T33 x0 (rd x1 x8)).f5.f0) ((rd_T33 x0 (rd x1 x8)).f5.f1)))) else (none)) else (none)) else (none)) else ((oncewebref03_Join.f k x7).bind fun bt249 => (some (bt249.1,bt249.2)))
def oncewebref19_Fails.j3 : Nat → List (S33) → List Int → List (List (S49)) → Int → Bool → Int → ByteArray → Bool → Int → List Int → Int → ByteArray → Option ((List (S49)) × Int)
 | 0,_,_,_,_,_,_,_,_,_,_,_,_ => none
 | k + 1,x0,x1,x7,x8,x64,x256000,x256001,x256002,x256003,x256004,x256005,x256006 => if x64 = true then (some (([] : List (S49)),190)) else (if x256005 = 3 then (if x256005 ≥ 2 then ((oncewebref03_Wrap.f k x256001 (([(⟨2,0,x256006⟩ : S49)] : List (S49)))).bind fun bt261 => (if x7.length < 5864062014805 then (oncewebref19_Fails.l1 k x0 x1 (x7 ++ [bt261.1]) (wrap64 (x8 + 1))) else (none))) else (oncewebref19_Fails.l1 k x0 x1 x7 (wrap64 (x8 + 1)))) else (if x256005 ≥ 2 then ((oncewebref03_Wrap.f k x256001 (([(⟨1,0,x256006⟩ : S49)] : List (S49)))).bind fun bt271 => (if x7.length < 5864062014805 then (oncewebref19_Fails.l1 k x0 x1 (x7 ++ [bt271.1]) (wrap64 (x8 + 1))) else (none))) else (oncewebref19_Fails.l1 k x0 x1 x7 (wrap64 (x8 + 1)))))
end
def oncewebref19_Fails.f (k : Nat) (l0 : List (S33)) (l1 : List Int) : Option ((List (S49)) × Int):=if (l0.length : Int) > 256 then (oncewebref19_Fails.j0 k l0 l1 true) else (oncewebref19_Fails.j0 k l0 l1 (decide ((l1.length : Int) > 256)))
set_option maxHeartbeats 8000000 in
set_option maxRecDepth 100000 in
theorem oncewebref19_Fails.calls (k : Nat) (A0 : Option Addr) (c0 : Nat) (l0 : List (S33)) (A1 : Option Addr) (c1 : Nat) (l1 : List Int) (r1 : List (S49)) (r2 : Int) (w : World) (hr0 : Kd.C k33 w A0 l0.length l0) (hc0 : l0.length ≤ c0) (hr1 : Kd.C (Kd.int .i64) w A1 l1.length l1) (hc1 : l1.length ≤ c1) (h : oncewebref19_Fails.f k l0 l1 = some (r1,r2)) :
  Calls Tryd.prog 22 #[.slice A0 l0.length c0,.slice A1 l1.length c1] w fun e w' => ∃ v0_ : Value,e = .returned (.tuple #[v0_,.int .i64 r2]) ∧ Kd.R k49 49 w' w.heap.size (fun _ => True) v0_ r1 ∧ Below w.heap.size w w':=by
 have hu33:=Tryd.underlying33
 have hu31:=Tryd.underlying31
 have hu49:=Tryd.underlying49
 have HR0:=Aside0.mk hr0
 have HC0:=Aside0.mk hc0
 clear hr0 hc0
 have HR1:=Aside0.mk hr1
 have HC1:=Aside0.mk hc1
 clear hr1 hc1
 have HB:=Aside0.mk (Below.refl w.heap.size w)
 have H : (if (l0.length : Int) > 256 then (oncewebref19_Fails.j0 k l0 l1 true) else (oncewebref19_Fails.j0 k l0 l1 (decide ((l1.length : Int) > 256)))) = some (r1,r2):=h
 clear h
 have HC3:=Aside0.mk H
 clear H
 go_enter Tryd.func22,Tryd.ntmps22
 go_upto_region 1 with (fail)
 go_cut [20] (fun v20 wc => ∃ (kq : Nat) (x20_2 : Bool),v20 = .bool x20_2 ∧ Aside0 (oncewebref19_Fails.j0 kq l0 l1 x20_2 = some (r1,r2)) ∧ Aside0 (kq ≤ k) ∧ Aside0 (Below w.heap.size w wc))
 case first =>
  have H:=HC3.out
  clear HC3
  by_cases c4 : (l0.length : Int) > 256
  ·rw [if_pos c4] at H
   have c4b0 : decide (256 < (l0.length : Int)) = true:=decide_eq_true c4
   have c4b1 : decide (256 < l0.length) = true:=decide_eq_true (by omega)
   clear c4
   (first | rw [c4b0] | (simp only [i64_w,i32_w];rw [c4b0]) | skip)
   have H':=Aside0.mk H
   clear H
   go_wp2
   go_meet
   case rel => exact ⟨_,(true),(by first | rfl | (simp;done) | (simp [*];done)),H',⟨by first | omega | exact Nat.le_refl _⟩,⟨by repeat (first | (with_reducible first | exact HB.out | apply below_alloc | apply pw_below_drewN | apply below_drew1) | exact HB.out)⟩⟩
  ·rw [if_neg c4] at H
   have c4b0 : decide (256 < (l0.length : Int)) = false:=decide_eq_false c4
   have c4b1 : decide (256 < l0.length) = false:=decide_eq_false (by omega)
   clear c4
   (first | rw [c4b0] | (simp only [i64_w,i32_w];rw [c4b0]) | skip)
   have H':=Aside0.mk H
   clear H
   go_wp2
   go_meet
   case rel => exact ⟨_,(decide ((l1.length : Int) > 256)),(by first | rfl | (simp;done) | (simp [*];done)),H',⟨by first | omega | exact Nat.le_refl _⟩,⟨by repeat (first | (with_reducible first | exact HB.out | apply below_alloc | apply pw_below_drewN | apply below_drew1) | exact HB.out)⟩⟩
 case rest =>
  clear HC3
  obtain ⟨kq,x20_2,rfl,HA,HJ2,HB⟩:=hcut
  cases kq with
  | zero => exact absurd HA.out (by simp [oncewebref19_Fails.j0])
  | succ kj2 =>
   have H:=HA.out
   clear HA
   simp only [oncewebref19_Fails.j0] at H
   by_cases c5 : x20_2 = true
   ·subst c5
    have H1 : (some (([] : List (S49)),3)) = some (r1,r2):=by rw [if_pos rfl] at H;exact H
    clear H
    have H:=H1
    clear H1
    simp only [Option.some.injEq,Prod.mk.injEq] at H
    obtain ⟨rfl,rfl⟩:=H
    go_wp2
    go_ret2
    exact ⟨_,by first | rfl | (simp [errW_none,errW_some] <;> rfl) | (simp [*,errW_none,errW_some] <;> rfl),by first | exact Kd.R_nil _ _ _ _ _ | exact Kd.N_nil _ _ _ _ _ | exact Kd.V_nil _ _ _ _ _ | exact Kd.Q_nil _ _ _ _ _ | exact Kd.S_nil _ _ _ _ _,by repeat (first | (with_reducible first | exact HB.out | apply below_alloc | apply pw_below_drewN | apply below_drew1) | exact HB.out)⟩
   ·replace c5:=Bool.eq_false_iff.mpr c5
    subst c5
    have H1 : (oncewebref19_Fails.l0 kj2 l0 l1 0) = some (r1,r2):=by rw [if_neg (show ¬ (false = true) by decide)] at H;exact H
    clear H
    have H:=H1
    clear H1
    have H':=Aside0.mk H
    clear H
    go_wp2
    go_loopg [6] kj2 (fun kq v6 w' => ∃ (x6_2 : Int),v6 = .int .i64 x6_2 ∧ Aside0 (oncewebref19_Fails.l0 kq l0 l1 x6_2 = some (r1,r2)) ∧ Aside0 (kq ≤ kj2) ∧ Aside0 (Below w.heap.size w w'))
    case atStart => exact ⟨(0),(by first | rfl | (simp;done) | (simp [*];done)),H',⟨Nat.le_refl _⟩,⟨by repeat (first | (with_reducible first | exact HB.out | apply below_alloc | apply pw_below_drewN | apply below_drew1) | exact HB.out)⟩⟩
    case round =>
     clear H'
     obtain ⟨x6_2,rfl,HA,HK2,HB⟩:=hrel
     cases gk with
     | zero => exact absurd HA.out (by simp [oncewebref19_Fails.l0])
     | succ k2 =>
      have H:=HA.out
      clear HA
      simp only [oncewebref19_Fails.l0] at H
      by_cases c6 : x6_2 < (l1.length : Int)
      ·rw [if_pos c6] at H
       have c6b0 : decide (x6_2 < (l1.length : Int)) = true:=decide_eq_true c6
       clear c6
       by_cases c7 : 0 ≤ x6_2
       ·rw [if_pos c7] at H
        have c7b0 : decide (0 ≤ x6_2) = true:=decide_eq_true c7
        clear c7
        by_cases c8 : (rd l1 x6_2) < 0
        ·rw [if_pos c8] at H
         have c8b0 : decide ((rd l1 x6_2) < 0) = true:=decide_eq_true c8
         clear c8
         simp only [Option.some.injEq,Prod.mk.injEq] at H
         obtain ⟨rfl,rfl⟩:=H
         have p244 : 0 ≤ (x6_2 : Int):=of_decide_eq_true (by first | (with_reducible assumption) | assumption)
         have q244 : x6_2 < (l1.length : Int):=of_decide_eq_true (by first | (with_reducible assumption) | assumption)
         obtain ⟨ad244,e244,hx244_0⟩:=Kd.at_int HR1.out x6_2 p244 q244
         cases e244
         replace hx244_0:=(HB.out.cell (World.block_lt_of_cell? w _ hx244_0)).trans hx244_0
         replace p244:=eq_true p244
         replace q244:=eq_true q244
         go_wp2
         go_ret2
         exact ⟨_,by first | rfl | (simp [errW_none,errW_some] <;> rfl) | (simp [*,errW_none,errW_some] <;> rfl),by first | exact Kd.R_nil _ _ _ _ _ | exact Kd.N_nil _ _ _ _ _ | exact Kd.V_nil _ _ _ _ _ | exact Kd.Q_nil _ _ _ _ _ | exact Kd.S_nil _ _ _ _ _,by repeat (first | (with_reducible first | exact HB.out | apply below_alloc | apply pw_below_drewN | apply below_drew1) | exact HB.out)⟩
        ·rw [if_neg c8] at H
         have c8b0 : decide ((rd l1 x6_2) < 0) = false:=decide_eq_false c8
         clear c8
         by_cases c9 : (rd l1 x6_2) ≥ (l0.length : Int)
         ·rw [if_pos c9] at H
          have c9b0 : decide ((l0.length : Int) ≤ (rd l1 x6_2)) = true:=decide_eq_true c9
          clear c9
          simp only [Option.some.injEq,Prod.mk.injEq] at H
          obtain ⟨rfl,rfl⟩:=H
          have p244 : 0 ≤ (x6_2 : Int):=of_decide_eq_true (by first | (with_reducible assumption) | assumption)
          have q244 : x6_2 < (l1.length : Int):=of_decide_eq_true (by first | (with_reducible assumption) | assumption)
          obtain ⟨ad244,e244,hx244_0⟩:=Kd.at_int HR1.out x6_2 p244 q244
          cases e244
          replace hx244_0:=(HB.out.cell (World.block_lt_of_cell? w _ hx244_0)).trans hx244_0
          replace p244:=eq_true p244
          replace q244:=eq_true q244
          have p245 : 0 ≤ (x6_2 : Int):=of_decide_eq_true (by first | (with_reducible assumption) | assumption)
          have q245 : x6_2 < (l1.length : Int):=of_decide_eq_true (by first | (with_reducible assumption) | assumption)
          obtain ⟨ad245,e245,hx245_0⟩:=Kd.at_int HR1.out x6_2 p245 q245
          obtain rfl : ad244 = ad245:=(by injection e245)
          replace hx245_0:=(HB.out.cell (World.block_lt_of_cell? w _ hx245_0)).trans hx245_0
          replace p245:=eq_true p245
          replace q245:=eq_true q245
          go_wp2
          go_ret2
          exact ⟨_,by first | rfl | (simp [errW_none,errW_some] <;> rfl) | (simp [*,errW_none,errW_some] <;> rfl),by first | exact Kd.R_nil _ _ _ _ _ | exact Kd.N_nil _ _ _ _ _ | exact Kd.V_nil _ _ _ _ _ | exact Kd.Q_nil _ _ _ _ _ | exact Kd.S_nil _ _ _ _ _,by repeat (first | (with_reducible first | exact HB.out | apply below_alloc | apply pw_below_drewN | apply below_drew1) | exact HB.out)⟩
         ·rw [if_neg c9] at H
          have c9b0 : decide ((l0.length : Int) ≤ (rd l1 x6_2)) = false:=decide_eq_false c9
          clear c9
          have H':=Aside0.mk H
          clear H
          have p244 : 0 ≤ (x6_2 : Int):=of_decide_eq_true (by first | (with_reducible assumption) | assumption)
          have q244 : x6_2 < (l1.length : Int):=of_decide_eq_true (by first | (with_reducible assumption) | assumption)
          obtain ⟨ad244,e244,hx244_0⟩:=Kd.at_int HR1.out x6_2 p244 q244
          cases e244
          replace hx244_0:=(HB.out.cell (World.block_lt_of_cell? w _ hx244_0)).trans hx244_0
          replace p244:=eq_true p244
          replace q244:=eq_true q244
          have p245 : 0 ≤ (x6_2 : Int):=of_decide_eq_true (by first | (with_reducible assumption) | assumption)
          have q245 : x6_2 < (l1.length : Int):=of_decide_eq_true (by first | (with_reducible assumption) | assumption)
          obtain ⟨ad245,e245,hx245_0⟩:=Kd.at_int HR1.out x6_2 p245 q245
          obtain rfl : ad244 = ad245:=(by injection e245)
          replace hx245_0:=(HB.out.cell (World.block_lt_of_cell? w _ hx245_0)).trans hx245_0
          replace p245:=eq_true p245
          replace q245:=eq_true q245
          go_wp2
          go_roundg k2
          case measure => have:=HJ2.out;have:=HK2.out;omega
          case rel => exact ⟨(wrap64 (x6_2 + 1)),(by first | rfl | (simp;done) | (simp [*];done)),H',⟨by have:=HJ2.out;have:=HK2.out;omega⟩,⟨by repeat (first | (with_reducible first | exact HB.out | apply below_alloc | apply pw_below_drewN | apply below_drew1) | exact HB.out)⟩⟩
       ·rw [if_neg c7] at H
        exact absurd H (by simp)
      ·rw [if_neg c6] at H
       have c6b0 : decide (x6_2 < (l1.length : Int)) = false:=decide_eq_false c6
       clear c6
       obtain ⟨y246,hy246⟩ : ∃ y_ : List (List (S49)),y_ = (([] : List (List (S49)))):=⟨_,rfl⟩
       replace H : (oncewebref19_Fails.l1 k2 l0 l1 y246 0) = some (r1,r2):=by first | (rw [hy246];with_reducible exact H) | (have H2_:=(Option.bind_some _ _).symm.trans H;rw [hy246];with_reducible exact H2_) | (have H2_:=(Option.bind_some _ _).symm.trans H;with_reducible exact H2_) | with_reducible exact H | (rw [hy246];exact H) | exact H
       have Ny246:=Aside0.mk hy246
       clear hy246
       have H':=Aside0.mk H
       clear H
       go_wp2_with (first | ((with_reducible refine gate_dst (N:=41) rfl ?_);(try (refine gate_guard (by rfl) ?_;dsimp only));refine Kd.S_lit (Kd.slice 49 k49) _ 44 ?hg (N:=41) ?hd (xs:=([] : List (List (S49)))) (inner:=[]) (ok:=fun _ => True) (okp:=fun _ => True) ?hr ?hp (fun _ hk => hk) trivial (Below.refl _ _) (Nat.le_refl _) (by simp) ?_;(case hd => rfl);(case hg => rfl);(case hr => first | (go_simp;done) | (go_simp;rfl));(case hp => exact (Reps.none _ _));intro v247 w10 ho11 hb hg_ hnew_;clear hg_ hnew_;(first | rw [← Ny246.out] at ho11 | (simp only [Int.reduceToNat] at ho11;rw [← Ny246.out] at ho11));have n0_:=Aside0.mk (Kd.S_lower ho11 (below_size (by repeat (first | (with_reducible first | exact HB.out | apply below_alloc | apply pw_below_drewN | apply below_drew1) | exact HB.out))));have n1_:=Aside0.mk (below_step (by repeat (first | (with_reducible first | exact HB.out | apply below_alloc | apply pw_below_drewN | apply below_drew1) | exact HB.out)) hb);clear HB;have HO248:=n0_;have HB:=n1_;clear n0_ n1_;clear hb ho11))
       go_loopg [7,8] k2 (fun kq v7 v8 w' => ∃ (x7_3 : List (List (S49))) (x8_3 : Int),v8 = .int .i64 x8_3 ∧ Aside0 (oncewebref19_Fails.l1 kq l0 l1 x7_3 x8_3 = some (r1,r2)) ∧ Aside0 (kq ≤ k2) ∧ Aside0 (Kd.S (Kd.slice 49 k49) 44 w' w.heap.size (fun _ => True) v7 x7_3) ∧ Aside0 (Below w.heap.size w w'))
       case atStart => exact ⟨(y246),(0),(by first | rfl | (simp;done) | (simp [*];done)),H',⟨Nat.le_refl _⟩,⟨by (with_reducible repeat (first | apply Kd.S_alloc | apply Kd.S_drewN | apply Kd.S_drew));exact HO248.out⟩,⟨by repeat (first | (with_reducible first | exact HB.out | apply below_alloc | apply pw_below_drewN | apply below_drew1) | exact HB.out)⟩⟩
       case round =>
        clear H'
        obtain ⟨x7_3,x8_3,rfl,HA,HK3,HO_7,HB⟩:=hrel
        cases gk with
        | zero => exact absurd HA.out (by simp [oncewebref19_Fails.l1])
        | succ k3 =>
         have H:=HA.out
         clear HA
         simp only [oncewebref19_Fails.l1] at H
         by_cases c12 : x8_3 < (l1.length : Int)
         ·rw [if_pos c12] at H
          have c12b0 : decide (x8_3 < (l1.length : Int)) = true:=decide_eq_true c12
          clear c12
          by_cases c13 : 0 ≤ x8_3
          ·rw [if_pos c13] at H
           have c13b0 : decide (0 ≤ x8_3) = true:=decide_eq_true c13
           clear c13
           by_cases c14 : 0 ≤ (rd l1 x8_3)
           ·rw [if_pos c14] at H
            have c14b0 : decide (0 ≤ (rd l1 x8_3)) = true:=decide_eq_true c14
            clear c14
            by_cases c15 : (rd l1 x8_3) < (l0.length : Int)
            ·rw [if_pos c15] at H
             have c15b0 : decide ((rd l1 x8_3) < (l0.length : Int)) = true:=decide_eq_true c15
             clear c15
             have HC16:=Aside0.mk H
             clear H
             have p253 : 0 ≤ (x8_3 : Int):=of_decide_eq_true (by first | (with_reducible assumption) | assumption)
             have q253 : x8_3 < (l1.length : Int):=of_decide_eq_true (by first | (with_reducible assumption) | assumption)
             obtain ⟨ad253,e253,hx253_0⟩:=Kd.at_int HR1.out x8_3 p253 q253
             cases e253
             replace hx253_0:=(HB.out.cell (World.block_lt_of_cell? w _ hx253_0)).trans hx253_0
             replace p253:=eq_true p253
             replace q253:=eq_true q253
             have p254 : 0 ≤ ((rd l1 x8_3) : Int):=of_decide_eq_true (by first | (with_reducible assumption) | assumption)
             have q254 : (rd l1 x8_3) < (l0.length : Int):=of_decide_eq_true (by first | (with_reducible assumption) | assumption)
             obtain ⟨ad254,A254_4,c254_4,e254,hx254_0,hx254_1,hx254_2,hx254_3,hx254_4,hx254_5,hx254_6,hl254_4,hi254_4⟩:=at_T33 HR0.out (rd l1 x8_3) p254 q254
             cases e254
             replace hx254_0:=(HB.out.cell (World.block_lt_of_cell? w _ hx254_0)).trans hx254_0
             replace hx254_1:=(HB.out.cell (World.block_lt_of_cell? w _ hx254_1)).trans hx254_1
             replace hx254_2:=(HB.out.cell (World.block_lt_of_cell? w _ hx254_2)).trans hx254_2
             replace hx254_3:=(HB.out.cell (World.block_lt_of_cell? w _ hx254_3)).trans hx254_3
             replace hx254_4:=(HB.out.cell (World.block_lt_of_cell? w _ hx254_4)).trans hx254_4
             replace hx254_5:=(HB.out.cell (World.block_lt_of_cell? w _ hx254_5)).trans hx254_5
             replace hx254_6:=(HB.out.cell (World.block_lt_of_cell? w _ hx254_6)).trans hx254_6
             have HR254_4:=Aside0.mk hi254_4
             have HC254_4:=Aside0.mk hl254_4
             clear hi254_4 hl254_4
             replace p254:=eq_true p254
             replace q254:=eq_true q254
             go_upto_region 13 with (first | ((with_reducible refine gate_dst (N:=9) rfl ?_);(try (refine gate_guard (by rfl) ?_;dsimp only));refine box_event ?hg (N:=9) ?hd (cs:=#[.int .i64 0,.string (⟨#[]⟩ : ByteArray),.bool false,.int .i64 0,.slice none 0 0,.int .i64 0,.string (⟨#[]⟩ : ByteArray)]) (t:=33) ?hr ?_;(case hd => rfl);(case hg => rfl);(case hr => first | (go_simp;done) | (go_simp;rfl));intro gb255 hg w17 hbox hb;have n0_:=Aside0.mk (Kd.S_below (by (with_reducible repeat (first | apply Kd.S_alloc | apply Kd.S_drewN | apply Kd.S_drew));exact HO_7.out) hb);have n1_:=Aside0.mk (below_step (by repeat (first | (with_reducible first | exact HB.out | apply below_alloc | apply pw_below_drewN | apply below_drew1) | exact HB.out)) hb);have n2_:=Aside0.mk (hbox);have n3_:=Aside0.mk ((by rw [hg];exact (below_size (by repeat (first | (with_reducible first | exact HB.out | apply below_alloc | apply pw_below_drewN | apply below_drew1) | exact HB.out))) : w.heap.size ≤ gb255));have n4_:=Aside0.mk ((by rw [hg];exact (below_size (by repeat (first | (with_reducible first | exact HB.out | apply below_alloc | apply pw_below_drewN | apply below_drew1) | exact HB.out))) : w.heap.size ≤ gb255));clear HO_7;clear HB;have HO_7:=n0_;have HB:=n1_;have BK255:=n2_;have GW255:=n3_;have GE255:=n4_;clear n0_ n1_ n2_ n3_ n4_;clear hb hbox hg;have hcz18_0 : w17.cell? ⟨gb255,0,none⟩ = some (.int .i64 0):=(blk_cell BK255.out 0).trans rfl;have hcz18_1 : w17.cell? ⟨gb255,1,none⟩ = some (.string (⟨#[]⟩ : ByteArray)):=(blk_cell BK255.out 1).trans rfl;have hcz18_2 : w17.cell? ⟨gb255,2,none⟩ = some (.bool false):=(blk_cell BK255.out 2).trans rfl;have hcz18_3 : w17.cell? ⟨gb255,3,none⟩ = some (.int .i64 0):=(blk_cell BK255.out 3).trans rfl;have hcz18_4 : w17.cell? ⟨gb255,4,none⟩ = some (.slice none 0 0):=(blk_cell BK255.out 4).trans rfl;have hcz18_5 : w17.cell? ⟨gb255,5,none⟩ = some (.int .i64 0):=(blk_cell BK255.out 5).trans rfl;have hcz18_6 : w17.cell? ⟨gb255,6,none⟩ = some (.string (⟨#[]⟩ : ByteArray)):=(blk_cell BK255.out 6).trans rfl;have hfz18_0:=blk_frozen BK255.out 0;have hfz18_1:=blk_frozen BK255.out 1;have hfz18_2:=blk_frozen BK255.out 2;have hfz18_3:=blk_frozen BK255.out 3;have hfz18_4:=blk_frozen BK255.out 4;have hfz18_5:=blk_frozen BK255.out 5;have hfz18_6:=blk_frozen BK255.out 6))
             (try simp only [Act.put,List.setIfInBounds_toArray,List.set_cons_zero,List.set_cons_succ])
             go_cut [64] (fun v64 wc => ∃ (kq : Nat) (x64_15 : Bool),v64 = .bool x64_15 ∧ Aside0 (oncewebref19_Fails.j3 kq l0 l1 x7_3 x8_3 x64_15 ((rd_T33 l0 (rd l1 x8_3)).f0) ((rd_T33 l0 (rd l1 x8_3)).f1) ((rd_T33 l0 (rd l1 x8_3)).f2) ((rd_T33 l0 (rd l1 x8_3)).f3) ((rd_T33 l0 (rd l1 x8_3)).f4) ((rd_T33 l0 (rd l1 x8_3)).f5.f0) ((rd_T33 l0 (rd l1 x8_3)).f5.f1) = some (r1,r2)) ∧ Aside0 (kq ≤ k3) ∧ Aside0 (Kd.S (Kd.slice 49 k49) 44 wc w.heap.size (fun _ => True) u7 x7_3) ∧ Aside0 (wc.heap[gb255]? = some (.cells #[.int .i64 ((rd_T33 l0 (rd l1 x8_3)).f0),.string ((rd_T33 l0 (rd l1 x8_3)).f1),.bool ((rd_T33 l0 (rd l1 x8_3)).f2),.int .i64 ((rd_T33 l0 (rd l1 x8_3)).f3),(.slice A254_4 ((rd_T33 l0 (rd l1 x8_3)).f4).length c254_4),.int .i64 ((rd_T33 l0 (rd l1 x8_3)).f5.f0),.string ((rd_T33 l0 (rd l1 x8_3)).f5.f1)] 33 (0,0))) ∧ Aside0 (Below w.heap.size w wc))
             case first =>
              have H:=HC16.out
              clear HC16
              replace H:=Option.bind_eq_some_iff.mp H
              obtain ⟨t256,A190,H⟩:=H
              replace H : (if t256 = true then ((oncewebref05_CloserError.f k3 ((rd_T33 l0 (rd l1 x8_3)).f5.f0) ((rd_T33 l0 (rd l1 x8_3)).f5.f1)).bind fun t257 => (oncewebref19_Fails.j3 k3 l0 l1 x7_3 x8_3 (t257 != 0) ((rd_T33 l0 (rd l1 x8_3)).f0) ((rd_T33 l0 (rd l1 x8_3)).f1) ((rd_T33 l0 (rd l1 x8_3)).f2) ((rd_T33 l0 (rd l1 x8_3)).f3) ((rd_T33 l0 (rd l1 x8_3)).f4) ((rd_T33 l0 (rd l1 x8_3)).f5.f0) ((rd_T33 l0 (rd l1 x8_3)).f5.f1))) else (oncewebref19_Fails.j3 k3 l0 l1 x7_3 x8_3 true ((rd_T33 l0 (rd l1 x8_3)).f0) ((rd_T33 l0 (rd l1 x8_3)).f1) ((rd_T33 l0 (rd l1 x8_3)).f2) ((rd_T33 l0 (rd l1 x8_3)).f3) ((rd_T33 l0 (rd l1 x8_3)).f4) ((rd_T33 l0 (rd l1 x8_3)).f5.f0) ((rd_T33 l0 (rd l1 x8_3)).f5.f1))) = some (r1,r2):=H
              have A19:=Aside0.mk A190
              clear A190
              by_cases c20 : t256 = true
              ·subst c20
               have H1 : ((oncewebref05_CloserError.f k3 ((rd_T33 l0 (rd l1 x8_3)).f5.f0) ((rd_T33 l0 (rd l1 x8_3)).f5.f1)).bind fun t257 => (oncewebref19_Fails.j3 k3 l0 l1 x7_3 x8_3 (t257 != 0) ((rd_T33 l0 (rd l1 x8_3)).f0) ((rd_T33 l0 (rd l1 x8_3)).f1) ((rd_T33 l0 (rd l1 x8_3)).f2) ((rd_T33 l0 (rd l1 x8_3)).f3) ((rd_T33 l0 (rd l1 x8_3)).f4) ((rd_T33 l0 (rd l1 x8_3)).f5.f0) ((rd_T33 l0 (rd l1 x8_3)).f5.f1))) = some (r1,r2):=by rw [if_pos rfl] at H;exact H
               clear H
               have H:=H1
               clear H1
               replace H:=Option.bind_eq_some_iff.mp H
               obtain ⟨t257,A210,H⟩:=H
               replace H : (oncewebref19_Fails.j3 k3 l0 l1 x7_3 x8_3 (t257 != 0) ((rd_T33 l0 (rd l1 x8_3)).f0) ((rd_T33 l0 (rd l1 x8_3)).f1) ((rd_T33 l0 (rd l1 x8_3)).f2) ((rd_T33 l0 (rd l1 x8_3)).f3) ((rd_T33 l0 (rd l1 x8_3)).f4) ((rd_T33 l0 (rd l1 x8_3)).f5.f0) ((rd_T33 l0 (rd l1 x8_3)).f5.f1)) = some (r1,r2):=H
               have A21:=Aside0.mk A210
               clear A210
               have H':=Aside0.mk H
               clear H
               have hcz22_0 : w17.cell? ⟨gb255,0,none⟩ = some (.int .i64 0):=(blk_cell BK255.out 0).trans rfl
               have hcz22_1 : w17.cell? ⟨gb255,1,none⟩ = some (.string (⟨#[]⟩ : ByteArray)):=(blk_cell BK255.out 1).trans rfl
               have hcz22_2 : w17.cell? ⟨gb255,2,none⟩ = some (.bool false):=(blk_cell BK255.out 2).trans rfl
               have hcz22_3 : w17.cell? ⟨gb255,3,none⟩ = some (.int .i64 0):=(blk_cell BK255.out 3).trans rfl
               have hcz22_4 : w17.cell? ⟨gb255,4,none⟩ = some (.slice none 0 0):=(blk_cell BK255.out 4).trans rfl
               have hcz22_5 : w17.cell? ⟨gb255,5,none⟩ = some (.int .i64 0):=(blk_cell BK255.out 5).trans rfl
               have hcz22_6 : w17.cell? ⟨gb255,6,none⟩ = some (.string (⟨#[]⟩ : ByteArray)):=(blk_cell BK255.out 6).trans rfl
               have hfz22_0:=blk_frozen BK255.out 0
               have hfz22_1:=blk_frozen BK255.out 1
               have hfz22_2:=blk_frozen BK255.out 2
               have hfz22_3:=blk_frozen BK255.out 3
               have hfz22_4:=blk_frozen BK255.out 4
               have hfz22_5:=blk_frozen BK255.out 5
               have hfz22_6:=blk_frozen BK255.out 6
               go_wp2_with (first | ((with_reducible refine gate_callee (f:=44) rfl ?_);refine goesL_ (some 57) rfl rfl Tryd.func44 (by kernel_rfl) rfl #[.string ((rd_T33 l0 (rd l1 x8_3)).f1)] rfl (by (try simp only [List.map_toArray,List.map_cons,List.map_nil]);first | done | rfl | (simp only [List.length_drop,List.length_take];rfl)) ?_;(with_reducible refine (oncewebbase_Name.calls k3 ((rd_T33 l0 (rd l1 x8_3)).f1) true _ A19.out).mono ?_);rintro e w23 ⟨rfl,hb⟩;refine ⟨_,rfl,?_⟩;have n0_:=Aside0.mk (Kd.S_below (by (with_reducible repeat (first | apply Kd.S_alloc | apply Kd.S_drewN | apply Kd.S_drew));exact (Kd.S_mono (Kd.S_far (p:=⟨gb255,6,none⟩) (Kd.S_far (p:=⟨gb255,5,none⟩) (Kd.S_far (p:=⟨gb255,4,none⟩) (Kd.S_far (p:=⟨gb255,3,none⟩) (Kd.S_far (p:=⟨gb255,2,none⟩) (Kd.S_far (p:=⟨gb255,1,none⟩) (Kd.S_far (p:=⟨gb255,0,none⟩) (Kd.S_types HO_7.out BK255.out (by decide)) (fun _ hk => hk.2) (.int .i64 ((rd_T33 l0 (rd l1 x8_3)).f0))) (fun _ hk => hk.2) (.string ((rd_T33 l0 (rd l1 x8_3)).f1))) (fun _ hk => hk.2) (.bool ((rd_T33 l0 (rd l1 x8_3)).f2))) (fun _ hk => hk.2) (.int .i64 ((rd_T33 l0 (rd l1 x8_3)).f3))) (fun _ hk => hk.2) (.slice A254_4 ((rd_T33 l0 (rd l1 x8_3)).f4).length c254_4)) (fun _ hk => hk.2) (.int .i64 ((rd_T33 l0 (rd l1 x8_3)).f5.f0))) (fun _ hk => hk.2) (.string ((rd_T33 l0 (rd l1 x8_3)).f5.f1))) (fun _ h_ => h_.1))) hb);have n1_:=Aside0.mk (blk_below (g:=gb255) (o:=.cells #[.int .i64 ((rd_T33 l0 (rd l1 x8_3)).f0),.string ((rd_T33 l0 (rd l1 x8_3)).f1),.bool ((rd_T33 l0 (rd l1 x8_3)).f2),.int .i64 ((rd_T33 l0 (rd l1 x8_3)).f3),.slice A254_4 ((rd_T33 l0 (rd l1 x8_3)).f4).length c254_4,.int .i64 ((rd_T33 l0 (rd l1 x8_3)).f5.f0),.string ((rd_T33 l0 (rd l1 x8_3)).f5.f1)] 33 (0,0)) (by (with_reducible repeat (first | refine blk_drewN ?_ _ | refine blk_drew ?_ | refine blk_alloc ?_ _));refine blk_put (cs:=#[.int .i64 ((rd_T33 l0 (rd l1 x8_3)).f0),.string ((rd_T33 l0 (rd l1 x8_3)).f1),.bool ((rd_T33 l0 (rd l1 x8_3)).f2),.int .i64 ((rd_T33 l0 (rd l1 x8_3)).f3),.slice A254_4 ((rd_T33 l0 (rd l1 x8_3)).f4).length c254_4,.int .i64 ((rd_T33 l0 (rd l1 x8_3)).f5.f0),.string (⟨#[]⟩ : ByteArray)]) ?_ 6 _ rfl;(with_reducible repeat (first | refine blk_drewN ?_ _ | refine blk_drew ?_ | refine blk_alloc ?_ _));refine blk_put (cs:=#[.int .i64 ((rd_T33 l0 (rd l1 x8_3)).f0),.string ((rd_T33 l0 (rd l1 x8_3)).f1),.bool ((rd_T33 l0 (rd l1 x8_3)).f2),.int .i64 ((rd_T33 l0 (rd l1 x8_3)).f3),.slice A254_4 ((rd_T33 l0 (rd l1 x8_3)).f4).length c254_4,.int .i64 0,.string (⟨#[]⟩ : ByteArray)]) ?_ 5 _ rfl;(with_reducible repeat (first | refine blk_drewN ?_ _ | refine blk_drew ?_ | refine blk_alloc ?_ _));refine blk_put (cs:=#[.int .i64 ((rd_T33 l0 (rd l1 x8_3)).f0),.string ((rd_T33 l0 (rd l1 x8_3)).f1),.bool ((rd_T33 l0 (rd l1 x8_3)).f2),.int .i64 ((rd_T33 l0 (rd l1 x8_3)).f3),.slice none 0 0,.int .i64 0,.string (⟨#[]⟩ : ByteArray)]) ?_ 4 _ rfl;(with_reducible repeat (first | refine blk_drewN ?_ _ | refine blk_drew ?_ | refine blk_alloc ?_ _));refine blk_put (cs:=#[.int .i64 ((rd_T33 l0 (rd l1 x8_3)).f0),.string ((rd_T33 l0 (rd l1 x8_3)).f1),.bool ((rd_T33 l0 (rd l1 x8_3)).f2),.int .i64 0,.slice none 0 0,.int .i64 0,.string (⟨#[]⟩ : ByteArray)]) ?_ 3 _ rfl;(with_reducible repeat (first | refine blk_drewN ?_ _ | refine blk_drew ?_ | refine blk_alloc ?_ _));refine blk_put (cs:=#[.int .i64 ((rd_T33 l0 (rd l1 x8_3)).f0),.string ((rd_T33 l0 (rd l1 x8_3)).f1),.bool false,.int .i64 0,.slice none 0 0,.int .i64 0,.string (⟨#[]⟩ : ByteArray)]) ?_ 2 _ rfl;(with_reducible repeat (first | refine blk_drewN ?_ _ | refine blk_drew ?_ | refine blk_alloc ?_ _));refine blk_put (cs:=#[.int .i64 ((rd_T33 l0 (rd l1 x8_3)).f0),.string (⟨#[]⟩ : ByteArray),.bool false,.int .i64 0,.slice none 0 0,.int .i64 0,.string (⟨#[]⟩ : ByteArray)]) ?_ 1 _ rfl;(with_reducible repeat (first | refine blk_drewN ?_ _ | refine blk_drew ?_ | refine blk_alloc ?_ _));refine blk_put (cs:=#[.int .i64 0,.string (⟨#[]⟩ : ByteArray),.bool false,.int .i64 0,.slice none 0 0,.int .i64 0,.string (⟨#[]⟩ : ByteArray)]) ?_ 0 _ rfl;(with_reducible repeat (first | refine blk_drewN ?_ _ | refine blk_drew ?_ | refine blk_alloc ?_ _));exact BK255.out) hb);have n2_:=Aside0.mk (below_step (by repeat (first | (with_reducible first | exact HB.out | apply below_alloc | apply pw_below_drewN | apply below_drew1 | refine below_set ?_ GE255.out) | exact HB.out)) hb);clear HO_7;clear BK255;clear HB;have HO_7:=n0_;have BK255:=n1_;have HB:=n2_;clear n0_ n1_ n2_;(try clear hb);(try clear hb2);(try clear hk);(try clear hi);have hcz24_0 : w23.cell? ⟨gb255,0,none⟩ = some (.int .i64 ((rd_T33 l0 (rd l1 x8_3)).f0)):=(blk_cell BK255.out 0).trans rfl;have hcz24_1 : w23.cell? ⟨gb255,1,none⟩ = some (.string ((rd_T33 l0 (rd l1 x8_3)).f1)):=(blk_cell BK255.out 1).trans rfl;have hcz24_2 : w23.cell? ⟨gb255,2,none⟩ = some (.bool ((rd_T33 l0 (rd l1 x8_3)).f2)):=(blk_cell BK255.out 2).trans rfl;have hcz24_3 : w23.cell? ⟨gb255,3,none⟩ = some (.int .i64 ((rd_T33 l0 (rd l1 x8_3)).f3)):=(blk_cell BK255.out 3).trans rfl;have hcz24_4 : w23.cell? ⟨gb255,4,none⟩ = some (.slice A254_4 ((rd_T33 l0 (rd l1 x8_3)).f4).length c254_4):=(blk_cell BK255.out 4).trans rfl;have hcz24_5 : w23.cell? ⟨gb255,5,none⟩ = some (.int .i64 ((rd_T33 l0 (rd l1 x8_3)).f5.f0)):=(blk_cell BK255.out 5).trans rfl;have hcz24_6 : w23.cell? ⟨gb255,6,none⟩ = some (.string ((rd_T33 l0 (rd l1 x8_3)).f5.f1)):=(blk_cell BK255.out 6).trans rfl;have hfz24_0:=blk_frozen BK255.out 0;have hfz24_1:=blk_frozen BK255.out 1;have hfz24_2:=blk_frozen BK255.out 2;have hfz24_3:=blk_frozen BK255.out 3;have hfz24_4:=blk_frozen BK255.out 4;have hfz24_5:=blk_frozen BK255.out 5;have hfz24_6:=blk_frozen BK255.out 6) | (go_at_call 45;(with_reducible refine (oncewebref05_CloserError.calls k3 ((rd_T33 l0 (rd l1 x8_3)).f5.f0) ((rd_T33 l0 (rd l1 x8_3)).f5.f1) t257 _ A21.out).mono ?_);rintro e w25 ⟨rfl,hb⟩;have n0_:=Aside0.mk (Kd.S_below (by (with_reducible repeat (first | apply Kd.S_alloc | apply Kd.S_drewN | apply Kd.S_drew));exact HO_7.out) hb);have n1_:=Aside0.mk (blk_below (g:=gb255) (o:=.cells #[.int .i64 ((rd_T33 l0 (rd l1 x8_3)).f0),.string ((rd_T33 l0 (rd l1 x8_3)).f1),.bool ((rd_T33 l0 (rd l1 x8_3)).f2),.int .i64 ((rd_T33 l0 (rd l1 x8_3)).f3),.slice A254_4 ((rd_T33 l0 (rd l1 x8_3)).f4).length c254_4,.int .i64 ((rd_T33 l0 (rd l1 x8_3)).f5.f0),.string ((rd_T33 l0 (rd l1 x8_3)).f5.f1)] 33 (0,0)) (by (with_reducible repeat (first | refine blk_drewN ?_ _ | refine blk_drew ?_ | refine blk_alloc ?_ _));exact BK255.out) hb);have n2_:=Aside0.mk (below_step (by repeat (first | (with_reducible first | exact HB.out | apply below_alloc | apply pw_below_drewN | apply below_drew1 | refine below_set ?_ GE255.out) | exact HB.out)) hb);clear HO_7;clear BK255;clear HB;have HO_7:=n0_;have BK255:=n1_;have HB:=n2_;clear n0_ n1_ n2_;(try clear hb);(try clear hb2);(try clear hk);(try clear hi)))
               go_meet
               case rel => exact ⟨_,((t257 != 0)),(by first | rfl | (simp;done) | (simp [*];done)),H',⟨by have:=HJ2.out;have:=HK2.out;have:=HK3.out;first | omega | exact Nat.le_refl _⟩,⟨by (with_reducible repeat (first | apply Kd.S_alloc | apply Kd.S_drewN | apply Kd.S_drew));exact HO_7.out⟩,⟨by (with_reducible repeat (first | refine blk_drewN ?_ _ | refine blk_drew ?_ | refine blk_alloc ?_ _));exact BK255.out⟩,⟨by repeat (first | (with_reducible first | exact HB.out | apply below_alloc | apply pw_below_drewN | apply below_drew1 | refine below_set ?_ GE255.out) | exact HB.out)⟩⟩
              ·replace c20:=Bool.eq_false_iff.mpr c20
               subst c20
               have H1 : (oncewebref19_Fails.j3 k3 l0 l1 x7_3 x8_3 true ((rd_T33 l0 (rd l1 x8_3)).f0) ((rd_T33 l0 (rd l1 x8_3)).f1) ((rd_T33 l0 (rd l1 x8_3)).f2) ((rd_T33 l0 (rd l1 x8_3)).f3) ((rd_T33 l0 (rd l1 x8_3)).f4) ((rd_T33 l0 (rd l1 x8_3)).f5.f0) ((rd_T33 l0 (rd l1 x8_3)).f5.f1)) = some (r1,r2):=by rw [if_neg (show ¬ (false = true) by decide)] at H;exact H
               clear H
               have H:=H1
               clear H1
               have H':=Aside0.mk H
               clear H
               have hcz26_0 : w17.cell? ⟨gb255,0,none⟩ = some (.int .i64 0):=(blk_cell BK255.out 0).trans rfl
               have hcz26_1 : w17.cell? ⟨gb255,1,none⟩ = some (.string (⟨#[]⟩ : ByteArray)):=(blk_cell BK255.out 1).trans rfl
               have hcz26_2 : w17.cell? ⟨gb255,2,none⟩ = some (.bool false):=(blk_cell BK255.out 2).trans rfl
               have hcz26_3 : w17.cell? ⟨gb255,3,none⟩ = some (.int .i64 0):=(blk_cell BK255.out 3).trans rfl
               have hcz26_4 : w17.cell? ⟨gb255,4,none⟩ = some (.slice none 0 0):=(blk_cell BK255.out 4).trans rfl
               have hcz26_5 : w17.cell? ⟨gb255,5,none⟩ = some (.int .i64 0):=(blk_cell BK255.out 5).trans rfl
               have hcz26_6 : w17.cell? ⟨gb255,6,none⟩ = some (.string (⟨#[]⟩ : ByteArray)):=(blk_cell BK255.out 6).trans rfl
               have hfz26_0:=blk_frozen BK255.out 0
               have hfz26_1:=blk_frozen BK255.out 1
               have hfz26_2:=blk_frozen BK255.out 2
               have hfz26_3:=blk_frozen BK255.out 3
               have hfz26_4:=blk_frozen BK255.out 4
               have hfz26_5:=blk_frozen BK255.out 5
               have hfz26_6:=blk_frozen BK255.out 6
               go_wp2_with (first | ((with_reducible refine gate_callee (f:=44) rfl ?_);refine goesL_ (some 57) rfl rfl Tryd.func44 (by kernel_rfl) rfl #[.string ((rd_T33 l0 (rd l1 x8_3)).f1)] rfl (by (try simp only [List.map_toArray,List.map_cons,List.map_nil]);first | done | rfl | (simp only [List.length_drop,List.length_take];rfl)) ?_;(with_reducible refine (oncewebbase_Name.calls k3 ((rd_T33 l0 (rd l1 x8_3)).f1) false _ A19.out).mono ?_);rintro e w27 ⟨rfl,hb⟩;refine ⟨_,rfl,?_⟩;have n0_:=Aside0.mk (Kd.S_below (by (with_reducible repeat (first | apply Kd.S_alloc | apply Kd.S_drewN | apply Kd.S_drew));exact (Kd.S_mono (Kd.S_far (p:=⟨gb255,6,none⟩) (Kd.S_far (p:=⟨gb255,5,none⟩) (Kd.S_far (p:=⟨gb255,4,none⟩) (Kd.S_far (p:=⟨gb255,3,none⟩) (Kd.S_far (p:=⟨gb255,2,none⟩) (Kd.S_far (p:=⟨gb255,1,none⟩) (Kd.S_far (p:=⟨gb255,0,none⟩) (Kd.S_types HO_7.out BK255.out (by decide)) (fun _ hk => hk.2) (.int .i64 ((rd_T33 l0 (rd l1 x8_3)).f0))) (fun _ hk => hk.2) (.string ((rd_T33 l0 (rd l1 x8_3)).f1))) (fun _ hk => hk.2) (.bool ((rd_T33 l0 (rd l1 x8_3)).f2))) (fun _ hk => hk.2) (.int .i64 ((rd_T33 l0 (rd l1 x8_3)).f3))) (fun _ hk => hk.2) (.slice A254_4 ((rd_T33 l0 (rd l1 x8_3)).f4).length c254_4)) (fun _ hk => hk.2) (.int .i64 ((rd_T33 l0 (rd l1 x8_3)).f5.f0))) (fun _ hk => hk.2) (.string ((rd_T33 l0 (rd l1 x8_3)).f5.f1))) (fun _ h_ => h_.1))) hb);have n1_:=Aside0.mk (blk_below (g:=gb255) (o:=.cells #[.int .i64 ((rd_T33 l0 (rd l1 x8_3)).f0),.string ((rd_T33 l0 (rd l1 x8_3)).f1),.bool ((rd_T33 l0 (rd l1 x8_3)).f2),.int .i64 ((rd_T33 l0 (rd l1 x8_3)).f3),.slice A254_4 ((rd_T33 l0 (rd l1 x8_3)).f4).length c254_4,.int .i64 ((rd_T33 l0 (rd l1 x8_3)).f5.f0),.string ((rd_T33 l0 (rd l1 x8_3)).f5.f1)] 33 (0,0)) (by (with_reducible repeat (first | refine blk_drewN ?_ _ | refine blk_drew ?_ | refine blk_alloc ?_ _));refine blk_put (cs:=#[.int .i64 ((rd_T33 l0 (rd l1 x8_3)).f0),.string ((rd_T33 l0 (rd l1 x8_3)).f1),.bool ((rd_T33 l0 (rd l1 x8_3)).f2),.int .i64 ((rd_T33 l0 (rd l1 x8_3)).f3),.slice A254_4 ((rd_T33 l0 (rd l1 x8_3)).f4).length c254_4,.int .i64 ((rd_T33 l0 (rd l1 x8_3)).f5.f0),.string (⟨#[]⟩ : ByteArray)]) ?_ 6 _ rfl;(with_reducible repeat (first | refine blk_drewN ?_ _ | refine blk_drew ?_ | refine blk_alloc ?_ _));refine blk_put (cs:=#[.int .i64 ((rd_T33 l0 (rd l1 x8_3)).f0),.string ((rd_T33 l0 (rd l1 x8_3)).f1),.bool ((rd_T33 l0 (rd l1 x8_3)).f2),.int .i64 ((rd_T33 l0 (rd l1 x8_3)).f3),.slice A254_4 ((rd_T33 l0 (rd l1 x8_3)).f4).length c254_4,.int .i64 0,.string (⟨#[]⟩ : ByteArray)]) ?_ 5 _ rfl;(with_reducible repeat (first | refine blk_drewN ?_ _ | refine blk_drew ?_ | refine blk_alloc ?_ _));refine blk_put (cs:=#[.int .i64 ((rd_T33 l0 (rd l1 x8_3)).f0),.string ((rd_T33 l0 (rd l1 x8_3)).f1),.bool ((rd_T33 l0 (rd l1 x8_3)).f2),.int .i64 ((rd_T33 l0 (rd l1 x8_3)).f3),.slice none 0 0,.int .i64 0,.string (⟨#[]⟩ : ByteArray)]) ?_ 4 _ rfl;(with_reducible repeat (first | refine blk_drewN ?_ _ | refine blk_drew ?_ | refine blk_alloc ?_ _));refine blk_put (cs:=#[.int .i64 ((rd_T33 l0 (rd l1 x8_3)).f0),.string ((rd_T33 l0 (rd l1 x8_3)).f1),.bool ((rd_T33 l0 (rd l1 x8_3)).f2),.int .i64 0,.slice none 0 0,.int .i64 0,.string (⟨#[]⟩ : ByteArray)]) ?_ 3 _ rfl;(with_reducible repeat (first | refine blk_drewN ?_ _ | refine blk_drew ?_ | refine blk_alloc ?_ _));refine blk_put (cs:=#[.int .i64 ((rd_T33 l0 (rd l1 x8_3)).f0),.string ((rd_T33 l0 (rd l1 x8_3)).f1),.bool false,.int .i64 0,.slice none 0 0,.int .i64 0,.string (⟨#[]⟩ : ByteArray)]) ?_ 2 _ rfl;(with_reducible repeat (first | refine blk_drewN ?_ _ | refine blk_drew ?_ | refine blk_alloc ?_ _));refine blk_put (cs:=#[.int .i64 ((rd_T33 l0 (rd l1 x8_3)).f0),.string (⟨#[]⟩ : ByteArray),.bool false,.int .i64 0,.slice none 0 0,.int .i64 0,.string (⟨#[]⟩ : ByteArray)]) ?_ 1 _ rfl;(with_reducible repeat (first | refine blk_drewN ?_ _ | refine blk_drew ?_ | refine blk_alloc ?_ _));refine blk_put (cs:=#[.int .i64 0,.string (⟨#[]⟩ : ByteArray),.bool false,.int .i64 0,.slice none 0 0,.int .i64 0,.string (⟨#[]⟩ : ByteArray)]) ?_ 0 _ rfl;(with_reducible repeat (first | refine blk_drewN ?_ _ | refine blk_drew ?_ | refine blk_alloc ?_ _));exact BK255.out) hb);have n2_:=Aside0.mk (below_step (by repeat (first | (with_reducible first | exact HB.out | apply below_alloc | apply pw_below_drewN | apply below_drew1 | refine below_set ?_ GE255.out) | exact HB.out)) hb);clear HO_7;clear BK255;clear HB;have HO_7:=n0_;have BK255:=n1_;have HB:=n2_;clear n0_ n1_ n2_;(try clear hb);(try clear hb2);(try clear hk);(try clear hi)))
               go_meet
               case rel => exact ⟨_,(true),(by first | rfl | (simp;done) | (simp [*];done)),H',⟨by have:=HJ2.out;have:=HK2.out;have:=HK3.out;first | omega | exact Nat.le_refl _⟩,⟨by (with_reducible repeat (first | apply Kd.S_alloc | apply Kd.S_drewN | apply Kd.S_drew));exact HO_7.out⟩,⟨by (with_reducible repeat (first | refine blk_drewN ?_ _ | refine blk_drew ?_ | refine blk_alloc ?_ _));exact BK255.out⟩,⟨by repeat (first | (with_reducible first | exact HB.out | apply below_alloc | apply pw_below_drewN | apply below_drew1 | refine below_set ?_ GE255.out) | exact HB.out)⟩⟩
             case rest =>
              clear HC16
              obtain ⟨kq,x64_15,rfl,HA,HJ15,HO_7,BK255,HB⟩:=hcut
              cases kq with
              | zero => exact absurd HA.out (by simp [oncewebref19_Fails.j3])
              | succ kj15 =>
               have H:=HA.out
               clear HA
               simp only [oncewebref19_Fails.j3] at H
               by_cases c28 : x64_15 = true
               ·subst c28
                have H1 : (some (([] : List (S49)),190)) = some (r1,r2):=by rw [if_pos rfl] at H;exact H
                clear H
                have H:=H1
                clear H1
                simp only [Option.some.injEq,Prod.mk.injEq] at H
                obtain ⟨rfl,rfl⟩:=H
                go_wp2
                go_ret2
                exact ⟨_,by first | rfl | (simp [errW_none,errW_some] <;> rfl) | (simp [*,errW_none,errW_some] <;> rfl),by first | exact Kd.R_nil _ _ _ _ _ | exact Kd.N_nil _ _ _ _ _ | exact Kd.V_nil _ _ _ _ _ | exact Kd.Q_nil _ _ _ _ _ | exact Kd.S_nil _ _ _ _ _,by repeat (first | (with_reducible first | exact HB.out | apply below_alloc | apply pw_below_drewN | apply below_drew1 | refine below_set ?_ GE255.out) | exact HB.out)⟩
               ·replace c28:=Bool.eq_false_iff.mpr c28
                subst c28
                have H1 : (if ((rd_T33 l0 (rd l1 x8_3)).f5.f0) = 3 then (if ((rd_T33 l0 (rd l1 x8_3)).f5.f0) ≥ 2 then ((oncewebref03_Wrap.f kj15 ((rd_T33 l0 (rd l1 x8_3)).f1) (([(⟨2,0,((rd_T33 l0 (rd l1 x8_3)).f5.f1)⟩ : S49)] : List (S49)))).bind fun bt261 => (if x7_3.length < 5864062014805 then (oncewebref19_Fails.l1 kj15 l0 l1 (x7_3 ++ [bt261.1]) (wrap64 (x8_3 + 1))) else (none))) else (oncewebref19_Fails.l1 kj15 l0 l1 x7_3 (wrap64 (x8_3 + 1)))) else (if ((rd_T33 l0 (rd l1 x8_3)).f5.f0) ≥ 2 then ((oncewebref03_Wrap.f kj15 ((rd_T33 l0 (rd l1 x8_3)).f1) (([(⟨1,0,((rd_T33 l0 (rd l1 x8_3)).f5.f1)⟩ : S49)] : List (S49)))).bind fun bt271 => (if x7_3.length < 5864062014805 then (oncewebref19_Fails.l1 kj15 l0 l1 (x7_3 ++ [bt271.1]) (wrap64 (x8_3 + 1))) else (none))) else (oncewebref19_Fails.l1 kj15 l0 l1 x7_3 (wrap64 (x8_3 + 1))))) = some (r1,r2):=by rw [if_neg (show ¬ (false = true) by decide)] at H;exact H
                clear H
                have H:=H1
                clear H1
                by_cases c29 : ((rd_T33 l0 (rd l1 x8_3)).f5.f0) = 3
                ·rw [if_pos c29] at H
                 have c29b0 : (((rd_T33 l0 (rd l1 x8_3)).f5.f0) == 3) = true:=beq_iff_eq.mpr c29
                 have c29b1 : (((rd_T33 l0 (rd l1 x8_3)).f5.f0) != 3) = false:=bne_eq_false_iff_eq.mpr c29
                 clear c29
                 by_cases c30 : ((rd_T33 l0 (rd l1 x8_3)).f5.f0) ≥ 2
                 ·rw [if_pos c30] at H
                  have c30b0 : decide (2 ≤ ((rd_T33 l0 (rd l1 x8_3)).f5.f0)) = true:=decide_eq_true c30
                  clear c30
                  obtain ⟨y258,hy258⟩ : ∃ y_ : List (S49),y_ = (([(⟨2,0,((rd_T33 l0 (rd l1 x8_3)).f5.f1)⟩ : S49)] : List (S49))):=⟨_,rfl⟩
                  replace H : ((oncewebref03_Wrap.f kj15 ((rd_T33 l0 (rd l1 x8_3)).f1) y258).bind fun bt261 => (if x7_3.length < 5864062014805 then (oncewebref19_Fails.l1 kj15 l0 l1 (x7_3 ++ [bt261.1]) (wrap64 (x8_3 + 1))) else (none))) = some (r1,r2):=by first | (rw [hy258];with_reducible exact H) | (have H2_:=(Option.bind_some _ _).symm.trans H;rw [hy258];with_reducible exact H2_) | (have H2_:=(Option.bind_some _ _).symm.trans H;with_reducible exact H2_) | with_reducible exact H | (rw [hy258];exact H) | exact H
                  have Ny258:=Aside0.mk hy258
                  clear hy258
                  replace H:=Option.bind_eq_some_iff.mp H
                  obtain ⟨⟨t261,t262⟩,A310,H⟩:=H
                  replace H : (if x7_3.length < 5864062014805 then (oncewebref19_Fails.l1 kj15 l0 l1 (x7_3 ++ [t261]) (wrap64 (x8_3 + 1))) else (none)) = some (r1,r2):=H
                  have A31:=Aside0.mk A310
                  clear A310
                  by_cases c32 : x7_3.length < 5864062014805
                  ·rw [if_pos c32] at H
                   have LMc32:=Aside0.mk c32
                   clear c32
                   obtain ⟨y265,hy265⟩ : ∃ y_ : List (List (S49)),y_ = (x7_3 ++ [t261]):=⟨_,rfl⟩
                   replace H : (oncewebref19_Fails.l1 kj15 l0 l1 y265 (wrap64 (x8_3 + 1))) = some (r1,r2):=by first | (rw [hy265];with_reducible exact H) | (have H2_:=(Option.bind_some _ _).symm.trans H;rw [hy265];with_reducible exact H2_) | (have H2_:=(Option.bind_some _ _).symm.trans H;with_reducible exact H2_) | with_reducible exact H | (rw [hy265];exact H) | exact H
                   have Ny265:=Aside0.mk hy265
                   clear hy265
                   have H':=Aside0.mk H
                   clear H
                   have hcz33_0 : wc.cell? ⟨gb255,0,none⟩ = some (.int .i64 ((rd_T33 l0 (rd l1 x8_3)).f0)):=(blk_cell BK255.out 0).trans rfl
                   have hcz33_1 : wc.cell? ⟨gb255,1,none⟩ = some (.string ((rd_T33 l0 (rd l1 x8_3)).f1)):=(blk_cell BK255.out 1).trans rfl
                   have hcz33_2 : wc.cell? ⟨gb255,2,none⟩ = some (.bool ((rd_T33 l0 (rd l1 x8_3)).f2)):=(blk_cell BK255.out 2).trans rfl
                   have hcz33_3 : wc.cell? ⟨gb255,3,none⟩ = some (.int .i64 ((rd_T33 l0 (rd l1 x8_3)).f3)):=(blk_cell BK255.out 3).trans rfl
                   have hcz33_4 : wc.cell? ⟨gb255,4,none⟩ = some (.slice A254_4 ((rd_T33 l0 (rd l1 x8_3)).f4).length c254_4):=(blk_cell BK255.out 4).trans rfl
                   have hcz33_5 : wc.cell? ⟨gb255,5,none⟩ = some (.int .i64 ((rd_T33 l0 (rd l1 x8_3)).f5.f0)):=(blk_cell BK255.out 5).trans rfl
                   have hcz33_6 : wc.cell? ⟨gb255,6,none⟩ = some (.string ((rd_T33 l0 (rd l1 x8_3)).f5.f1)):=(blk_cell BK255.out 6).trans rfl
                   have hfz33_0:=blk_frozen BK255.out 0
                   have hfz33_1:=blk_frozen BK255.out 1
                   have hfz33_2:=blk_frozen BK255.out 2
                   have hfz33_3:=blk_frozen BK255.out 3
                   have hfz33_4:=blk_frozen BK255.out 4
                   have hfz33_5:=blk_frozen BK255.out 5
                   have hfz33_6:=blk_frozen BK255.out 6
                   go_wp2_with (first | ((with_reducible refine gate_dst (N:=81) rfl ?_);(try (refine gate_guard (by rfl) ?_;dsimp only));refine Kd.R_lit k49 _ 49 ?hg (N:=81) ?hd (xs:=([(⟨2,0,((rd_T33 l0 (rd l1 x8_3)).f5.f1)⟩ : S49)] : List (S49))) (inner:=[.int .i64 2,.int .i64 0,.string ((rd_T33 l0 (rd l1 x8_3)).f5.f1)]) (ok:=fun _ => True) (okp:=fun _ => True) ?hr ?hp (fun _ hk => hk) trivial (Below.refl _ _) (Nat.le_refl _) (by simp) ?_;(case hd => rfl);(case hg => rfl);(case hr => first | (go_simp;done) | (go_simp;rfl));(case hp => exact (Reps.c3 (show Kd.M k49 _ _ _ (⟨2,0,((rd_T33 l0 (rd l1 x8_3)).f5.f1)⟩ : S49) [.int .i64 2,.int .i64 0,.string ((rd_T33 l0 (rd l1 x8_3)).f5.f1)] from (k49_mkM _ _ _ (⟨2,0,((rd_T33 l0 (rd l1 x8_3)).f5.f1)⟩ : S49) )) (Reps.none _ _)));intro v259 w34 ho35 hb hg_ hnew_;clear hg_ hnew_;(first | rw [← Ny258.out] at ho35 | (simp only [Int.reduceToNat] at ho35;rw [← Ny258.out] at ho35));have n0_:=Aside0.mk (Kd.S_elder' (by (with_reducible repeat (first | apply Kd.S_alloc | apply Kd.S_drewN | apply Kd.S_drew));exact HO_7.out) (Kd.R_base ho35) hb);have n1_:=Aside0.mk (Kd.R_lower ho35 (below_size (by repeat (first | (with_reducible first | exact HB.out | apply below_alloc | apply pw_below_drewN | apply below_drew1 | refine below_set ?_ GE255.out) | exact HB.out))));have n2_:=Aside0.mk (blk_below (g:=gb255) (o:=.cells #[.int .i64 ((rd_T33 l0 (rd l1 x8_3)).f0),.string ((rd_T33 l0 (rd l1 x8_3)).f1),.bool ((rd_T33 l0 (rd l1 x8_3)).f2),.int .i64 ((rd_T33 l0 (rd l1 x8_3)).f3),.slice A254_4 ((rd_T33 l0 (rd l1 x8_3)).f4).length c254_4,.int .i64 ((rd_T33 l0 (rd l1 x8_3)).f5.f0),.string ((rd_T33 l0 (rd l1 x8_3)).f5.f1)] 33 (0,0)) (by (with_reducible repeat (first | refine blk_drewN ?_ _ | refine blk_drew ?_ | refine blk_alloc ?_ _));exact BK255.out) hb);have n3_:=Aside0.mk (below_step (by repeat (first | (with_reducible first | exact HB.out | apply below_alloc | apply pw_below_drewN | apply below_drew1 | refine below_set ?_ GE255.out) | exact HB.out)) hb);clear HO_7;clear BK255;clear HB;have HO_7:=n0_;have HO260:=n1_;have BK255:=n2_;have HB:=n3_;clear n0_ n1_ n2_ n3_;clear hb ho35;obtain ⟨Ao36,co36,eo36⟩:=Kd.R_slice HO260.out;subst eo36) | ((with_reducible refine gate_callee (f:=46) rfl ?_);refine goesL_ (some 82) rfl rfl Tryd.func46 (by kernel_rfl) rfl #[.string ((rd_T33 l0 (rd l1 x8_3)).f1),.slice Ao36 y258.length co36] rfl (by (try simp only [List.map_toArray,List.map_cons,List.map_nil]);first | done | rfl | (simp only [List.length_drop,List.length_take];rfl)) ?_;(with_reducible refine (oncewebref03_Wrap.calls kj15 ((rd_T33 l0 (rd l1 x8_3)).f1) _ _ y258 t261 t262 _ ?side1 ?side2 A31.out).mono ?_);(case side1 => repeat (first | exact (Kd.R_reads' HO260.out).2.2 | (with_reducible refine Kd.C_alloc ?_ _) | (with_reducible refine Kd.C_drewN ?_ _) | (with_reducible refine Kd.C_drew ?_)));(case side2 => exact (Kd.R_reads' HO260.out).2.1);rintro e w37 ⟨v263,rfl,ho0,hb⟩;refine ⟨_,rfl,?_⟩;have n0_:=Aside0.mk (Kd.S_elder' (by (with_reducible repeat (first | apply Kd.S_alloc | apply Kd.S_drewN | apply Kd.S_drew));exact HO_7.out) (Kd.R_base ho0) hb);have n1_:=Aside0.mk (Kd.R_elder' (by (with_reducible repeat (first | apply Kd.R_alloc | apply Kd.R_drewN | apply Kd.R_drew));exact HO260.out) (Kd.R_base ho0) hb);have n2_:=Aside0.mk (Kd.R_lower (Kd.R_new' ho0 (Kd.R_lt (by (with_reducible repeat (first | apply Kd.R_alloc | apply Kd.R_drewN | apply Kd.R_drew));exact HO260.out))) (below_size (by repeat (first | (with_reducible first | exact HB.out | apply below_alloc | apply pw_below_drewN | apply below_drew1 | refine below_set ?_ GE255.out) | exact HB.out))));have n3_:=Aside0.mk (blk_below (g:=gb255) (o:=.cells #[.int .i64 ((rd_T33 l0 (rd l1 x8_3)).f0),.string ((rd_T33 l0 (rd l1 x8_3)).f1),.bool ((rd_T33 l0 (rd l1 x8_3)).f2),.int .i64 ((rd_T33 l0 (rd l1 x8_3)).f3),.slice A254_4 ((rd_T33 l0 (rd l1 x8_3)).f4).length c254_4,.int .i64 ((rd_T33 l0 (rd l1 x8_3)).f5.f0),.string ((rd_T33 l0 (rd l1 x8_3)).f5.f1)] 33 (0,0)) (by (with_reducible repeat (first | refine blk_drewN ?_ _ | refine blk_drew ?_ | refine blk_alloc ?_ _));exact BK255.out) hb);have n4_:=Aside0.mk (below_step (by repeat (first | (with_reducible first | exact HB.out | apply below_alloc | apply pw_below_drewN | apply below_drew1 | refine below_set ?_ GE255.out) | exact HB.out)) hb);clear HO_7;clear HO260;clear BK255;clear HB;have HO_7:=n0_;have HO260:=n1_;have HO264:=n2_;have BK255:=n3_;have HB:=n4_;clear n0_ n1_ n2_ n3_ n4_;(try clear hb);(try clear hb2);(try clear hk);(try clear hi);(try clear ho0);obtain ⟨Ao39,co39,eo39⟩:=Kd.R_slice HO264.out;subst eo39) | ((with_reducible refine gate_builtin (b:=.append) (xs:=#[.tmp 85,.tmp 87]) rfl ?_);(try (refine gate_guard (by rfl) ?_;dsimp only));at_builtin;refine Kd.S_append (Kd.slice 49 k49) (w0:=w) w.heap.size rfl (.tmp 85) (.tmp 87) 53 44 (.slice none 0 0) 24 rfl Tryd.underlying53 info44 rfl (by decide) (by omega) u7 x7_3 t261 [.slice Ao39 t261.length co39] (fun k_ => some k_ ≠ (.slice Ao36 y258.length co36 : Value).ownBlock) (fun k_ => some k_ = (.slice Ao39 t261.length co39 : Value).ownBlock) rfl rfl ?aP (fun k_ hk_ => ((Kd.R_mono (ok':=fun k_ => ((fun k_ => some k_ ≠ (.slice Ao36 y258.length co36 : Value).ownBlock)) k_ ∧ some k_ ≠ (u7 : Value).ownBlock) (Kd.R_apart' (HO264.out) (Kd.S_typed HO_7.out) (by decide)) (fun k_ hk => ⟨hk.1.2,hk.2⟩))).1 k_ hk_.symm) ?aF ?aO ?aB ?aS ?aL ?_;(case aP => exact Kd.M_row (Kd.R_mono (Kd.R_tight rfl (Kd.R_mono (ok':=fun k_ => ((fun k_ => some k_ ≠ (.slice Ao36 y258.length co36 : Value).ownBlock)) k_ ∧ some k_ ≠ (u7 : Value).ownBlock) (Kd.R_apart' (HO264.out) (Kd.S_typed HO_7.out) (by decide)) (fun k_ hk => ⟨hk.1.2,hk.2⟩))) (fun _ h_ => h_)));(case aB => exact (by repeat (first | (with_reducible first | exact HB.out | apply below_alloc | apply pw_below_drewN | apply below_drew1 | refine below_set ?_ GE255.out) | exact HB.out)));(case aF => exact (fun k_ hk => Kd.fresh' (Kd.R_lt (by (with_reducible repeat (first | apply Kd.R_alloc | apply Kd.R_drewN | apply Kd.R_drew));exact HO260.out)) k_ hk));(case aO => exact (by (with_reducible repeat (first | apply Kd.S_alloc | apply Kd.S_drewN | apply Kd.S_drew));exact Kd.S_mono HO_7.out (fun k_ hk => ⟨hk.1.2,fun e_ => hk.2 e_⟩)));(case aS => exact (below_size (by repeat (first | (with_reducible first | exact HB.out | apply below_alloc | apply pw_below_drewN | apply below_drew1 | refine below_set ?_ GE255.out) | exact HB.out))));(case aL => have:=LMc32.out;omega);intro v266 w38 ho hb hg hat;rw [← Ny265.out] at ho;have n0_:=Aside0.mk (blk_grown (g:=gb255) (o:=.cells #[.int .i64 ((rd_T33 l0 (rd l1 x8_3)).f0),.string ((rd_T33 l0 (rd l1 x8_3)).f1),.bool ((rd_T33 l0 (rd l1 x8_3)).f2),.int .i64 ((rd_T33 l0 (rd l1 x8_3)).f3),.slice A254_4 ((rd_T33 l0 (rd l1 x8_3)).f4).length c254_4,.int .i64 ((rd_T33 l0 (rd l1 x8_3)).f5.f0),.string ((rd_T33 l0 (rd l1 x8_3)).f5.f1)] 33 (0,0)) (by (with_reducible repeat (first | refine blk_drewN ?_ _ | refine blk_drew ?_ | refine blk_alloc ?_ _));exact BK255.out) hg (Kd.S_ne HO_7.out BK255.out (by decide)));have n1_:=Aside0.mk (Kd.R_over' (by (with_reducible repeat (first | apply Kd.R_alloc | apply Kd.R_drewN | apply Kd.R_drew));exact HO260.out) (Kd.S_typed (by (with_reducible repeat (first | apply Kd.S_alloc | apply Kd.S_drewN | apply Kd.S_drew));exact HO_7.out)) (by decide) hg);have n2_:=Aside0.mk (hb);have n3_:=Aside0.mk (ho);clear BK255;clear HO260;clear HB;clear HO_7;clear HO264;have BK255:=n0_;have HO260:=n1_;have HB:=n2_;have HO267:=n3_;clear n0_ n1_ n2_ n3_;clear ho hb hg hat))
                   go_roundg kj15
                   case measure => have:=HJ2.out;have:=HK2.out;have:=HK3.out;have:=HJ15.out;omega
                   case rel => exact ⟨(y265),(wrap64 (x8_3 + 1)),(by first | rfl | (simp;done) | (simp [*];done)),H',⟨by have:=HJ2.out;have:=HK2.out;have:=HK3.out;have:=HJ15.out;omega⟩,⟨by (with_reducible repeat (first | apply Kd.S_alloc | apply Kd.S_drewN | apply Kd.S_drew));exact Kd.S_mono HO267.out (fun _ hk => trivial)⟩,⟨by repeat (first | (with_reducible first | exact HB.out | apply below_alloc | apply pw_below_drewN | apply below_drew1 | refine below_set ?_ GE255.out) | exact HB.out)⟩⟩
                  ·rw [if_neg c32] at H
                   exact absurd H (by simp)
                 ·rw [if_neg c30] at H
                  have c30b0 : decide (2 ≤ ((rd_T33 l0 (rd l1 x8_3)).f5.f0)) = false:=decide_eq_false c30
                  clear c30
                  have H':=Aside0.mk H
                  clear H
                  have hcz40_0 : wc.cell? ⟨gb255,0,none⟩ = some (.int .i64 ((rd_T33 l0 (rd l1 x8_3)).f0)):=(blk_cell BK255.out 0).trans rfl
                  have hcz40_1 : wc.cell? ⟨gb255,1,none⟩ = some (.string ((rd_T33 l0 (rd l1 x8_3)).f1)):=(blk_cell BK255.out 1).trans rfl
                  have hcz40_2 : wc.cell? ⟨gb255,2,none⟩ = some (.bool ((rd_T33 l0 (rd l1 x8_3)).f2)):=(blk_cell BK255.out 2).trans rfl
                  have hcz40_3 : wc.cell? ⟨gb255,3,none⟩ = some (.int .i64 ((rd_T33 l0 (rd l1 x8_3)).f3)):=(blk_cell BK255.out 3).trans rfl
                  have hcz40_4 : wc.cell? ⟨gb255,4,none⟩ = some (.slice A254_4 ((rd_T33 l0 (rd l1 x8_3)).f4).length c254_4):=(blk_cell BK255.out 4).trans rfl
                  have hcz40_5 : wc.cell? ⟨gb255,5,none⟩ = some (.int .i64 ((rd_T33 l0 (rd l1 x8_3)).f5.f0)):=(blk_cell BK255.out 5).trans rfl
                  have hcz40_6 : wc.cell? ⟨gb255,6,none⟩ = some (.string ((rd_T33 l0 (rd l1 x8_3)).f5.f1)):=(blk_cell BK255.out 6).trans rfl
                  have hfz40_0:=blk_frozen BK255.out 0
                  have hfz40_1:=blk_frozen BK255.out 1
                  have hfz40_2:=blk_frozen BK255.out 2
                  have hfz40_3:=blk_frozen BK255.out 3
                  have hfz40_4:=blk_frozen BK255.out 4
                  have hfz40_5:=blk_frozen BK255.out 5
                  have hfz40_6:=blk_frozen BK255.out 6
                  go_wp2
                  go_roundg kj15
                  case measure => have:=HJ2.out;have:=HK2.out;have:=HK3.out;have:=HJ15.out;omega
                  case rel => exact ⟨(x7_3),(wrap64 (x8_3 + 1)),(by first | rfl | (simp;done) | (simp [*];done)),H',⟨by have:=HJ2.out;have:=HK2.out;have:=HK3.out;have:=HJ15.out;omega⟩,⟨by (with_reducible repeat (first | apply Kd.S_alloc | apply Kd.S_drewN | apply Kd.S_drew));exact HO_7.out⟩,⟨by repeat (first | (with_reducible first | exact HB.out | apply below_alloc | apply pw_below_drewN | apply below_drew1 | refine below_set ?_ GE255.out) | exact HB.out)⟩⟩
                ·rw [if_neg c29] at H
                 have c29b0 : (((rd_T33 l0 (rd l1 x8_3)).f5.f0) == 3) = false:=beq_eq_false_iff_ne.mpr c29
                 have c29b1 : (((rd_T33 l0 (rd l1 x8_3)).f5.f0) != 3) = true:=bne_iff_ne.mpr c29
                 by_cases c41 : ((rd_T33 l0 (rd l1 x8_3)).f5.f0) ≥ 2
                 ·rw [if_pos c41] at H
                  have c41b0 : decide (2 ≤ ((rd_T33 l0 (rd l1 x8_3)).f5.f0)) = true:=decide_eq_true c41
                  clear c41
                  obtain ⟨y268,hy268⟩ : ∃ y_ : List (S49),y_ = (([(⟨1,0,((rd_T33 l0 (rd l1 x8_3)).f5.f1)⟩ : S49)] : List (S49))):=⟨_,rfl⟩
                  replace H : ((oncewebref03_Wrap.f kj15 ((rd_T33 l0 (rd l1 x8_3)).f1) y268).bind fun bt271 => (if x7_3.length < 5864062014805 then (oncewebref19_Fails.l1 kj15 l0 l1 (x7_3 ++ [bt271.1]) (wrap64 (x8_3 + 1))) else (none))) = some (r1,r2):=by first | (rw [hy268];with_reducible exact H) | (have H2_:=(Option.bind_some _ _).symm.trans H;rw [hy268];with_reducible exact H2_) | (have H2_:=(Option.bind_some _ _).symm.trans H;with_reducible exact H2_) | with_reducible exact H | (rw [hy268];exact H) | exact H
                  have Ny268:=Aside0.mk hy268
                  clear hy268
                  replace H:=Option.bind_eq_some_iff.mp H
                  obtain ⟨⟨t271,t272⟩,A420,H⟩:=H
                  replace H : (if x7_3.length < 5864062014805 then (oncewebref19_Fails.l1 kj15 l0 l1 (x7_3 ++ [t271]) (wrap64 (x8_3 + 1))) else (none)) = some (r1,r2):=H
                  have A42:=Aside0.mk A420
                  clear A420
                  by_cases c43 : x7_3.length < 5864062014805
                  ·rw [if_pos c43] at H
                   have LMc43:=Aside0.mk c43
                   clear c43
                   obtain ⟨y275,hy275⟩ : ∃ y_ : List (List (S49)),y_ = (x7_3 ++ [t271]):=⟨_,rfl⟩
                   replace H : (oncewebref19_Fails.l1 kj15 l0 l1 y275 (wrap64 (x8_3 + 1))) = some (r1,r2):=by first | (rw [hy275];with_reducible exact H) | (have H2_:=(Option.bind_some _ _).symm.trans H;rw [hy275];with_reducible exact H2_) | (have H2_:=(Option.bind_some _ _).symm.trans H;with_reducible exact H2_) | with_reducible exact H | (rw [hy275];exact H) | exact H
                   have Ny275:=Aside0.mk hy275
                   clear hy275
                   have H':=Aside0.mk H
                   clear H
                   have hcz44_0 : wc.cell? ⟨gb255,0,none⟩ = some (.int .i64 ((rd_T33 l0 (rd l1 x8_3)).f0)):=(blk_cell BK255.out 0).trans rfl
                   have hcz44_1 : wc.cell? ⟨gb255,1,none⟩ = some (.string ((rd_T33 l0 (rd l1 x8_3)).f1)):=(blk_cell BK255.out 1).trans rfl
                   have hcz44_2 : wc.cell? ⟨gb255,2,none⟩ = some (.bool ((rd_T33 l0 (rd l1 x8_3)).f2)):=(blk_cell BK255.out 2).trans rfl
                   have hcz44_3 : wc.cell? ⟨gb255,3,none⟩ = some (.int .i64 ((rd_T33 l0 (rd l1 x8_3)).f3)):=(blk_cell BK255.out 3).trans rfl
                   have hcz44_4 : wc.cell? ⟨gb255,4,none⟩ = some (.slice A254_4 ((rd_T33 l0 (rd l1 x8_3)).f4).length c254_4):=(blk_cell BK255.out 4).trans rfl
                   have hcz44_5 : wc.cell? ⟨gb255,5,none⟩ = some (.int .i64 ((rd_T33 l0 (rd l1 x8_3)).f5.f0)):=(blk_cell BK255.out 5).trans rfl
                   have hcz44_6 : wc.cell? ⟨gb255,6,none⟩ = some (.string ((rd_T33 l0 (rd l1 x8_3)).f5.f1)):=(blk_cell BK255.out 6).trans rfl
                   have hfz44_0:=blk_frozen BK255.out 0
                   have hfz44_1:=blk_frozen BK255.out 1
                   have hfz44_2:=blk_frozen BK255.out 2
                   have hfz44_3:=blk_frozen BK255.out 3
                   have hfz44_4:=blk_frozen BK255.out 4
                   have hfz44_5:=blk_frozen BK255.out 5
                   have hfz44_6:=blk_frozen BK255.out 6
                   go_wp2_with (first | ((with_reducible refine gate_dst (N:=81) rfl ?_);(try (refine gate_guard (by rfl) ?_;dsimp only));refine Kd.R_lit k49 _ 49 ?hg (N:=81) ?hd (xs:=([(⟨1,0,((rd_T33 l0 (rd l1 x8_3)).f5.f1)⟩ : S49)] : List (S49))) (inner:=[.int .i64 1,.int .i64 0,.string ((rd_T33 l0 (rd l1 x8_3)).f5.f1)]) (ok:=fun _ => True) (okp:=fun _ => True) ?hr ?hp (fun _ hk => hk) trivial (Below.refl _ _) (Nat.le_refl _) (by simp) ?_;(case hd => rfl);(case hg => rfl);(case hr => first | (go_simp;done) | (go_simp;rfl));(case hp => exact (Reps.c3 (show Kd.M k49 _ _ _ (⟨1,0,((rd_T33 l0 (rd l1 x8_3)).f5.f1)⟩ : S49) [.int .i64 1,.int .i64 0,.string ((rd_T33 l0 (rd l1 x8_3)).f5.f1)] from (k49_mkM _ _ _ (⟨1,0,((rd_T33 l0 (rd l1 x8_3)).f5.f1)⟩ : S49) )) (Reps.none _ _)));intro v269 w45 ho46 hb hg_ hnew_;clear hg_ hnew_;(first | rw [← Ny268.out] at ho46 | (simp only [Int.reduceToNat] at ho46;rw [← Ny268.out] at ho46));have n0_:=Aside0.mk (Kd.S_elder' (by (with_reducible repeat (first | apply Kd.S_alloc | apply Kd.S_drewN | apply Kd.S_drew));exact HO_7.out) (Kd.R_base ho46) hb);have n1_:=Aside0.mk (Kd.R_lower ho46 (below_size (by repeat (first | (with_reducible first | exact HB.out | apply below_alloc | apply pw_below_drewN | apply below_drew1 | refine below_set ?_ GE255.out) | exact HB.out))));have n2_:=Aside0.mk (blk_below (g:=gb255) (o:=.cells #[.int .i64 ((rd_T33 l0 (rd l1 x8_3)).f0),.string ((rd_T33 l0 (rd l1 x8_3)).f1),.bool ((rd_T33 l0 (rd l1 x8_3)).f2),.int .i64 ((rd_T33 l0 (rd l1 x8_3)).f3),.slice A254_4 ((rd_T33 l0 (rd l1 x8_3)).f4).length c254_4,.int .i64 ((rd_T33 l0 (rd l1 x8_3)).f5.f0),.string ((rd_T33 l0 (rd l1 x8_3)).f5.f1)] 33 (0,0)) (by (with_reducible repeat (first | refine blk_drewN ?_ _ | refine blk_drew ?_ | refine blk_alloc ?_ _));exact BK255.out) hb);have n3_:=Aside0.mk (below_step (by repeat (first | (with_reducible first | exact HB.out | apply below_alloc | apply pw_below_drewN | apply below_drew1 | refine below_set ?_ GE255.out) | exact HB.out)) hb);clear HO_7;clear BK255;clear HB;have HO_7:=n0_;have HO270:=n1_;have BK255:=n2_;have HB:=n3_;clear n0_ n1_ n2_ n3_;clear hb ho46;obtain ⟨Ao47,co47,eo47⟩:=Kd.R_slice HO270.out;subst eo47) | ((with_reducible refine gate_callee (f:=46) rfl ?_);refine goesL_ (some 82) rfl rfl Tryd.func46 (by kernel_rfl) rfl #[.string ((rd_T33 l0 (rd l1 x8_3)).f1),.slice Ao47 y268.length co47] rfl (by (try simp only [List.map_toArray,List.map_cons,List.map_nil]);first | done | rfl | (simp only [List.length_drop,List.length_take];rfl)) ?_;(with_reducible refine (oncewebref03_Wrap.calls kj15 ((rd_T33 l0 (rd l1 x8_3)).f1) _ _ y268 t271 t272 _ ?side1 ?side2 A42.out).mono ?_);(case side1 => repeat (first | exact (Kd.R_reads' HO270.out).2.2 | (with_reducible refine Kd.C_alloc ?_ _) | (with_reducible refine Kd.C_drewN ?_ _) | (with_reducible refine Kd.C_drew ?_)));(case side2 => exact (Kd.R_reads' HO270.out).2.1);rintro e w48 ⟨v273,rfl,ho0,hb⟩;refine ⟨_,rfl,?_⟩;have n0_:=Aside0.mk (Kd.S_elder' (by (with_reducible repeat (first | apply Kd.S_alloc | apply Kd.S_drewN | apply Kd.S_drew));exact HO_7.out) (Kd.R_base ho0) hb);have n1_:=Aside0.mk (Kd.R_elder' (by (with_reducible repeat (first | apply Kd.R_alloc | apply Kd.R_drewN | apply Kd.R_drew));exact HO270.out) (Kd.R_base ho0) hb);have n2_:=Aside0.mk (Kd.R_lower (Kd.R_new' ho0 (Kd.R_lt (by (with_reducible repeat (first | apply Kd.R_alloc | apply Kd.R_drewN | apply Kd.R_drew));exact HO270.out))) (below_size (by repeat (first | (with_reducible first | exact HB.out | apply below_alloc | apply pw_below_drewN | apply below_drew1 | refine below_set ?_ GE255.out) | exact HB.out))));have n3_:=Aside0.mk (blk_below (g:=gb255) (o:=.cells #[.int .i64 ((rd_T33 l0 (rd l1 x8_3)).f0),.string ((rd_T33 l0 (rd l1 x8_3)).f1),.bool ((rd_T33 l0 (rd l1 x8_3)).f2),.int .i64 ((rd_T33 l0 (rd l1 x8_3)).f3),.slice A254_4 ((rd_T33 l0 (rd l1 x8_3)).f4).length c254_4,.int .i64 ((rd_T33 l0 (rd l1 x8_3)).f5.f0),.string ((rd_T33 l0 (rd l1 x8_3)).f5.f1)] 33 (0,0)) (by (with_reducible repeat (first | refine blk_drewN ?_ _ | refine blk_drew ?_ | refine blk_alloc ?_ _));exact BK255.out) hb);have n4_:=Aside0.mk (below_step (by repeat (first | (with_reducible first | exact HB.out | apply below_alloc | apply pw_below_drewN | apply below_drew1 | refine below_set ?_ GE255.out) | exact HB.out)) hb);clear HO_7;clear HO270;clear BK255;clear HB;have HO_7:=n0_;have HO270:=n1_;have HO274:=n2_;have BK255:=n3_;have HB:=n4_;clear n0_ n1_ n2_ n3_ n4_;(try clear hb);(try clear hb2);(try clear hk);(try clear hi);(try clear ho0);obtain ⟨Ao50,co50,eo50⟩:=Kd.R_slice HO274.out;subst eo50) | ((with_reducible refine gate_builtin (b:=.append) (xs:=#[.tmp 85,.tmp 87]) rfl ?_);(try (refine gate_guard (by rfl) ?_;dsimp only));at_builtin;refine Kd.S_append (Kd.slice 49 k49) (w0:=w) w.heap.size rfl (.tmp 85) (.tmp 87) 53 44 (.slice none 0 0) 24 rfl Tryd.underlying53 info44 rfl (by decide) (by omega) u7 x7_3 t271 [.slice Ao50 t271.length co50] (fun k_ => some k_ ≠ (.slice Ao47 y268.length co47 : Value).ownBlock) (fun k_ => some k_ = (.slice Ao50 t271.length co50 : Value).ownBlock) rfl rfl ?aP (fun k_ hk_ => ((Kd.R_mono (ok':=fun k_ => ((fun k_ => some k_ ≠ (.slice Ao47 y268.length co47 : Value).ownBlock)) k_ ∧ some k_ ≠ (u7 : Value).ownBlock) (Kd.R_apart' (HO274.out) (Kd.S_typed HO_7.out) (by decide)) (fun k_ hk => ⟨hk.1.2,hk.2⟩))).1 k_ hk_.symm) ?aF ?aO ?aB ?aS ?aL ?_;(case aP => exact Kd.M_row (Kd.R_mono (Kd.R_tight rfl (Kd.R_mono (ok':=fun k_ => ((fun k_ => some k_ ≠ (.slice Ao47 y268.length co47 : Value).ownBlock)) k_ ∧ some k_ ≠ (u7 : Value).ownBlock) (Kd.R_apart' (HO274.out) (Kd.S_typed HO_7.out) (by decide)) (fun k_ hk => ⟨hk.1.2,hk.2⟩))) (fun _ h_ => h_)));(case aB => exact (by repeat (first | (with_reducible first | exact HB.out | apply below_alloc | apply pw_below_drewN | apply below_drew1 | refine below_set ?_ GE255.out) | exact HB.out)));(case aF => exact (fun k_ hk => Kd.fresh' (Kd.R_lt (by (with_reducible repeat (first | apply Kd.R_alloc | apply Kd.R_drewN | apply Kd.R_drew));exact HO270.out)) k_ hk));(case aO => exact (by (with_reducible repeat (first | apply Kd.S_alloc | apply Kd.S_drewN | apply Kd.S_drew));exact Kd.S_mono HO_7.out (fun k_ hk => ⟨hk.1.2,fun e_ => hk.2 e_⟩)));(case aS => exact (below_size (by repeat (first | (with_reducible first | exact HB.out | apply below_alloc | apply pw_below_drewN | apply below_drew1 | refine below_set ?_ GE255.out) | exact HB.out))));(case aL => have:=LMc43.out;omega);intro v276 w49 ho hb hg hat;rw [← Ny275.out] at ho;have n0_:=Aside0.mk (blk_grown (g:=gb255) (o:=.cells #[.int .i64 ((rd_T33 l0 (rd l1 x8_3)).f0),.string ((rd_T33 l0 (rd l1 x8_3)).f1),.bool ((rd_T33 l0 (rd l1 x8_3)).f2),.int .i64 ((rd_T33 l0 (rd l1 x8_3)).f3),.slice A254_4 ((rd_T33 l0 (rd l1 x8_3)).f4).length c254_4,.int .i64 ((rd_T33 l0 (rd l1 x8_3)).f5.f0),.string ((rd_T33 l0 (rd l1 x8_3)).f5.f1)] 33 (0,0)) (by (with_reducible repeat (first | refine blk_drewN ?_ _ | refine blk_drew ?_ | refine blk_alloc ?_ _));exact BK255.out) hg (Kd.S_ne HO_7.out BK255.out (by decide)));have n1_:=Aside0.mk (Kd.R_over' (by (with_reducible repeat (first | apply Kd.R_alloc | apply Kd.R_drewN | apply Kd.R_drew));exact HO270.out) (Kd.S_typed (by (with_reducible repeat (first | apply Kd.S_alloc | apply Kd.S_drewN | apply Kd.S_drew));exact HO_7.out)) (by decide) hg);have n2_:=Aside0.mk (hb);have n3_:=Aside0.mk (ho);clear BK255;clear HO270;clear HB;clear HO_7;clear HO274;have BK255:=n0_;have HO270:=n1_;have HB:=n2_;have HO277:=n3_;clear n0_ n1_ n2_ n3_;clear ho hb hg hat))
                   go_roundg kj15
                   case measure => have:=HJ2.out;have:=HK2.out;have:=HK3.out;have:=HJ15.out;omega
                   case rel => exact ⟨(y275),(wrap64 (x8_3 + 1)),(by first | rfl | (simp;done) | (simp [*];done)),H',⟨by have:=HJ2.out;have:=HK2.out;have:=HK3.out;have:=HJ15.out;omega⟩,⟨by (with_reducible repeat (first | apply Kd.S_alloc | apply Kd.S_drewN | apply Kd.S_drew));exact Kd.S_mono HO277.out (fun _ hk => trivial)⟩,⟨by repeat (first | (with_reducible first | exact HB.out | apply below_alloc | apply pw_below_drewN | apply below_drew1 | refine below_set ?_ GE255.out) | exact HB.out)⟩⟩
                  ·rw [if_neg c43] at H
                   exact absurd H (by simp)
                 ·rw [if_neg c41] at H
                  have c41b0 : decide (2 ≤ ((rd_T33 l0 (rd l1 x8_3)).f5.f0)) = false:=decide_eq_false c41
                  clear c41
                  have H':=Aside0.mk H
                  clear H
                  have hcz51_0 : wc.cell? ⟨gb255,0,none⟩ = some (.int .i64 ((rd_T33 l0 (rd l1 x8_3)).f0)):=(blk_cell BK255.out 0).trans rfl
                  have hcz51_1 : wc.cell? ⟨gb255,1,none⟩ = some (.string ((rd_T33 l0 (rd l1 x8_3)).f1)):=(blk_cell BK255.out 1).trans rfl
                  have hcz51_2 : wc.cell? ⟨gb255,2,none⟩ = some (.bool ((rd_T33 l0 (rd l1 x8_3)).f2)):=(blk_cell BK255.out 2).trans rfl
                  have hcz51_3 : wc.cell? ⟨gb255,3,none⟩ = some (.int .i64 ((rd_T33 l0 (rd l1 x8_3)).f3)):=(blk_cell BK255.out 3).trans rfl
                  have hcz51_4 : wc.cell? ⟨gb255,4,none⟩ = some (.slice A254_4 ((rd_T33 l0 (rd l1 x8_3)).f4).length c254_4):=(blk_cell BK255.out 4).trans rfl
                  have hcz51_5 : wc.cell? ⟨gb255,5,none⟩ = some (.int .i64 ((rd_T33 l0 (rd l1 x8_3)).f5.f0)):=(blk_cell BK255.out 5).trans rfl
                  have hcz51_6 : wc.cell? ⟨gb255,6,none⟩ = some (.string ((rd_T33 l0 (rd l1 x8_3)).f5.f1)):=(blk_cell BK255.out 6).trans rfl
                  have hfz51_0:=blk_frozen BK255.out 0
                  have hfz51_1:=blk_frozen BK255.out 1
                  have hfz51_2:=blk_frozen BK255.out 2
                  have hfz51_3:=blk_frozen BK255.out 3
                  have hfz51_4:=blk_frozen BK255.out 4
                  have hfz51_5:=blk_frozen BK255.out 5
                  have hfz51_6:=blk_frozen BK255.out 6
                  go_wp2
                  go_roundg kj15
                  case measure => have:=HJ2.out;have:=HK2.out;have:=HK3.out;have:=HJ15.out;omega
                  case rel => exact ⟨(x7_3),(wrap64 (x8_3 + 1)),(by first | rfl | (simp;done) | (simp [*];done)),H',⟨by have:=HJ2.out;have:=HK2.out;have:=HK3.out;have:=HJ15.out;omega⟩,⟨by (with_reducible repeat (first | apply Kd.S_alloc | apply Kd.S_drewN | apply Kd.S_drew));exact HO_7.out⟩,⟨by repeat (first | (with_reducible first | exact HB.out | apply below_alloc | apply pw_below_drewN | apply below_drew1 | refine below_set ?_ GE255.out) | exact HB.out)⟩⟩
            ·rw [if_neg c15] at H
             exact absurd H (by simp)
           ·rw [if_neg c14] at H
            exact absurd H (by simp)
          ·rw [if_neg c13] at H
           exact absurd H (by simp)
         ·rw [if_neg c12] at H
          have c12b0 : decide (x8_3 < (l1.length : Int)) = false:=decide_eq_false c12
          clear c12
          replace H:=Option.bind_eq_some_iff.mp H
          obtain ⟨⟨t249,t250⟩,A520,H⟩:=H
          replace H : (some (t249,t250)) = some (r1,r2):=H
          have A52:=Aside0.mk A520
          clear A520
          simp only [Option.some.injEq,Prod.mk.injEq] at H
          obtain ⟨rfl,rfl⟩:=H
          obtain ⟨Ao53,co53,eo53⟩:=Kd.S_slice HO_7.out
          subst eo53
          go_wp2_with (first | ((with_reducible refine gate_callee (f:=47) rfl ?_);refine goesL_ (some 90) rfl rfl Tryd.func47 (by kernel_rfl) rfl #[.slice Ao53 x7_3.length co53] rfl (by (try simp only [List.map_toArray,List.map_cons,List.map_nil]);first | done | rfl | (simp only [List.length_drop,List.length_take];rfl)) ?_;(with_reducible refine (oncewebref03_Join.calls k3 _ _ x7_3 t249 t250 _ ?side1 ?side2 A52.out).mono ?_);(case side1 => repeat (first | exact (Kd.S_reads' HO_7.out).2.2 | (with_reducible refine Kd.C_alloc ?_ _) | (with_reducible refine Kd.C_drewN ?_ _) | (with_reducible refine Kd.C_drew ?_)));(case side2 => exact (Kd.S_reads' HO_7.out).2.1);rintro e w54 ⟨v251,rfl,ho0,hb⟩;refine ⟨_,rfl,?_⟩;have n0_:=Aside0.mk (Kd.S_elder' (by (with_reducible repeat (first | apply Kd.S_alloc | apply Kd.S_drewN | apply Kd.S_drew));exact HO_7.out) (Kd.R_base ho0) hb);have n1_:=Aside0.mk (Kd.R_lower ho0 (below_size (by repeat (first | (with_reducible first | exact HB.out | apply below_alloc | apply pw_below_drewN | apply below_drew1) | exact HB.out))));have n2_:=Aside0.mk (below_step (by repeat (first | (with_reducible first | exact HB.out | apply below_alloc | apply pw_below_drewN | apply below_drew1) | exact HB.out)) hb);clear HO_7;clear HB;have HO_7:=n0_;have HO252:=n1_;have HB:=n2_;clear n0_ n1_ n2_;(try clear hb);(try clear hb2);(try clear hk);(try clear hi);(try clear ho0)))
          go_ret2
          exact ⟨_,by first | rfl | (simp [errW_none,errW_some] <;> rfl) | (simp [*,errW_none,errW_some] <;> rfl),by (with_reducible repeat (first | apply Kd.R_alloc | apply Kd.R_drewN | apply Kd.R_drew));exact HO252.out,by repeat (first | (with_reducible first | exact HB.out | apply below_alloc | apply pw_below_drewN | apply below_drew1) | exact HB.out)⟩

end Go.Proofs.YtccjclmjoegibaaDoor.PCloserOrders
