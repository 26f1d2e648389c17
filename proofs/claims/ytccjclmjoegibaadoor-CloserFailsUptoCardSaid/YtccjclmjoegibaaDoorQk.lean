/- Failures, as the document has them: turned from what print.sh wrote for a law of this seat. -/
import Derived.Test.YtccjclmjoegibaaDoorQp
import Derived.Test.YtccjclmjoegibaaDoorQc
namespace Go.Proofs.YtccjclmjoegibaaDoor.PCloserOrders
open Go.RowKit Go.Proofs.YtccjclmjoegibaaDoorW.PrintWords Go.Proofs.YtccjclmjoegibaaDoorW.PrintLast Go.Proofs.YtccjclmjoegibaaDoorW.PrintMore
attribute [local go_sem] max2_int min2_int max_two min_two max_three min_three max_four min_four   -- for this text's walks alone
set_option linter.unusedVariables false
set_option linter.unusedSimpArgs false

/-! ### oncewebref03_words: function 79 -/
def oncewebref03_words.f  : Option (List ByteArray):=some (([(⟨#[108,105,115,116]⟩ : ByteArray),(⟨#[97,100,100]⟩ : ByteArray),(⟨#[115,117,98]⟩ : ByteArray),(⟨#[109,117,108]⟩ : ByteArray),(⟨#[106,111,105,110]⟩ : ByteArray),(⟨#[105,116,101,109]⟩ : ByteArray),(⟨#[115,105,122,101]⟩ : ByteArray),(⟨#[105,102]⟩ : ByteArray),(⟨#[102,97,105,108]⟩ : ByteArray),(⟨#[112,97,110,105,99]⟩ : ByteArray)] : List ByteArray))
set_option maxHeartbeats 8000000 in
set_option maxRecDepth 100000 in
theorem oncewebref03_words.calls  (r : List ByteArray) (w : World) (h : oncewebref03_words.f  = some r) :
  Calls Tryd.prog 79 #[] w fun e w' => ∃ v0_ : Value,e = .returned (v0_) ∧ Kd.R Kd.string 9 w' w.heap.size (fun _ => True) v0_ r ∧ Below w.heap.size w w':=by
 have HB:=Aside0.mk (Below.refl w.heap.size w)
 have H : (some (([(⟨#[108,105,115,116]⟩ : ByteArray),(⟨#[97,100,100]⟩ : ByteArray),(⟨#[115,117,98]⟩ : ByteArray),(⟨#[109,117,108]⟩ : ByteArray),(⟨#[106,111,105,110]⟩ : ByteArray),(⟨#[105,116,101,109]⟩ : ByteArray),(⟨#[115,105,122,101]⟩ : ByteArray),(⟨#[105,102]⟩ : ByteArray),(⟨#[102,97,105,108]⟩ : ByteArray),(⟨#[112,97,110,105,99]⟩ : ByteArray)] : List ByteArray))) = some r:=h
 clear h
 obtain ⟨y169,hy169⟩ : ∃ y_ : List ByteArray,y_ = (([(⟨#[108,105,115,116]⟩ : ByteArray),(⟨#[97,100,100]⟩ : ByteArray),(⟨#[115,117,98]⟩ : ByteArray),(⟨#[109,117,108]⟩ : ByteArray),(⟨#[106,111,105,110]⟩ : ByteArray),(⟨#[105,116,101,109]⟩ : ByteArray),(⟨#[115,105,122,101]⟩ : ByteArray),(⟨#[105,102]⟩ : ByteArray),(⟨#[102,97,105,108]⟩ : ByteArray),(⟨#[112,97,110,105,99]⟩ : ByteArray)] : List ByteArray)):=⟨_,rfl⟩
 replace H : (some y169) = some r:=by first | (rw [hy169];with_reducible exact H) | (have H2_:=(Option.bind_some _ _).symm.trans H;rw [hy169];with_reducible exact H2_) | (have H2_:=(Option.bind_some _ _).symm.trans H;with_reducible exact H2_) | with_reducible exact H | (rw [hy169];exact H) | exact H
 have Ny169:=Aside0.mk hy169
 clear hy169
 obtain rfl:=Option.some.inj H
 go_enter Tryd.func79,Tryd.ntmps79
 go_wp2_with (first | ((with_reducible refine gate_dst (N:=1) rfl ?_);refine Kd.R_lit Kd.string _ 9 ?hg (N:=1) ?hd (xs:=([(⟨#[108,105,115,116]⟩ : ByteArray),(⟨#[97,100,100]⟩ : ByteArray),(⟨#[115,117,98]⟩ : ByteArray),(⟨#[109,117,108]⟩ : ByteArray),(⟨#[106,111,105,110]⟩ : ByteArray),(⟨#[105,116,101,109]⟩ : ByteArray),(⟨#[115,105,122,101]⟩ : ByteArray),(⟨#[105,102]⟩ : ByteArray),(⟨#[102,97,105,108]⟩ : ByteArray),(⟨#[112,97,110,105,99]⟩ : ByteArray)] : List ByteArray)) (inner:=[.string (⟨#[108,105,115,116]⟩ : ByteArray),.string (⟨#[97,100,100]⟩ : ByteArray),.string (⟨#[115,117,98]⟩ : ByteArray),.string (⟨#[109,117,108]⟩ : ByteArray),.string (⟨#[106,111,105,110]⟩ : ByteArray),.string (⟨#[105,116,101,109]⟩ : ByteArray),.string (⟨#[115,105,122,101]⟩ : ByteArray),.string (⟨#[105,102]⟩ : ByteArray),.string (⟨#[102,97,105,108]⟩ : ByteArray),.string (⟨#[112,97,110,105,99]⟩ : ByteArray)]) (ok:=fun _ => True) (okp:=fun _ => True) ?hr ?hp (fun _ hk => hk) trivial (Below.refl _ _) (Nat.le_refl _) (by simp) ?_;(case hd => rfl);(case hg => rfl);(case hr => first | (go_simp;done) | (go_simp;rfl));(case hp => exact (Reps.one (show Kd.M Kd.string _ _ _ (⟨#[108,105,115,116]⟩ : ByteArray) [.string (⟨#[108,105,115,116]⟩ : ByteArray)] from rfl) (Reps.one (show Kd.M Kd.string _ _ _ (⟨#[97,100,100]⟩ : ByteArray) [.string (⟨#[97,100,100]⟩ : ByteArray)] from rfl) (Reps.one (show Kd.M Kd.string _ _ _ (⟨#[115,117,98]⟩ : ByteArray) [.string (⟨#[115,117,98]⟩ : ByteArray)] from rfl) (Reps.one (show Kd.M Kd.string _ _ _ (⟨#[109,117,108]⟩ : ByteArray) [.string (⟨#[109,117,108]⟩ : ByteArray)] from rfl) (Reps.one (show Kd.M Kd.string _ _ _ (⟨#[106,111,105,110]⟩ : ByteArray) [.string (⟨#[106,111,105,110]⟩ : ByteArray)] from rfl) (Reps.one (show Kd.M Kd.string _ _ _ (⟨#[105,116,101,109]⟩ : ByteArray) [.string (⟨#[105,116,101,109]⟩ : ByteArray)] from rfl) (Reps.one (show Kd.M Kd.string _ _ _ (⟨#[115,105,122,101]⟩ : ByteArray) [.string (⟨#[115,105,122,101]⟩ : ByteArray)] from rfl) (Reps.one (show Kd.M Kd.string _ _ _ (⟨#[105,102]⟩ : ByteArray) [.string (⟨#[105,102]⟩ : ByteArray)] from rfl) (Reps.one (show Kd.M Kd.string _ _ _ (⟨#[102,97,105,108]⟩ : ByteArray) [.string (⟨#[102,97,105,108]⟩ : ByteArray)] from rfl) (Reps.one (show Kd.M Kd.string _ _ _ (⟨#[112,97,110,105,99]⟩ : ByteArray) [.string (⟨#[112,97,110,105,99]⟩ : ByteArray)] from rfl) (Reps.none _ _))))))))))));intro v170 w1 ho2 hb hg_ hnew_;clear hg_ hnew_;(first | rw [← Ny169.out] at ho2 | (simp only [Int.reduceToNat] at ho2;rw [← Ny169.out] at ho2));have n0_:=Aside0.mk (Kd.R_lower ho2 (below_size (by repeat (first | (with_reducible first | exact HB.out | apply below_alloc | apply pw_below_drewN | apply below_drew1) | exact HB.out))));have n1_:=Aside0.mk (below_step (by repeat (first | (with_reducible first | exact HB.out | apply below_alloc | apply pw_below_drewN | apply below_drew1) | exact HB.out)) hb);clear HB;have HO171:=n0_;have HB:=n1_;clear n0_ n1_;clear hb ho2))
 go_ret
 exact ⟨_,by first | rfl | (simp [errW_none,errW_some] <;> rfl) | (simp [*,errW_none,errW_some] <;> rfl),by (with_reducible repeat (first | apply Kd.R_alloc | apply Kd.R_drewN | apply Kd.R_drew));exact HO171.out,by repeat (first | (with_reducible first | exact HB.out | apply below_alloc | apply pw_below_drewN | apply below_drew1) | exact HB.out)⟩
/-! ### oncewebref03_crack: function 78 -/
mutual
def oncewebref03_crack.j0 : Nat → Int → Bool → Int → Int → ByteArray → Option (Bool)
 | 0,_,_,_,_,_ => none
 | k + 1,x4,x5,x173000,x173001,x173002 => if x5 = true then (if x173001 = 0 then (some (decide ((x173002.size : Int) ≤ 4096))) else (some false)) else (if x4 = 8 then (if x173001 = 0 then (some (decide ((x173002.size : Int) ≤ 4096))) else (if x173001 = 1 then (some (decide ((x173002.size : Int) ≤ 4096))) else (some false))) else (if x4 = 3 then (if x173001 = 0 then ((oncewebref03_words.f).bind fun t173 => ((oncewebbase_In.f k t173 x173002).bind fun t176 => (some t176))) else (some false)) else (if x4 = 4 then (oncewebref03_crack.j1 k x4 (x4 == 4) x173000 x173001 x173002) else (oncewebref03_crack.j1 k x4 (x4 == 5) x173000 x173001 x173002))))
def oncewebref03_crack.j1 : Nat → Int → Bool → Int → Int → ByteArray → Option (Bool)
 | 0,_,_,_,_,_ => none
 | k + 1,x4,x44,x173000,x173001,x173002 => if x44 = true then (if x173001 = 0 then ((oncewebbase_Name.f k x173002).bind fun t177 => (some t177)) else (some false)) else (if x4 = 6 then (oncewebref03_crack.j2 k x4 (x4 == 6) x173000 x173001 x173002) else (if x4 = 7 then (oncewebref03_crack.j2 k x4 (x4 == 7) x173000 x173001 x173002) else (oncewebref03_crack.j2 k x4 (x4 == 11) x173000 x173001 x173002)))
def oncewebref03_crack.j2 : Nat → Int → Bool → Int → Int → ByteArray → Option (Bool)
 | 0,_,_,_,_,_ => none
 | k + 1,x4,x55,x173000,x173001,x173002 => if x55 = true then (if x173001 = 0 then (some (x173002.toList == ([] : List UInt8))) else (some false)) else (if x4 = 9 then (if x173001 = 1 then ((oncewebbase_Name.f k x173002).bind fun t178 => (some t178)) else (some false)) else (if x4 = 10 then (if x173001 ≥ 1 then (some (x173002.toList == ([] : List UInt8))) else (some false)) else (some false)))
end
def oncewebref03_crack.f (k : Nat) (a0_0 : Int) (a0_1 : Int) (a0_2 : ByteArray) : Option (Bool):=if a0_0 = 1 then (oncewebref03_crack.j0 k a0_0 (a0_0 == 1) a0_0 a0_1 a0_2) else (oncewebref03_crack.j0 k a0_0 (a0_0 == 2) a0_0 a0_1 a0_2)
def oncewebref03_crack.T8 : Bool × List (List Nat × List Nat):=(true,[([],[]),([0],[0]),([1],[1]),([2],[2]),([3,3],[3]),([3],[3]),([5,3],[3,5]),([4,6,4,3],[3,4,6]),([3,7],[3,7]),([8,7,0,1,2,3,4,5,6,7,8],[8])])
def oncewebref03_crack.B8 : List Nat:=[0,1,3,7,15,15,47,127,255,511]
theorem oncewebref03_crack.tab8 : rtab .any (opsOf Tryd.f78 8) = oncewebref03_crack.T8:=by kernel_rfl
theorem oncewebref03_crack.bits8 : waitsOk oncewebref03_crack.T8.2 oncewebref03_crack.B8 = true:=by kernel_rfl
set_option maxHeartbeats 8000000 in
set_option maxRecDepth 100000 in
theorem oncewebref03_crack.calls (k : Nat) (a0_0 : Int) (a0_1 : Int) (a0_2 : ByteArray) (r : Bool) (w : World) (h : oncewebref03_crack.f k a0_0 a0_1 a0_2 = some r) :
  Calls Tryd.prog 78 #[.agg #[.int .i64 a0_0,.int .i64 a0_1,.string a0_2]] w fun e w' => e = .returned (.bool r) ∧ Below w.heap.size w w':=by
 have hu49:=Tryd.underlying49
 have HB:=Aside0.mk (Below.refl w.heap.size w)
 have H : (if a0_0 = 1 then (oncewebref03_crack.j0 k a0_0 (a0_0 == 1) a0_0 a0_1 a0_2) else (oncewebref03_crack.j0 k a0_0 (a0_0 == 2) a0_0 a0_1 a0_2)) = some r:=h
 clear h
 have HC2:=Aside0.mk H
 clear H
 go_enter Tryd.func78,Tryd.ntmps78
 go_upto_if 5 with (first | ((with_reducible refine gate_dst (N:=1) rfl ?_);(try (refine gate_guard (by rfl) ?_;dsimp only));refine box_event ?hg (N:=1) ?hd (cs:=#[.int .i64 a0_0,.int .i64 a0_1,.string a0_2]) (t:=49) ?hr ?_;(case hd => rfl);(case hg => rfl);(case hr => first | (go_simp;done) | (go_simp;rfl));intro gb172 hg w3 hbox hb;have n0_:=Aside0.mk (below_step (by repeat (first | (with_reducible first | exact HB.out | apply below_alloc | apply pw_below_drewN | apply below_drew1) | exact HB.out)) hb);have n1_:=Aside0.mk (hbox);have n2_:=Aside0.mk ((by rw [hg];exact (below_size (by repeat (first | (with_reducible first | exact HB.out | apply below_alloc | apply pw_below_drewN | apply below_drew1) | exact HB.out))) : w.heap.size ≤ gb172));have n3_:=Aside0.mk ((by rw [hg];exact (below_size (by repeat (first | (with_reducible first | exact HB.out | apply below_alloc | apply pw_below_drewN | apply below_drew1) | exact HB.out))) : w.heap.size ≤ gb172));clear HB;have HB:=n0_;have BK172:=n1_;have GW172:=n2_;have GE172:=n3_;clear n0_ n1_ n2_ n3_;clear hb hbox hg;have hcz4_0 : w3.cell? ⟨gb172,0,none⟩ = some (.int .i64 a0_0):=(blk_cell BK172.out 0).trans rfl;have hcz4_1 : w3.cell? ⟨gb172,1,none⟩ = some (.int .i64 a0_1):=(blk_cell BK172.out 1).trans rfl;have hcz4_2 : w3.cell? ⟨gb172,2,none⟩ = some (.string a0_2):=(blk_cell BK172.out 2).trans rfl;have hfz4_0:=blk_frozen BK172.out 0;have hfz4_1:=blk_frozen BK172.out 1;have hfz4_2:=blk_frozen BK172.out 2))
 (try simp only [Act.put,List.setIfInBounds_toArray,List.set_cons_zero,List.set_cons_succ])
 go_cut [5] (fun v5 wc => ∃ (kq : Nat) (x5_1 : Bool),v5 = .bool x5_1 ∧ Aside0 (oncewebref03_crack.j0 kq a0_0 x5_1 a0_0 a0_1 a0_2 = some r) ∧ Aside0 (kq ≤ k) ∧ Aside0 (wc.heap[gb172]? = some (.cells #[.int .i64 a0_0,.int .i64 a0_1,.string a0_2] 49 (0,0))) ∧ Aside0 (Below w.heap.size w wc))
 case first =>
  have H:=HC2.out
  clear HC2
  by_cases c5 : a0_0 = 1
  ·rw [if_pos c5] at H
   have c5b0 : (a0_0 == 1) = true:=beq_iff_eq.mpr c5
   have c5b1 : (a0_0 != 1) = false:=bne_eq_false_iff_eq.mpr c5
   clear c5
   (first | rw [c5b0] | (simp only [i64_w,i32_w];rw [c5b0]) | skip)
   have H':=Aside0.mk H
   clear H
   go_wp2
   go_meet
   case rel => exact ⟨_,((a0_0 == 1)),(by first | rfl | (simp;done) | (simp [*];done)),H',⟨by first | omega | exact Nat.le_refl _⟩,⟨by (with_reducible repeat (first | refine blk_drewN ?_ _ | refine blk_drew ?_ | refine blk_alloc ?_ _));exact BK172.out⟩,⟨by repeat (first | (with_reducible first | exact HB.out | apply below_alloc | apply pw_below_drewN | apply below_drew1 | refine below_set ?_ GE172.out) | exact HB.out)⟩⟩
  ·rw [if_neg c5] at H
   have c5b0 : (a0_0 == 1) = false:=beq_eq_false_iff_ne.mpr c5
   have c5b1 : (a0_0 != 1) = true:=bne_iff_ne.mpr c5
   (first | rw [c5b0] | (simp only [i64_w,i32_w];rw [c5b0]) | skip)
   have H':=Aside0.mk H
   clear H
   go_wp2
   go_meet
   case rel => exact ⟨_,((a0_0 == 2)),(by first | rfl | (simp;done) | (simp [*];done)),H',⟨by first | omega | exact Nat.le_refl _⟩,⟨by (with_reducible repeat (first | refine blk_drewN ?_ _ | refine blk_drew ?_ | refine blk_alloc ?_ _));exact BK172.out⟩,⟨by repeat (first | (with_reducible first | exact HB.out | apply below_alloc | apply pw_below_drewN | apply below_drew1 | refine below_set ?_ GE172.out) | exact HB.out)⟩⟩
 case rest =>
  clear HC2
  obtain ⟨kq,x5_1,rfl,HA,HJ1,BK172,HB⟩:=hcut
  cases kq with
  | zero => exact absurd HA.out (by simp [oncewebref03_crack.j0])
  | succ kj1 =>
   have H:=HA.out
   clear HA
   simp only [oncewebref03_crack.j0] at H
   by_cases c6 : x5_1 = true
   ·subst c6
    have H1 : (if a0_1 = 0 then (some (decide ((a0_2.size : Int) ≤ 4096))) else (some false)) = some r:=by rw [if_pos rfl] at H;exact H
    clear H
    have H:=H1
    clear H1
    by_cases c7 : a0_1 = 0
    ·rw [if_pos c7] at H
     have c7b0 : (a0_1 == 0) = true:=beq_iff_eq.mpr c7
     have c7b1 : (a0_1 != 0) = false:=bne_eq_false_iff_eq.mpr c7
     clear c7
     obtain rfl:=Option.some.inj H
     have hcz8_0 : wc.cell? ⟨gb172,0,none⟩ = some (.int .i64 a0_0):=(blk_cell BK172.out 0).trans rfl
     have hcz8_1 : wc.cell? ⟨gb172,1,none⟩ = some (.int .i64 a0_1):=(blk_cell BK172.out 1).trans rfl
     have hcz8_2 : wc.cell? ⟨gb172,2,none⟩ = some (.string a0_2):=(blk_cell BK172.out 2).trans rfl
     have hfz8_0:=blk_frozen BK172.out 0
     have hfz8_1:=blk_frozen BK172.out 1
     have hfz8_2:=blk_frozen BK172.out 2
     go_wp2
     go_ret
     exact ⟨by first | rfl | (simp [errW_none,errW_some] <;> rfl) | (simp [*,errW_none,errW_some] <;> rfl),by repeat (first | (with_reducible first | exact HB.out | apply below_alloc | apply pw_below_drewN | apply below_drew1 | refine below_set ?_ GE172.out) | exact HB.out)⟩
    ·rw [if_neg c7] at H
     have c7b0 : (a0_1 == 0) = false:=beq_eq_false_iff_ne.mpr c7
     have c7b1 : (a0_1 != 0) = true:=bne_iff_ne.mpr c7
     obtain rfl:=Option.some.inj H
     have hcz9_0 : wc.cell? ⟨gb172,0,none⟩ = some (.int .i64 a0_0):=(blk_cell BK172.out 0).trans rfl
     have hcz9_1 : wc.cell? ⟨gb172,1,none⟩ = some (.int .i64 a0_1):=(blk_cell BK172.out 1).trans rfl
     have hcz9_2 : wc.cell? ⟨gb172,2,none⟩ = some (.string a0_2):=(blk_cell BK172.out 2).trans rfl
     have hfz9_0:=blk_frozen BK172.out 0
     have hfz9_1:=blk_frozen BK172.out 1
     have hfz9_2:=blk_frozen BK172.out 2
     go_wp2
     go_ret
     exact ⟨by first | rfl | (simp [errW_none,errW_some] <;> rfl) | (simp [*,errW_none,errW_some] <;> rfl),by repeat (first | (with_reducible first | exact HB.out | apply below_alloc | apply pw_below_drewN | apply below_drew1 | refine below_set ?_ GE172.out) | exact HB.out)⟩
   ·replace c6:=Bool.eq_false_iff.mpr c6
    subst c6
    have H1 : (if a0_0 = 8 then (if a0_1 = 0 then (some (decide ((a0_2.size : Int) ≤ 4096))) else (if a0_1 = 1 then (some (decide ((a0_2.size : Int) ≤ 4096))) else (some false))) else (if a0_0 = 3 then (if a0_1 = 0 then ((oncewebref03_words.f).bind fun t173 => ((oncewebbase_In.f kj1 t173 a0_2).bind fun t176 => (some t176))) else (some false)) else (if a0_0 = 4 then (oncewebref03_crack.j1 kj1 a0_0 (a0_0 == 4) a0_0 a0_1 a0_2) else (oncewebref03_crack.j1 kj1 a0_0 (a0_0 == 5) a0_0 a0_1 a0_2)))) = some r:=by rw [if_neg (show ¬ (false = true) by decide)] at H;exact H
    clear H
    have H:=H1
    clear H1
    by_cases c10 : a0_0 = 8
    ·rw [if_pos c10] at H
     have c10b0 : (a0_0 == 8) = true:=beq_iff_eq.mpr c10
     have c10b1 : (a0_0 != 8) = false:=bne_eq_false_iff_eq.mpr c10
     clear c10
     by_cases c11 : a0_1 = 0
     ·rw [if_pos c11] at H
      have c11b0 : (a0_1 == 0) = true:=beq_iff_eq.mpr c11
      have c11b1 : (a0_1 != 0) = false:=bne_eq_false_iff_eq.mpr c11
      clear c11
      obtain rfl:=Option.some.inj H
      have hcz12_0 : wc.cell? ⟨gb172,0,none⟩ = some (.int .i64 a0_0):=(blk_cell BK172.out 0).trans rfl
      have hcz12_1 : wc.cell? ⟨gb172,1,none⟩ = some (.int .i64 a0_1):=(blk_cell BK172.out 1).trans rfl
      have hcz12_2 : wc.cell? ⟨gb172,2,none⟩ = some (.string a0_2):=(blk_cell BK172.out 2).trans rfl
      have hfz12_0:=blk_frozen BK172.out 0
      have hfz12_1:=blk_frozen BK172.out 1
      have hfz12_2:=blk_frozen BK172.out 2
      go_wp2
      go_ret
      exact ⟨by first | rfl | (simp [errW_none,errW_some] <;> rfl) | (simp [*,errW_none,errW_some] <;> rfl),by repeat (first | (with_reducible first | exact HB.out | apply below_alloc | apply pw_below_drewN | apply below_drew1 | refine below_set ?_ GE172.out) | exact HB.out)⟩
     ·rw [if_neg c11] at H
      have c11b0 : (a0_1 == 0) = false:=beq_eq_false_iff_ne.mpr c11
      have c11b1 : (a0_1 != 0) = true:=bne_iff_ne.mpr c11
      by_cases c13 : a0_1 = 1
      ·rw [if_pos c13] at H
       have c13b0 : (a0_1 == 1) = true:=beq_iff_eq.mpr c13
       have c13b1 : (a0_1 != 1) = false:=bne_eq_false_iff_eq.mpr c13
       clear c13
       obtain rfl:=Option.some.inj H
       have hcz14_0 : wc.cell? ⟨gb172,0,none⟩ = some (.int .i64 a0_0):=(blk_cell BK172.out 0).trans rfl
       have hcz14_1 : wc.cell? ⟨gb172,1,none⟩ = some (.int .i64 a0_1):=(blk_cell BK172.out 1).trans rfl
       have hcz14_2 : wc.cell? ⟨gb172,2,none⟩ = some (.string a0_2):=(blk_cell BK172.out 2).trans rfl
       have hfz14_0:=blk_frozen BK172.out 0
       have hfz14_1:=blk_frozen BK172.out 1
       have hfz14_2:=blk_frozen BK172.out 2
       go_wp2
       go_ret
       exact ⟨by first | rfl | (simp [errW_none,errW_some] <;> rfl) | (simp [*,errW_none,errW_some] <;> rfl),by repeat (first | (with_reducible first | exact HB.out | apply below_alloc | apply pw_below_drewN | apply below_drew1 | refine below_set ?_ GE172.out) | exact HB.out)⟩
      ·rw [if_neg c13] at H
       have c13b0 : (a0_1 == 1) = false:=beq_eq_false_iff_ne.mpr c13
       have c13b1 : (a0_1 != 1) = true:=bne_iff_ne.mpr c13
       obtain rfl:=Option.some.inj H
       have hcz15_0 : wc.cell? ⟨gb172,0,none⟩ = some (.int .i64 a0_0):=(blk_cell BK172.out 0).trans rfl
       have hcz15_1 : wc.cell? ⟨gb172,1,none⟩ = some (.int .i64 a0_1):=(blk_cell BK172.out 1).trans rfl
       have hcz15_2 : wc.cell? ⟨gb172,2,none⟩ = some (.string a0_2):=(blk_cell BK172.out 2).trans rfl
       have hfz15_0:=blk_frozen BK172.out 0
       have hfz15_1:=blk_frozen BK172.out 1
       have hfz15_2:=blk_frozen BK172.out 2
       go_wp2
       go_ret
       exact ⟨by first | rfl | (simp [errW_none,errW_some] <;> rfl) | (simp [*,errW_none,errW_some] <;> rfl),by repeat (first | (with_reducible first | exact HB.out | apply below_alloc | apply pw_below_drewN | apply below_drew1 | refine below_set ?_ GE172.out) | exact HB.out)⟩
    ·rw [if_neg c10] at H
     have c10b0 : (a0_0 == 8) = false:=beq_eq_false_iff_ne.mpr c10
     have c10b1 : (a0_0 != 8) = true:=bne_iff_ne.mpr c10
     by_cases c16 : a0_0 = 3
     ·rw [if_pos c16] at H
      have c16b0 : (a0_0 == 3) = true:=beq_iff_eq.mpr c16
      have c16b1 : (a0_0 != 3) = false:=bne_eq_false_iff_eq.mpr c16
      clear c16
      by_cases c17 : a0_1 = 0
      ·rw [if_pos c17] at H
       have c17b0 : (a0_1 == 0) = true:=beq_iff_eq.mpr c17
       have c17b1 : (a0_1 != 0) = false:=bne_eq_false_iff_eq.mpr c17
       clear c17
       replace H:=Option.bind_eq_some_iff.mp H
       obtain ⟨t173,A180,H⟩:=H
       replace H : ((oncewebbase_In.f kj1 t173 a0_2).bind fun t176 => (some t176)) = some r:=H
       have A18:=Aside0.mk A180
       clear A180
       replace H:=Option.bind_eq_some_iff.mp H
       obtain ⟨t176,A190,H⟩:=H
       replace H : (some t176) = some r:=H
       have A19:=Aside0.mk A190
       clear A190
       obtain rfl:=Option.some.inj H
       try go_wp2
       have n0_:=Aside0.mk (blk_drew BK172.out)
       have n1_:=Aside0.mk (below_drew1 HB.out)
       clear BK172
       clear HB
       have BK172:=n0_
       have HB:=n1_
       clear n0_ n1_
       refine start_ (n:=10) (S:=fun w' => w'.cell? ⟨gb172,0,none⟩ = some (.int .i64 a0_0) ∧ w'.cell? ⟨gb172,1,none⟩ = some (.int .i64 a0_1) ∧ w'.cell? ⟨gb172,2,none⟩ = some (.string a0_2)) (ds:=[]) #[false,false,false,false,false,false,false,false,false,false] (by kernel_rfl) rfl rfl ⟨(blk_cell BK172.out 0).trans rfl,(blk_cell BK172.out 1).trans rfl,(blk_cell BK172.out 2).trans rfl⟩ (fun hHeld => ?_);refine with_tabW oncewebref03_crack.tab8 oncewebref03_crack.bits8 (fun HT_ HW_ => ?_)
       generalize wc.drew = w20 at BK172 HB hHeld ⊢
       refine pure_ (i:=0) (N:=some 35) (v:=?_) (a':=?_) #[true,false,false,false,false,false,false,false,false,false] rfl rfl (any_of HT_.out (by kernel_rfl)) (fun _ _ _ h => h) (Or.inl ⟨by rfl,?_⟩) ?_ ?_
       rotate_left
       ·intro w'
        go_simp
        with_reducible rfl
       rotate_left
       ·simp only [Act.put,List.setIfInBounds_toArray,List.set_cons_zero,List.set_cons_succ,i64_w,i32_w]
        rfl
       refine take_ (i:=1) (N:=some 36) (v:=?_) (a':=?_) #[true,true,false,false,false,false,false,false,false,false] rfl rfl (take_ofW HT_.out HW_.out (by kernel_rfl)) (fun _ _ _ h => h) (Or.inl ⟨by rfl,?_⟩) hHeld ?_ ?_
       rotate_left
       ·rintro w' ⟨s0,s1,s2⟩
        go_simp
        with_reducible rfl
       rotate_left
       ·simp only [Act.put,List.setIfInBounds_toArray,List.set_cons_zero,List.set_cons_succ,i64_w,i32_w]
        rfl
       refine pure_ (i:=2) (N:=some 37) (v:=?_) (a':=?_) #[true,true,true,false,false,false,false,false,false,false] rfl rfl (any_of HT_.out (by kernel_rfl)) (fun _ _ _ h => h) (Or.inl ⟨by rfl,?_⟩) ?_ ?_
       rotate_left
       ·intro w'
        go_simp
        with_reducible rfl
       rotate_left
       ·simp only [Act.put,List.setIfInBounds_toArray,List.set_cons_zero,List.set_cons_succ,i64_w,i32_w]
        rfl
       refine pure_ (i:=3) (N:=some 38) (v:=?_) (a':=?_) #[true,true,true,true,false,false,false,false,false,false] rfl rfl (any_of HT_.out (by kernel_rfl)) (fun _ _ _ h => h) (Or.inl ⟨by rfl,?_⟩) ?_ ?_
       rotate_left
       ·intro w'
        go_simp
        with_reducible rfl
       rotate_left
       ·simp only [Act.put,List.setIfInBounds_toArray,List.set_cons_zero,List.set_cons_succ,i64_w,i32_w]
        rfl
       refine pure_ (i:=5) (N:=some 40) (v:=?_) (a':=?_) #[true,true,true,true,false,true,false,false,false,false] rfl rfl (any_of HT_.out (by kernel_rfl)) (fun _ _ _ h => h) (Or.inl ⟨by rfl,?_⟩) ?_ ?_
       rotate_left
       ·intro w'
        go_simp
        with_reducible rfl
       rotate_left
       ·simp only [Act.put,List.setIfInBounds_toArray,List.set_cons_zero,List.set_cons_succ,i64_w,i32_w]
        rfl
       refine take_ (i:=6) (N:=some 41) (v:=?_) (a':=?_) #[true,true,true,true,false,true,true,false,false,false] rfl rfl (take_ofW HT_.out HW_.out (by kernel_rfl)) (fun _ _ _ h => h) (Or.inl ⟨by rfl,?_⟩) hHeld ?_ ?_
       rotate_left
       ·rintro w' ⟨s0,s1,s2⟩
        go_simp
        with_reducible rfl
       rotate_left
       ·simp only [Act.put,List.setIfInBounds_toArray,List.set_cons_zero,List.set_cons_succ,i64_w,i32_w]
        rfl
       refine one_ (i:=4) (N:=some 39) #[true,true,true,true,true,true,true,false,false,false] rfl rfl (one_of HT_.out (by kernel_rfl)) (by decide) (fun K hK => ?_)
       refine goes_ Tryd.func79 (by kernel_rfl) rfl #[] (by rfl) rfl rfl (by (try simp only [List.map_toArray,List.map_cons,List.map_nil]);first | done | rfl | (simp only [List.length_drop,List.length_take];rfl)) ?_
       with_reducible refine (oncewebref03_words.calls  t173 _ A18.out).mono ?_
       rintro e w21 ⟨v174,rfl,ho0,hb⟩
       refine ⟨_,rfl,?_⟩
       have n0_:=Aside0.mk (Kd.R_lower ho0 (below_size (by repeat (first | (with_reducible first | exact HB.out | apply below_alloc | apply pw_below_drewN | apply below_drew1 | refine below_set ?_ GE172.out) | exact HB.out))))
       have n1_:=Aside0.mk (blk_below (g:=gb172) (o:=.cells #[.int .i64 a0_0,.int .i64 a0_1,.string a0_2] 49 (0,0)) (by (with_reducible repeat (first | refine blk_drewN ?_ _ | refine blk_drew ?_ | refine blk_alloc ?_ _));exact BK172.out) hb)
       have n2_:=Aside0.mk (below_step (by repeat (first | (with_reducible first | exact HB.out | apply below_alloc | apply pw_below_drewN | apply below_drew1 | refine below_set ?_ GE172.out) | exact HB.out)) hb)
       clear BK172
       clear HB
       have HO175:=n0_
       have BK172:=n1_
       have HB:=n2_
       clear n0_ n1_ n2_
       (try clear hb)
       (try clear hb2)
       (try clear hk)
       (try clear hi)
       (try clear ho0)
       obtain ⟨Ao22,co22,eo22⟩:=Kd.R_slice HO175.out
       (first | subst eo22 | (injection eo22 with f1_ f2_ f3_;have f4_:=f1_.symm;have f5_:=f3_.symm;clear f1_ f2_ f3_;subst f4_;subst f5_))
       refine hK.out _ _ ⟨(blk_cell BK172.out 0).trans rfl,(blk_cell BK172.out 1).trans rfl,(blk_cell BK172.out 2).trans rfl⟩ (fun hHeld => ?_)
       clear hK K
       refine norm_ (a':=?_) ?_ ?_
       rotate_left
       ·show Act.put _ (some 39) _ = _
        simp only [Act.put,List.setIfInBounds_toArray,List.set_cons_zero,List.set_cons_succ,i64_w,i32_w]
        rfl
       refine one_ (i:=7) (N:=some 42) #[true,true,true,true,true,true,true,true,false,false] rfl rfl (one_of HT_.out (by kernel_rfl)) (by decide) (fun K hK => ?_)
       refine goes_ Tryd.func64 (by kernel_rfl) rfl #[.slice Ao22 t173.length co22,.string a0_2] (by rfl) rfl rfl (by (try simp only [List.map_toArray,List.map_cons,List.map_nil]);first | done | rfl | (simp only [List.length_drop,List.length_take];rfl)) ?_
       with_reducible refine (oncewebbase_In.calls kj1 _ _ t173 a0_2 t176 _ ?side1 ?side2 A19.out).mono ?_
       (case side1 => repeat (first | exact (Kd.R_reads' HO175.out).2.2 | (with_reducible refine Kd.C_alloc ?_ _) | (with_reducible refine Kd.C_drewN ?_ _) | (with_reducible refine Kd.C_drew ?_)))
       (case side2 => exact (Kd.R_reads' HO175.out).2.1)
       rintro e w' ⟨rfl,⟨nd,rfl⟩⟩
       refine ⟨_,rfl,?_⟩
       refine hK.out _ _ ⟨(blk_cell BK172.out 0).trans rfl,(blk_cell BK172.out 1).trans rfl,(blk_cell BK172.out 2).trans rfl⟩ (fun hHeld => ?_)
       clear hK K
       refine norm_ (a':=?_) ?_ ?_
       rotate_left
       ·show Act.put _ (some 42) _ = _
        simp only [Act.put,List.setIfInBounds_toArray,List.set_cons_zero,List.set_cons_succ,i64_w,i32_w]
        rfl
       refine pure_ (i:=8) (N:=some 43) (v:=?_) (a':=?_) #[true,true,true,true,true,true,true,true,true,false] rfl rfl (any_of HT_.out (by kernel_rfl)) (fun _ _ _ h => h) (Or.inl ⟨by rfl,?_⟩) ?_ ?_
       rotate_left
       ·intro w'
        go_simp
        with_reducible rfl
       rotate_left
       ·simp only [Act.put,List.setIfInBounds_toArray,List.set_cons_zero,List.set_cons_succ,i64_w,i32_w]
        rfl
       refine pure_ (i:=9) (N:=some 2) (v:=?_) (a':=?_) #[true,true,true,true,true,true,true,true,true,true] rfl rfl (any_of HT_.out (by kernel_rfl)) (fun _ _ _ h => h) (Or.inl ⟨by rfl,?_⟩) ?_ ?_
       rotate_left
       ·intro w'
        go_simp
        with_reducible rfl
       rotate_left
       ·simp only [Act.put,List.setIfInBounds_toArray,List.set_cons_zero,List.set_cons_succ,i64_w,i32_w]
        rfl
       refine done_ (done_of HT_.out (by kernel_rfl)) ?_
       try go_wp2
       go_ret
       exact ⟨by first | rfl | (simp [errW_none,errW_some] <;> rfl) | (simp [*,errW_none,errW_some] <;> rfl),by repeat (first | (with_reducible first | exact HB.out | apply below_alloc | apply pw_below_drewN | apply below_drew1 | refine below_set ?_ GE172.out) | exact HB.out)⟩
      ·rw [if_neg c17] at H
       have c17b0 : (a0_1 == 0) = false:=beq_eq_false_iff_ne.mpr c17
       have c17b1 : (a0_1 != 0) = true:=bne_iff_ne.mpr c17
       obtain rfl:=Option.some.inj H
       try go_wp2
       have n0_:=Aside0.mk (blk_drew BK172.out)
       have n1_:=Aside0.mk (below_drew1 HB.out)
       clear BK172
       clear HB
       have BK172:=n0_
       have HB:=n1_
       clear n0_ n1_
       refine start_ (n:=10) (S:=fun w' => w'.cell? ⟨gb172,0,none⟩ = some (.int .i64 a0_0) ∧ w'.cell? ⟨gb172,1,none⟩ = some (.int .i64 a0_1) ∧ w'.cell? ⟨gb172,2,none⟩ = some (.string a0_2)) (ds:=[]) #[false,false,false,false,false,false,false,false,false,false] (by kernel_rfl) rfl rfl ⟨(blk_cell BK172.out 0).trans rfl,(blk_cell BK172.out 1).trans rfl,(blk_cell BK172.out 2).trans rfl⟩ (fun hHeld => ?_);refine with_tabW oncewebref03_crack.tab8 oncewebref03_crack.bits8 (fun HT_ HW_ => ?_)
       generalize wc.drew = w23 at BK172 HB hHeld ⊢
       refine pure_ (i:=0) (N:=some 35) (v:=?_) (a':=?_) #[true,false,false,false,false,false,false,false,false,false] rfl rfl (any_of HT_.out (by kernel_rfl)) (fun _ _ _ h => h) (Or.inl ⟨by rfl,?_⟩) ?_ ?_
       rotate_left
       ·intro w'
        go_simp
        with_reducible rfl
       rotate_left
       ·simp only [Act.put,List.setIfInBounds_toArray,List.set_cons_zero,List.set_cons_succ,i64_w,i32_w]
        rfl
       refine take_ (i:=1) (N:=some 36) (v:=?_) (a':=?_) #[true,true,false,false,false,false,false,false,false,false] rfl rfl (take_ofW HT_.out HW_.out (by kernel_rfl)) (fun _ _ _ h => h) (Or.inl ⟨by rfl,?_⟩) hHeld ?_ ?_
       rotate_left
       ·rintro w' ⟨s0,s1,s2⟩
        go_simp
        with_reducible rfl
       rotate_left
       ·simp only [Act.put,List.setIfInBounds_toArray,List.set_cons_zero,List.set_cons_succ,i64_w,i32_w]
        rfl
       refine pure_ (i:=2) (N:=some 37) (v:=?_) (a':=?_) #[true,true,true,false,false,false,false,false,false,false] rfl rfl (any_of HT_.out (by kernel_rfl)) (fun _ _ _ h => h) (Or.inl ⟨by rfl,?_⟩) ?_ ?_
       rotate_left
       ·intro w'
        go_simp
        with_reducible rfl
       rotate_left
       ·simp only [Act.put,List.setIfInBounds_toArray,List.set_cons_zero,List.set_cons_succ,i64_w,i32_w]
        rfl
       refine pure_ (i:=3) (N:=some 38) (v:=?_) (a':=?_) #[true,true,true,true,false,false,false,false,false,false] rfl rfl (any_of HT_.out (by kernel_rfl)) (fun _ _ _ h => h) (Or.inl ⟨by rfl,?_⟩) ?_ ?_
       rotate_left
       ·intro w'
        go_simp
        with_reducible rfl
       rotate_left
       ·simp only [Act.put,List.setIfInBounds_toArray,List.set_cons_zero,List.set_cons_succ,i64_w,i32_w]
        rfl
       refine pure_ (i:=4) (N:=some 39) (v:=undef) (a':=?_) #[true,true,true,true,true,false,false,false,false,false] rfl rfl (any_of HT_.out (by kernel_rfl)) (fun _ _ _ h => h) (Or.inr ⟨by rfl,rfl⟩) ?_ ?_
       rotate_left
       ·simp only [Act.put,List.setIfInBounds_toArray,List.set_cons_zero,List.set_cons_succ,i64_w,i32_w]
        rfl
       refine pure_ (i:=5) (N:=some 40) (v:=undef) (a':=?_) #[true,true,true,true,true,true,false,false,false,false] rfl rfl (any_of HT_.out (by kernel_rfl)) (fun _ _ _ h => h) (Or.inr ⟨by rfl,rfl⟩) ?_ ?_
       rotate_left
       ·simp only [Act.put,List.setIfInBounds_toArray,List.set_cons_zero,List.set_cons_succ,i64_w,i32_w]
        rfl
       refine pure_ (i:=6) (N:=some 41) (v:=undef) (a':=?_) #[true,true,true,true,true,true,true,false,false,false] rfl rfl (any_of HT_.out (by kernel_rfl)) (fun _ _ _ h => h) (Or.inr ⟨by rfl,rfl⟩) ?_ ?_
       rotate_left
       ·simp only [Act.put,List.setIfInBounds_toArray,List.set_cons_zero,List.set_cons_succ,i64_w,i32_w]
        rfl
       refine pure_ (i:=7) (N:=some 42) (v:=undef) (a':=?_) #[true,true,true,true,true,true,true,true,false,false] rfl rfl (any_of HT_.out (by kernel_rfl)) (fun _ _ _ h => h) (Or.inr ⟨by rfl,rfl⟩) ?_ ?_
       rotate_left
       ·simp only [Act.put,List.setIfInBounds_toArray,List.set_cons_zero,List.set_cons_succ,i64_w,i32_w]
        rfl
       refine pure_ (i:=8) (N:=some 43) (v:=?_) (a':=?_) #[true,true,true,true,true,true,true,true,true,false] rfl rfl (any_of HT_.out (by kernel_rfl)) (fun _ _ _ h => h) (Or.inl ⟨by rfl,?_⟩) ?_ ?_
       rotate_left
       ·intro w'
        go_simp
        with_reducible rfl
       rotate_left
       ·simp only [Act.put,List.setIfInBounds_toArray,List.set_cons_zero,List.set_cons_succ,i64_w,i32_w]
        rfl
       refine pure_ (i:=9) (N:=some 2) (v:=?_) (a':=?_) #[true,true,true,true,true,true,true,true,true,true] rfl rfl (any_of HT_.out (by kernel_rfl)) (fun _ _ _ h => h) (Or.inl ⟨by rfl,?_⟩) ?_ ?_
       rotate_left
       ·intro w'
        go_simp
        with_reducible rfl
       rotate_left
       ·simp only [Act.put,List.setIfInBounds_toArray,List.set_cons_zero,List.set_cons_succ,i64_w,i32_w]
        rfl
       refine done_ (done_of HT_.out (by kernel_rfl)) ?_
       try go_wp2
       go_ret
       exact ⟨by first | rfl | (simp [errW_none,errW_some] <;> rfl) | (simp [*,errW_none,errW_some] <;> rfl),by repeat (first | (with_reducible first | exact HB.out | apply below_alloc | apply pw_below_drewN | apply below_drew1 | refine below_set ?_ GE172.out) | exact HB.out)⟩
     ·rw [if_neg c16] at H
      have c16b0 : (a0_0 == 3) = false:=beq_eq_false_iff_ne.mpr c16
      have c16b1 : (a0_0 != 3) = true:=bne_iff_ne.mpr c16
      have HC24:=Aside0.mk H
      clear H
      go_upto_if 44 with (fail)
      go_cut [44] (fun v44 wc => ∃ (kq : Nat) (x44_23 : Bool),v44 = .bool x44_23 ∧ Aside0 (oncewebref03_crack.j1 kq a0_0 x44_23 a0_0 a0_1 a0_2 = some r) ∧ Aside0 (kq ≤ kj1) ∧ Aside0 (wc.heap[gb172]? = some (.cells #[.int .i64 a0_0,.int .i64 a0_1,.string a0_2] 49 (0,0))) ∧ Aside0 (Below w.heap.size w wc))
      case first =>
       have H:=HC24.out
       clear HC24
       by_cases c25 : a0_0 = 4
       ·rw [if_pos c25] at H
        have c25b0 : (a0_0 == 4) = true:=beq_iff_eq.mpr c25
        have c25b1 : (a0_0 != 4) = false:=bne_eq_false_iff_eq.mpr c25
        clear c25
        (first | rw [c25b0] | (simp only [i64_w,i32_w];rw [c25b0]) | skip)
        have H':=Aside0.mk H
        clear H
        go_wp2
        go_meet
        case rel => exact ⟨_,((a0_0 == 4)),(by first | rfl | (simp;done) | (simp [*];done)),H',⟨by have:=HJ1.out;first | omega | exact Nat.le_refl _⟩,⟨by (with_reducible repeat (first | refine blk_drewN ?_ _ | refine blk_drew ?_ | refine blk_alloc ?_ _));exact BK172.out⟩,⟨by repeat (first | (with_reducible first | exact HB.out | apply below_alloc | apply pw_below_drewN | apply below_drew1 | refine below_set ?_ GE172.out) | exact HB.out)⟩⟩
       ·rw [if_neg c25] at H
        have c25b0 : (a0_0 == 4) = false:=beq_eq_false_iff_ne.mpr c25
        have c25b1 : (a0_0 != 4) = true:=bne_iff_ne.mpr c25
        (first | rw [c25b0] | (simp only [i64_w,i32_w];rw [c25b0]) | skip)
        have H':=Aside0.mk H
        clear H
        go_wp2
        go_meet
        case rel => exact ⟨_,((a0_0 == 5)),(by first | rfl | (simp;done) | (simp [*];done)),H',⟨by have:=HJ1.out;first | omega | exact Nat.le_refl _⟩,⟨by (with_reducible repeat (first | refine blk_drewN ?_ _ | refine blk_drew ?_ | refine blk_alloc ?_ _));exact BK172.out⟩,⟨by repeat (first | (with_reducible first | exact HB.out | apply below_alloc | apply pw_below_drewN | apply below_drew1 | refine below_set ?_ GE172.out) | exact HB.out)⟩⟩
      case rest =>
       clear HC24
       obtain ⟨kq,x44_23,rfl,HA,HJ23,BK172,HB⟩:=hcut
       cases kq with
       | zero => exact absurd HA.out (by simp [oncewebref03_crack.j1])
       | succ kj23 =>
        have H:=HA.out
        clear HA
        simp only [oncewebref03_crack.j1] at H
        by_cases c26 : x44_23 = true
        ·subst c26
         have H1 : (if a0_1 = 0 then ((oncewebbase_Name.f kj23 a0_2).bind fun t177 => (some t177)) else (some false)) = some r:=by rw [if_pos rfl] at H;exact H
         clear H
         have H:=H1
         clear H1
         by_cases c27 : a0_1 = 0
         ·rw [if_pos c27] at H
          have c27b0 : (a0_1 == 0) = true:=beq_iff_eq.mpr c27
          have c27b1 : (a0_1 != 0) = false:=bne_eq_false_iff_eq.mpr c27
          clear c27
          replace H:=Option.bind_eq_some_iff.mp H
          obtain ⟨t177,A280,H⟩:=H
          replace H : (some t177) = some r:=H
          have A28:=Aside0.mk A280
          clear A280
          obtain rfl:=Option.some.inj H
          have hcz29_0 : wc.cell? ⟨gb172,0,none⟩ = some (.int .i64 a0_0):=(blk_cell BK172.out 0).trans rfl
          have hcz29_1 : wc.cell? ⟨gb172,1,none⟩ = some (.int .i64 a0_1):=(blk_cell BK172.out 1).trans rfl
          have hcz29_2 : wc.cell? ⟨gb172,2,none⟩ = some (.string a0_2):=(blk_cell BK172.out 2).trans rfl
          have hfz29_0:=blk_frozen BK172.out 0
          have hfz29_1:=blk_frozen BK172.out 1
          have hfz29_2:=blk_frozen BK172.out 2
          go_wp2_with (first | (go_at_call 44;(with_reducible refine (oncewebbase_Name.calls kj23 a0_2 t177 _ A28.out).mono ?_);rintro e w30 ⟨rfl,hb⟩;have n0_:=Aside0.mk (blk_below (g:=gb172) (o:=.cells #[.int .i64 a0_0,.int .i64 a0_1,.string a0_2] 49 (0,0)) (by (with_reducible repeat (first | refine blk_drewN ?_ _ | refine blk_drew ?_ | refine blk_alloc ?_ _));exact BK172.out) hb);have n1_:=Aside0.mk (below_step (by repeat (first | (with_reducible first | exact HB.out | apply below_alloc | apply pw_below_drewN | apply below_drew1 | refine below_set ?_ GE172.out) | exact HB.out)) hb);clear BK172;clear HB;have BK172:=n0_;have HB:=n1_;clear n0_ n1_;(try clear hb);(try clear hb2);(try clear hk);(try clear hi)))
          go_ret
          exact ⟨by first | rfl | (simp [errW_none,errW_some] <;> rfl) | (simp [*,errW_none,errW_some] <;> rfl),by repeat (first | (with_reducible first | exact HB.out | apply below_alloc | apply pw_below_drewN | apply below_drew1 | refine below_set ?_ GE172.out) | exact HB.out)⟩
         ·rw [if_neg c27] at H
          have c27b0 : (a0_1 == 0) = false:=beq_eq_false_iff_ne.mpr c27
          have c27b1 : (a0_1 != 0) = true:=bne_iff_ne.mpr c27
          obtain rfl:=Option.some.inj H
          have hcz31_0 : wc.cell? ⟨gb172,0,none⟩ = some (.int .i64 a0_0):=(blk_cell BK172.out 0).trans rfl
          have hcz31_1 : wc.cell? ⟨gb172,1,none⟩ = some (.int .i64 a0_1):=(blk_cell BK172.out 1).trans rfl
          have hcz31_2 : wc.cell? ⟨gb172,2,none⟩ = some (.string a0_2):=(blk_cell BK172.out 2).trans rfl
          have hfz31_0:=blk_frozen BK172.out 0
          have hfz31_1:=blk_frozen BK172.out 1
          have hfz31_2:=blk_frozen BK172.out 2
          go_wp2
          go_ret
          exact ⟨by first | rfl | (simp [errW_none,errW_some] <;> rfl) | (simp [*,errW_none,errW_some] <;> rfl),by repeat (first | (with_reducible first | exact HB.out | apply below_alloc | apply pw_below_drewN | apply below_drew1 | refine below_set ?_ GE172.out) | exact HB.out)⟩
        ·replace c26:=Bool.eq_false_iff.mpr c26
         subst c26
         have H1 : (if a0_0 = 6 then (oncewebref03_crack.j2 kj23 a0_0 (a0_0 == 6) a0_0 a0_1 a0_2) else (if a0_0 = 7 then (oncewebref03_crack.j2 kj23 a0_0 (a0_0 == 7) a0_0 a0_1 a0_2) else (oncewebref03_crack.j2 kj23 a0_0 (a0_0 == 11) a0_0 a0_1 a0_2))) = some r:=by rw [if_neg (show ¬ (false = true) by decide)] at H;exact H
         clear H
         have H:=H1
         clear H1
         have HC32:=Aside0.mk H
         clear H
         go_upto_if 55 with (fail)
         go_cut [55] (fun v55 wc => ∃ (kq : Nat) (x55_31 : Bool),v55 = .bool x55_31 ∧ Aside0 (oncewebref03_crack.j2 kq a0_0 x55_31 a0_0 a0_1 a0_2 = some r) ∧ Aside0 (kq ≤ kj23) ∧ Aside0 (wc.heap[gb172]? = some (.cells #[.int .i64 a0_0,.int .i64 a0_1,.string a0_2] 49 (0,0))) ∧ Aside0 (Below w.heap.size w wc))
         case first =>
          have H:=HC32.out
          clear HC32
          by_cases c33 : a0_0 = 6
          ·rw [if_pos c33] at H
           have c33b0 : (a0_0 == 6) = true:=beq_iff_eq.mpr c33
           have c33b1 : (a0_0 != 6) = false:=bne_eq_false_iff_eq.mpr c33
           clear c33
           (first | rw [c33b0] | (simp only [i64_w,i32_w];rw [c33b0]) | skip)
           have H':=Aside0.mk H
           clear H
           go_wp2
           go_meet
           case rel => exact ⟨_,((a0_0 == 6)),(by first | rfl | (simp;done) | (simp [*];done)),H',⟨by have:=HJ1.out;have:=HJ23.out;first | omega | exact Nat.le_refl _⟩,⟨by (with_reducible repeat (first | refine blk_drewN ?_ _ | refine blk_drew ?_ | refine blk_alloc ?_ _));exact BK172.out⟩,⟨by repeat (first | (with_reducible first | exact HB.out | apply below_alloc | apply pw_below_drewN | apply below_drew1 | refine below_set ?_ GE172.out) | exact HB.out)⟩⟩
          ·rw [if_neg c33] at H
           have c33b0 : (a0_0 == 6) = false:=beq_eq_false_iff_ne.mpr c33
           have c33b1 : (a0_0 != 6) = true:=bne_iff_ne.mpr c33
           (first | rw [c33b0] | (simp only [i64_w,i32_w];rw [c33b0]) | skip)
           by_cases c34 : a0_0 = 7
           ·rw [if_pos c34] at H
            have c34b0 : (a0_0 == 7) = true:=beq_iff_eq.mpr c34
            have c34b1 : (a0_0 != 7) = false:=bne_eq_false_iff_eq.mpr c34
            clear c34
            have H':=Aside0.mk H
            clear H
            go_wp2
            go_meet
            case rel => exact ⟨_,((a0_0 == 7)),(by first | rfl | (simp;done) | (simp [*];done)),H',⟨by have:=HJ1.out;have:=HJ23.out;first | omega | exact Nat.le_refl _⟩,⟨by (with_reducible repeat (first | refine blk_drewN ?_ _ | refine blk_drew ?_ | refine blk_alloc ?_ _));exact BK172.out⟩,⟨by repeat (first | (with_reducible first | exact HB.out | apply below_alloc | apply pw_below_drewN | apply below_drew1 | refine below_set ?_ GE172.out) | exact HB.out)⟩⟩
           ·rw [if_neg c34] at H
            have c34b0 : (a0_0 == 7) = false:=beq_eq_false_iff_ne.mpr c34
            have c34b1 : (a0_0 != 7) = true:=bne_iff_ne.mpr c34
            have H':=Aside0.mk H
            clear H
            go_wp2
            go_meet
            case rel => exact ⟨_,((a0_0 == 11)),(by first | rfl | (simp;done) | (simp [*];done)),H',⟨by have:=HJ1.out;have:=HJ23.out;first | omega | exact Nat.le_refl _⟩,⟨by (with_reducible repeat (first | refine blk_drewN ?_ _ | refine blk_drew ?_ | refine blk_alloc ?_ _));exact BK172.out⟩,⟨by repeat (first | (with_reducible first | exact HB.out | apply below_alloc | apply pw_below_drewN | apply below_drew1 | refine below_set ?_ GE172.out) | exact HB.out)⟩⟩
         case rest =>
          clear HC32
          obtain ⟨kq,x55_31,rfl,HA,HJ31,BK172,HB⟩:=hcut
          cases kq with
          | zero => exact absurd HA.out (by simp [oncewebref03_crack.j2])
          | succ kj31 =>
           have H:=HA.out
           clear HA
           simp only [oncewebref03_crack.j2] at H
           by_cases c35 : x55_31 = true
           ·subst c35
            have H1 : (if a0_1 = 0 then (some (a0_2.toList == ([] : List UInt8))) else (some false)) = some r:=by rw [if_pos rfl] at H;exact H
            clear H
            have H:=H1
            clear H1
            by_cases c36 : a0_1 = 0
            ·rw [if_pos c36] at H
             have c36b0 : (a0_1 == 0) = true:=beq_iff_eq.mpr c36
             have c36b1 : (a0_1 != 0) = false:=bne_eq_false_iff_eq.mpr c36
             clear c36
             obtain rfl:=Option.some.inj H
             have hcz37_0 : wc.cell? ⟨gb172,0,none⟩ = some (.int .i64 a0_0):=(blk_cell BK172.out 0).trans rfl
             have hcz37_1 : wc.cell? ⟨gb172,1,none⟩ = some (.int .i64 a0_1):=(blk_cell BK172.out 1).trans rfl
             have hcz37_2 : wc.cell? ⟨gb172,2,none⟩ = some (.string a0_2):=(blk_cell BK172.out 2).trans rfl
             have hfz37_0:=blk_frozen BK172.out 0
             have hfz37_1:=blk_frozen BK172.out 1
             have hfz37_2:=blk_frozen BK172.out 2
             go_wp2
             go_ret
             exact ⟨by first | rfl | (simp [errW_none,errW_some] <;> rfl) | (simp [*,errW_none,errW_some] <;> rfl),by repeat (first | (with_reducible first | exact HB.out | apply below_alloc | apply pw_below_drewN | apply below_drew1 | refine below_set ?_ GE172.out) | exact HB.out)⟩
            ·rw [if_neg c36] at H
             have c36b0 : (a0_1 == 0) = false:=beq_eq_false_iff_ne.mpr c36
             have c36b1 : (a0_1 != 0) = true:=bne_iff_ne.mpr c36
             obtain rfl:=Option.some.inj H
             have hcz38_0 : wc.cell? ⟨gb172,0,none⟩ = some (.int .i64 a0_0):=(blk_cell BK172.out 0).trans rfl
             have hcz38_1 : wc.cell? ⟨gb172,1,none⟩ = some (.int .i64 a0_1):=(blk_cell BK172.out 1).trans rfl
             have hcz38_2 : wc.cell? ⟨gb172,2,none⟩ = some (.string a0_2):=(blk_cell BK172.out 2).trans rfl
             have hfz38_0:=blk_frozen BK172.out 0
             have hfz38_1:=blk_frozen BK172.out 1
             have hfz38_2:=blk_frozen BK172.out 2
             go_wp2
             go_ret
             exact ⟨by first | rfl | (simp [errW_none,errW_some] <;> rfl) | (simp [*,errW_none,errW_some] <;> rfl),by repeat (first | (with_reducible first | exact HB.out | apply below_alloc | apply pw_below_drewN | apply below_drew1 | refine below_set ?_ GE172.out) | exact HB.out)⟩
           ·replace c35:=Bool.eq_false_iff.mpr c35
            subst c35
            have H1 : (if a0_0 = 9 then (if a0_1 = 1 then ((oncewebbase_Name.f kj31 a0_2).bind fun t178 => (some t178)) else (some false)) else (if a0_0 = 10 then (if a0_1 ≥ 1 then (some (a0_2.toList == ([] : List UInt8))) else (some false)) else (some false))) = some r:=by rw [if_neg (show ¬ (false = true) by decide)] at H;exact H
            clear H
            have H:=H1
            clear H1
            by_cases c39 : a0_0 = 9
            ·rw [if_pos c39] at H
             have c39b0 : (a0_0 == 9) = true:=beq_iff_eq.mpr c39
             have c39b1 : (a0_0 != 9) = false:=bne_eq_false_iff_eq.mpr c39
             clear c39
             by_cases c40 : a0_1 = 1
             ·rw [if_pos c40] at H
              have c40b0 : (a0_1 == 1) = true:=beq_iff_eq.mpr c40
              have c40b1 : (a0_1 != 1) = false:=bne_eq_false_iff_eq.mpr c40
              clear c40
              replace H:=Option.bind_eq_some_iff.mp H
              obtain ⟨t178,A410,H⟩:=H
              replace H : (some t178) = some r:=H
              have A41:=Aside0.mk A410
              clear A410
              obtain rfl:=Option.some.inj H
              have hcz42_0 : wc.cell? ⟨gb172,0,none⟩ = some (.int .i64 a0_0):=(blk_cell BK172.out 0).trans rfl
              have hcz42_1 : wc.cell? ⟨gb172,1,none⟩ = some (.int .i64 a0_1):=(blk_cell BK172.out 1).trans rfl
              have hcz42_2 : wc.cell? ⟨gb172,2,none⟩ = some (.string a0_2):=(blk_cell BK172.out 2).trans rfl
              have hfz42_0:=blk_frozen BK172.out 0
              have hfz42_1:=blk_frozen BK172.out 1
              have hfz42_2:=blk_frozen BK172.out 2
              go_wp2_with (first | (go_at_call 44;(with_reducible refine (oncewebbase_Name.calls kj31 a0_2 t178 _ A41.out).mono ?_);rintro e w43 ⟨rfl,hb⟩;have n0_:=Aside0.mk (blk_below (g:=gb172) (o:=.cells #[.int .i64 a0_0,.int .i64 a0_1,.string a0_2] 49 (0,0)) (by (with_reducible repeat (first | refine blk_drewN ?_ _ | refine blk_drew ?_ | refine blk_alloc ?_ _));exact BK172.out) hb);have n1_:=Aside0.mk (below_step (by repeat (first | (with_reducible first | exact HB.out | apply below_alloc | apply pw_below_drewN | apply below_drew1 | refine below_set ?_ GE172.out) | exact HB.out)) hb);clear BK172;clear HB;have BK172:=n0_;have HB:=n1_;clear n0_ n1_;(try clear hb);(try clear hb2);(try clear hk);(try clear hi)))
              go_ret
              exact ⟨by first | rfl | (simp [errW_none,errW_some] <;> rfl) | (simp [*,errW_none,errW_some] <;> rfl),by repeat (first | (with_reducible first | exact HB.out | apply below_alloc | apply pw_below_drewN | apply below_drew1 | refine below_set ?_ GE172.out) | exact HB.out)⟩
             ·rw [if_neg c40] at H
              have c40b0 : (a0_1 == 1) = false:=beq_eq_false_iff_ne.mpr c40
              have c40b1 : (a0_1 != 1) = true:=bne_iff_ne.mpr c40
              obtain rfl:=Option.some.inj H
              have hcz44_0 : wc.cell? ⟨gb172,0,none⟩ = some (.int .i64 a0_0):=(blk_cell BK172.out 0).trans rfl
              have hcz44_1 : wc.cell? ⟨gb172,1,none⟩ = some (.int .i64 a0_1):=(blk_cell BK172.out 1).trans rfl
              have hcz44_2 : wc.cell? ⟨gb172,2,none⟩ = some (.string a0_2):=(blk_cell BK172.out 2).trans rfl
              have hfz44_0:=blk_frozen BK172.out 0
              have hfz44_1:=blk_frozen BK172.out 1
              have hfz44_2:=blk_frozen BK172.out 2
              go_wp2
              go_ret
              exact ⟨by first | rfl | (simp [errW_none,errW_some] <;> rfl) | (simp [*,errW_none,errW_some] <;> rfl),by repeat (first | (with_reducible first | exact HB.out | apply below_alloc | apply pw_below_drewN | apply below_drew1 | refine below_set ?_ GE172.out) | exact HB.out)⟩
            ·rw [if_neg c39] at H
             have c39b0 : (a0_0 == 9) = false:=beq_eq_false_iff_ne.mpr c39
             have c39b1 : (a0_0 != 9) = true:=bne_iff_ne.mpr c39
             by_cases c45 : a0_0 = 10
             ·rw [if_pos c45] at H
              have c45b0 : (a0_0 == 10) = true:=beq_iff_eq.mpr c45
              have c45b1 : (a0_0 != 10) = false:=bne_eq_false_iff_eq.mpr c45
              clear c45
              by_cases c46 : a0_1 ≥ 1
              ·rw [if_pos c46] at H
               have c46b0 : decide (1 ≤ a0_1) = true:=decide_eq_true c46
               clear c46
               obtain rfl:=Option.some.inj H
               have hcz47_0 : wc.cell? ⟨gb172,0,none⟩ = some (.int .i64 a0_0):=(blk_cell BK172.out 0).trans rfl
               have hcz47_1 : wc.cell? ⟨gb172,1,none⟩ = some (.int .i64 a0_1):=(blk_cell BK172.out 1).trans rfl
               have hcz47_2 : wc.cell? ⟨gb172,2,none⟩ = some (.string a0_2):=(blk_cell BK172.out 2).trans rfl
               have hfz47_0:=blk_frozen BK172.out 0
               have hfz47_1:=blk_frozen BK172.out 1
               have hfz47_2:=blk_frozen BK172.out 2
               go_wp2
               go_ret
               exact ⟨by first | rfl | (simp [errW_none,errW_some] <;> rfl) | (simp [*,errW_none,errW_some] <;> rfl),by repeat (first | (with_reducible first | exact HB.out | apply below_alloc | apply pw_below_drewN | apply below_drew1 | refine below_set ?_ GE172.out) | exact HB.out)⟩
              ·rw [if_neg c46] at H
               have c46b0 : decide (1 ≤ a0_1) = false:=decide_eq_false c46
               clear c46
               obtain rfl:=Option.some.inj H
               have hcz48_0 : wc.cell? ⟨gb172,0,none⟩ = some (.int .i64 a0_0):=(blk_cell BK172.out 0).trans rfl
               have hcz48_1 : wc.cell? ⟨gb172,1,none⟩ = some (.int .i64 a0_1):=(blk_cell BK172.out 1).trans rfl
               have hcz48_2 : wc.cell? ⟨gb172,2,none⟩ = some (.string a0_2):=(blk_cell BK172.out 2).trans rfl
               have hfz48_0:=blk_frozen BK172.out 0
               have hfz48_1:=blk_frozen BK172.out 1
               have hfz48_2:=blk_frozen BK172.out 2
               go_wp2
               go_ret
               exact ⟨by first | rfl | (simp [errW_none,errW_some] <;> rfl) | (simp [*,errW_none,errW_some] <;> rfl),by repeat (first | (with_reducible first | exact HB.out | apply below_alloc | apply pw_below_drewN | apply below_drew1 | refine below_set ?_ GE172.out) | exact HB.out)⟩
             ·rw [if_neg c45] at H
              have c45b0 : (a0_0 == 10) = false:=beq_eq_false_iff_ne.mpr c45
              have c45b1 : (a0_0 != 10) = true:=bne_iff_ne.mpr c45
              obtain rfl:=Option.some.inj H
              go_wp2
              go_ret
              exact ⟨by first | rfl | (simp [errW_none,errW_some] <;> rfl) | (simp [*,errW_none,errW_some] <;> rfl),by repeat (first | (with_reducible first | exact HB.out | apply below_alloc | apply pw_below_drewN | apply below_drew1 | refine below_set ?_ GE172.out) | exact HB.out)⟩
/-! ### oncewebref03_begins: function 75 -/
mutual
def oncewebref03_begins.l0 : Nat → List (S49) → List Int → List Int → Int → Option (List Int × Bool)
 | 0,_,_,_,_ => none
 | k + 1,x0,x4,x5,x6 => if x6 < (x0.length : Int) then (if 0 ≤ x6 then ((oncewebref03_crack.f k ((rd_T49 x0 x6).f0) ((rd_T49 x0 x6).f1) ((rd_T49 x0 x6).f2)).bind fun t187 => (if t187 = true then (oncewebref03_begins.j1 k x0 x4 x5 x6 (decide (((rd_T49 x0 x6).f1) > (x5.length : Int))) ((rd_T49 x0 x6).f0) ((rd_T49 x0 x6).f1) ((rd_T49 x0 x6).f2)) else (oncewebref03_begins.j1 k x0 x4 x5 x6 true ((rd_T49 x0 x6).f0) ((rd_T49 x0 x6).f1) ((rd_T49 x0 x6).f2)))) else (none)) else (some (x4,((x5.length : Int) == 1)))
def oncewebref03_begins.j1 : Nat → List (S49) → List Int → List Int → Int → Bool → Int → Int → ByteArray → Option (List Int × Bool)
 | 0,_,_,_,_,_,_,_,_ => none
 | k + 1,x0,x4,x5,x6,x30,x187000,x187001,x187002 => if x30 = true then (some (([] : List Int),false)) else (if x187001 > 0 then (if 0 ≤ (wrap64 ((x5.length : Int) - x187001)) then (if (wrap64 ((x5.length : Int) - x187001)) < (x5.length : Int) then (if (wrap64 ((x5.length : Int) - x187001)) ≤ (x5.length : Int) then ((some (x5.take ((wrap64 ((x5.length : Int) - x187001)) : Int).toNat : List Int)).bind fun y189 => (if y189.length < 17592186044416 then (if x4.length < 17592186044416 then (oncewebref03_begins.l0 k x0 (x4 ++ [rd x5 (wrap64 ((x5.length : Int) - x187001))]) (y189 ++ [rd x5 (wrap64 ((x5.length : Int) - x187001))]) (wrap64 (x6 + 1))) else (none)) else (none))) else (none)) else (none)) else (none)) else (if x5.length < 17592186044416 then (if x4.length < 17592186044416 then (oncewebref03_begins.l0 k x0 (x4 ++ [x6]) (x5 ++ [x6]) (wrap64 (x6 + 1))) else (none)) else (none)))
end
def oncewebref03_begins.f (k : Nat) (l0 : List (S49)) : Option (List Int × Bool):=oncewebref03_begins.l0 k l0 (([] : List Int)) (([] : List Int)) 0
set_option maxHeartbeats 8000000 in
set_option maxRecDepth 100000 in
theorem oncewebref03_begins.calls (k : Nat) (A0 : Option Addr) (c0 : Nat) (l0 : List (S49)) (r1 : List Int) (r2 : Bool) (w : World) (hr0 : Kd.C k49 w A0 l0.length l0) (hc0 : l0.length ≤ c0) (h : oncewebref03_begins.f k l0 = some (r1,r2)) :
  Calls Tryd.prog 75 #[.slice A0 l0.length c0] w fun e w' => ∃ v0_ : Value,e = .returned (.tuple #[v0_,.bool r2]) ∧ Kd.R (Kd.int .i64) 3 w' w.heap.size (fun _ => True) v0_ r1 ∧ Below w.heap.size w w':=by
 have hu49:=Tryd.underlying49
 have HR0:=Aside0.mk hr0
 have HC0:=Aside0.mk hc0
 clear hr0 hc0
 have HB:=Aside0.mk (Below.refl w.heap.size w)
 have H : (oncewebref03_begins.l0 k l0 (([] : List Int)) (([] : List Int)) 0) = some (r1,r2):=h
 clear h
 obtain ⟨y179,hy179⟩ : ∃ y_ : List Int,y_ = (([] : List Int)):=⟨_,rfl⟩
 replace H : (oncewebref03_begins.l0 k l0 y179 (([] : List Int)) 0) = some (r1,r2):=by first | (rw [hy179];with_reducible exact H) | (have H2_:=(Option.bind_some _ _).symm.trans H;rw [hy179];with_reducible exact H2_) | (have H2_:=(Option.bind_some _ _).symm.trans H;with_reducible exact H2_) | with_reducible exact H | (rw [hy179];exact H) | exact H
 have Ny179:=Aside0.mk hy179
 clear hy179
 obtain ⟨y182,hy182⟩ : ∃ y_ : List Int,y_ = (([] : List Int)):=⟨_,rfl⟩
 replace H : (oncewebref03_begins.l0 k l0 y179 y182 0) = some (r1,r2):=by first | (rw [hy182];with_reducible exact H) | (have H2_:=(Option.bind_some _ _).symm.trans H;rw [hy182];with_reducible exact H2_) | (have H2_:=(Option.bind_some _ _).symm.trans H;with_reducible exact H2_) | with_reducible exact H | (rw [hy182];exact H) | exact H
 have Ny182:=Aside0.mk hy182
 clear hy182
 have H':=Aside0.mk H
 clear H
 go_enter Tryd.func75,Tryd.ntmps75
 go_wp2_with (first | ((with_reducible refine gate_dst (N:=9) rfl ?_);(try (refine gate_guard (by rfl) ?_;dsimp only));refine Kd.R_lit (Kd.int .i64) _ 3 ?hg (N:=9) ?hd (xs:=([] : List Int)) (inner:=[]) (ok:=fun _ => True) (okp:=fun _ => True) ?hr ?hp (fun _ hk => hk) trivial (Below.refl _ _) (Nat.le_refl _) (by simp) ?_;(case hd => rfl);(case hg => rfl);(case hr => first | (go_simp;done) | (go_simp;rfl));(case hp => exact (Reps.none _ _));intro v180 w2 ho3 hb hg_ hnew_;clear hg_ hnew_;(first | rw [← Ny179.out] at ho3 | (simp only [Int.reduceToNat] at ho3;rw [← Ny179.out] at ho3));have n0_:=Aside0.mk (Kd.R_lower ho3 (below_size (by repeat (first | (with_reducible first | exact HB.out | apply below_alloc | apply pw_below_drewN | apply below_drew1) | exact HB.out))));have n1_:=Aside0.mk (below_step (by repeat (first | (with_reducible first | exact HB.out | apply below_alloc | apply pw_below_drewN | apply below_drew1) | exact HB.out)) hb);clear HB;have HO181:=n0_;have HB:=n1_;clear n0_ n1_;clear hb ho3) | ((with_reducible refine gate_dst (N:=10) rfl ?_);(try (refine gate_guard (by rfl) ?_;dsimp only));refine Kd.R_lit (Kd.int .i64) _ 3 ?hg (N:=10) ?hd (xs:=([] : List Int)) (inner:=[]) (ok:=fun _ => True) (okp:=fun _ => True) ?hr ?hp (fun _ hk => hk) trivial (Below.refl _ _) (Nat.le_refl _) (by simp) ?_;(case hd => rfl);(case hg => rfl);(case hr => first | (go_simp;done) | (go_simp;rfl));(case hp => exact (Reps.none _ _));intro v183 w4 ho5 hb hg_ hnew_;clear hg_ hnew_;(first | rw [← Ny182.out] at ho5 | (simp only [Int.reduceToNat] at ho5;rw [← Ny182.out] at ho5));have n0_:=Aside0.mk (Kd.R_elder' (by (with_reducible repeat (first | apply Kd.R_alloc | apply Kd.R_drewN | apply Kd.R_drew));exact HO181.out) (Kd.R_base ho5) hb);have n1_:=Aside0.mk (Kd.R_lower (Kd.R_new' ho5 (Kd.R_lt (by (with_reducible repeat (first | apply Kd.R_alloc | apply Kd.R_drewN | apply Kd.R_drew));exact HO181.out))) (below_size (by repeat (first | (with_reducible first | exact HB.out | apply below_alloc | apply pw_below_drewN | apply below_drew1) | exact HB.out))));have n2_:=Aside0.mk (below_step (by repeat (first | (with_reducible first | exact HB.out | apply below_alloc | apply pw_below_drewN | apply below_drew1) | exact HB.out)) hb);clear HO181;clear HB;have HO181:=n0_;have HO184:=n1_;have HB:=n2_;clear n0_ n1_ n2_;clear hb ho5))
 go_loopg [4,5,6] k (fun kq v4 v5 v6 w' => ∃ (x4_1 : List Int) (x5_1 : List Int) (x6_1 : Int),v6 = .int .i64 x6_1 ∧ Aside0 (oncewebref03_begins.l0 kq l0 x4_1 x5_1 x6_1 = some (r1,r2)) ∧ Aside0 (kq ≤ k) ∧ Aside0 (Kd.R (Kd.int .i64) 3 w' w.heap.size (fun k_ => some k_ ≠ (v5 : Value).ownBlock) v4 x4_1) ∧ Aside0 (Kd.R (Kd.int .i64) 3 w' w.heap.size (fun k_ => some k_ ≠ (v4 : Value).ownBlock) v5 x5_1) ∧ Aside0 (Below w.heap.size w w'))
 case atStart => exact ⟨(y179),(y182),(0),(by first | rfl | (simp;done) | (simp [*];done)),H',⟨Nat.le_refl _⟩,⟨by (with_reducible repeat (first | apply Kd.R_alloc | apply Kd.R_drewN | apply Kd.R_drew));exact Kd.R_mono HO181.out (fun _ hk => hk.2)⟩,⟨by (with_reducible repeat (first | apply Kd.R_alloc | apply Kd.R_drewN | apply Kd.R_drew));exact Kd.R_mono HO184.out (fun _ hk => hk.2)⟩,⟨by repeat (first | (with_reducible first | exact HB.out | apply below_alloc | apply pw_below_drewN | apply below_drew1) | exact HB.out)⟩⟩
 case round =>
  clear H'
  obtain ⟨x4_1,x5_1,x6_1,rfl,HA,HK1,HO_4,HO_5,HB⟩:=hrel
  cases gk with
  | zero => exact absurd HA.out (by simp [oncewebref03_begins.l0])
  | succ k1 =>
   have H:=HA.out
   clear HA
   simp only [oncewebref03_begins.l0] at H
   by_cases c6 : x6_1 < (l0.length : Int)
   ·rw [if_pos c6] at H
    have c6b0 : decide (x6_1 < (l0.length : Int)) = true:=decide_eq_true c6
    clear c6
    by_cases c7 : 0 ≤ x6_1
    ·rw [if_pos c7] at H
     have c7b0 : decide (0 ≤ x6_1) = true:=decide_eq_true c7
     clear c7
     have HC8:=Aside0.mk H
     clear H
     have p185 : 0 ≤ (x6_1 : Int):=of_decide_eq_true (by first | (with_reducible assumption) | assumption)
     have q185 : x6_1 < (l0.length : Int):=of_decide_eq_true (by first | (with_reducible assumption) | assumption)
     obtain ⟨ad185,e185,hx185_0,hx185_1,hx185_2⟩:=at_T49 HR0.out x6_1 p185 q185
     cases e185
     replace hx185_0:=(HB.out.cell (World.block_lt_of_cell? w _ hx185_0)).trans hx185_0
     replace hx185_1:=(HB.out.cell (World.block_lt_of_cell? w _ hx185_1)).trans hx185_1
     replace hx185_2:=(HB.out.cell (World.block_lt_of_cell? w _ hx185_2)).trans hx185_2
     replace p185:=eq_true p185
     replace q185:=eq_true q185
     go_upto_region 7 with (first | ((with_reducible refine gate_dst (N:=7) rfl ?_);(try (refine gate_guard (by rfl) ?_;dsimp only));refine box_event ?hg (N:=7) ?hd (cs:=#[.int .i64 0,.int .i64 0,.string (⟨#[]⟩ : ByteArray)]) (t:=49) ?hr ?_;(case hd => rfl);(case hg => rfl);(case hr => first | (go_simp;done) | (go_simp;rfl));intro gb186 hg w9 hbox hb;have n0_:=Aside0.mk (Kd.R_below (by (with_reducible repeat (first | apply Kd.R_alloc | apply Kd.R_drewN | apply Kd.R_drew));exact HO_4.out) hb);have n1_:=Aside0.mk (Kd.R_below (by (with_reducible repeat (first | apply Kd.R_alloc | apply Kd.R_drewN | apply Kd.R_drew));exact HO_5.out) hb);have n2_:=Aside0.mk (below_step (by repeat (first | (with_reducible first | exact HB.out | apply below_alloc | apply pw_below_drewN | apply below_drew1) | exact HB.out)) hb);have n3_:=Aside0.mk (hbox);have n4_:=Aside0.mk ((by rw [hg];exact (below_size (by repeat (first | (with_reducible first | exact HB.out | apply below_alloc | apply pw_below_drewN | apply below_drew1) | exact HB.out))) : w.heap.size ≤ gb186));have n5_:=Aside0.mk ((by rw [hg];exact (below_size (by repeat (first | (with_reducible first | exact HB.out | apply below_alloc | apply pw_below_drewN | apply below_drew1) | exact HB.out))) : w.heap.size ≤ gb186));clear HO_4;clear HO_5;clear HB;have HO_4:=n0_;have HO_5:=n1_;have HB:=n2_;have BK186:=n3_;have GW186:=n4_;have GE186:=n5_;clear n0_ n1_ n2_ n3_ n4_ n5_;clear hb hbox hg;have hcz10_0 : w9.cell? ⟨gb186,0,none⟩ = some (.int .i64 0):=(blk_cell BK186.out 0).trans rfl;have hcz10_1 : w9.cell? ⟨gb186,1,none⟩ = some (.int .i64 0):=(blk_cell BK186.out 1).trans rfl;have hcz10_2 : w9.cell? ⟨gb186,2,none⟩ = some (.string (⟨#[]⟩ : ByteArray)):=(blk_cell BK186.out 2).trans rfl;have hfz10_0:=blk_frozen BK186.out 0;have hfz10_1:=blk_frozen BK186.out 1;have hfz10_2:=blk_frozen BK186.out 2))
     (try simp only [Act.put,List.setIfInBounds_toArray,List.set_cons_zero,List.set_cons_succ])
     go_cut [30] (fun v30 wc => ∃ (kq : Nat) (x30_7 : Bool),v30 = .bool x30_7 ∧ Aside0 (oncewebref03_begins.j1 kq l0 x4_1 x5_1 x6_1 x30_7 ((rd_T49 l0 x6_1).f0) ((rd_T49 l0 x6_1).f1) ((rd_T49 l0 x6_1).f2) = some (r1,r2)) ∧ Aside0 (kq ≤ k1) ∧ Aside0 (Kd.R (Kd.int .i64) 3 wc w.heap.size (fun k_ => some k_ ≠ (u5 : Value).ownBlock) u4 x4_1) ∧ Aside0 (Kd.R (Kd.int .i64) 3 wc w.heap.size (fun k_ => some k_ ≠ (u4 : Value).ownBlock) u5 x5_1) ∧ Aside0 (wc.heap[gb186]? = some (.cells #[.int .i64 ((rd_T49 l0 x6_1).f0),.int .i64 ((rd_T49 l0 x6_1).f1),.string ((rd_T49 l0 x6_1).f2)] 49 (0,0))) ∧ Aside0 (Below w.heap.size w wc))
     case first =>
      have H:=HC8.out
      clear HC8
      replace H:=Option.bind_eq_some_iff.mp H
      obtain ⟨t187,A110,H⟩:=H
      replace H : (if t187 = true then (oncewebref03_begins.j1 k1 l0 x4_1 x5_1 x6_1 (decide (((rd_T49 l0 x6_1).f1) > (x5_1.length : Int))) ((rd_T49 l0 x6_1).f0) ((rd_T49 l0 x6_1).f1) ((rd_T49 l0 x6_1).f2)) else (oncewebref03_begins.j1 k1 l0 x4_1 x5_1 x6_1 true ((rd_T49 l0 x6_1).f0) ((rd_T49 l0 x6_1).f1) ((rd_T49 l0 x6_1).f2))) = some (r1,r2):=H
      have A11:=Aside0.mk A110
      clear A110
      by_cases c12 : t187 = true
      ·subst c12
       have H1 : (oncewebref03_begins.j1 k1 l0 x4_1 x5_1 x6_1 (decide (((rd_T49 l0 x6_1).f1) > (x5_1.length : Int))) ((rd_T49 l0 x6_1).f0) ((rd_T49 l0 x6_1).f1) ((rd_T49 l0 x6_1).f2)) = some (r1,r2):=by rw [if_pos rfl] at H;exact H
       clear H
       have H:=H1
       clear H1
       have H':=Aside0.mk H
       clear H
       have hcz13_0 : w9.cell? ⟨gb186,0,none⟩ = some (.int .i64 0):=(blk_cell BK186.out 0).trans rfl
       have hcz13_1 : w9.cell? ⟨gb186,1,none⟩ = some (.int .i64 0):=(blk_cell BK186.out 1).trans rfl
       have hcz13_2 : w9.cell? ⟨gb186,2,none⟩ = some (.string (⟨#[]⟩ : ByteArray)):=(blk_cell BK186.out 2).trans rfl
       have hfz13_0:=blk_frozen BK186.out 0
       have hfz13_1:=blk_frozen BK186.out 1
       have hfz13_2:=blk_frozen BK186.out 2
       go_wp2_with (first | ((with_reducible refine gate_callee (f:=78) rfl ?_);refine goesL_ (some 22) rfl rfl Tryd.func78 (by kernel_rfl) rfl #[.agg #[.int .i64 ((rd_T49 l0 x6_1).f0),.int .i64 ((rd_T49 l0 x6_1).f1),.string ((rd_T49 l0 x6_1).f2)]] rfl (by (try simp only [List.map_toArray,List.map_cons,List.map_nil]);first | done | rfl | (simp only [List.length_drop,List.length_take];rfl)) ?_;(with_reducible refine (oncewebref03_crack.calls k1 ((rd_T49 l0 x6_1).f0) ((rd_T49 l0 x6_1).f1) ((rd_T49 l0 x6_1).f2) true _ A11.out).mono ?_);rintro e w14 ⟨rfl,hb⟩;refine ⟨_,rfl,?_⟩;have n0_:=Aside0.mk (Kd.R_below (by (with_reducible repeat (first | apply Kd.R_alloc | apply Kd.R_drewN | apply Kd.R_drew));exact (Kd.R_mono (Kd.R_far (p:=⟨gb186,2,none⟩) (Kd.R_far (p:=⟨gb186,1,none⟩) (Kd.R_far (p:=⟨gb186,0,none⟩) (Kd.R_types HO_4.out BK186.out (by decide)) (fun _ hk => hk.2) (.int .i64 ((rd_T49 l0 x6_1).f0))) (fun _ hk => hk.2) (.int .i64 ((rd_T49 l0 x6_1).f1))) (fun _ hk => hk.2) (.string ((rd_T49 l0 x6_1).f2))) (fun _ h_ => h_.1))) hb);have n1_:=Aside0.mk (Kd.R_below (by (with_reducible repeat (first | apply Kd.R_alloc | apply Kd.R_drewN | apply Kd.R_drew));exact (Kd.R_mono (Kd.R_far (p:=⟨gb186,2,none⟩) (Kd.R_far (p:=⟨gb186,1,none⟩) (Kd.R_far (p:=⟨gb186,0,none⟩) (Kd.R_types HO_5.out BK186.out (by decide)) (fun _ hk => hk.2) (.int .i64 ((rd_T49 l0 x6_1).f0))) (fun _ hk => hk.2) (.int .i64 ((rd_T49 l0 x6_1).f1))) (fun _ hk => hk.2) (.string ((rd_T49 l0 x6_1).f2))) (fun _ h_ => h_.1))) hb);have n2_:=Aside0.mk (blk_below (g:=gb186) (o:=.cells #[.int .i64 ((rd_T49 l0 x6_1).f0),.int .i64 ((rd_T49 l0 x6_1).f1),.string ((rd_T49 l0 x6_1).f2)] 49 (0,0)) (by (with_reducible repeat (first | refine blk_drewN ?_ _ | refine blk_drew ?_ | refine blk_alloc ?_ _));refine blk_put (cs:=#[.int .i64 ((rd_T49 l0 x6_1).f0),.int .i64 ((rd_T49 l0 x6_1).f1),.string (⟨#[]⟩ : ByteArray)]) ?_ 2 _ rfl;(with_reducible repeat (first | refine blk_drewN ?_ _ | refine blk_drew ?_ | refine blk_alloc ?_ _));refine blk_put (cs:=#[.int .i64 ((rd_T49 l0 x6_1).f0),.int .i64 0,.string (⟨#[]⟩ : ByteArray)]) ?_ 1 _ rfl;(with_reducible repeat (first | refine blk_drewN ?_ _ | refine blk_drew ?_ | refine blk_alloc ?_ _));refine blk_put (cs:=#[.int .i64 0,.int .i64 0,.string (⟨#[]⟩ : ByteArray)]) ?_ 0 _ rfl;(with_reducible repeat (first | refine blk_drewN ?_ _ | refine blk_drew ?_ | refine blk_alloc ?_ _));exact BK186.out) hb);have n3_:=Aside0.mk (below_step (by repeat (first | (with_reducible first | exact HB.out | apply below_alloc | apply pw_below_drewN | apply below_drew1 | refine below_set ?_ GE186.out) | exact HB.out)) hb);clear HO_4;clear HO_5;clear BK186;clear HB;have HO_4:=n0_;have HO_5:=n1_;have BK186:=n2_;have HB:=n3_;clear n0_ n1_ n2_ n3_;(try clear hb);(try clear hb2);(try clear hk);(try clear hi);have hcz15_0 : w14.cell? ⟨gb186,0,none⟩ = some (.int .i64 ((rd_T49 l0 x6_1).f0)):=(blk_cell BK186.out 0).trans rfl;have hcz15_1 : w14.cell? ⟨gb186,1,none⟩ = some (.int .i64 ((rd_T49 l0 x6_1).f1)):=(blk_cell BK186.out 1).trans rfl;have hcz15_2 : w14.cell? ⟨gb186,2,none⟩ = some (.string ((rd_T49 l0 x6_1).f2)):=(blk_cell BK186.out 2).trans rfl;have hfz15_0:=blk_frozen BK186.out 0;have hfz15_1:=blk_frozen BK186.out 1;have hfz15_2:=blk_frozen BK186.out 2;obtain ⟨Ao16,co16,eo16⟩:=Kd.R_slice HO_5.out;subst eo16))
       go_meet
       case rel => exact ⟨_,(decide (((rd_T49 l0 x6_1).f1) > (x5_1.length : Int))),(by first | rfl | (simp;done) | (simp [*];done)),H',⟨by have:=HK1.out;first | omega | exact Nat.le_refl _⟩,⟨by (with_reducible repeat (first | apply Kd.R_alloc | apply Kd.R_drewN | apply Kd.R_drew));exact HO_4.out⟩,⟨by (with_reducible repeat (first | apply Kd.R_alloc | apply Kd.R_drewN | apply Kd.R_drew));exact HO_5.out⟩,⟨by (with_reducible repeat (first | refine blk_drewN ?_ _ | refine blk_drew ?_ | refine blk_alloc ?_ _));exact BK186.out⟩,⟨by repeat (first | (with_reducible first | exact HB.out | apply below_alloc | apply pw_below_drewN | apply below_drew1 | refine below_set ?_ GE186.out) | exact HB.out)⟩⟩
      ·replace c12:=Bool.eq_false_iff.mpr c12
       subst c12
       have H1 : (oncewebref03_begins.j1 k1 l0 x4_1 x5_1 x6_1 true ((rd_T49 l0 x6_1).f0) ((rd_T49 l0 x6_1).f1) ((rd_T49 l0 x6_1).f2)) = some (r1,r2):=by rw [if_neg (show ¬ (false = true) by decide)] at H;exact H
       clear H
       have H:=H1
       clear H1
       have H':=Aside0.mk H
       clear H
       have hcz17_0 : w9.cell? ⟨gb186,0,none⟩ = some (.int .i64 0):=(blk_cell BK186.out 0).trans rfl
       have hcz17_1 : w9.cell? ⟨gb186,1,none⟩ = some (.int .i64 0):=(blk_cell BK186.out 1).trans rfl
       have hcz17_2 : w9.cell? ⟨gb186,2,none⟩ = some (.string (⟨#[]⟩ : ByteArray)):=(blk_cell BK186.out 2).trans rfl
       have hfz17_0:=blk_frozen BK186.out 0
       have hfz17_1:=blk_frozen BK186.out 1
       have hfz17_2:=blk_frozen BK186.out 2
       go_wp2_with (first | ((with_reducible refine gate_callee (f:=78) rfl ?_);refine goesL_ (some 22) rfl rfl Tryd.func78 (by kernel_rfl) rfl #[.agg #[.int .i64 ((rd_T49 l0 x6_1).f0),.int .i64 ((rd_T49 l0 x6_1).f1),.string ((rd_T49 l0 x6_1).f2)]] rfl (by (try simp only [List.map_toArray,List.map_cons,List.map_nil]);first | done | rfl | (simp only [List.length_drop,List.length_take];rfl)) ?_;(with_reducible refine (oncewebref03_crack.calls k1 ((rd_T49 l0 x6_1).f0) ((rd_T49 l0 x6_1).f1) ((rd_T49 l0 x6_1).f2) false _ A11.out).mono ?_);rintro e w18 ⟨rfl,hb⟩;refine ⟨_,rfl,?_⟩;have n0_:=Aside0.mk (Kd.R_below (by (with_reducible repeat (first | apply Kd.R_alloc | apply Kd.R_drewN | apply Kd.R_drew));exact (Kd.R_mono (Kd.R_far (p:=⟨gb186,2,none⟩) (Kd.R_far (p:=⟨gb186,1,none⟩) (Kd.R_far (p:=⟨gb186,0,none⟩) (Kd.R_types HO_4.out BK186.out (by decide)) (fun _ hk => hk.2) (.int .i64 ((rd_T49 l0 x6_1).f0))) (fun _ hk => hk.2) (.int .i64 ((rd_T49 l0 x6_1).f1))) (fun _ hk => hk.2) (.string ((rd_T49 l0 x6_1).f2))) (fun _ h_ => h_.1))) hb);have n1_:=Aside0.mk (Kd.R_below (by (with_reducible repeat (first | apply Kd.R_alloc | apply Kd.R_drewN | apply Kd.R_drew));exact (Kd.R_mono (Kd.R_far (p:=⟨gb186,2,none⟩) (Kd.R_far (p:=⟨gb186,1,none⟩) (Kd.R_far (p:=⟨gb186,0,none⟩) (Kd.R_types HO_5.out BK186.out (by decide)) (fun _ hk => hk.2) (.int .i64 ((rd_T49 l0 x6_1).f0))) (fun _ hk => hk.2) (.int .i64 ((rd_T49 l0 x6_1).f1))) (fun _ hk => hk.2) (.string ((rd_T49 l0 x6_1).f2))) (fun _ h_ => h_.1))) hb);have n2_:=Aside0.mk (blk_below (g:=gb186) (o:=.cells #[.int .i64 ((rd_T49 l0 x6_1).f0),.int .i64 ((rd_T49 l0 x6_1).f1),.string ((rd_T49 l0 x6_1).f2)] 49 (0,0)) (by (with_reducible repeat (first | refine blk_drewN ?_ _ | refine blk_drew ?_ | refine blk_alloc ?_ _));refine blk_put (cs:=#[.int .i64 ((rd_T49 l0 x6_1).f0),.int .i64 ((rd_T49 l0 x6_1).f1),.string (⟨#[]⟩ : ByteArray)]) ?_ 2 _ rfl;(with_reducible repeat (first | refine blk_drewN ?_ _ | refine blk_drew ?_ | refine blk_alloc ?_ _));refine blk_put (cs:=#[.int .i64 ((rd_T49 l0 x6_1).f0),.int .i64 0,.string (⟨#[]⟩ : ByteArray)]) ?_ 1 _ rfl;(with_reducible repeat (first | refine blk_drewN ?_ _ | refine blk_drew ?_ | refine blk_alloc ?_ _));refine blk_put (cs:=#[.int .i64 0,.int .i64 0,.string (⟨#[]⟩ : ByteArray)]) ?_ 0 _ rfl;(with_reducible repeat (first | refine blk_drewN ?_ _ | refine blk_drew ?_ | refine blk_alloc ?_ _));exact BK186.out) hb);have n3_:=Aside0.mk (below_step (by repeat (first | (with_reducible first | exact HB.out | apply below_alloc | apply pw_below_drewN | apply below_drew1 | refine below_set ?_ GE186.out) | exact HB.out)) hb);clear HO_4;clear HO_5;clear BK186;clear HB;have HO_4:=n0_;have HO_5:=n1_;have BK186:=n2_;have HB:=n3_;clear n0_ n1_ n2_ n3_;(try clear hb);(try clear hb2);(try clear hk);(try clear hi)))
       go_meet
       case rel => exact ⟨_,(true),(by first | rfl | (simp;done) | (simp [*];done)),H',⟨by have:=HK1.out;first | omega | exact Nat.le_refl _⟩,⟨by (with_reducible repeat (first | apply Kd.R_alloc | apply Kd.R_drewN | apply Kd.R_drew));exact HO_4.out⟩,⟨by (with_reducible repeat (first | apply Kd.R_alloc | apply Kd.R_drewN | apply Kd.R_drew));exact HO_5.out⟩,⟨by (with_reducible repeat (first | refine blk_drewN ?_ _ | refine blk_drew ?_ | refine blk_alloc ?_ _));exact BK186.out⟩,⟨by repeat (first | (with_reducible first | exact HB.out | apply below_alloc | apply pw_below_drewN | apply below_drew1 | refine below_set ?_ GE186.out) | exact HB.out)⟩⟩
     case rest =>
      clear HC8
      obtain ⟨kq,x30_7,rfl,HA,HJ7,HO_4,HO_5,BK186,HB⟩:=hcut
      cases kq with
      | zero => exact absurd HA.out (by simp [oncewebref03_begins.j1])
      | succ kj7 =>
       have H:=HA.out
       clear HA
       simp only [oncewebref03_begins.j1] at H
       by_cases c19 : x30_7 = true
       ·subst c19
        have H1 : (some (([] : List Int),false)) = some (r1,r2):=by rw [if_pos rfl] at H;exact H
        clear H
        have H:=H1
        clear H1
        simp only [Option.some.injEq,Prod.mk.injEq] at H
        obtain ⟨rfl,rfl⟩:=H
        go_wp2
        go_ret2
        exact ⟨_,by first | rfl | (simp [errW_none,errW_some] <;> rfl) | (simp [*,errW_none,errW_some] <;> rfl),by first | exact Kd.R_nil _ _ _ _ _ | exact Kd.N_nil _ _ _ _ _ | exact Kd.V_nil _ _ _ _ _ | exact Kd.Q_nil _ _ _ _ _ | exact Kd.S_nil _ _ _ _ _,by repeat (first | (with_reducible first | exact HB.out | apply below_alloc | apply pw_below_drewN | apply below_drew1 | refine below_set ?_ GE186.out) | exact HB.out)⟩
       ·replace c19:=Bool.eq_false_iff.mpr c19
        subst c19
        have H1 : (if ((rd_T49 l0 x6_1).f1) > 0 then (if 0 ≤ (wrap64 ((x5_1.length : Int) - ((rd_T49 l0 x6_1).f1))) then (if (wrap64 ((x5_1.length : Int) - ((rd_T49 l0 x6_1).f1))) < (x5_1.length : Int) then (if (wrap64 ((x5_1.length : Int) - ((rd_T49 l0 x6_1).f1))) ≤ (x5_1.length : Int) then ((some (x5_1.take ((wrap64 ((x5_1.length : Int) - ((rd_T49 l0 x6_1).f1))) : Int).toNat : List Int)).bind fun y189 => (if y189.length < 17592186044416 then (if x4_1.length < 17592186044416 then (oncewebref03_begins.l0 kj7 l0 (x4_1 ++ [rd x5_1 (wrap64 ((x5_1.length : Int) - ((rd_T49 l0 x6_1).f1)))]) (y189 ++ [rd x5_1 (wrap64 ((x5_1.length : Int) - ((rd_T49 l0 x6_1).f1)))]) (wrap64 (x6_1 + 1))) else (none)) else (none))) else (none)) else (none)) else (none)) else (if x5_1.length < 17592186044416 then (if x4_1.length < 17592186044416 then (oncewebref03_begins.l0 kj7 l0 (x4_1 ++ [x6_1]) (x5_1 ++ [x6_1]) (wrap64 (x6_1 + 1))) else (none)) else (none))) = some (r1,r2):=by rw [if_neg (show ¬ (false = true) by decide)] at H;exact H
        clear H
        have H:=H1
        clear H1
        by_cases c20 : ((rd_T49 l0 x6_1).f1) > 0
        ·rw [if_pos c20] at H
         have c20b0 : decide (0 < ((rd_T49 l0 x6_1).f1)) = true:=decide_eq_true c20
         clear c20
         obtain ⟨ji21,hji21⟩ : ∃ j_ : Int,(wrap64 ((x5_1.length : Int) - ((rd_T49 l0 x6_1).f1))) = j_:=⟨_,rfl⟩
         replace H : (if 0 ≤ (ji21) then (if (ji21) < (x5_1.length : Int) then (if (ji21) ≤ (x5_1.length : Int) then ((some (x5_1.take ((ji21) : Int).toNat : List Int)).bind fun y189 => (if y189.length < 17592186044416 then (if x4_1.length < 17592186044416 then (oncewebref03_begins.l0 kj7 l0 (x4_1 ++ [rd x5_1 (ji21)]) (y189 ++ [rd x5_1 (ji21)]) (wrap64 (x6_1 + 1))) else (none)) else (none))) else (none)) else (none)) else (none)) = some (r1,r2):=by first | (rw [hji21] at H;exact H) | (simp only [hji21] at H ⊢;exact H)
         have hji21w : (IntKind.i64.wrap ((x5_1.length : Int) - ((rd_T49 l0 x6_1).f1))) = ji21:=(i64_w _).trans hji21
         by_cases c22 : 0 ≤ (ji21)
         ·rw [if_pos c22] at H
          have c22b0 : decide (0 ≤ (ji21)) = true:=decide_eq_true c22
          clear c22
          by_cases c23 : (ji21) < (x5_1.length : Int)
          ·rw [if_pos c23] at H
           have c23b0 : decide ((ji21) < (x5_1.length : Int)) = true:=decide_eq_true c23
           clear c23
           by_cases c24 : (ji21) ≤ (x5_1.length : Int)
           ·rw [if_pos c24] at H
            have c24b0:=eq_true c24
            have c24b1 : decide ((ji21) ≤ (x5_1.length : Int)) = true:=decide_eq_true c24
            clear c24
            obtain ⟨y189,hy189⟩ : ∃ y_ : List Int,y_ = (x5_1.take ((ji21) : Int).toNat):=⟨_,rfl⟩
            replace H : (if y189.length < 17592186044416 then (if x4_1.length < 17592186044416 then (oncewebref03_begins.l0 kj7 l0 (x4_1 ++ [rd x5_1 (ji21)]) (y189 ++ [rd x5_1 (ji21)]) (wrap64 (x6_1 + 1))) else (none)) else (none)) = some (r1,r2):=by first | (rw [hy189];with_reducible exact H) | (have H2_:=(Option.bind_some _ _).symm.trans H;rw [hy189];with_reducible exact H2_) | (have H2_:=(Option.bind_some _ _).symm.trans H;with_reducible exact H2_) | with_reducible exact H | (rw [hy189];exact H) | exact H
            have Ny189:=Aside0.mk hy189
            clear hy189
            by_cases c25 : y189.length < 17592186044416
            ·rw [if_pos c25] at H
             have LMc25:=Aside0.mk c25
             clear c25
             obtain ⟨y192,hy192⟩ : ∃ y_ : List Int,y_ = (y189 ++ [rd x5_1 (ji21)]):=⟨_,rfl⟩
             replace H : (if x4_1.length < 17592186044416 then (oncewebref03_begins.l0 kj7 l0 (x4_1 ++ [rd x5_1 (ji21)]) y192 (wrap64 (x6_1 + 1))) else (none)) = some (r1,r2):=by first | (rw [hy192];with_reducible exact H) | (have H2_:=(Option.bind_some _ _).symm.trans H;rw [hy192];with_reducible exact H2_) | (have H2_:=(Option.bind_some _ _).symm.trans H;with_reducible exact H2_) | with_reducible exact H | (rw [hy192];exact H) | exact H
             have Ny192:=Aside0.mk hy192
             clear hy192
             by_cases c26 : x4_1.length < 17592186044416
             ·rw [if_pos c26] at H
              have LMc26:=Aside0.mk c26
              clear c26
              obtain ⟨y195,hy195⟩ : ∃ y_ : List Int,y_ = (x4_1 ++ [rd x5_1 (ji21)]):=⟨_,rfl⟩
              replace H : (oncewebref03_begins.l0 kj7 l0 y195 y192 (wrap64 (x6_1 + 1))) = some (r1,r2):=by first | (rw [hy195];with_reducible exact H) | (have H2_:=(Option.bind_some _ _).symm.trans H;rw [hy195];with_reducible exact H2_) | (have H2_:=(Option.bind_some _ _).symm.trans H;with_reducible exact H2_) | with_reducible exact H | (rw [hy195];exact H) | exact H
              have Ny195:=Aside0.mk hy195
              clear hy195
              have H':=Aside0.mk H
              clear H
              have hcz27_0 : wc.cell? ⟨gb186,0,none⟩ = some (.int .i64 ((rd_T49 l0 x6_1).f0)):=(blk_cell BK186.out 0).trans rfl
              have hcz27_1 : wc.cell? ⟨gb186,1,none⟩ = some (.int .i64 ((rd_T49 l0 x6_1).f1)):=(blk_cell BK186.out 1).trans rfl
              have hcz27_2 : wc.cell? ⟨gb186,2,none⟩ = some (.string ((rd_T49 l0 x6_1).f2)):=(blk_cell BK186.out 2).trans rfl
              have hfz27_0:=blk_frozen BK186.out 0
              have hfz27_1:=blk_frozen BK186.out 1
              have hfz27_2:=blk_frozen BK186.out 2
              obtain ⟨Ao28,co28,eo28⟩:=Kd.R_slice HO_5.out
              subst eo28
              have p188 : 0 ≤ ((ji21) : Int):=of_decide_eq_true (by first | (with_reducible assumption) | assumption)
              have q188 : (ji21) < (x5_1.length : Int):=of_decide_eq_true (by first | (with_reducible assumption) | assumption)
              obtain ⟨ad188,e188,hx188_0⟩:=Kd.at_int (Kd.R_reads' HO_5.out).2.2 (ji21) p188 q188
              cases e188
              replace p188:=eq_true p188
              replace q188:=eq_true q188
              have q29 : ((ji21) : Int) ≤ ((x5_1.length : Int) : Int):=of_decide_eq_true (by first | (with_reducible assumption) | assumption)
              obtain ⟨i029,hi029,_,hsz29,_⟩:=info_parts info3
              have hcut29:=cut_to (P:=Tryd.prog) 22 3 .i64 Tryd.underlying22 hi029 (some ad188) x5_1.length co28 (ji21) (of_decide_eq_true (by first | (with_reducible assumption) | assumption)) q29 (Kd.R_reads' HO_5.out).2.1
              have hr29:=Kd.R_take (m:=((ji21) : Int).toNat) HO_5.out (by omega)
              have hy29 : y189.length = ((ji21) : Int).toNat:=(by rw [Ny189.out,List.length_take];omega)
              rw [← Ny189.out] at hr29
              rw [← hy29] at hr29 hcut29
              clear hy29 hi029 hsz29 HO_5
              have HO191:=Aside0.mk hr29
              clear hr29
              replace q29:=eq_true q29
              go_wp2_with (first | ((with_reducible refine gate_builtin (b:=.append) (xs:=#[.tmp 50,.tmp 52]) rfl ?_);(try (refine gate_guard (by rfl) ?_;dsimp only));at_builtin;refine Kd.R_append (Kd.int .i64) (w0:=w) w.heap.size rfl (.tmp 50) (.tmp 52) 22 3 (.int .i64 0) 8 rfl Tryd.underlying22 info3 rfl (by decide) (by omega) (.slice (some ad188) y189.length co28) y189 (rd x5_1 (ji21)) [.int .i64 (rd x5_1 (ji21))] (fun k_ => some k_ ≠ (u4 : Value).ownBlock) (fun _ => False) rfl rfl ?aP (fun _ hk => hk.elim) ?aF ?aO ?aB ?aS ?aL ?_;(case aP => exact rfl);(case aB => exact (by repeat (first | (with_reducible first | exact HB.out | apply below_alloc | apply pw_below_drewN | apply below_drew1 | refine below_set ?_ GE186.out) | exact HB.out)));(case aF => exact (fun k_ hk => Kd.fresh' (Kd.R_lt (by (with_reducible repeat (first | apply Kd.R_alloc | apply Kd.R_drewN | apply Kd.R_drew));exact HO_4.out)) k_ hk));(case aO => exact (by (with_reducible repeat (first | apply Kd.R_alloc | apply Kd.R_drewN | apply Kd.R_drew));exact HO191.out));(case aS => exact (below_size (by repeat (first | (with_reducible first | exact HB.out | apply below_alloc | apply pw_below_drewN | apply below_drew1 | refine below_set ?_ GE186.out) | exact HB.out))));(case aL => have:=LMc25.out;omega);intro v193 w30 ho hb hg hat;rw [← Ny192.out] at ho;have n0_:=Aside0.mk (Kd.R_after (ok:=(fun _ => True)) (by (with_reducible repeat (first | apply Kd.R_alloc | apply Kd.R_drewN | apply Kd.R_drew));exact Kd.R_mono HO_4.out (fun _ hk => ⟨trivial,hk⟩)) hg hat);have n1_:=Aside0.mk (blk_grown (g:=gb186) (o:=.cells #[.int .i64 ((rd_T49 l0 x6_1).f0),.int .i64 ((rd_T49 l0 x6_1).f1),.string ((rd_T49 l0 x6_1).f2)] 49 (0,0)) (by (with_reducible repeat (first | refine blk_drewN ?_ _ | refine blk_drew ?_ | refine blk_alloc ?_ _));exact BK186.out) hg (Kd.R_ne HO191.out BK186.out (by decide)));have n2_:=Aside0.mk (hb);have n3_:=Aside0.mk (ho);clear HO_4;clear BK186;clear HB;clear HO191;have HO_4:=n0_;have BK186:=n1_;have HB:=n2_;have HO194:=n3_;clear n0_ n1_ n2_ n3_;clear ho hb hg hat) | ((with_reducible refine gate_builtin (b:=.append) (xs:=#[.tmp 54,.tmp 56]) rfl ?_);(try (refine gate_guard (by rfl) ?_;dsimp only));at_builtin;refine Kd.R_append (Kd.int .i64) (w0:=w) w.heap.size rfl (.tmp 54) (.tmp 56) 22 3 (.int .i64 0) 8 rfl Tryd.underlying22 info3 rfl (by decide) (by omega) u4 x4_1 (rd x5_1 (ji21)) [.int .i64 (rd x5_1 (ji21))] (fun k_ => some k_ ≠ (v193 : Value).ownBlock) (fun _ => False) rfl rfl ?aP (fun _ hk => hk.elim) ?aF ?aO ?aB ?aS ?aL ?_;(case aP => exact rfl);(case aB => exact (by repeat (first | (with_reducible first | exact HB.out | apply below_alloc | apply pw_below_drewN | apply below_drew1 | refine below_set ?_ GE186.out) | exact HB.out)));(case aF => exact (fun k_ hk => Kd.fresh' (Kd.R_lt (by (with_reducible repeat (first | apply Kd.R_alloc | apply Kd.R_drewN | apply Kd.R_drew));exact HO194.out)) k_ hk));(case aO => exact (by (with_reducible repeat (first | apply Kd.R_alloc | apply Kd.R_drewN | apply Kd.R_drew));exact Kd.R_mono HO_4.out (fun _ hk => hk.2)));(case aS => exact (below_size (by repeat (first | (with_reducible first | exact HB.out | apply below_alloc | apply pw_below_drewN | apply below_drew1 | refine below_set ?_ GE186.out) | exact HB.out))));(case aL => have:=LMc26.out;omega);intro v196 w31 ho hb hg hat;rw [← Ny195.out] at ho;have n0_:=Aside0.mk (blk_grown (g:=gb186) (o:=.cells #[.int .i64 ((rd_T49 l0 x6_1).f0),.int .i64 ((rd_T49 l0 x6_1).f1),.string ((rd_T49 l0 x6_1).f2)] 49 (0,0)) (by (with_reducible repeat (first | refine blk_drewN ?_ _ | refine blk_drew ?_ | refine blk_alloc ?_ _));exact BK186.out) hg (Kd.R_ne HO_4.out BK186.out (by decide)));have n1_:=Aside0.mk (Kd.R_after (ok:=(fun _ => True)) (by (with_reducible repeat (first | apply Kd.R_alloc | apply Kd.R_drewN | apply Kd.R_drew));exact Kd.R_mono HO194.out (fun _ hk => ⟨trivial,hk⟩)) hg hat);have n2_:=Aside0.mk (hb);have n3_:=Aside0.mk (ho);clear BK186;clear HO194;clear HB;clear HO_4;have BK186:=n0_;have HO194:=n1_;have HB:=n2_;have HO197:=n3_;clear n0_ n1_ n2_ n3_;clear ho hb hg hat))
              go_roundg kj7
              case measure => have:=HK1.out;have:=HJ7.out;omega
              case rel => exact ⟨(y195),(y192),(wrap64 (x6_1 + 1)),(by first | rfl | (simp;done) | (simp [*];done)),H',⟨by have:=HK1.out;have:=HJ7.out;omega⟩,⟨by (with_reducible repeat (first | apply Kd.R_alloc | apply Kd.R_drewN | apply Kd.R_drew));exact HO197.out⟩,⟨by (with_reducible repeat (first | apply Kd.R_alloc | apply Kd.R_drewN | apply Kd.R_drew));exact Kd.R_mono HO194.out (fun _ hk => hk.2)⟩,⟨by repeat (first | (with_reducible first | exact HB.out | apply below_alloc | apply pw_below_drewN | apply below_drew1 | refine below_set ?_ GE186.out) | exact HB.out)⟩⟩
             ·rw [if_neg c26] at H
              exact absurd H (by simp)
            ·rw [if_neg c25] at H
             exact absurd H (by simp)
           ·rw [if_neg c24] at H
            exact absurd H (by simp)
          ·rw [if_neg c23] at H
           exact absurd H (by simp)
         ·rw [if_neg c22] at H
          exact absurd H (by simp)
        ·rw [if_neg c20] at H
         have c20b0 : decide (0 < ((rd_T49 l0 x6_1).f1)) = false:=decide_eq_false c20
         clear c20
         by_cases c32 : x5_1.length < 17592186044416
         ·rw [if_pos c32] at H
          have LMc32:=Aside0.mk c32
          clear c32
          obtain ⟨y198,hy198⟩ : ∃ y_ : List Int,y_ = (x5_1 ++ [x6_1]):=⟨_,rfl⟩
          replace H : (if x4_1.length < 17592186044416 then (oncewebref03_begins.l0 kj7 l0 (x4_1 ++ [x6_1]) y198 (wrap64 (x6_1 + 1))) else (none)) = some (r1,r2):=by first | (rw [hy198];with_reducible exact H) | (have H2_:=(Option.bind_some _ _).symm.trans H;rw [hy198];with_reducible exact H2_) | (have H2_:=(Option.bind_some _ _).symm.trans H;with_reducible exact H2_) | with_reducible exact H | (rw [hy198];exact H) | exact H
          have Ny198:=Aside0.mk hy198
          clear hy198
          by_cases c33 : x4_1.length < 17592186044416
          ·rw [if_pos c33] at H
           have LMc33:=Aside0.mk c33
           clear c33
           obtain ⟨y201,hy201⟩ : ∃ y_ : List Int,y_ = (x4_1 ++ [x6_1]):=⟨_,rfl⟩
           replace H : (oncewebref03_begins.l0 kj7 l0 y201 y198 (wrap64 (x6_1 + 1))) = some (r1,r2):=by first | (rw [hy201];with_reducible exact H) | (have H2_:=(Option.bind_some _ _).symm.trans H;rw [hy201];with_reducible exact H2_) | (have H2_:=(Option.bind_some _ _).symm.trans H;with_reducible exact H2_) | with_reducible exact H | (rw [hy201];exact H) | exact H
           have Ny201:=Aside0.mk hy201
           clear hy201
           have H':=Aside0.mk H
           clear H
           have hcz34_0 : wc.cell? ⟨gb186,0,none⟩ = some (.int .i64 ((rd_T49 l0 x6_1).f0)):=(blk_cell BK186.out 0).trans rfl
           have hcz34_1 : wc.cell? ⟨gb186,1,none⟩ = some (.int .i64 ((rd_T49 l0 x6_1).f1)):=(blk_cell BK186.out 1).trans rfl
           have hcz34_2 : wc.cell? ⟨gb186,2,none⟩ = some (.string ((rd_T49 l0 x6_1).f2)):=(blk_cell BK186.out 2).trans rfl
           have hfz34_0:=blk_frozen BK186.out 0
           have hfz34_1:=blk_frozen BK186.out 1
           have hfz34_2:=blk_frozen BK186.out 2
           go_wp2_with (first | ((with_reducible refine gate_builtin (b:=.append) (xs:=#[.tmp 50,.tmp 52]) rfl ?_);(try (refine gate_guard (by rfl) ?_;dsimp only));at_builtin;refine Kd.R_append (Kd.int .i64) (w0:=w) w.heap.size rfl (.tmp 50) (.tmp 52) 22 3 (.int .i64 0) 8 rfl Tryd.underlying22 info3 rfl (by decide) (by omega) u5 x5_1 x6_1 [.int .i64 x6_1] (fun k_ => some k_ ≠ (u4 : Value).ownBlock) (fun _ => False) rfl rfl ?aP (fun _ hk => hk.elim) ?aF ?aO ?aB ?aS ?aL ?_;(case aP => exact rfl);(case aB => exact (by repeat (first | (with_reducible first | exact HB.out | apply below_alloc | apply pw_below_drewN | apply below_drew1 | refine below_set ?_ GE186.out) | exact HB.out)));(case aF => exact (fun k_ hk => Kd.fresh' (Kd.R_lt (by (with_reducible repeat (first | apply Kd.R_alloc | apply Kd.R_drewN | apply Kd.R_drew));exact HO_4.out)) k_ hk));(case aO => exact (by (with_reducible repeat (first | apply Kd.R_alloc | apply Kd.R_drewN | apply Kd.R_drew));exact HO_5.out));(case aS => exact (below_size (by repeat (first | (with_reducible first | exact HB.out | apply below_alloc | apply pw_below_drewN | apply below_drew1 | refine below_set ?_ GE186.out) | exact HB.out))));(case aL => have:=LMc32.out;omega);intro v199 w35 ho hb hg hat;rw [← Ny198.out] at ho;have n0_:=Aside0.mk (Kd.R_after (ok:=(fun _ => True)) (by (with_reducible repeat (first | apply Kd.R_alloc | apply Kd.R_drewN | apply Kd.R_drew));exact Kd.R_mono HO_4.out (fun _ hk => ⟨trivial,hk⟩)) hg hat);have n1_:=Aside0.mk (blk_grown (g:=gb186) (o:=.cells #[.int .i64 ((rd_T49 l0 x6_1).f0),.int .i64 ((rd_T49 l0 x6_1).f1),.string ((rd_T49 l0 x6_1).f2)] 49 (0,0)) (by (with_reducible repeat (first | refine blk_drewN ?_ _ | refine blk_drew ?_ | refine blk_alloc ?_ _));exact BK186.out) hg (Kd.R_ne HO_5.out BK186.out (by decide)));have n2_:=Aside0.mk (hb);have n3_:=Aside0.mk (ho);clear HO_4;clear BK186;clear HB;clear HO_5;have HO_4:=n0_;have BK186:=n1_;have HB:=n2_;have HO200:=n3_;clear n0_ n1_ n2_ n3_;clear ho hb hg hat) | ((with_reducible refine gate_builtin (b:=.append) (xs:=#[.tmp 54,.tmp 56]) rfl ?_);(try (refine gate_guard (by rfl) ?_;dsimp only));at_builtin;refine Kd.R_append (Kd.int .i64) (w0:=w) w.heap.size rfl (.tmp 54) (.tmp 56) 22 3 (.int .i64 0) 8 rfl Tryd.underlying22 info3 rfl (by decide) (by omega) u4 x4_1 x6_1 [.int .i64 x6_1] (fun k_ => some k_ ≠ (v199 : Value).ownBlock) (fun _ => False) rfl rfl ?aP (fun _ hk => hk.elim) ?aF ?aO ?aB ?aS ?aL ?_;(case aP => exact rfl);(case aB => exact (by repeat (first | (with_reducible first | exact HB.out | apply below_alloc | apply pw_below_drewN | apply below_drew1 | refine below_set ?_ GE186.out) | exact HB.out)));(case aF => exact (fun k_ hk => Kd.fresh' (Kd.R_lt (by (with_reducible repeat (first | apply Kd.R_alloc | apply Kd.R_drewN | apply Kd.R_drew));exact HO200.out)) k_ hk));(case aO => exact (by (with_reducible repeat (first | apply Kd.R_alloc | apply Kd.R_drewN | apply Kd.R_drew));exact Kd.R_mono HO_4.out (fun _ hk => hk.2)));(case aS => exact (below_size (by repeat (first | (with_reducible first | exact HB.out | apply below_alloc | apply pw_below_drewN | apply below_drew1 | refine below_set ?_ GE186.out) | exact HB.out))));(case aL => have:=LMc33.out;omega);intro v202 w36 ho hb hg hat;rw [← Ny201.out] at ho;have n0_:=Aside0.mk (blk_grown (g:=gb186) (o:=.cells #[.int .i64 ((rd_T49 l0 x6_1).f0),.int .i64 ((rd_T49 l0 x6_1).f1),.string ((rd_T49 l0 x6_1).f2)] 49 (0,0)) (by (with_reducible repeat (first | refine blk_drewN ?_ _ | refine blk_drew ?_ | refine blk_alloc ?_ _));exact BK186.out) hg (Kd.R_ne HO_4.out BK186.out (by decide)));have n1_:=Aside0.mk (Kd.R_after (ok:=(fun _ => True)) (by (with_reducible repeat (first | apply Kd.R_alloc | apply Kd.R_drewN | apply Kd.R_drew));exact Kd.R_mono HO200.out (fun _ hk => ⟨trivial,hk⟩)) hg hat);have n2_:=Aside0.mk (hb);have n3_:=Aside0.mk (ho);clear BK186;clear HO200;clear HB;clear HO_4;have BK186:=n0_;have HO200:=n1_;have HB:=n2_;have HO203:=n3_;clear n0_ n1_ n2_ n3_;clear ho hb hg hat))
           go_roundg kj7
           case measure => have:=HK1.out;have:=HJ7.out;omega
           case rel => exact ⟨(y201),(y198),(wrap64 (x6_1 + 1)),(by first | rfl | (simp;done) | (simp [*];done)),H',⟨by have:=HK1.out;have:=HJ7.out;omega⟩,⟨by (with_reducible repeat (first | apply Kd.R_alloc | apply Kd.R_drewN | apply Kd.R_drew));exact HO203.out⟩,⟨by (with_reducible repeat (first | apply Kd.R_alloc | apply Kd.R_drewN | apply Kd.R_drew));exact Kd.R_mono HO200.out (fun _ hk => hk.2)⟩,⟨by repeat (first | (with_reducible first | exact HB.out | apply below_alloc | apply pw_below_drewN | apply below_drew1 | refine below_set ?_ GE186.out) | exact HB.out)⟩⟩
          ·rw [if_neg c33] at H
           exact absurd H (by simp)
         ·rw [if_neg c32] at H
          exact absurd H (by simp)
    ·rw [if_neg c7] at H
     exact absurd H (by simp)
   ·rw [if_neg c6] at H
    have c6b0 : decide (x6_1 < (l0.length : Int)) = false:=decide_eq_false c6
    clear c6
    simp only [Option.some.injEq,Prod.mk.injEq] at H
    obtain ⟨rfl,rfl⟩:=H
    obtain ⟨Ao37,co37,eo37⟩:=Kd.R_slice HO_5.out
    subst eo37
    go_wp2
    go_ret2
    exact ⟨_,by first | rfl | (simp [errW_none,errW_some] <;> rfl) | (simp [*,errW_none,errW_some] <;> rfl),by (with_reducible repeat (first | apply Kd.R_alloc | apply Kd.R_drewN | apply Kd.R_drew));exact Kd.R_mono HO_4.out (fun _ hk => trivial),by repeat (first | (with_reducible first | exact HB.out | apply below_alloc | apply pw_below_drewN | apply below_drew1) | exact HB.out)⟩
/-! ### oncewebref03_Check: function 66 -/
def oncewebref03_Check.f (k : Nat) (l0 : List (S49)) : Option (Int):=if (l0.length : Int) > 1024 then (some 3) else ((oncewebref03_begins.f k l0).bind fun bt204 => (if bt204.2 = true then (some 0) else (some 5)))
set_option maxHeartbeats 8000000 in
set_option maxRecDepth 100000 in
theorem oncewebref03_Check.calls (k : Nat) (A0 : Option Addr) (c0 : Nat) (l0 : List (S49)) (r : Int) (w : World) (hr0 : Kd.C k49 w A0 l0.length l0) (hc0 : l0.length ≤ c0) (h : oncewebref03_Check.f k l0 = some r) :
  Calls Tryd.prog 66 #[.slice A0 l0.length c0] w fun e w' => e = .returned (.int .i64 r) ∧ Below w.heap.size w w':=by
 have HR0:=Aside0.mk hr0
 have HC0:=Aside0.mk hc0
 clear hr0 hc0
 have HB:=Aside0.mk (Below.refl w.heap.size w)
 have H : (if (l0.length : Int) > 1024 then (some 3) else ((oncewebref03_begins.f k l0).bind fun bt204 => (if bt204.2 = true then (some 0) else (some 5)))) = some r:=h
 clear h
 by_cases c2 : (l0.length : Int) > 1024
 ·rw [if_pos c2] at H
  have c2b0 : decide (1024 < (l0.length : Int)) = true:=decide_eq_true c2
  have c2b1 : decide (1024 < l0.length) = true:=decide_eq_true (by omega)
  clear c2
  obtain rfl:=Option.some.inj H
  go_enter Tryd.func66,Tryd.ntmps66
  go_wp2
  go_ret
  exact ⟨by first | rfl | (simp [errW_none,errW_some] <;> rfl) | (simp [*,errW_none,errW_some] <;> rfl),by repeat (first | (with_reducible first | exact HB.out | apply below_alloc | apply pw_below_drewN | apply below_drew1) | exact HB.out)⟩
 ·rw [if_neg c2] at H
  have c2b0 : decide (1024 < (l0.length : Int)) = false:=decide_eq_false c2
  have c2b1 : decide (1024 < l0.length) = false:=decide_eq_false (by omega)
  clear c2
  replace H:=Option.bind_eq_some_iff.mp H
  obtain ⟨⟨t204,t205⟩,A30,H⟩:=H
  replace H : (if t205 = true then (some 0) else (some 5)) = some r:=H
  have A3:=Aside0.mk A30
  clear A30
  by_cases c4 : t205 = true
  ·subst c4
   have H1 : (some 0) = some r:=by rw [if_pos rfl] at H;exact H
   clear H
   have H:=H1
   clear H1
   obtain rfl:=Option.some.inj H
   go_enter Tryd.func66,Tryd.ntmps66
   go_wp2_with (first | ((with_reducible refine gate_callee (f:=75) rfl ?_);refine goesL_ (some 10) rfl rfl Tryd.func75 (by kernel_rfl) rfl #[.slice A0 l0.length c0] rfl (by (try simp only [List.map_toArray,List.map_cons,List.map_nil]);first | done | rfl | (simp only [List.length_drop,List.length_take];rfl)) ?_;(with_reducible refine (oncewebref03_begins.calls k _ _ l0 t204 true _ ?side1 ?side2 A3.out).mono ?_);(case side1 => repeat (first | exact HR0.out | (with_reducible refine Kd.C_alloc ?_ _) | (with_reducible refine Kd.C_drewN ?_ _) | (with_reducible refine Kd.C_drew ?_)));(case side2 => exact HC0.out);rintro e w5 ⟨v206,rfl,ho0,hb⟩;refine ⟨_,rfl,?_⟩;have n0_:=Aside0.mk (Kd.R_lower ho0 (below_size (by repeat (first | (with_reducible first | exact HB.out | apply below_alloc | apply pw_below_drewN | apply below_drew1) | exact HB.out))));have n1_:=Aside0.mk (below_step (by repeat (first | (with_reducible first | exact HB.out | apply below_alloc | apply pw_below_drewN | apply below_drew1) | exact HB.out)) hb);clear HB;have HO207:=n0_;have HB:=n1_;clear n0_ n1_;(try clear hb);(try clear hb2);(try clear hk);(try clear hi);(try clear ho0)))
   go_ret
   exact ⟨by first | rfl | (simp [errW_none,errW_some] <;> rfl) | (simp [*,errW_none,errW_some] <;> rfl),by repeat (first | (with_reducible first | exact HB.out | apply below_alloc | apply pw_below_drewN | apply below_drew1) | exact HB.out)⟩
  ·replace c4:=Bool.eq_false_iff.mpr c4
   subst c4
   have H1 : (some 5) = some r:=by rw [if_neg (show ¬ (false = true) by decide)] at H;exact H
   clear H
   have H:=H1
   clear H1
   obtain rfl:=Option.some.inj H
   go_enter Tryd.func66,Tryd.ntmps66
   go_wp2_with (first | ((with_reducible refine gate_callee (f:=75) rfl ?_);refine goesL_ (some 10) rfl rfl Tryd.func75 (by kernel_rfl) rfl #[.slice A0 l0.length c0] rfl (by (try simp only [List.map_toArray,List.map_cons,List.map_nil]);first | done | rfl | (simp only [List.length_drop,List.length_take];rfl)) ?_;(with_reducible refine (oncewebref03_begins.calls k _ _ l0 t204 false _ ?side1 ?side2 A3.out).mono ?_);(case side1 => repeat (first | exact HR0.out | (with_reducible refine Kd.C_alloc ?_ _) | (with_reducible refine Kd.C_drewN ?_ _) | (with_reducible refine Kd.C_drew ?_)));(case side2 => exact HC0.out);rintro e w6 ⟨v206,rfl,ho0,hb⟩;refine ⟨_,rfl,?_⟩;have n0_:=Aside0.mk (Kd.R_lower ho0 (below_size (by repeat (first | (with_reducible first | exact HB.out | apply below_alloc | apply pw_below_drewN | apply below_drew1) | exact HB.out))));have n1_:=Aside0.mk (below_step (by repeat (first | (with_reducible first | exact HB.out | apply below_alloc | apply pw_below_drewN | apply below_drew1) | exact HB.out)) hb);clear HB;have HO207:=n0_;have HB:=n1_;clear n0_ n1_;(try clear hb);(try clear hb2);(try clear hk);(try clear hi);(try clear ho0)))
   go_ret
   exact ⟨by first | rfl | (simp [errW_none,errW_some] <;> rfl) | (simp [*,errW_none,errW_some] <;> rfl),by repeat (first | (with_reducible first | exact HB.out | apply below_alloc | apply pw_below_drewN | apply below_drew1) | exact HB.out)⟩
/-! ### oncewebref03_long: function 67 -/
def oncewebref03_long.f (l0 : List (S49)) : Option ((List (S49))):=if (l0.length : Int) > 1024 then (some (([(⟨11,0,(⟨#[]⟩ : ByteArray)⟩ : S49)] : List (S49)))) else (some l0)
set_option maxHeartbeats 8000000 in
set_option maxRecDepth 100000 in
theorem oncewebref03_long.calls (P0_ : Nat → Prop) (u9000_ : Value) (l0 : List (S49)) (r : List (S49)) (w0 w : World) (hB : Below w0.heap.size w0 w) (ho0 : Kd.R k49 49 w w0.heap.size P0_ u9000_ l0) (h : oncewebref03_long.f l0 = some r) :
  Calls Tryd.prog 67 #[u9000_] w fun e w' => ∃ v0_ : Value,e = .returned (v0_) ∧ Kd.R k49 49 w' w0.heap.size (fun k_ => (P0_ k_ ∨ w.heap.size ≤ k_)) v0_ r ∧ Below w0.heap.size w0 w' ∧ Kept w w' (fun k_ => P0_ k_):=by
 have hu49:=Tryd.underlying49
 have HO0:=Aside0.mk (show Kd.R k49 49 w w0.heap.size (fun k_ => (P0_ k_ ∨ w.heap.size ≤ k_)) u9000_ l0 from Kd.R_mono ho0 (fun k_ hk => (.inl hk)))
 have HK:=Aside0.mk (Kept.refl w (fun k_ => P0_ k_))
 have HW0:=Aside0.mk hB.size
 have HB:=Aside0.mk hB
 clear hB
 have H : (if (l0.length : Int) > 1024 then (some (([(⟨11,0,(⟨#[]⟩ : ByteArray)⟩ : S49)] : List (S49)))) else (some l0)) = some r:=h
 clear h
 by_cases c2 : (l0.length : Int) > 1024
 ·rw [if_pos c2] at H
  have c2b0 : decide (1024 < (l0.length : Int)) = true:=decide_eq_true c2
  have c2b1 : decide (1024 < l0.length) = true:=decide_eq_true (by omega)
  clear c2
  obtain ⟨y208,hy208⟩ : ∃ y_ : List (S49),y_ = (([(⟨11,0,(⟨#[]⟩ : ByteArray)⟩ : S49)] : List (S49))):=⟨_,rfl⟩
  replace H : (some y208) = some r:=by first | (rw [hy208];with_reducible exact H) | (have H2_:=(Option.bind_some _ _).symm.trans H;rw [hy208];with_reducible exact H2_) | (have H2_:=(Option.bind_some _ _).symm.trans H;with_reducible exact H2_) | with_reducible exact H | (rw [hy208];exact H) | exact H
  have Ny208:=Aside0.mk hy208
  clear hy208
  obtain rfl:=Option.some.inj H
  obtain ⟨Ao3,co3,eo3⟩:=Kd.R_slice HO0.out
  subst eo3
  go_enter Tryd.func67,Tryd.ntmps67
  go_wp2_with (first | ((with_reducible refine gate_dst (N:=7) rfl ?_);refine Kd.R_lit k49 _ 49 ?hg (N:=7) ?hd (xs:=([(⟨11,0,(⟨#[]⟩ : ByteArray)⟩ : S49)] : List (S49))) (inner:=[.int .i64 11,.int .i64 0,.string (⟨#[]⟩ : ByteArray)]) (ok:=fun _ => True) (okp:=fun _ => True) ?hr ?hp (fun _ hk => hk) trivial (Below.refl _ _) (Nat.le_refl _) (by simp) ?_;(case hd => rfl);(case hg => rfl);(case hr => first | (go_simp;done) | (go_simp;rfl));(case hp => exact (Reps.c3 (show Kd.M k49 _ _ _ (⟨11,0,(⟨#[]⟩ : ByteArray)⟩ : S49) [.int .i64 11,.int .i64 0,.string (⟨#[]⟩ : ByteArray)] from (k49_mkM _ _ _ (⟨11,0,(⟨#[]⟩ : ByteArray)⟩ : S49) )) (Reps.none _ _)));intro v209 w4 ho5 hb hg_ hnew_;clear hg_ hnew_;(first | rw [← Ny208.out] at ho5 | (simp only [Int.reduceToNat] at ho5;rw [← Ny208.out] at ho5));have n0_:=Aside0.mk (Kd.R_elder' (by (with_reducible repeat (first | apply Kd.R_alloc | apply Kd.R_drewN | apply Kd.R_drew));exact HO0.out) (Kd.R_base ho5) hb);have n1_:=Aside0.mk (Kd.R_lower (Kd.R_new' (Kd.R_newM (M:=fun k_ => (P0_ k_ ∨ w.heap.size ≤ k_)) ho5 (by first | exact HK.out.1 | exact (show Kept w _ (fun k_ => P0_ k_) from by repeat (first | (with_reducible first | exact HK.out | apply Kept.alloc | apply Kept.drewN | apply Kept.drew) | exact HK.out)).1) (fun k_ h_ => .inr h_)) (Kd.R_lt (by (with_reducible repeat (first | apply Kd.R_alloc | apply Kd.R_drewN | apply Kd.R_drew));exact HO0.out))) (below_size (by repeat (first | (with_reducible first | exact HB.out | apply below_alloc | apply pw_below_drewN | apply below_drew1) | exact HB.out))));have n2_:=Aside0.mk (Kept.below (S:=(fun k_ => P0_ k_)) (by repeat (first | (with_reducible first | exact HK.out | apply Kept.alloc | apply Kept.drewN | apply Kept.drew) | exact HK.out)) hb);have n3_:=Aside0.mk (below_step (by repeat (first | (with_reducible first | exact HB.out | apply below_alloc | apply pw_below_drewN | apply below_drew1) | exact HB.out)) hb);clear HO0;clear HK;clear HB;have HO0:=n0_;have HO210:=n1_;have HK:=n2_;have HB:=n3_;clear n0_ n1_ n2_ n3_;clear hb ho5))
  go_ret
  exact ⟨_,by first | rfl | (simp [errW_none,errW_some] <;> rfl) | (simp [*,errW_none,errW_some] <;> rfl),by (with_reducible repeat (first | apply Kd.R_alloc | apply Kd.R_drewN | apply Kd.R_drew));exact Kd.R_mono HO210.out (fun _ hk => hk.1.1),by repeat (first | (with_reducible first | exact HB.out | apply below_alloc | apply pw_below_drewN | apply below_drew1) | exact HB.out),by repeat (first | (with_reducible first | exact HK.out | apply Kept.alloc | apply Kept.drewN | apply Kept.drew) | exact HK.out)⟩
 ·rw [if_neg c2] at H
  have c2b0 : decide (1024 < (l0.length : Int)) = false:=decide_eq_false c2
  have c2b1 : decide (1024 < l0.length) = false:=decide_eq_false (by omega)
  clear c2
  obtain rfl:=Option.some.inj H
  obtain ⟨Ao6,co6,eo6⟩:=Kd.R_slice HO0.out
  subst eo6
  go_enter Tryd.func67,Tryd.ntmps67
  go_wp2
  go_ret
  exact ⟨_,by first | rfl | (simp [errW_none,errW_some] <;> rfl) | (simp [*,errW_none,errW_some] <;> rfl),by (with_reducible repeat (first | apply Kd.R_alloc | apply Kd.R_drewN | apply Kd.R_drew));exact HO0.out,by repeat (first | (with_reducible first | exact HB.out | apply below_alloc | apply pw_below_drewN | apply below_drew1) | exact HB.out),by repeat (first | (with_reducible first | exact HK.out | apply Kept.alloc | apply Kept.drewN | apply Kept.drew) | exact HK.out)⟩
/-! ### oncewebbase_CopyFail: function 68 -/
def oncewebbase_CopyFail.f (l0 : List (S49)) : Option ((List (S49))):=(some (([] : List (S49)) : List (S49))).bind fun y211 => (if y211.length + l0.length < 4398046511104 then (some (y211 ++ l0)) else (none))
set_option maxHeartbeats 8000000 in
set_option maxRecDepth 100000 in
theorem oncewebbase_CopyFail.calls (A0 : Option Addr) (c0 : Nat) (l0 : List (S49)) (r : List (S49)) (w : World) (hr0 : Kd.C k49 w A0 l0.length l0) (hc0 : l0.length ≤ c0) (h : oncewebbase_CopyFail.f l0 = some r) :
  Calls Tryd.prog 68 #[.slice A0 l0.length c0] w fun e w' => ∃ v0_ : Value,e = .returned (v0_) ∧ Kd.R k49 49 w' w.heap.size (fun _ => True) v0_ r ∧ Below w.heap.size w w':=by
 have HR0:=Aside0.mk hr0
 have HC0:=Aside0.mk hc0
 clear hr0 hc0
 have HB:=Aside0.mk (Below.refl w.heap.size w)
 have H : ((some (([] : List (S49)) : List (S49))).bind fun y211 => (if y211.length + l0.length < 4398046511104 then (some (y211 ++ l0)) else (none))) = some r:=h
 clear h
 obtain ⟨y211,hy211⟩ : ∃ y_ : List (S49),y_ = (([] : List (S49))):=⟨_,rfl⟩
 replace H : (if y211.length + l0.length < 4398046511104 then (some (y211 ++ l0)) else (none)) = some r:=by first | (rw [hy211];with_reducible exact H) | (have H2_:=(Option.bind_some _ _).symm.trans H;rw [hy211];with_reducible exact H2_) | (have H2_:=(Option.bind_some _ _).symm.trans H;with_reducible exact H2_) | with_reducible exact H | (rw [hy211];exact H) | exact H
 have Ny211:=Aside0.mk hy211
 clear hy211
 by_cases c2 : y211.length + l0.length < 4398046511104
 ·rw [if_pos c2] at H
  have LMc2:=Aside0.mk c2
  clear c2
  obtain ⟨y214,hy214⟩ : ∃ y_ : List (S49),y_ = (y211 ++ l0):=⟨_,rfl⟩
  replace H : (some y214) = some r:=by first | (rw [hy214];with_reducible exact H) | (have H2_:=(Option.bind_some _ _).symm.trans H;rw [hy214];with_reducible exact H2_) | (have H2_:=(Option.bind_some _ _).symm.trans H;with_reducible exact H2_) | with_reducible exact H | (rw [hy214];exact H) | exact H
  have Ny214:=Aside0.mk hy214
  clear hy214
  obtain rfl:=Option.some.inj H
  go_enter Tryd.func68,Tryd.ntmps68
  go_wp2_with (first | ((with_reducible refine gate_dst (N:=3) rfl ?_);refine Kd.R_lit k49 _ 49 ?hg (N:=3) ?hd (xs:=([] : List (S49))) (inner:=[]) (ok:=fun _ => True) (okp:=fun _ => True) ?hr ?hp (fun _ hk => hk) trivial (Below.refl _ _) (Nat.le_refl _) (by simp) ?_;(case hd => rfl);(case hg => rfl);(case hr => first | (go_simp;done) | (go_simp;rfl));(case hp => exact (Reps.none _ _));intro v212 w3 ho4 hb hg_ hnew_;clear hg_ hnew_;(first | rw [← Ny211.out] at ho4 | (simp only [Int.reduceToNat] at ho4;rw [← Ny211.out] at ho4));have n0_:=Aside0.mk (Kd.R_lower ho4 (below_size (by repeat (first | (with_reducible first | exact HB.out | apply below_alloc | apply pw_below_drewN | apply below_drew1) | exact HB.out))));have n1_:=Aside0.mk (below_step (by repeat (first | (with_reducible first | exact HB.out | apply below_alloc | apply pw_below_drewN | apply below_drew1) | exact HB.out)) hb);clear HB;have HO213:=n0_;have HB:=n1_;clear n0_ n1_;clear hb ho4) | ((with_reducible refine gate_builtin (b:=.append) (xs:=#[.tmp 3,.tmp 4]) rfl ?_);at_builtin;refine Kd.R_append_rows k49 (w0:=w) w.heap.size rfl (.tmp 3) (.tmp 4) 44 49 (.agg #[(.int .i64 0),(.int .i64 0),(.string ⟨#[]⟩)]) 32 rfl Tryd.underlying44 info49 rfl (by decide) (by omega) v212 y211 l0 _ _ _ (fun _ => True) (fun _ => False) rfl rfl ?aO ?aR (fun _ _ h => h) (fun _ h => h.elim) ?aF ?aB ?aS ?aL ?_;(case aR => repeat (first | exact (Kd.C_below HR0.out HB.out) | (with_reducible refine Kd.C_alloc ?_ _) | (with_reducible refine Kd.C_drewN ?_ _) | (with_reducible refine Kd.C_drew ?_)));(case aB => exact (by repeat (first | (with_reducible first | exact HB.out | apply below_alloc | apply pw_below_drewN | apply below_drew1) | exact HB.out)));(case aF => exact (fun _ _ => trivial));(case aO => exact (by (with_reducible repeat (first | apply Kd.R_alloc | apply Kd.R_drewN | apply Kd.R_drew));exact HO213.out));(case aS => exact (below_size (by repeat (first | (with_reducible first | exact HB.out | apply below_alloc | apply pw_below_drewN | apply below_drew1) | exact HB.out))));(case aL => have:=LMc2.out;omega);intro v215 w5 ho hb hg hat;rw [← Ny214.out] at ho;have n0_:=Aside0.mk (hb);have n1_:=Aside0.mk (ho);clear HB;clear HO213;have HB:=n0_;have HO216:=n1_;clear n0_ n1_;clear ho hb hg hat))
  go_ret
  exact ⟨_,by first | rfl | (simp [errW_none,errW_some] <;> rfl) | (simp [*,errW_none,errW_some] <;> rfl),by (with_reducible repeat (first | apply Kd.R_alloc | apply Kd.R_drewN | apply Kd.R_drew));exact HO216.out,by repeat (first | (with_reducible first | exact HB.out | apply below_alloc | apply pw_below_drewN | apply below_drew1) | exact HB.out)⟩
 ·rw [if_neg c2] at H
  exact absurd H (by simp)
/-! ### oncewebref03_Wrap: function 46 -/
def oncewebref03_Wrap.f (k : Nat) (a0 : ByteArray) (l1 : List (S49)) : Option ((List (S49)) × Int):=(oncewebbase_Name.f k a0).bind fun t217 => (if t217 = true then ((oncewebref03_Check.f k l1).bind fun t218 => (if t218 = 0 then ((oncewebbase_CopyFail.f l1).bind fun t219 => (if t219.length < 4398046511104 then ((oncewebref03_long.f (t219 ++ [(⟨9,1,a0⟩ : S49)])).bind fun t225 => (some (t225,0))) else (none))) else (some (([] : List (S49)),t218)))) else (some (([] : List (S49)),2)))
set_option maxHeartbeats 8000000 in
set_option maxRecDepth 100000 in
theorem oncewebref03_Wrap.calls (k : Nat) (a0 : ByteArray) (A1 : Option Addr) (c1 : Nat) (l1 : List (S49)) (r1 : List (S49)) (r2 : Int) (w : World) (hr1 : Kd.C k49 w A1 l1.length l1) (hc1 : l1.length ≤ c1) (h : oncewebref03_Wrap.f k a0 l1 = some (r1,r2)) :
  Calls Tryd.prog 46 #[.string a0,.slice A1 l1.length c1] w fun e w' => ∃ v0_ : Value,e = .returned (.tuple #[v0_,.int .i64 r2]) ∧ Kd.R k49 49 w' w.heap.size (fun _ => True) v0_ r1 ∧ Below w.heap.size w w':=by
 have hu49:=Tryd.underlying49
 have HR1:=Aside0.mk hr1
 have HC1:=Aside0.mk hc1
 clear hr1 hc1
 have HB:=Aside0.mk (Below.refl w.heap.size w)
 have H : ((oncewebbase_Name.f k a0).bind fun t217 => (if t217 = true then ((oncewebref03_Check.f k l1).bind fun t218 => (if t218 = 0 then ((oncewebbase_CopyFail.f l1).bind fun t219 => (if t219.length < 4398046511104 then ((oncewebref03_long.f (t219 ++ [(⟨9,1,a0⟩ : S49)])).bind fun t225 => (some (t225,0))) else (none))) else (some (([] : List (S49)),t218)))) else (some (([] : List (S49)),2)))) = some (r1,r2):=h
 clear h
 replace H:=Option.bind_eq_some_iff.mp H
 obtain ⟨t217,A30,H⟩:=H
 replace H : (if t217 = true then ((oncewebref03_Check.f k l1).bind fun t218 => (if t218 = 0 then ((oncewebbase_CopyFail.f l1).bind fun t219 => (if t219.length < 4398046511104 then ((oncewebref03_long.f (t219 ++ [(⟨9,1,a0⟩ : S49)])).bind fun t225 => (some (t225,0))) else (none))) else (some (([] : List (S49)),t218)))) else (some (([] : List (S49)),2))) = some (r1,r2):=H
 have A3:=Aside0.mk A30
 clear A30
 by_cases c4 : t217 = true
 ·subst c4
  have H1 : ((oncewebref03_Check.f k l1).bind fun t218 => (if t218 = 0 then ((oncewebbase_CopyFail.f l1).bind fun t219 => (if t219.length < 4398046511104 then ((oncewebref03_long.f (t219 ++ [(⟨9,1,a0⟩ : S49)])).bind fun t225 => (some (t225,0))) else (none))) else (some (([] : List (S49)),t218)))) = some (r1,r2):=by rw [if_pos rfl] at H;exact H
  clear H
  have H:=H1
  clear H1
  replace H:=Option.bind_eq_some_iff.mp H
  obtain ⟨t218,A50,H⟩:=H
  replace H : (if t218 = 0 then ((oncewebbase_CopyFail.f l1).bind fun t219 => (if t219.length < 4398046511104 then ((oncewebref03_long.f (t219 ++ [(⟨9,1,a0⟩ : S49)])).bind fun t225 => (some (t225,0))) else (none))) else (some (([] : List (S49)),t218))) = some (r1,r2):=H
  have A5:=Aside0.mk A50
  clear A50
  by_cases c6 : t218 = 0
  ·rw [if_pos c6] at H
   have c6b0 : (t218 == 0) = true:=beq_iff_eq.mpr c6
   have c6b1 : (t218 != 0) = false:=bne_eq_false_iff_eq.mpr c6
   clear c6
   replace H:=Option.bind_eq_some_iff.mp H
   obtain ⟨t219,A70,H⟩:=H
   replace H : (if t219.length < 4398046511104 then ((oncewebref03_long.f (t219 ++ [(⟨9,1,a0⟩ : S49)])).bind fun t225 => (some (t225,0))) else (none)) = some (r1,r2):=H
   have A7:=Aside0.mk A70
   clear A70
   by_cases c8 : t219.length < 4398046511104
   ·rw [if_pos c8] at H
    have LMc8:=Aside0.mk c8
    clear c8
    obtain ⟨y222,hy222⟩ : ∃ y_ : List (S49),y_ = (t219 ++ [(⟨9,1,a0⟩ : S49)]):=⟨_,rfl⟩
    replace H : ((oncewebref03_long.f y222).bind fun t225 => (some (t225,0))) = some (r1,r2):=by first | (rw [hy222];with_reducible exact H) | (have H2_:=(Option.bind_some _ _).symm.trans H;rw [hy222];with_reducible exact H2_) | (have H2_:=(Option.bind_some _ _).symm.trans H;with_reducible exact H2_) | with_reducible exact H | (rw [hy222];exact H) | exact H
    have Ny222:=Aside0.mk hy222
    clear hy222
    replace H:=Option.bind_eq_some_iff.mp H
    obtain ⟨t225,A90,H⟩:=H
    replace H : (some (t225,0)) = some (r1,r2):=H
    have A9:=Aside0.mk A90
    clear A90
    simp only [Option.some.injEq,Prod.mk.injEq] at H
    obtain ⟨rfl,rfl⟩:=H
    go_enter Tryd.func46,Tryd.ntmps46
    go_wp2_with (first | ((with_reducible refine gate_callee (f:=44) rfl ?_);refine goesL_ (some 8) rfl rfl Tryd.func44 (by kernel_rfl) rfl #[.string a0] rfl (by (try simp only [List.map_toArray,List.map_cons,List.map_nil]);first | done | rfl | (simp only [List.length_drop,List.length_take];rfl)) ?_;(with_reducible refine (oncewebbase_Name.calls k a0 true _ A3.out).mono ?_);rintro e w10 ⟨rfl,hb⟩;refine ⟨_,rfl,?_⟩;have n0_:=Aside0.mk (below_step (by repeat (first | (with_reducible first | exact HB.out | apply below_alloc | apply pw_below_drewN | apply below_drew1) | exact HB.out)) hb);clear HB;have HB:=n0_;clear n0_;(try clear hb);(try clear hb2);(try clear hk);(try clear hi)) | ((with_reducible refine gate_callee (f:=66) rfl ?_);refine goesL_ (some 11) rfl rfl Tryd.func66 (by kernel_rfl) rfl #[.slice A1 l1.length c1] rfl (by (try simp only [List.map_toArray,List.map_cons,List.map_nil]);first | done | rfl | (simp only [List.length_drop,List.length_take];rfl)) ?_;(with_reducible refine (oncewebref03_Check.calls k _ _ l1 t218 _ ?side1 ?side2 A5.out).mono ?_);(case side1 => repeat (first | exact (Kd.C_below HR1.out HB.out) | (with_reducible refine Kd.C_alloc ?_ _) | (with_reducible refine Kd.C_drewN ?_ _) | (with_reducible refine Kd.C_drew ?_)));(case side2 => exact HC1.out);rintro e w11 ⟨rfl,hb⟩;refine ⟨_,rfl,?_⟩;have n0_:=Aside0.mk (below_step (by repeat (first | (with_reducible first | exact HB.out | apply below_alloc | apply pw_below_drewN | apply below_drew1) | exact HB.out)) hb);clear HB;have HB:=n0_;clear n0_;(try clear hb);(try clear hb2);(try clear hk);(try clear hi)) | ((with_reducible refine gate_callee (f:=68) rfl ?_);refine goesL_ (some 16) rfl rfl Tryd.func68 (by kernel_rfl) rfl #[.slice A1 l1.length c1] rfl (by (try simp only [List.map_toArray,List.map_cons,List.map_nil]);first | done | rfl | (simp only [List.length_drop,List.length_take];rfl)) ?_;(with_reducible refine (oncewebbase_CopyFail.calls _ _ l1 t219 _ ?side1 ?side2 A7.out).mono ?_);(case side1 => repeat (first | exact (Kd.C_below HR1.out HB.out) | (with_reducible refine Kd.C_alloc ?_ _) | (with_reducible refine Kd.C_drewN ?_ _) | (with_reducible refine Kd.C_drew ?_)));(case side2 => exact HC1.out);rintro e w12 ⟨v220,rfl,ho0,hb⟩;refine ⟨_,rfl,?_⟩;have n0_:=Aside0.mk (Kd.R_lower ho0 (below_size (by repeat (first | (with_reducible first | exact HB.out | apply below_alloc | apply pw_below_drewN | apply below_drew1) | exact HB.out))));have n1_:=Aside0.mk (below_step (by repeat (first | (with_reducible first | exact HB.out | apply below_alloc | apply pw_below_drewN | apply below_drew1) | exact HB.out)) hb);clear HB;have HO221:=n0_;have HB:=n1_;clear n0_ n1_;(try clear hb);(try clear hb2);(try clear hk);(try clear hi);(try clear ho0)) | ((with_reducible refine gate_builtin (b:=.append) (xs:=#[.tmp 16,.tmp 19]) rfl ?_);at_builtin;refine Kd.R_append k49 (w0:=w) w.heap.size rfl (.tmp 16) (.tmp 19) 44 49 (.agg #[(.int .i64 0),(.int .i64 0),(.string ⟨#[]⟩)]) 32 rfl Tryd.underlying44 info49 rfl (by decide) (by omega) v220 t219 (⟨9,1,a0⟩ : S49) [.int .i64 9,.int .i64 1,.string a0] (fun _ => True) (fun _ => False) rfl rfl ?aP (fun _ hk => hk.elim) ?aF ?aO ?aB ?aS ?aL ?_;(case aP => exact k49_mkM _ _ _ (⟨9,1,a0⟩ : S49));(case aB => exact (by repeat (first | (with_reducible first | exact HB.out | apply below_alloc | apply pw_below_drewN | apply below_drew1) | exact HB.out)));(case aF => exact (fun _ _ => trivial));(case aO => exact (by (with_reducible repeat (first | apply Kd.R_alloc | apply Kd.R_drewN | apply Kd.R_drew));exact HO221.out));(case aS => exact (below_size (by repeat (first | (with_reducible first | exact HB.out | apply below_alloc | apply pw_below_drewN | apply below_drew1) | exact HB.out))));(case aL => have:=LMc8.out;omega);intro v223 w13 ho hb hg hat;rw [← Ny222.out] at ho;have n0_:=Aside0.mk (hb);have n1_:=Aside0.mk (ho);clear HB;clear HO221;have HB:=n0_;have HO224:=n1_;clear n0_ n1_;clear ho hb hg hat;obtain ⟨Ao14,co14,eo14⟩:=Kd.R_slice HO224.out;subst eo14) | ((with_reducible refine gate_callee (f:=67) rfl ?_);refine goesL_ (some 21) rfl rfl Tryd.func67 (by kernel_rfl) rfl #[.slice Ao14 y222.length co14] rfl (by (try simp only [List.map_toArray,List.map_cons,List.map_nil]);first | done | rfl | (simp only [List.length_drop,List.length_take];rfl)) ?_;(with_reducible refine (oncewebref03_long.calls (fun k_ => some k_ = (.slice Ao14 y222.length co14 : Value).ownBlock) (.slice Ao14 y222.length co14) y222 t225 w _ ?side1 ?side2 A9.out).mono ?_);(case side1 => repeat (first | (with_reducible first | exact HB.out | apply below_alloc | apply pw_below_drewN | apply below_drew1) | exact HB.out));(case side2 => exact Kd.R_tight rfl HO224.out);rintro e w15 ⟨v226,rfl,ho0,hb,hkp⟩;refine ⟨_,rfl,?_⟩;have n0_:=Aside0.mk (Kd.R_mono (ok':=fun k_ => True) ho0 (fun k_ hk_ => trivial));have n1_:=Aside0.mk (hb);clear HB;clear HO224;have HO227:=n0_;have HB:=n1_;clear n0_ n1_;(try clear hb);(try clear hkp);(try clear ho0)))
    go_ret2
    exact ⟨_,by first | rfl | (simp [errW_none,errW_some] <;> rfl) | (simp [*,errW_none,errW_some] <;> rfl),by (with_reducible repeat (first | apply Kd.R_alloc | apply Kd.R_drewN | apply Kd.R_drew));exact HO227.out,by repeat (first | (with_reducible first | exact HB.out | apply below_alloc | apply pw_below_drewN | apply below_drew1) | exact HB.out)⟩
   ·rw [if_neg c8] at H
    exact absurd H (by simp)
  ·rw [if_neg c6] at H
   have c6b0 : (t218 == 0) = false:=beq_eq_false_iff_ne.mpr c6
   have c6b1 : (t218 != 0) = true:=bne_iff_ne.mpr c6
   simp only [Option.some.injEq,Prod.mk.injEq] at H
   obtain ⟨rfl,rfl⟩:=H
   go_enter Tryd.func46,Tryd.ntmps46
   go_wp2_with (first | ((with_reducible refine gate_callee (f:=44) rfl ?_);refine goesL_ (some 8) rfl rfl Tryd.func44 (by kernel_rfl) rfl #[.string a0] rfl (by (try simp only [List.map_toArray,List.map_cons,List.map_nil]);first | done | rfl | (simp only [List.length_drop,List.length_take];rfl)) ?_;(with_reducible refine (oncewebbase_Name.calls k a0 true _ A3.out).mono ?_);rintro e w16 ⟨rfl,hb⟩;refine ⟨_,rfl,?_⟩;have n0_:=Aside0.mk (below_step (by repeat (first | (with_reducible first | exact HB.out | apply below_alloc | apply pw_below_drewN | apply below_drew1) | exact HB.out)) hb);clear HB;have HB:=n0_;clear n0_;(try clear hb);(try clear hb2);(try clear hk);(try clear hi)) | ((with_reducible refine gate_callee (f:=66) rfl ?_);refine goesL_ (some 11) rfl rfl Tryd.func66 (by kernel_rfl) rfl #[.slice A1 l1.length c1] rfl (by (try simp only [List.map_toArray,List.map_cons,List.map_nil]);first | done | rfl | (simp only [List.length_drop,List.length_take];rfl)) ?_;(with_reducible refine (oncewebref03_Check.calls k _ _ l1 t218 _ ?side1 ?side2 A5.out).mono ?_);(case side1 => repeat (first | exact (Kd.C_below HR1.out HB.out) | (with_reducible refine Kd.C_alloc ?_ _) | (with_reducible refine Kd.C_drewN ?_ _) | (with_reducible refine Kd.C_drew ?_)));(case side2 => exact HC1.out);rintro e w17 ⟨rfl,hb⟩;refine ⟨_,rfl,?_⟩;have n0_:=Aside0.mk (below_step (by repeat (first | (with_reducible first | exact HB.out | apply below_alloc | apply pw_below_drewN | apply below_drew1) | exact HB.out)) hb);clear HB;have HB:=n0_;clear n0_;(try clear hb);(try clear hb2);(try clear hk);(try clear hi)))
   go_ret2
   exact ⟨_,by first | rfl | (simp [errW_none,errW_some] <;> rfl) | (simp [*,errW_none,errW_some] <;> rfl),by first | exact Kd.R_nil _ _ _ _ _ | exact Kd.N_nil _ _ _ _ _ | exact Kd.V_nil _ _ _ _ _ | exact Kd.Q_nil _ _ _ _ _ | exact Kd.S_nil _ _ _ _ _,by repeat (first | (with_reducible first | exact HB.out | apply below_alloc | apply pw_below_drewN | apply below_drew1) | exact HB.out)⟩
 ·replace c4:=Bool.eq_false_iff.mpr c4
  subst c4
  have H1 : (some (([] : List (S49)),2)) = some (r1,r2):=by rw [if_neg (show ¬ (false = true) by decide)] at H;exact H
  clear H
  have H:=H1
  clear H1
  simp only [Option.some.injEq,Prod.mk.injEq] at H
  obtain ⟨rfl,rfl⟩:=H
  go_enter Tryd.func46,Tryd.ntmps46
  go_wp2_with (first | ((with_reducible refine gate_callee (f:=44) rfl ?_);refine goesL_ (some 8) rfl rfl Tryd.func44 (by kernel_rfl) rfl #[.string a0] rfl (by (try simp only [List.map_toArray,List.map_cons,List.map_nil]);first | done | rfl | (simp only [List.length_drop,List.length_take];rfl)) ?_;(with_reducible refine (oncewebbase_Name.calls k a0 false _ A3.out).mono ?_);rintro e w18 ⟨rfl,hb⟩;refine ⟨_,rfl,?_⟩;have n0_:=Aside0.mk (below_step (by repeat (first | (with_reducible first | exact HB.out | apply below_alloc | apply pw_below_drewN | apply below_drew1) | exact HB.out)) hb);clear HB;have HB:=n0_;clear n0_;(try clear hb);(try clear hb2);(try clear hk);(try clear hi)))
  go_ret2
  exact ⟨_,by first | rfl | (simp [errW_none,errW_some] <;> rfl) | (simp [*,errW_none,errW_some] <;> rfl),by first | exact Kd.R_nil _ _ _ _ _ | exact Kd.N_nil _ _ _ _ _ | exact Kd.V_nil _ _ _ _ _ | exact Kd.Q_nil _ _ _ _ _ | exact Kd.S_nil _ _ _ _ _,by repeat (first | (with_reducible first | exact HB.out | apply below_alloc | apply pw_below_drewN | apply below_drew1) | exact HB.out)⟩
/-! ### oncewebref03_Join: function 47 -/
def oncewebref03_Join.l0 : Nat → List (List (S49)) → List (S49) → Int → Int → Option ((List (S49)) × Int)
 | 0,_,_,_,_ => none
 | k + 1,x0,x4,x5,x6 => if x6 < (x0.length : Int) then (if 0 ≤ x6 then (if ((rd_L7 x0 x6).length : Int) = 0 then (oncewebref03_Join.l0 k x0 x4 x5 (wrap64 (x6 + 1))) else ((oncewebref03_Check.f k (rd_L7 x0 x6)).bind fun t239 => (if t239 = 0 then (if (x4.length : Int) ≤ 1024 then (if x4.length + (rd_L7 x0 x6).length < 4398046511104 then (oncewebref03_Join.l0 k x0 (x4 ++ (rd_L7 x0 x6)) (wrap64 (x5 + 1)) (wrap64 (x6 + 1))) else (none)) else (oncewebref03_Join.l0 k x0 x4 (wrap64 (x5 + 1)) (wrap64 (x6 + 1)))) else (some (([] : List (S49)),t239))))) else (none)) else (if x5 = 0 then (some (([] : List (S49)),0)) else (if x4.length < 4398046511104 then ((oncewebref03_long.f (x4 ++ [(⟨10,x5,(⟨#[]⟩ : ByteArray)⟩ : S49)])).bind fun t234 => (some (t234,0))) else (none)))
def oncewebref03_Join.f (k : Nat) (l0 : List (List (S49))) : Option ((List (S49)) × Int):=if (l0.length : Int) > 4096 then (some (([] : List (S49)),3)) else (oncewebref03_Join.l0 k l0 (([] : List (S49))) 0 0)
set_option maxHeartbeats 8000000 in
set_option maxRecDepth 100000 in
theorem oncewebref03_Join.calls (k : Nat) (A0 : Option Addr) (c0 : Nat) (l0 : List (List (S49))) (r1 : List (S49)) (r2 : Int) (w : World) (hr0 : Kd.C (Kd.slice 49 k49) w A0 l0.length l0) (hc0 : l0.length ≤ c0) (h : oncewebref03_Join.f k l0 = some (r1,r2)) :
  Calls Tryd.prog 47 #[.slice A0 l0.length c0] w fun e w' => ∃ v0_ : Value,e = .returned (.tuple #[v0_,.int .i64 r2]) ∧ Kd.R k49 49 w' w.heap.size (fun _ => True) v0_ r1 ∧ Below w.heap.size w w':=by
 have hu49:=Tryd.underlying49
 have HR0:=Aside0.mk hr0
 have HC0:=Aside0.mk hc0
 clear hr0 hc0
 have HB:=Aside0.mk (Below.refl w.heap.size w)
 have H : (if (l0.length : Int) > 4096 then (some (([] : List (S49)),3)) else (oncewebref03_Join.l0 k l0 (([] : List (S49))) 0 0)) = some (r1,r2):=h
 clear h
 by_cases c2 : (l0.length : Int) > 4096
 ·rw [if_pos c2] at H
  have c2b0 : decide (4096 < (l0.length : Int)) = true:=decide_eq_true c2
  have c2b1 : decide (4096 < l0.length) = true:=decide_eq_true (by omega)
  clear c2
  simp only [Option.some.injEq,Prod.mk.injEq] at H
  obtain ⟨rfl,rfl⟩:=H
  go_enter Tryd.func47,Tryd.ntmps47
  go_wp2
  go_ret2
  exact ⟨_,by first | rfl | (simp [errW_none,errW_some] <;> rfl) | (simp [*,errW_none,errW_some] <;> rfl),by first | exact Kd.R_nil _ _ _ _ _ | exact Kd.N_nil _ _ _ _ _ | exact Kd.V_nil _ _ _ _ _ | exact Kd.Q_nil _ _ _ _ _ | exact Kd.S_nil _ _ _ _ _,by repeat (first | (with_reducible first | exact HB.out | apply below_alloc | apply pw_below_drewN | apply below_drew1) | exact HB.out)⟩
 ·rw [if_neg c2] at H
  have c2b0 : decide (4096 < (l0.length : Int)) = false:=decide_eq_false c2
  have c2b1 : decide (4096 < l0.length) = false:=decide_eq_false (by omega)
  clear c2
  obtain ⟨y228,hy228⟩ : ∃ y_ : List (S49),y_ = (([] : List (S49))):=⟨_,rfl⟩
  replace H : (oncewebref03_Join.l0 k l0 y228 0 0) = some (r1,r2):=by first | (rw [hy228];with_reducible exact H) | (have H2_:=(Option.bind_some _ _).symm.trans H;rw [hy228];with_reducible exact H2_) | (have H2_:=(Option.bind_some _ _).symm.trans H;with_reducible exact H2_) | with_reducible exact H | (rw [hy228];exact H) | exact H
  have Ny228:=Aside0.mk hy228
  clear hy228
  have H':=Aside0.mk H
  clear H
  go_enter Tryd.func47,Tryd.ntmps47
  go_wp2_with (first | ((with_reducible refine gate_dst (N:=11) rfl ?_);refine Kd.R_lit k49 _ 49 ?hg (N:=11) ?hd (xs:=([] : List (S49))) (inner:=[]) (ok:=fun _ => True) (okp:=fun _ => True) ?hr ?hp (fun _ hk => hk) trivial (Below.refl _ _) (Nat.le_refl _) (by simp) ?_;(case hd => rfl);(case hg => rfl);(case hr => first | (go_simp;done) | (go_simp;rfl));(case hp => exact (Reps.none _ _));intro v229 w3 ho4 hb hg_ hnew_;clear hg_ hnew_;(first | rw [← Ny228.out] at ho4 | (simp only [Int.reduceToNat] at ho4;rw [← Ny228.out] at ho4));have n0_:=Aside0.mk (Kd.R_lower ho4 (below_size (by repeat (first | (with_reducible first | exact HB.out | apply below_alloc | apply pw_below_drewN | apply below_drew1) | exact HB.out))));have n1_:=Aside0.mk (below_step (by repeat (first | (with_reducible first | exact HB.out | apply below_alloc | apply pw_below_drewN | apply below_drew1) | exact HB.out)) hb);clear HB;have HO230:=n0_;have HB:=n1_;clear n0_ n1_;clear hb ho4))
  go_loopg [4,5,6] k (fun kq v4 v5 v6 w' => ∃ (x4_1 : List (S49)) (x5_1 : Int) (x6_1 : Int),v5 = .int .i64 x5_1 ∧ v6 = .int .i64 x6_1 ∧ Aside0 (oncewebref03_Join.l0 kq l0 x4_1 x5_1 x6_1 = some (r1,r2)) ∧ Aside0 (kq ≤ k) ∧ Aside0 (Kd.R k49 49 w' w.heap.size (fun _ => True) v4 x4_1) ∧ Aside0 (Below w.heap.size w w'))
  case atStart => exact ⟨(y228),(0),(0),(by first | rfl | (simp;done) | (simp [*];done)),(by first | rfl | (simp;done) | (simp [*];done)),H',⟨Nat.le_refl _⟩,⟨by (with_reducible repeat (first | apply Kd.R_alloc | apply Kd.R_drewN | apply Kd.R_drew));exact HO230.out⟩,⟨by repeat (first | (with_reducible first | exact HB.out | apply below_alloc | apply pw_below_drewN | apply below_drew1) | exact HB.out)⟩⟩
  case round =>
   clear H'
   obtain ⟨x4_1,x5_1,x6_1,rfl,rfl,HA,HK1,HO_4,HB⟩:=hrel
   cases gk with
   | zero => exact absurd HA.out (by simp [oncewebref03_Join.l0])
   | succ k1 =>
    have H:=HA.out
    clear HA
    simp only [oncewebref03_Join.l0] at H
    by_cases c5 : x6_1 < (l0.length : Int)
    ·rw [if_pos c5] at H
     have c5b0 : decide (x6_1 < (l0.length : Int)) = true:=decide_eq_true c5
     clear c5
     by_cases c6 : 0 ≤ x6_1
     ·rw [if_pos c6] at H
      have c6b0 : decide (0 ≤ x6_1) = true:=decide_eq_true c6
      clear c6
      by_cases c7 : ((rd_L7 l0 x6_1).length : Int) = 0
      ·rw [if_pos c7] at H
       have c7b0 : (((rd_L7 l0 x6_1).length : Int) == 0) = true:=beq_iff_eq.mpr c7
       have c7b1 : (((rd_L7 l0 x6_1).length : Int) != 0) = false:=bne_eq_false_iff_eq.mpr c7
       clear c7
       have H':=Aside0.mk H
       clear H
       have p237 : 0 ≤ (x6_1 : Int):=of_decide_eq_true (by first | (with_reducible assumption) | assumption)
       have q237 : x6_1 < (l0.length : Int):=of_decide_eq_true (by first | (with_reducible assumption) | assumption)
       obtain ⟨ad237,A237_0,c237_0,e237,hx237_0,hl237_0,hi237_0⟩:=at_L7 HR0.out x6_1 p237 q237
       cases e237
       replace hx237_0:=(HB.out.cell (World.block_lt_of_cell? w _ hx237_0)).trans hx237_0
       have HR237_0:=Aside0.mk hi237_0
       have HC237_0:=Aside0.mk hl237_0
       clear hi237_0 hl237_0
       replace p237:=eq_true p237
       replace q237:=eq_true q237
       go_wp2
       go_roundg k1
       case measure => have:=HK1.out;omega
       case rel => exact ⟨(x4_1),(x5_1),(wrap64 (x6_1 + 1)),(by first | rfl | (simp;done) | (simp [*];done)),(by first | rfl | (simp;done) | (simp [*];done)),H',⟨by have:=HK1.out;omega⟩,⟨by (with_reducible repeat (first | apply Kd.R_alloc | apply Kd.R_drewN | apply Kd.R_drew));exact HO_4.out⟩,⟨by repeat (first | (with_reducible first | exact HB.out | apply below_alloc | apply pw_below_drewN | apply below_drew1) | exact HB.out)⟩⟩
      ·rw [if_neg c7] at H
       have c7b0 : (((rd_L7 l0 x6_1).length : Int) == 0) = false:=beq_eq_false_iff_ne.mpr c7
       have c7b1 : (((rd_L7 l0 x6_1).length : Int) != 0) = true:=bne_iff_ne.mpr c7
       have c7b2 : ¬ ((rd_L7 l0 x6_1) = []):=fun h_ => c7 (by rw [h_];rfl)
       replace H:=Option.bind_eq_some_iff.mp H
       obtain ⟨t239,A80,H⟩:=H
       replace H : (if t239 = 0 then (if (x4_1.length : Int) ≤ 1024 then (if x4_1.length + (rd_L7 l0 x6_1).length < 4398046511104 then (oncewebref03_Join.l0 k1 l0 (x4_1 ++ (rd_L7 l0 x6_1)) (wrap64 (x5_1 + 1)) (wrap64 (x6_1 + 1))) else (none)) else (oncewebref03_Join.l0 k1 l0 x4_1 (wrap64 (x5_1 + 1)) (wrap64 (x6_1 + 1)))) else (some (([] : List (S49)),t239))) = some (r1,r2):=H
       have A8:=Aside0.mk A80
       clear A80
       by_cases c9 : t239 = 0
       ·rw [if_pos c9] at H
        have c9b0 : (t239 == 0) = true:=beq_iff_eq.mpr c9
        have c9b1 : (t239 != 0) = false:=bne_eq_false_iff_eq.mpr c9
        clear c9
        by_cases c10 : (x4_1.length : Int) ≤ 1024
        ·rw [if_pos c10] at H
         have c10b0 : decide ((x4_1.length : Int) ≤ 1024) = true:=decide_eq_true c10
         have c10b1 : decide (x4_1.length ≤ 1024) = true:=decide_eq_true (by omega)
         clear c10
         by_cases c11 : x4_1.length + (rd_L7 l0 x6_1).length < 4398046511104
         ·rw [if_pos c11] at H
          have LMc11:=Aside0.mk c11
          clear c11
          obtain ⟨y241,hy241⟩ : ∃ y_ : List (S49),y_ = (x4_1 ++ (rd_L7 l0 x6_1)):=⟨_,rfl⟩
          replace H : (oncewebref03_Join.l0 k1 l0 y241 (wrap64 (x5_1 + 1)) (wrap64 (x6_1 + 1))) = some (r1,r2):=by first | (rw [hy241];with_reducible exact H) | (have H2_:=(Option.bind_some _ _).symm.trans H;rw [hy241];with_reducible exact H2_) | (have H2_:=(Option.bind_some _ _).symm.trans H;with_reducible exact H2_) | with_reducible exact H | (rw [hy241];exact H) | exact H
          have Ny241:=Aside0.mk hy241
          clear hy241
          have H':=Aside0.mk H
          clear H
          have p237 : 0 ≤ (x6_1 : Int):=of_decide_eq_true (by first | (with_reducible assumption) | assumption)
          have q237 : x6_1 < (l0.length : Int):=of_decide_eq_true (by first | (with_reducible assumption) | assumption)
          obtain ⟨ad237,A237_0,c237_0,e237,hx237_0,hl237_0,hi237_0⟩:=at_L7 HR0.out x6_1 p237 q237
          cases e237
          replace hx237_0:=(HB.out.cell (World.block_lt_of_cell? w _ hx237_0)).trans hx237_0
          have HR237_0:=Aside0.mk hi237_0
          have HC237_0:=Aside0.mk hl237_0
          clear hi237_0 hl237_0
          replace p237:=eq_true p237
          replace q237:=eq_true q237
          have p238 : 0 ≤ (x6_1 : Int):=of_decide_eq_true (by first | (with_reducible assumption) | assumption)
          have q238 : x6_1 < (l0.length : Int):=of_decide_eq_true (by first | (with_reducible assumption) | assumption)
          obtain ⟨ad238,A238_0,c238_0,e238,hx238_0,hl238_0,hi238_0⟩:=at_L7 HR0.out x6_1 p238 q238
          obtain rfl : ad237 = ad238:=(by injection e238)
          replace hx238_0:=(HB.out.cell (World.block_lt_of_cell? w _ hx238_0)).trans hx238_0
          have HR238_0:=Aside0.mk hi238_0
          have HC238_0:=Aside0.mk hl238_0
          clear hi238_0 hl238_0
          replace p238:=eq_true p238
          replace q238:=eq_true q238
          have ea_:=Option.some.inj (hx237_0.symm.trans hx238_0)
          injection ea_ with ea_ en_ ec_
          subst ea_
          subst ec_
          clear en_
          go_wp2_with (first | ((with_reducible refine gate_callee (f:=66) rfl ?_);refine goesL_ (some 28) rfl rfl Tryd.func66 (by kernel_rfl) rfl #[.slice A237_0 (rd_L7 l0 x6_1).length c237_0] rfl (by (try simp only [List.map_toArray,List.map_cons,List.map_nil]);first | done | rfl | (simp only [List.length_drop,List.length_take];rfl)) ?_;(with_reducible refine (oncewebref03_Check.calls k1 _ _ (rd_L7 l0 x6_1) t239 _ ?side1 ?side2 A8.out).mono ?_);(case side1 => repeat (first | exact (Kd.C_below HR238_0.out HB.out) | (with_reducible refine Kd.C_alloc ?_ _) | (with_reducible refine Kd.C_drewN ?_ _) | (with_reducible refine Kd.C_drew ?_)));(case side2 => exact HC238_0.out);rintro e w12 ⟨rfl,hb⟩;refine ⟨_,rfl,?_⟩;have n0_:=Aside0.mk (Kd.R_below (by (with_reducible repeat (first | apply Kd.R_alloc | apply Kd.R_drewN | apply Kd.R_drew));exact HO_4.out) hb);have n1_:=Aside0.mk (below_step (by repeat (first | (with_reducible first | exact HB.out | apply below_alloc | apply pw_below_drewN | apply below_drew1) | exact HB.out)) hb);clear HO_4;clear HB;have HO_4:=n0_;have HB:=n1_;clear n0_ n1_;(try clear hb);(try clear hb2);(try clear hk);(try clear hi);obtain ⟨Ao13,co13,eo13⟩:=Kd.R_slice HO_4.out;subst eo13;have p240 : 0 ≤ (x6_1 : Int):=of_decide_eq_true (by first | (with_reducible assumption) | assumption);have q240 : x6_1 < (l0.length : Int):=of_decide_eq_true (by first | (with_reducible assumption) | assumption);obtain ⟨ad240,A240_0,c240_0,e240,hx240_0,hl240_0,hi240_0⟩:=at_L7 HR0.out x6_1 p240 q240;obtain rfl : ad237 = ad240:=(by injection e240);replace hx240_0:=(HB.out.cell (World.block_lt_of_cell? w _ hx240_0)).trans hx240_0;have HR240_0:=Aside0.mk hi240_0;have HC240_0:=Aside0.mk hl240_0;clear hi240_0 hl240_0;replace p240:=eq_true p240;replace q240:=eq_true q240) | ((with_reducible refine gate_builtin (b:=.append) (xs:=#[.tmp 37,.tmp 41]) rfl ?_);at_builtin;refine Kd.R_append_rows k49 (w0:=w) w.heap.size rfl (.tmp 37) (.tmp 41) 44 49 (.agg #[(.int .i64 0),(.int .i64 0),(.string ⟨#[]⟩)]) 32 rfl Tryd.underlying44 info49 rfl (by decide) (by omega) (.slice Ao13 x4_1.length co13) x4_1 (rd_L7 l0 x6_1) _ _ _ (fun _ => True) (fun _ => False) rfl rfl ?aO ?aR (fun _ _ h => h) (fun _ h => h.elim) ?aF ?aB ?aS ?aL ?_;(case aR => repeat (first | exact (Kd.C_below HR240_0.out HB.out) | (with_reducible refine Kd.C_alloc ?_ _) | (with_reducible refine Kd.C_drewN ?_ _) | (with_reducible refine Kd.C_drew ?_)));(case aB => exact (by repeat (first | (with_reducible first | exact HB.out | apply below_alloc | apply pw_below_drewN | apply below_drew1) | exact HB.out)));(case aF => exact (fun _ _ => trivial));(case aO => exact (by (with_reducible repeat (first | apply Kd.R_alloc | apply Kd.R_drewN | apply Kd.R_drew));exact HO_4.out));(case aS => exact (below_size (by repeat (first | (with_reducible first | exact HB.out | apply below_alloc | apply pw_below_drewN | apply below_drew1) | exact HB.out))));(case aL => have:=LMc11.out;omega);intro v242 w14 ho hb hg hat;rw [← Ny241.out] at ho;have n0_:=Aside0.mk (hb);have n1_:=Aside0.mk (ho);clear HB;clear HO_4;have HB:=n0_;have HO243:=n1_;clear n0_ n1_;clear ho hb hg hat))
          go_roundg k1
          case measure => have:=HK1.out;omega
          case rel => exact ⟨(y241),(wrap64 (x5_1 + 1)),(wrap64 (x6_1 + 1)),(by first | rfl | (simp;done) | (simp [*];done)),(by first | rfl | (simp;done) | (simp [*];done)),H',⟨by have:=HK1.out;omega⟩,⟨by (with_reducible repeat (first | apply Kd.R_alloc | apply Kd.R_drewN | apply Kd.R_drew));exact HO243.out⟩,⟨by repeat (first | (with_reducible first | exact HB.out | apply below_alloc | apply pw_below_drewN | apply below_drew1) | exact HB.out)⟩⟩
         ·rw [if_neg c11] at H
          exact absurd H (by simp)
        ·rw [if_neg c10] at H
         have c10b0 : decide ((x4_1.length : Int) ≤ 1024) = false:=decide_eq_false c10
         have c10b1 : decide (x4_1.length ≤ 1024) = false:=decide_eq_false (by omega)
         clear c10
         have H':=Aside0.mk H
         clear H
         have p237 : 0 ≤ (x6_1 : Int):=of_decide_eq_true (by first | (with_reducible assumption) | assumption)
         have q237 : x6_1 < (l0.length : Int):=of_decide_eq_true (by first | (with_reducible assumption) | assumption)
         obtain ⟨ad237,A237_0,c237_0,e237,hx237_0,hl237_0,hi237_0⟩:=at_L7 HR0.out x6_1 p237 q237
         cases e237
         replace hx237_0:=(HB.out.cell (World.block_lt_of_cell? w _ hx237_0)).trans hx237_0
         have HR237_0:=Aside0.mk hi237_0
         have HC237_0:=Aside0.mk hl237_0
         clear hi237_0 hl237_0
         replace p237:=eq_true p237
         replace q237:=eq_true q237
         have p238 : 0 ≤ (x6_1 : Int):=of_decide_eq_true (by first | (with_reducible assumption) | assumption)
         have q238 : x6_1 < (l0.length : Int):=of_decide_eq_true (by first | (with_reducible assumption) | assumption)
         obtain ⟨ad238,A238_0,c238_0,e238,hx238_0,hl238_0,hi238_0⟩:=at_L7 HR0.out x6_1 p238 q238
         obtain rfl : ad237 = ad238:=(by injection e238)
         replace hx238_0:=(HB.out.cell (World.block_lt_of_cell? w _ hx238_0)).trans hx238_0
         have HR238_0:=Aside0.mk hi238_0
         have HC238_0:=Aside0.mk hl238_0
         clear hi238_0 hl238_0
         replace p238:=eq_true p238
         replace q238:=eq_true q238
         have ea_:=Option.some.inj (hx237_0.symm.trans hx238_0)
         injection ea_ with ea_ en_ ec_
         subst ea_
         subst ec_
         clear en_
         go_wp2_with (first | ((with_reducible refine gate_callee (f:=66) rfl ?_);refine goesL_ (some 28) rfl rfl Tryd.func66 (by kernel_rfl) rfl #[.slice A237_0 (rd_L7 l0 x6_1).length c237_0] rfl (by (try simp only [List.map_toArray,List.map_cons,List.map_nil]);first | done | rfl | (simp only [List.length_drop,List.length_take];rfl)) ?_;(with_reducible refine (oncewebref03_Check.calls k1 _ _ (rd_L7 l0 x6_1) t239 _ ?side1 ?side2 A8.out).mono ?_);(case side1 => repeat (first | exact (Kd.C_below HR238_0.out HB.out) | (with_reducible refine Kd.C_alloc ?_ _) | (with_reducible refine Kd.C_drewN ?_ _) | (with_reducible refine Kd.C_drew ?_)));(case side2 => exact HC238_0.out);rintro e w15 ⟨rfl,hb⟩;refine ⟨_,rfl,?_⟩;have n0_:=Aside0.mk (Kd.R_below (by (with_reducible repeat (first | apply Kd.R_alloc | apply Kd.R_drewN | apply Kd.R_drew));exact HO_4.out) hb);have n1_:=Aside0.mk (below_step (by repeat (first | (with_reducible first | exact HB.out | apply below_alloc | apply pw_below_drewN | apply below_drew1) | exact HB.out)) hb);clear HO_4;clear HB;have HO_4:=n0_;have HB:=n1_;clear n0_ n1_;(try clear hb);(try clear hb2);(try clear hk);(try clear hi);obtain ⟨Ao16,co16,eo16⟩:=Kd.R_slice HO_4.out;subst eo16))
         go_roundg k1
         case measure => have:=HK1.out;omega
         case rel => exact ⟨(x4_1),(wrap64 (x5_1 + 1)),(wrap64 (x6_1 + 1)),(by first | rfl | (simp;done) | (simp [*];done)),(by first | rfl | (simp;done) | (simp [*];done)),H',⟨by have:=HK1.out;omega⟩,⟨by (with_reducible repeat (first | apply Kd.R_alloc | apply Kd.R_drewN | apply Kd.R_drew));exact HO_4.out⟩,⟨by repeat (first | (with_reducible first | exact HB.out | apply below_alloc | apply pw_below_drewN | apply below_drew1) | exact HB.out)⟩⟩
       ·rw [if_neg c9] at H
        have c9b0 : (t239 == 0) = false:=beq_eq_false_iff_ne.mpr c9
        have c9b1 : (t239 != 0) = true:=bne_iff_ne.mpr c9
        simp only [Option.some.injEq,Prod.mk.injEq] at H
        obtain ⟨rfl,rfl⟩:=H
        have p237 : 0 ≤ (x6_1 : Int):=of_decide_eq_true (by first | (with_reducible assumption) | assumption)
        have q237 : x6_1 < (l0.length : Int):=of_decide_eq_true (by first | (with_reducible assumption) | assumption)
        obtain ⟨ad237,A237_0,c237_0,e237,hx237_0,hl237_0,hi237_0⟩:=at_L7 HR0.out x6_1 p237 q237
        cases e237
        replace hx237_0:=(HB.out.cell (World.block_lt_of_cell? w _ hx237_0)).trans hx237_0
        have HR237_0:=Aside0.mk hi237_0
        have HC237_0:=Aside0.mk hl237_0
        clear hi237_0 hl237_0
        replace p237:=eq_true p237
        replace q237:=eq_true q237
        have p238 : 0 ≤ (x6_1 : Int):=of_decide_eq_true (by first | (with_reducible assumption) | assumption)
        have q238 : x6_1 < (l0.length : Int):=of_decide_eq_true (by first | (with_reducible assumption) | assumption)
        obtain ⟨ad238,A238_0,c238_0,e238,hx238_0,hl238_0,hi238_0⟩:=at_L7 HR0.out x6_1 p238 q238
        obtain rfl : ad237 = ad238:=(by injection e238)
        replace hx238_0:=(HB.out.cell (World.block_lt_of_cell? w _ hx238_0)).trans hx238_0
        have HR238_0:=Aside0.mk hi238_0
        have HC238_0:=Aside0.mk hl238_0
        clear hi238_0 hl238_0
        replace p238:=eq_true p238
        replace q238:=eq_true q238
        have ea_:=Option.some.inj (hx237_0.symm.trans hx238_0)
        injection ea_ with ea_ en_ ec_
        subst ea_
        subst ec_
        clear en_
        go_wp2_with (first | ((with_reducible refine gate_callee (f:=66) rfl ?_);refine goesL_ (some 28) rfl rfl Tryd.func66 (by kernel_rfl) rfl #[.slice A237_0 (rd_L7 l0 x6_1).length c237_0] rfl (by (try simp only [List.map_toArray,List.map_cons,List.map_nil]);first | done | rfl | (simp only [List.length_drop,List.length_take];rfl)) ?_;(with_reducible refine (oncewebref03_Check.calls k1 _ _ (rd_L7 l0 x6_1) t239 _ ?side1 ?side2 A8.out).mono ?_);(case side1 => repeat (first | exact (Kd.C_below HR238_0.out HB.out) | (with_reducible refine Kd.C_alloc ?_ _) | (with_reducible refine Kd.C_drewN ?_ _) | (with_reducible refine Kd.C_drew ?_)));(case side2 => exact HC238_0.out);rintro e w17 ⟨rfl,hb⟩;refine ⟨_,rfl,?_⟩;have n0_:=Aside0.mk (Kd.R_below (by (with_reducible repeat (first | apply Kd.R_alloc | apply Kd.R_drewN | apply Kd.R_drew));exact HO_4.out) hb);have n1_:=Aside0.mk (below_step (by repeat (first | (with_reducible first | exact HB.out | apply below_alloc | apply pw_below_drewN | apply below_drew1) | exact HB.out)) hb);clear HO_4;clear HB;have HO_4:=n0_;have HB:=n1_;clear n0_ n1_;(try clear hb);(try clear hb2);(try clear hk);(try clear hi)))
        go_ret2
        exact ⟨_,by first | rfl | (simp [errW_none,errW_some] <;> rfl) | (simp [*,errW_none,errW_some] <;> rfl),by first | exact Kd.R_nil _ _ _ _ _ | exact Kd.N_nil _ _ _ _ _ | exact Kd.V_nil _ _ _ _ _ | exact Kd.Q_nil _ _ _ _ _ | exact Kd.S_nil _ _ _ _ _,by repeat (first | (with_reducible first | exact HB.out | apply below_alloc | apply pw_below_drewN | apply below_drew1) | exact HB.out)⟩
     ·rw [if_neg c6] at H
      exact absurd H (by simp)
    ·rw [if_neg c5] at H
     have c5b0 : decide (x6_1 < (l0.length : Int)) = false:=decide_eq_false c5
     clear c5
     by_cases c18 : x5_1 = 0
     ·rw [if_pos c18] at H
      have c18b0 : (x5_1 == 0) = true:=beq_iff_eq.mpr c18
      have c18b1 : (x5_1 != 0) = false:=bne_eq_false_iff_eq.mpr c18
      clear c18
      simp only [Option.some.injEq,Prod.mk.injEq] at H
      obtain ⟨rfl,rfl⟩:=H
      go_wp2
      go_ret2
      exact ⟨_,by first | rfl | (simp [errW_none,errW_some] <;> rfl) | (simp [*,errW_none,errW_some] <;> rfl),by first | exact Kd.R_nil _ _ _ _ _ | exact Kd.N_nil _ _ _ _ _ | exact Kd.V_nil _ _ _ _ _ | exact Kd.Q_nil _ _ _ _ _ | exact Kd.S_nil _ _ _ _ _,by repeat (first | (with_reducible first | exact HB.out | apply below_alloc | apply pw_below_drewN | apply below_drew1) | exact HB.out)⟩
     ·rw [if_neg c18] at H
      have c18b0 : (x5_1 == 0) = false:=beq_eq_false_iff_ne.mpr c18
      have c18b1 : (x5_1 != 0) = true:=bne_iff_ne.mpr c18
      by_cases c19 : x4_1.length < 4398046511104
      ·rw [if_pos c19] at H
       have LMc19:=Aside0.mk c19
       clear c19
       obtain ⟨y231,hy231⟩ : ∃ y_ : List (S49),y_ = (x4_1 ++ [(⟨10,x5_1,(⟨#[]⟩ : ByteArray)⟩ : S49)]):=⟨_,rfl⟩
       replace H : ((oncewebref03_long.f y231).bind fun t234 => (some (t234,0))) = some (r1,r2):=by first | (rw [hy231];with_reducible exact H) | (have H2_:=(Option.bind_some _ _).symm.trans H;rw [hy231];with_reducible exact H2_) | (have H2_:=(Option.bind_some _ _).symm.trans H;with_reducible exact H2_) | with_reducible exact H | (rw [hy231];exact H) | exact H
       have Ny231:=Aside0.mk hy231
       clear hy231
       replace H:=Option.bind_eq_some_iff.mp H
       obtain ⟨t234,A200,H⟩:=H
       replace H : (some (t234,0)) = some (r1,r2):=H
       have A20:=Aside0.mk A200
       clear A200
       simp only [Option.some.injEq,Prod.mk.injEq] at H
       obtain ⟨rfl,rfl⟩:=H
       go_wp2_with (first | ((with_reducible refine gate_builtin (b:=.append) (xs:=#[.tmp 45,.tmp 48]) rfl ?_);at_builtin;refine Kd.R_append k49 (w0:=w) w.heap.size rfl (.tmp 45) (.tmp 48) 44 49 (.agg #[(.int .i64 0),(.int .i64 0),(.string ⟨#[]⟩)]) 32 rfl Tryd.underlying44 info49 rfl (by decide) (by omega) u4 x4_1 (⟨10,x5_1,(⟨#[]⟩ : ByteArray)⟩ : S49) [.int .i64 10,.int .i64 x5_1,.string (⟨#[]⟩ : ByteArray)] (fun _ => True) (fun _ => False) rfl rfl ?aP (fun _ hk => hk.elim) ?aF ?aO ?aB ?aS ?aL ?_;(case aP => exact k49_mkM _ _ _ (⟨10,x5_1,(⟨#[]⟩ : ByteArray)⟩ : S49));(case aB => exact (by repeat (first | (with_reducible first | exact HB.out | apply below_alloc | apply pw_below_drewN | apply below_drew1) | exact HB.out)));(case aF => exact (fun _ _ => trivial));(case aO => exact (by (with_reducible repeat (first | apply Kd.R_alloc | apply Kd.R_drewN | apply Kd.R_drew));exact HO_4.out));(case aS => exact (below_size (by repeat (first | (with_reducible first | exact HB.out | apply below_alloc | apply pw_below_drewN | apply below_drew1) | exact HB.out))));(case aL => have:=LMc19.out;omega);intro v232 w21 ho hb hg hat;rw [← Ny231.out] at ho;have n0_:=Aside0.mk (hb);have n1_:=Aside0.mk (ho);clear HB;clear HO_4;have HB:=n0_;have HO233:=n1_;clear n0_ n1_;clear ho hb hg hat;obtain ⟨Ao22,co22,eo22⟩:=Kd.R_slice HO233.out;subst eo22) | ((with_reducible refine gate_callee (f:=67) rfl ?_);refine goesL_ (some 50) rfl rfl Tryd.func67 (by kernel_rfl) rfl #[.slice Ao22 y231.length co22] rfl (by (try simp only [List.map_toArray,List.map_cons,List.map_nil]);first | done | rfl | (simp only [List.length_drop,List.length_take];rfl)) ?_;(with_reducible refine (oncewebref03_long.calls (fun k_ => some k_ = (.slice Ao22 y231.length co22 : Value).ownBlock) (.slice Ao22 y231.length co22) y231 t234 w _ ?side1 ?side2 A20.out).mono ?_);(case side1 => repeat (first | (with_reducible first | exact HB.out | apply below_alloc | apply pw_below_drewN | apply below_drew1) | exact HB.out));(case side2 => exact Kd.R_tight rfl HO233.out);rintro e w23 ⟨v235,rfl,ho0,hb,hkp⟩;refine ⟨_,rfl,?_⟩;have n0_:=Aside0.mk (Kd.R_mono (ok':=fun k_ => True) ho0 (fun k_ hk_ => trivial));have n1_:=Aside0.mk (hb);clear HB;clear HO233;have HO236:=n0_;have HB:=n1_;clear n0_ n1_;(try clear hb);(try clear hkp);(try clear ho0)))
       go_ret2
       exact ⟨_,by first | rfl | (simp [errW_none,errW_some] <;> rfl) | (simp [*,errW_none,errW_some] <;> rfl),by (with_reducible repeat (first | apply Kd.R_alloc | apply Kd.R_drewN | apply Kd.R_drew));exact HO236.out,by repeat (first | (with_reducible first | exact HB.out | apply below_alloc | apply pw_below_drewN | apply below_drew1) | exact HB.out)⟩
      ·rw [if_neg c19] at H
       exact absurd H (by simp)

end Go.Proofs.YtccjclmjoegibaaDoor.PCloserOrders
