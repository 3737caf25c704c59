/- A part of the proof: plain logic, contracts and laws over the given program. -/
import Derived.Test.YtflgockgjnddnaaGreatDoorMore
import Derived.Lib.AppendIntMem
import Derived.WalkKit
import Derived.Test.YtflgockgjnddnaaGreatDoorU07
set_option linter.unusedVariables false
set_option linter.unusedSimpArgs false
set_option linter.all false
section
set_option maxRecDepth 100000
set_option maxHeartbeats 4000000
namespace Go.PM.Lex
open Go.Proofs
variable {w0:World} {nG:Nat}
noncomputable def spOf:Spec:=fun args σ K=>match args,σ with
 | [.d (.int .u8 op)],⟨[],[],0⟩=>∃o:Nat,op=o∧∀l w a,(lineF o:Int)=l→wordF o=w→argsN o=a→K (.ret (.agg [.d (.int .i64 l),.d (.str w),.d (.int .i64 a)])) ⟨[],[],0⟩
 | _,_=>False
theorem spOf_mono:SpecMono spOf:=fun args σ K K' hK h=>by
 unfold spOf at h ⊢
 split at h
 ·obtain ⟨o,h1,h2⟩:=h;exact ⟨o,h1,fun l w a e1 e2 e3=>hK _ _ (h2 l w a e1 e2 e3)⟩
 ·exact h.elim
theorem of_ok:PCalls (GG w0 nG) 71 spOf:=by
 refine pcalls tab_ok mixed (tbl:=[]) trivial Tryz.func71 rfl (by kernel_rfl) (by kernel_rfl) ?_
 intro args σ K h
 unfold spOf at h
 split at h
 ·obtain ⟨o,rfl,h⟩:=h
  refine ⟨loopsOf [],0,false,by simp,Nat.le_of_ble_eq_true rfl,?_⟩
  repeat' ((conv=>whnf);refine CondP.dec (fun hc=>?_) (fun hc=>?_))
  all_goals (conv=>whnf)
  all_goals first
  | (have e : o = 16 := by omega
     subst e;exact h _ _ _ rfl rfl rfl)
  | (have e : o = 17 := by omega
     subst e;exact h _ _ _ rfl rfl rfl)
  | (have e : o = 15 := by omega
     subst e;exact h _ _ _ rfl rfl rfl)
  | (have e : o = 18 := by omega
     subst e;exact h _ _ _ rfl rfl rfl)
  | (have e : o = 19 := by omega
     subst e;exact h _ _ _ rfl rfl rfl)
  | (have e : o = 10 := by omega
     subst e;exact h _ _ _ rfl rfl rfl)
  | (have e : o = 11 := by omega
     subst e;exact h _ _ _ rfl rfl rfl)
  | (have e : o = 12 := by omega
     subst e;exact h _ _ _ rfl rfl rfl)
  | (have e : o = 13 := by omega
     subst e;exact h _ _ _ rfl rfl rfl)
  | (have e : o = 14 := by omega
     subst e;exact h _ _ _ rfl rfl rfl)
  | (have e : o = 8 := by omega
     subst e;exact h _ _ _ rfl rfl rfl)
  | (have e : o = 9 := by omega
     subst e;exact h _ _ _ rfl rfl rfl)
  | (have e : o = 20 := by omega
     subst e;exact h _ _ _ rfl rfl rfl)
  | (have e : o = 21 := by omega
     subst e;exact h _ _ _ rfl rfl rfl)
  | (have e : o = 22 := by omega
     subst e;exact h _ _ _ rfl rfl rfl)
  | (have e : o = 23 := by omega
     subst e;exact h _ _ _ rfl rfl rfl)
  | (have e : o = 24 := by omega
     subst e;exact h _ _ _ rfl rfl rfl)
  | (have e : o = 25 := by omega
     subst e;exact h _ _ _ rfl rfl rfl)
  | (have e : o = 6 := by omega
     subst e;exact h _ _ _ rfl rfl rfl)
  | (have e : o = 7 := by omega
     subst e;exact h _ _ _ rfl rfl rfl)
  | (have e : o = 1 := by omega
     subst e;exact h _ _ _ rfl rfl rfl)
  | (have e : o = 2 := by omega
     subst e;exact h _ _ _ rfl rfl rfl)
  | (have e : o = 3 := by omega
     subst e;exact h _ _ _ rfl rfl rfl)
  | (have e : o = 4 := by omega
     subst e;exact h _ _ _ rfl rfl rfl)
  | (have e : o = 5 := by omega
     subst e;exact h _ _ _ rfl rfl rfl)
  | (refine h _ _ _ ?_ ?_ ?_
     ·unfold lineF;(repeat rw [if_neg (by omega)]);rfl
     ·unfold wordF;(repeat rw [if_neg (by omega)])
     ·unfold argsN;(repeat rw [if_neg (by omega)]))
 ·exact h.elim
noncomputable def tblNam:Tbl:=[(147,spNameB),(148,spKept)]
theorem nam_ok {n:Nat} (ht:TblOK (GG w0 nG) tblNam):PCalls (GG w0 nG) 72 (spHo strV namB wBs n):=by
 refine pcalls tab_ok mixed (tbl:=tblNam) ht Tryz.func72 rfl (by kernel_rfl) (by kernel_rfl) ?_
 intro args σ K h
 unfold spHo at h
 split at h
 ·obtain ⟨pl,s,rfl,⟨hz,hn⟩,h⟩:=h
  unfold wBs at hz
  refine ⟨loopsOf [],0,false,by simp,Nat.le_of_ble_eq_true rfl,?_⟩
  conv=>whnf
  refine ⟨by omega,?_⟩
  conv=>whnf
  refine CondP.intro (fun hc0=>?_) (fun hc0=>?_)
  rotate_left
  ·(conv=>whnf);exact h _ (by simp [namB,hc0])
  conv=>whnf
  refine CondP.ndec (fun hc1=>?_) (fun hc1=>?_)
  rotate_left
  ·(conv=>whnf);exact h _ (by simp only [namB,hc0,hc1];decide)
  conv=>whnf
  refine fun b hb=>?_
  conv=>whnf
  exact h _ (by rw [namB,hc0,hb,decide_eq_false hc1];simp)
 ·exact h.elim
noncomputable def tblHE (n:Nat):Tbl:=[(71,spOf),(72,spHo strV namB wBs n),(73,spQuote),(74,spB (spAl 29 encE mayE wE) n)]
theorem hE_ok {n:Nat} (ht:TblOK (GG w0 nG) (tblHE n)):PCalls (GG w0 nG) 29 (spHo (aggV encE) mayE wE n):=by
 refine pcalls tab_ok mixed (tbl:=tblHE n) ht Tryz.func29 rfl (by kernel_rfl) (by kernel_rfl) ?_
 intro args σ K h
 unfold spHo at h
 split at h
 ·obtain ⟨pl,⟨a1,a2,a3,a4,a5⟩,rfl,⟨hz,hn⟩,h⟩:=h
  simp only [wE,wEs_eq] at hz
  refine ⟨loopsOf [],0,false,by simp,Nat.le_of_ble_eq_true rfl,?_⟩
  have hl4:(encEs pl a4).length=a4.length:=by rw [encEs_eq,List.length_map]
  conv=>whnf
  refine ⟨a1,rfl,fun l w a hl hw ha=>?_⟩
  conv=>whnf
  refine CondP.dec (fun hop=>?_) (fun hop=>?_)
  ·have hopI:=hop
   have hop:a1=1:=by omega
   conv=>whnf
   refine CondP.dec (fun _=>?_) (fun hx=>absurd hopI hx)
   conv=>whnf
   refine ⟨fun _=>0,a2,rfl,⟨by simp only [wBs];omega,by omega⟩,fun b hb0=>?_⟩
   cases b with
   | false =>
    have htx:textB a1 a2=false:=by simp [textB,hop,hb0]
    conv=>whnf
    refine CondP.dec (fun h1=>?_) (fun h1=>?_)
    rotate_left
    ·have h1:¬-2<a:=h1;(conv=>whnf);exact h _ (by simp [mayE,ha,h1])
    conv=>whnf
    refine CondP.dec (fun h2=>?_) (fun h2=>?_)
    ·conv=>whnf
     refine CondP.dec (fun h3=>?_) (fun h3=>?_)
     ·conv=>whnf
      exact h _ (by simp [mayE,htx])
     conv=>whnf
     refine CondP.dec (fun h5=>?_) (fun h5=>?_)
     rotate_left
     ·have h5:¬a1=3:=by omega
      (conv=>whnf);exact h _ (by simp [mayE,h3,h5])
     have h5:a1=3:=by omega
     have hor:(decide (a3=0) || decide (a1=3))=true:=by simp [h5]
     conv=>whnf
     exact h _ (by simp [mayE,htx])
    conv=>whnf
    refine CondP.dec (fun h6=>?_) (fun h6=>?_)
    rotate_left
    ·have h6:¬(a4.length:Int)=a:=fun g=>h6 (by show ((encEs pl a4).length:Int)=a;rw [hl4];exact g)
     (conv=>whnf);exact h _ (by simp [mayE,ha,h2,h6])
    have h6:(a4.length:Int)=a:=by rw [← hl4];exact h6
    conv=>whnf
    refine CondP.dec (fun h3=>?_) (fun h3=>?_)
    ·conv=>whnf
     exact h _ (by simp [mayE,htx])
    conv=>whnf
    refine CondP.dec (fun h5=>?_) (fun h5=>?_)
    rotate_left
    ·have h5:¬a1=3:=by omega
     (conv=>whnf);exact h _ (by simp [mayE,h3,h5])
    have h5:a1=3:=by omega
    have hor:(decide (a3=0) || decide (a1=3))=true:=by simp [h5]
    conv=>whnf
    exact h _ (by simp [mayE,htx])
   | true =>
    have htx:textB a1 a2=true:=by simp [textB,hop,hb0]
    conv=>whnf
    refine CondP.dec (fun h1=>?_) (fun h1=>?_)
    rotate_left
    ·have h1:¬-2<a:=h1;(conv=>whnf);exact h _ (by simp [mayE,ha,h1])
    conv=>whnf
    refine CondP.dec (fun h2=>?_) (fun h2=>?_)
    ·conv=>whnf
     refine CondP.dec (fun h3=>?_) (fun h3=>?_)
     ·conv=>whnf
      refine ⟨by omega,pl,a4,encEs_eq _ _,⟨rfl,by omega,by omega⟩,fun b hb=>?_⟩
      conv=>whnf
      exact h _ (by simp [mayE,mayEs_eq,ha,htx,hb,h1,h2,h3])
     conv=>whnf
     refine CondP.dec (fun h5=>?_) (fun h5=>?_)
     rotate_left
     ·have h5:¬a1=3:=by omega
      (conv=>whnf);exact h _ (by simp [mayE,h3,h5])
     have h5:a1=3:=by omega
     have hor:(decide (a3=0) || decide (a1=3))=true:=by simp [h5]
     conv=>whnf
     refine ⟨by omega,pl,a4,encEs_eq _ _,⟨rfl,by omega,by omega⟩,fun b hb=>?_⟩
     conv=>whnf
     exact h _ (by simp [mayE,mayEs_eq,ha,htx,hb,h1,h2,hor])
    conv=>whnf
    refine CondP.dec (fun h6=>?_) (fun h6=>?_)
    rotate_left
    ·have h6:¬(a4.length:Int)=a:=fun g=>h6 (by show ((encEs pl a4).length:Int)=a;rw [hl4];exact g)
     (conv=>whnf);exact h _ (by simp [mayE,ha,h2,h6])
    have h6:(a4.length:Int)=a:=by rw [← hl4];exact h6
    conv=>whnf
    refine CondP.dec (fun h3=>?_) (fun h3=>?_)
    ·conv=>whnf
     refine ⟨by omega,pl,a4,encEs_eq _ _,⟨rfl,by omega,by omega⟩,fun b hb=>?_⟩
     conv=>whnf
     exact h _ (by simp [mayE,mayEs_eq,ha,htx,hb,h1,h6,h3])
    conv=>whnf
    refine CondP.dec (fun h5=>?_) (fun h5=>?_)
    rotate_left
    ·have h5:¬a1=3:=by omega
     (conv=>whnf);exact h _ (by simp [mayE,h3,h5])
    have h5:a1=3:=by omega
    have hor:(decide (a3=0) || decide (a1=3))=true:=by simp [h5]
    conv=>whnf
    refine ⟨by omega,pl,a4,encEs_eq _ _,⟨rfl,by omega,by omega⟩,fun b hb=>?_⟩
    conv=>whnf
    exact h _ (by simp [mayE,mayEs_eq,ha,htx,hb,h1,h6,hor])
  conv=>whnf
  refine CondP.dec (fun hop7=>?_) (fun hop7=>?_)
  ·have hop:a1=7:=by omega
   conv=>whnf
   refine ⟨fun _=>0,a2,rfl,⟨by simp only [wBs];omega,by omega⟩,fun b hb0=>?_⟩
   cases b with
   | false =>
    have htx:textB a1 a2=false:=by simp [textB,hop,hb0]
    conv=>whnf
    refine CondP.dec (fun h1=>?_) (fun h1=>?_)
    rotate_left
    ·have h1:¬-2<a:=h1;(conv=>whnf);exact h _ (by simp [mayE,ha,h1])
    conv=>whnf
    refine CondP.dec (fun h2=>?_) (fun h2=>?_)
    ·conv=>whnf
     refine CondP.dec (fun h3=>?_) (fun h3=>?_)
     ·conv=>whnf
      exact h _ (by simp [mayE,htx])
     conv=>whnf
     refine CondP.dec (fun h5=>?_) (fun h5=>?_)
     rotate_left
     ·have h5:¬a1=3:=by omega
      (conv=>whnf);exact h _ (by simp [mayE,h3,h5])
     have h5:a1=3:=by omega
     have hor:(decide (a3=0) || decide (a1=3))=true:=by simp [h5]
     conv=>whnf
     exact h _ (by simp [mayE,htx])
    conv=>whnf
    refine CondP.dec (fun h6=>?_) (fun h6=>?_)
    rotate_left
    ·have h6:¬(a4.length:Int)=a:=fun g=>h6 (by show ((encEs pl a4).length:Int)=a;rw [hl4];exact g)
     (conv=>whnf);exact h _ (by simp [mayE,ha,h2,h6])
    have h6:(a4.length:Int)=a:=by rw [← hl4];exact h6
    conv=>whnf
    refine CondP.dec (fun h3=>?_) (fun h3=>?_)
    ·conv=>whnf
     exact h _ (by simp [mayE,htx])
    conv=>whnf
    refine CondP.dec (fun h5=>?_) (fun h5=>?_)
    rotate_left
    ·have h5:¬a1=3:=by omega
     (conv=>whnf);exact h _ (by simp [mayE,h3,h5])
    have h5:a1=3:=by omega
    have hor:(decide (a3=0) || decide (a1=3))=true:=by simp [h5]
    conv=>whnf
    exact h _ (by simp [mayE,htx])
   | true =>
    have htx:textB a1 a2=true:=by simp [textB,hop,hb0]
    conv=>whnf
    refine CondP.dec (fun h1=>?_) (fun h1=>?_)
    rotate_left
    ·have h1:¬-2<a:=h1;(conv=>whnf);exact h _ (by simp [mayE,ha,h1])
    conv=>whnf
    refine CondP.dec (fun h2=>?_) (fun h2=>?_)
    ·conv=>whnf
     refine CondP.dec (fun h3=>?_) (fun h3=>?_)
     ·conv=>whnf
      refine ⟨by omega,pl,a4,encEs_eq _ _,⟨rfl,by omega,by omega⟩,fun b hb=>?_⟩
      conv=>whnf
      exact h _ (by simp [mayE,mayEs_eq,ha,htx,hb,h1,h2,h3])
     conv=>whnf
     refine CondP.dec (fun h5=>?_) (fun h5=>?_)
     rotate_left
     ·have h5:¬a1=3:=by omega
      (conv=>whnf);exact h _ (by simp [mayE,h3,h5])
     have h5:a1=3:=by omega
     have hor:(decide (a3=0) || decide (a1=3))=true:=by simp [h5]
     conv=>whnf
     refine ⟨by omega,pl,a4,encEs_eq _ _,⟨rfl,by omega,by omega⟩,fun b hb=>?_⟩
     conv=>whnf
     exact h _ (by simp [mayE,mayEs_eq,ha,htx,hb,h1,h2,hor])
    conv=>whnf
    refine CondP.dec (fun h6=>?_) (fun h6=>?_)
    rotate_left
    ·have h6:¬(a4.length:Int)=a:=fun g=>h6 (by show ((encEs pl a4).length:Int)=a;rw [hl4];exact g)
     (conv=>whnf);exact h _ (by simp [mayE,ha,h2,h6])
    have h6:(a4.length:Int)=a:=by rw [← hl4];exact h6
    conv=>whnf
    refine CondP.dec (fun h3=>?_) (fun h3=>?_)
    ·conv=>whnf
     refine ⟨by omega,pl,a4,encEs_eq _ _,⟨rfl,by omega,by omega⟩,fun b hb=>?_⟩
     conv=>whnf
     exact h _ (by simp [mayE,mayEs_eq,ha,htx,hb,h1,h6,h3])
    conv=>whnf
    refine CondP.dec (fun h5=>?_) (fun h5=>?_)
    rotate_left
    ·have h5:¬a1=3:=by omega
     (conv=>whnf);exact h _ (by simp [mayE,h3,h5])
    have h5:a1=3:=by omega
    have hor:(decide (a3=0) || decide (a1=3))=true:=by simp [h5]
    conv=>whnf
    refine ⟨by omega,pl,a4,encEs_eq _ _,⟨rfl,by omega,by omega⟩,fun b hb=>?_⟩
    conv=>whnf
    exact h _ (by simp [mayE,mayEs_eq,ha,htx,hb,h1,h6,hor])
  have hop:¬a1=1:=by omega
  have hop7:¬a1=7:=by omega
  conv=>whnf
  refine CondP.dec (fun hop4=>?_) (fun hop4=>?_)
  ·have hop4:a1=4:=by omega
   conv=>whnf
   refine ⟨by omega,fun hq=>?_,fun q hq=>?_⟩
   ·have htx:textB a1 a2=false:=by simp [textB,hop4,hq]
    conv=>whnf
    refine CondP.dec (fun h1=>?_) (fun h1=>?_)
    rotate_left
    ·have h1:¬-2<a:=h1;(conv=>whnf);exact h _ (by simp [mayE,ha,h1])
    conv=>whnf
    refine CondP.dec (fun h2=>?_) (fun h2=>?_)
    ·conv=>whnf
     refine CondP.dec (fun h3=>?_) (fun h3=>?_)
     ·conv=>whnf
      exact h _ (by simp [mayE,htx])
     conv=>whnf
     refine CondP.dec (fun h5=>?_) (fun h5=>?_)
     rotate_left
     ·have h5:¬a1=3:=by omega
      (conv=>whnf);exact h _ (by simp [mayE,h3,h5])
     have h5:a1=3:=by omega
     have hor:(decide (a3=0) || decide (a1=3))=true:=by simp [h5]
     conv=>whnf
     exact h _ (by simp [mayE,htx])
    conv=>whnf
    refine CondP.dec (fun h6=>?_) (fun h6=>?_)
    rotate_left
    ·have h6:¬(a4.length:Int)=a:=fun g=>h6 (by show ((encEs pl a4).length:Int)=a;rw [hl4];exact g)
     (conv=>whnf);exact h _ (by simp [mayE,ha,h2,h6])
    have h6:(a4.length:Int)=a:=by rw [← hl4];exact h6
    conv=>whnf
    refine CondP.dec (fun h3=>?_) (fun h3=>?_)
    ·conv=>whnf
     exact h _ (by simp [mayE,htx])
    conv=>whnf
    refine CondP.dec (fun h5=>?_) (fun h5=>?_)
    rotate_left
    ·have h5:¬a1=3:=by omega
     (conv=>whnf);exact h _ (by simp [mayE,h3,h5])
    have h5:a1=3:=by omega
    have hor:(decide (a3=0) || decide (a1=3))=true:=by simp [h5]
    conv=>whnf
    exact h _ (by simp [mayE,htx])
   ·have htx:textB a1 a2=true:=by simp [textB,hop4,hq]
    conv=>whnf
    refine CondP.dec (fun h1=>?_) (fun h1=>?_)
    rotate_left
    ·have h1:¬-2<a:=h1;(conv=>whnf);exact h _ (by simp [mayE,ha,h1])
    conv=>whnf
    refine CondP.dec (fun h2=>?_) (fun h2=>?_)
    ·conv=>whnf
     refine CondP.dec (fun h3=>?_) (fun h3=>?_)
     ·conv=>whnf
      refine ⟨by omega,pl,a4,encEs_eq _ _,⟨rfl,by omega,by omega⟩,fun b hb=>?_⟩
      conv=>whnf
      exact h _ (by simp [mayE,mayEs_eq,ha,htx,hb,h1,h2,h3])
     conv=>whnf
     refine CondP.dec (fun h5=>?_) (fun h5=>?_)
     rotate_left
     ·have h5:¬a1=3:=by omega
      (conv=>whnf);exact h _ (by simp [mayE,h3,h5])
     have h5:a1=3:=by omega
     have hor:(decide (a3=0) || decide (a1=3))=true:=by simp [h5]
     conv=>whnf
     refine ⟨by omega,pl,a4,encEs_eq _ _,⟨rfl,by omega,by omega⟩,fun b hb=>?_⟩
     conv=>whnf
     exact h _ (by simp [mayE,mayEs_eq,ha,htx,hb,h1,h2,hor])
    conv=>whnf
    refine CondP.dec (fun h6=>?_) (fun h6=>?_)
    rotate_left
    ·have h6:¬(a4.length:Int)=a:=fun g=>h6 (by show ((encEs pl a4).length:Int)=a;rw [hl4];exact g)
     (conv=>whnf);exact h _ (by simp [mayE,ha,h2,h6])
    have h6:(a4.length:Int)=a:=by rw [← hl4];exact h6
    conv=>whnf
    refine CondP.dec (fun h3=>?_) (fun h3=>?_)
    ·conv=>whnf
     refine ⟨by omega,pl,a4,encEs_eq _ _,⟨rfl,by omega,by omega⟩,fun b hb=>?_⟩
     conv=>whnf
     exact h _ (by simp [mayE,mayEs_eq,ha,htx,hb,h1,h6,h3])
    conv=>whnf
    refine CondP.dec (fun h5=>?_) (fun h5=>?_)
    rotate_left
    ·have h5:¬a1=3:=by omega
     (conv=>whnf);exact h _ (by simp [mayE,h3,h5])
    have h5:a1=3:=by omega
    have hor:(decide (a3=0) || decide (a1=3))=true:=by simp [h5]
    conv=>whnf
    refine ⟨by omega,pl,a4,encEs_eq _ _,⟨rfl,by omega,by omega⟩,fun b hb=>?_⟩
    conv=>whnf
    exact h _ (by simp [mayE,mayEs_eq,ha,htx,hb,h1,h6,hor])
  have hop4:¬a1=4:=by omega
  have htx:textB a1 a2=decide (a2=[]):=by simp [textB,hop,hop7,hop4]
  conv=>whnf
  refine CondP.dec (fun h1=>?_) (fun h1=>?_)
  rotate_left
  ·have h1:¬-2<a:=h1;(conv=>whnf);exact h _ (by simp [mayE,ha,h1])
  conv=>whnf
  refine CondP.dec (fun h2=>?_) (fun h2=>?_)
  ·conv=>whnf
   refine CondP.dec (fun h3=>?_) (fun h3=>?_)
   ·conv=>whnf
    refine CondP.dec (fun h4=>?_) (fun h4=>?_)
    rotate_left
    ·(conv=>whnf);exact h _ (by simp [mayE,htx,h4])
    rw [decide_eq_true h4] at htx
    conv=>whnf
    refine ⟨by omega,pl,a4,encEs_eq _ _,⟨rfl,by omega,by omega⟩,fun b hb=>?_⟩
    conv=>whnf
    exact h _ (by simp [mayE,mayEs_eq,ha,htx,hb,h1,h2,h3])
   conv=>whnf
   refine CondP.dec (fun h5=>?_) (fun h5=>?_)
   rotate_left
   ·have h5:¬a1=3:=by omega
    (conv=>whnf);exact h _ (by simp [mayE,h3,h5])
   have h5:a1=3:=by omega
   have hor:(decide (a3=0) || decide (a1=3))=true:=by simp [h5]
   conv=>whnf
   refine CondP.dec (fun h4=>?_) (fun h4=>?_)
   rotate_left
   ·(conv=>whnf);exact h _ (by simp [mayE,htx,h4])
   rw [decide_eq_true h4] at htx
   conv=>whnf
   refine ⟨by omega,pl,a4,encEs_eq _ _,⟨rfl,by omega,by omega⟩,fun b hb=>?_⟩
   conv=>whnf
   exact h _ (by simp [mayE,mayEs_eq,ha,htx,hb,h1,h2,hor])
  conv=>whnf
  refine CondP.dec (fun h6=>?_) (fun h6=>?_)
  rotate_left
  ·have h6:¬(a4.length:Int)=a:=fun g=>h6 (by show ((encEs pl a4).length:Int)=a;rw [hl4];exact g)
   (conv=>whnf);exact h _ (by simp [mayE,ha,h2,h6])
  have h6:(a4.length:Int)=a:=by rw [← hl4];exact h6
  conv=>whnf
  refine CondP.dec (fun h3=>?_) (fun h3=>?_)
  ·conv=>whnf
   refine CondP.dec (fun h4=>?_) (fun h4=>?_)
   rotate_left
   ·(conv=>whnf);exact h _ (by simp [mayE,htx,h4])
   rw [decide_eq_true h4] at htx
   conv=>whnf
   refine ⟨by omega,pl,a4,encEs_eq _ _,⟨rfl,by omega,by omega⟩,fun b hb=>?_⟩
   conv=>whnf
   exact h _ (by simp [mayE,mayEs_eq,ha,htx,hb,h1,h6,h3])
  conv=>whnf
  refine CondP.dec (fun h5=>?_) (fun h5=>?_)
  rotate_left
  ·have h5:¬a1=3:=by omega
   (conv=>whnf);exact h _ (by simp [mayE,h3,h5])
  have h5:a1=3:=by omega
  have hor:(decide (a3=0) || decide (a1=3))=true:=by simp [h5]
  conv=>whnf
  refine CondP.dec (fun h4=>?_) (fun h4=>?_)
  rotate_left
  ·(conv=>whnf);exact h _ (by simp [mayE,htx,h4])
  rw [decide_eq_true h4] at htx
  conv=>whnf
  refine ⟨by omega,pl,a4,encEs_eq _ _,⟨rfl,by omega,by omega⟩,fun b hb=>?_⟩
  conv=>whnf
  exact h _ (by simp [mayE,mayEs_eq,ha,htx,hb,h1,h6,hor])
 ·exact h.elim
end Go.PM.Lex
end

section
set_option maxRecDepth 100000
set_option maxHeartbeats 4000000
namespace Go.PM.Lex
open Go.Proofs
variable {w0:World} {nG:Nat}
structure LexC (w0:World) (nG:Nat):Prop where
 name:PCalls (GG w0 nG) 147 spNameB
 quote:PCalls (GG w0 nG) 73 spQuote
variable (hL:LexC w0 nG)
include hL
theorem cNam (n:Nat):PCalls (GG w0 nG) 72 (spHo strV namB wBs n):=nam_ok ⟨⟨hL.name,spNameB_mono⟩,⟨kept_ok,spKept_mono⟩,trivial⟩
theorem cHE:∀n,PCalls (GG w0 nG) 29 (spHo (aggV encE) mayE wE n)
 | 0=>hE_ok ⟨⟨of_ok,spOf_mono⟩,⟨cNam hL _,spHo_mono _ _ _ _⟩,⟨hL.quote,spQuote_mono⟩,⟨pcalls_none (enters_of Tryz.func74 (by kernel_rfl) rfl),spB_mono (spAl_mono _ _ _ _) _⟩,trivial⟩
 | n+1=>hE_ok ⟨⟨of_ok,spOf_mono⟩,⟨cNam hL _,spHo_mono _ _ _ _⟩,⟨hL.quote,spQuote_mono⟩,⟨pcalls_less (sp:=spAl 29 encE mayE wE) (calE (cHE n)),spB_mono (spAl_mono _ _ _ _) _⟩,trivial⟩
end Go.PM.Lex
end

section
set_option maxRecDepth 100000
set_option maxHeartbeats 4000000
namespace Go.PM.Lex
open Go.Proofs Go.Shelf Go.RowKit
variable {w0:World} {nG:Nat}
theorem liesW:liesAt Tryz.prog Tryz.prog.depth 84 (2 / Tryz.prog.cellsOf 84) 0 82 1=true:=by kernel_rfl
theorem copy_freshW (b:Nat) (w:World) (h0:w.cell? ⟨b,0,none⟩=some (.pointer none)) (hsh:w.shape? b=some (84,2)) (hfz:w.frozen? ⟨b,0,none⟩=false) :
  Calls Tryz.prog 214 #[.pointer (some ⟨b,0,none⟩)] w fun e w'=>e=.returned (.tuple #[])∧w'=w.setCell ⟨b,0,none⟩ (.pointer (some ⟨b,0,none⟩)):=by
 obtain ⟨j,hj,hjs⟩:=i53
 go_enter Tryz.func214,Tryz.ntmps214
 go_wp2
 rw [Go.Lib.run_to_unsafe w ⟨b,0,none⟩ u50 u95 hj (by rw [hjs];decide) hsh (Nat.zero_lt_succ 1)]
 simp only [Result.andThen]
 rw [Oper.upon_value]
 go_wp2
 rw [run_callFunc_extern Tryz.func269 (by kernel_rfl) (by kernel_rfl) (by kernel_rfl) (e:=Extern.AbiNoEscape.same) (by kernel_rfl)]
 rw [Go.Lib.run_noEscape]
 simp only [Result.andThen]
 rw [Oper.upon_value]
 go_wp2
 rw [Go.Lib.run_from_unsafe w ⟨b,0,none⟩ u95 u50 hj hsh liesW]
 simp only [Result.andThen]
 rw [Oper.upon_value]
 go_wp2
 go_end0
 exact ⟨rfl,rfl⟩
noncomputable def spCopyCheckW:Spec:=fun args σ K=>match args,σ with
 | [.ptr 0 0],⟨[.cells t [p,q]],tk,nx⟩=>((p=.d .nilp∨p=.ptr 0 0)∧t=84)∧K (.ret (.tuple [])) ⟨[.cells t [.ptr 0 0,q]],tk,nx⟩
 | _,_=>False
theorem spCopyCheckW_mono:SpecMono spCopyCheckW:=fun args σ K K' hK h=>by
 unfold spCopyCheckW at h ⊢;split at h <;> first | exact ⟨h.1,hK _ _ h.2⟩ | exact h.elim
theorem copyCheckW_ok:PCalls (GG w0 nG) 214 spCopyCheckW:=pcalls_mach (enters_of Tryz.func214 (by kernel_rfl) rfl) fun args σ K h e w vs hS ha=>by
 unfold spCopyCheckW at h
 split at h
 ·rename_i t p q tk nx
  obtain ⟨⟨hp,rfl⟩,hK⟩:=h
  obtain ⟨u,rfl,hu⟩:=args1 ha
  obtain ⟨cv,hc1,hc2,hc3⟩:=hS.box 0 _ rfl
  have hcs:cv.size=2:=hc2
  obtain ⟨x0,hx0⟩:∃x,cv[0]?=some x:=⟨cv[0]'(by omega),by simp [hcs]⟩
  have hr0:=(hc3 0 p x0 rfl hx0).1
  cases hu with
  | ptr b off hb =>
  refine ⟨_,_,.tuple #[],hK,?_⟩
  rcases hp with rfl | rfl
  ·cases hr0 with
   | d _ _ hd =>
   cases hd
   refine Calls.mono (copy_freshW (e.β 0) w ?_ ?_ ?_) fun en w' ⟨h1,h2⟩=>?_
   ·simp [World.cell?,hc1,hx0]
   ·simp only [World.shape?,hc1,hcs]
   ·simp [World.frozen?,hc1]
   ·have hst:=store_exact (G:=GG w0 nG) (T:=Tab0) tab_ok hS (t:=79) (b:=0) (off:=0) (x:=.ptr 0 0) (v:=.pointer (some ⟨e.β 0,0,none⟩)) (l:=[.ptr 0 0]) (cs:=[.d .nilp,q]) (ty:=84) rfl (.ptr 0 0 hb) rfl rfl (by simp) (by intro h;cases h)
    rw [h2]
    exact ⟨h1,.tuple [] #[] rfl (fun i x u hx=>by simp at hx),hst.2,hst.1.toLater⟩
  ·cases hr0 with
   | ptr _ _ _ =>
   refine Calls.mono (copy_used (e.β 0) w (by simp [World.cell?,hc1,hx0])) fun en w' ⟨h1,h2⟩=>?_
   rw [h2]
   exact ⟨h1,.tuple [] #[] rfl (fun i x u hx=>by simp at hx),hS,Later.refl _ _ _⟩
 ·exact h.elim
theorem str_exact2 {ty:TypeId} {P:Program} {ρ:Ren} (L:Lays.n169 P ρ) (X:Builder.Extra P ρ) (b g cap:Nat) (p:Value) (cur:Array Value) (fz:Nat×Nat) (l:Bs) (w:World) (h0:l≠[])
  (hbk:w.heap[b]?=some (.cells #[p,.slice (some ⟨g,0,none⟩) l.length cap] ty (0,0))) (hg:w.heap[g]?=some (.cells cur (ρ.t 5) fz)) (hn:l.length≤cur.size) (hcap:cap≠0) (hbig:l.length≤9223372036854775807)
  (hcell:∀j x,l[j]?=some x→w.cell? ⟨g,j,none⟩=some (.int .u8 x.toNat)) :
  Calls P (ρ.f 169) #[.pointer (some ⟨b,0,none⟩)] w fun e w'=>e=.returned (.string ⟨l.toArray⟩)∧w'=w.drew.freeze ⟨g,0,none⟩ l.length:=by
 have c1:w.drew.cell? ⟨b,1,none⟩=some (.slice (some ⟨g,0,none⟩) l.length cap):=by
  have:w.drew.heap[b]?=some (.cells #[p,.slice (some ⟨g,0,none⟩) l.length cap] ty (0,0)):=hbk
  rw [Go.Lib.cell_of_heap this];rfl
 have hSD:(Builtin.unsafeSliceData_ #[(ρ.t 37)] (ρ.t 127) #[.slice (some ⟨g,0,none⟩) l.length cap]).run P w.drew=.ok (.pointer (some ⟨g,0,none⟩)) w.drew :=
  Go.Lib.run_unsafeSliceData_row _ _ _ _ _ _ hcap
 have hUS:(Builtin.unsafeString_ #[(ρ.t 127),(ρ.t 3)] (ρ.t 9) #[.pointer (some ⟨g,0,none⟩),.int .i64 l.length]).run P w.drew=.ok (.string ⟨l.toArray⟩) (w.drew.freeze ⟨g,0,none⟩ l.length):=by
  refine Go.Lib.run_unsafeString_row w.drew (ρ.t 127) (ρ.t 3) (ρ.t 9) (ρ.t 5) L.t127 X.cellsByte g cur.size (by have hg':w.drew.heap[g]?=some (.cells cur (ρ.t 5) fz):=hg;simp [World.shape?,hg']) l h0 hn hbig ?_
  intro j x hx
  have:=hcell j x hx
  rw [add_addr,Nat.zero_add];exact this
 have mixed:=L.mixed
 have t72:=L.t72;have a72:=L.a72;have z72:=L.z72;have v72:=L.v72;have u72:=run_underlying L.t72
 have t70:=L.t70;have a70:=L.a70;have z70:=L.z70;have v70:=L.v70;have u70:=run_underlying L.t70
 have t37:=L.t37;have a37:=L.a37;have z37:=L.z37;have v37:=L.v37;have u37:=run_underlying L.t37
 have t127:=L.t127;have a127:=L.a127;have z127:=L.z127;have v127:=L.v127;have u127:=run_underlying L.t127
 have t3:=L.t3;have a3:=L.a3;have z3:=L.z3;have v3:=L.v3;have u3:=run_underlying L.t3
 have t9:=L.t9;have a9:=L.a9;have z9:=L.z9;have v9:=L.v9;have u9:=run_underlying L.t9
 have t5:=X.t5;have a5:=X.a5;have z5:=X.z5;have v5:=X.v5;have u5:=run_underlying X.t5
 go_enter L.f169,Body.n169_ntmps ρ
 go_wp2
 go_region_o
 all_goals (go_wp2;go_ret;exact ⟨rfl,rfl⟩)
theorem str_nil2 {ty:TypeId} {P:Program} {ρ:Ren} (L:Lays.n169 P ρ) (X:Builder.Extra P ρ) (B b:Nat) (p:Value) (w:World) (hbk:w.heap[b]?=some (.cells #[p,.slice none 0 0] ty (0,0))) :
  Calls P (ρ.f 169) #[.pointer (some ⟨b,0,none⟩)] w fun e w'=>e=.returned (.string ⟨#[]⟩)∧Below B w w':=by
 have hUS:=Any.unsafeString_none L X
 have c1:w.drew.cell? ⟨b,1,none⟩=some (.slice none 0 0):=by
  have:w.drew.heap[b]?=some (.cells #[p,.slice none 0 0] ty (0,0)):=hbk
  rw [Lib.cell_of_heap this];rfl
 have hSD:(Builtin.unsafeSliceData_ #[(ρ.t 37)] (ρ.t 127) #[.slice none 0 0]).run P w.drew=.ok (.pointer none) w.drew:=rfl
 have mixed:=L.mixed
 have t72:=L.t72;have a72:=L.a72;have z72:=L.z72;have v72:=L.v72;have u72:=run_underlying L.t72
 have t70:=L.t70;have a70:=L.a70;have z70:=L.z70;have v70:=L.v70;have u70:=run_underlying L.t70
 have t37:=L.t37;have a37:=L.a37;have z37:=L.z37;have v37:=L.v37;have u37:=run_underlying L.t37
 have t127:=L.t127;have a127:=L.a127;have z127:=L.z127;have v127:=L.v127;have u127:=run_underlying L.t127
 have t3:=L.t3;have a3:=L.a3;have z3:=L.z3;have v3:=L.v3;have u3:=run_underlying L.t3
 have t9:=L.t9;have a9:=L.a9;have z9:=L.z9;have v9:=L.v9;have u9:=run_underlying L.t9
 have t5:=X.t5;have a5:=X.a5;have z5:=X.z5;have v5:=X.v5;have u5:=run_underlying X.t5
 go_enter L.f169,Body.n169_ntmps ρ
 go_wp2
 go_region_o
 all_goals (go_wp2;go_ret;exact ⟨rfl,Below.drew (Below.refl B w)⟩)
theorem str_room2 {ty:TypeId} {P:Program} {ρ:Ren} (L:Lays.n169 P ρ) (X:Builder.Extra P ρ) (B b g cap:Nat) (p:Value) (w:World) (hc0:cap≠0) (hbk:w.heap[b]?=some (.cells #[p,.slice (some ⟨g,0,none⟩) 0 cap] ty (0,0))) :
  Calls P (ρ.f 169) #[.pointer (some ⟨b,0,none⟩)] w fun e w'=>e=.returned (.string ⟨#[]⟩)∧Below B w w':=by
 have hUS:=Any.unsafeString_none L X
 have c1:w.drew.cell? ⟨b,1,none⟩=some (.slice (some ⟨g,0,none⟩) 0 cap):=by
  have:w.drew.heap[b]?=some (.cells #[p,.slice (some ⟨g,0,none⟩) 0 cap] ty (0,0)):=hbk
  rw [Lib.cell_of_heap this];rfl
 have hSD:(Builtin.unsafeSliceData_ #[(ρ.t 37)] (ρ.t 127) #[.slice (some ⟨g,0,none⟩) 0 cap]).run P w.drew=.ok (.pointer (some ⟨g,0,none⟩)) w.drew:=Go.Lib.run_unsafeSliceData_row _ _ _ _ _ _ hc0
 clear hc0
 have mixed:=L.mixed
 have t72:=L.t72;have a72:=L.a72;have z72:=L.z72;have v72:=L.v72;have u72:=run_underlying L.t72
 have t70:=L.t70;have a70:=L.a70;have z70:=L.z70;have v70:=L.v70;have u70:=run_underlying L.t70
 have t37:=L.t37;have a37:=L.a37;have z37:=L.z37;have v37:=L.v37;have u37:=run_underlying L.t37
 have t127:=L.t127;have a127:=L.a127;have z127:=L.z127;have v127:=L.v127;have u127:=run_underlying L.t127
 have t3:=L.t3;have a3:=L.a3;have z3:=L.z3;have v3:=L.v3;have u3:=run_underlying L.t3
 have t9:=L.t9;have a9:=L.a9;have z9:=L.z9;have v9:=L.v9;have u9:=run_underlying L.t9
 have t5:=X.t5;have a5:=X.a5;have z5:=X.z5;have v5:=X.v5;have u5:=run_underlying X.t5
 go_enter L.f169,Body.n169_ntmps ρ
 go_wp2
 go_region_o
 all_goals (go_wp2;go_ret;exact ⟨rfl,Below.drew (Below.refl B w)⟩)
end Go.PM.Lex
end

section
set_option maxRecDepth 100000
set_option maxHeartbeats 4000000
namespace Go.PM.Lex
open Go.Proofs
variable {w0:World} {nG:Nat}
noncomputable def wrSp (r:PV) (body:List PV→Bs→Prop):Spec:=fun args σ K=>match args,σ with
 | .ptr 0 0::rest,⟨[.cells t [p,.sl 0 e rows]],[0],1⟩=>∃l txt,rows=bytesR l∧((p=.d .nilp∨p=.ptr 0 0)∧t=84∧e=5)∧body rest txt∧l.length+txt.length<70368744177664 ∧
   K (.ret r) ⟨[.cells t [.ptr 0 0,.sl 0 e (bytesR (l++txt))]],[0],1⟩
 | _,_=>False
theorem wrSp_mono (r:PV) (body:List PV→Bs→Prop):SpecMono (wrSp r body):=fun args σ K K' hK h=>by
 unfold wrSp at h ⊢
 split at h
 ·obtain ⟨l,txt,h1,h2,h3,h4,h5⟩:=h;exact ⟨l,txt,h1,h2,h3,h4,hK _ _ h5⟩
 ·exact h.elim
noncomputable def spOne {α:Type} (val:Pl→α→PV) (may:α→Bool) (txt:α→Bs) (w:α→Nat) (n:Nat):Spec:=fun args σ K=>match args,σ with
 | [v,.ptr 0 0],⟨[.cells tp [.ptr 1 0],.cells t [.ptr 1 0,.sl 0 e rows]],[0],1⟩=>∃l pl x,rows=bytesR l∧v=val pl x∧(t=84∧e=5)∧(may x=true∧w x≤n∧n≤1073741824)∧l.length+(txt x).length<70368744177664 ∧
   K (.ret (.tuple [])) ⟨[.cells tp [.ptr 1 0],.cells t [.ptr 1 0,.sl 0 e (bytesR (l++txt x))]],[0],1⟩
 | _,_=>False
theorem spOne_mono {α:Type} (val:Pl→α→PV) (may:α→Bool) (txt:α→Bs) (w:α→Nat) (n:Nat):SpecMono (spOne val may txt w n):=fun args σ K K' hK h=>by
 unfold spOne at h ⊢
 split at h
 ·obtain ⟨l,pl,x,h1,h2,h3,h4,h5,h6⟩:=h;exact ⟨l,pl,x,h1,h2,h3,h4,h5,hK _ _ h6⟩
 ·exact h.elim
noncomputable def spLi {α:Type} (g0:FuncId) (enc:Pl→α→List D) (may:α→Bool) (txt:α→Bs) (w:α→Nat) (n:Nat):Spec:=fun args σ K=>match args,σ with
 | [.ptr 0 0,.d (.sl r),.d (.str bt),.func g [] [.ptr 1 0]],⟨[.cells t [.ptr 0 0,.sl 0 e rows],.cells tp [.ptr 0 0]],[0],1⟩=>∃l pl xs,rows=bytesR l∧r=xs.map (enc pl)∧(t=84∧e=5∧g=g0)∧(xs.all may=true∧szS w xs≤n∧n≤1073741824)∧l.length+(commas bt (xs.map txt)).length<70368744177664 ∧
   K (.ret (.tuple [])) ⟨[.cells t [.ptr 0 0,.sl 0 e (bytesR (l++commas bt (xs.map txt)))],.cells tp [.ptr 0 0]],[0],1⟩
 | _,_=>False
theorem spLi_mono {α:Type} (g0:FuncId) (enc:Pl→α→List D) (may:α→Bool) (txt:α→Bs) (w:α→Nat) (n:Nat):SpecMono (spLi g0 enc may txt w n):=fun args σ K K' hK h=>by
 unfold spLi at h ⊢
 split at h
 ·obtain ⟨l,pl,x,h1,h2,h3,h4,h5,h6⟩:=h;exact ⟨l,pl,x,h1,h2,h3,h4,h5,hK _ _ h6⟩
 ·exact h.elim
noncomputable def spWS (s:Bs):Spec:=wrSp (.tuple [.d (.int .i64 s.length),.d .nili]) fun rest txt=>rest=[.d (.str s)]∧txt=s
noncomputable def spWSx:Spec:=fun args σ K=>match args with
 | [.ptr 0 0,.d (.str s)]=>spWS s args σ K
 | _=>False
theorem spWSx_mono:SpecMono spWSx:=fun args σ K K' hK h=>by
 unfold spWSx at h ⊢
 split at h
 ·exact wrSp_mono _ _ _ _ _ _ hK h
 ·exact h.elim
noncomputable def tblWS2:Tbl:=[(214,spCopyCheckW)]
theorem ws_ok:PCalls (GG w0 nG) 155 spWSx:=by
 refine pcalls tab_ok mixed (tbl:=tblWS2) ⟨⟨copyCheckW_ok,spCopyCheckW_mono⟩,trivial⟩ Tryz.func155 rfl (by kernel_rfl) (by kernel_rfl) ?_
 intro args σ K h
 unfold spWSx at h
 split at h
 ·rename_i s
  unfold spWS wrSp at h
  split at h
  ·rename_i rest t p e rows hargs
   obtain ⟨l,txt,rfl,⟨hp,rfl,rfl⟩,⟨hrest,rfl⟩,hlen,h⟩:=h
   simp only [List.cons.injEq,true_and] at hargs
   have hb:∀x:Bs,(bytesR x).length=x.length:=fun x=>by simp [bytesR]
   rw [bytesR_app] at h
   refine ⟨loopsOf [],1,true,by simp,Nat.le_of_ble_eq_true rfl,?_⟩
   rcases hp with rfl | rfl
   all_goals
    conv=>whnf
    first | refine ⟨⟨.inl rfl,rfl⟩,?_⟩ | refine ⟨⟨.inr rfl,rfl⟩,?_⟩
    conv=>whnf
    refine ⟨fun r hr=>?_,?_,?_,?_⟩
    ·obtain ⟨b,_,rfl⟩:=List.mem_map.1 hr;rfl
    ·show ((bytesR l).length+(bytesR txt).length) * 1≤2 ^ 47;rw [hb,hb];omega
    ·show (bytesR l).length+(bytesR txt).length≤2 ^ 47;rw [hb,hb];omega
    ·conv=>whnf
     exact h
  ·exact h.elim
 ·exact h.elim
noncomputable def spAdd:Spec:=wrSp (.tuple []) fun rest txt=>∃ps:List Bs,rest=[.d (.sl (ps.map encBs))]∧ps≠[]∧ps.length≤1073741824∧txt=ps.flatten
theorem spAdd_mono:SpecMono spAdd:=wrSp_mono _ _
noncomputable def tblAdd:Tbl:=[(155,spWSx)]
theorem tblAdd_ok:TblOK (GG w0 nG) tblAdd:=⟨⟨ws_ok,spWSx_mono⟩,trivial⟩
theorem add_ok:PCalls (GG w0 nG) 75 spAdd:=by
 refine pcalls tab_ok mixed (tbl:=tblAdd) tblAdd_ok Tryz.func75 rfl (by kernel_rfl) (by kernel_rfl) ?_
 intro args σ K h
 unfold spAdd wrSp at h
 split at h
 ·rename_i rest t p e rows
  obtain ⟨l,txt,rfl,⟨hp,rfl,rfl⟩,⟨ps,rfl,hne,hpl,rfl⟩,hlen,h⟩:=h
  have hl1:(ps.map encBs).length=ps.length:=List.length_map ..
  refine ⟨loopsOf [(1,⟨[8],[0,6,7],fun vs σ=>∃(i:Nat) (P:PV),vs=[.d (.int .i64 i)]∧σ=⟨[.cells 84 [P,.sl 0 5 (bytesR (l++(ps.take i).flatten))]],[0],1⟩∧(P=.d .nilp∨P=.ptr 0 0)∧(0<i→P=.ptr 0 0)∧i≤ps.length,fun vs _=>match vs with | [.d (.int _ i)]=>((ps.length:Int) - i).toNat | _=>0⟩)],1,true,by simp,Nat.le_of_ble_eq_true rfl,?_⟩
  rcases hp with rfl | rfl
  all_goals
   conv=>whnf
   refine ⟨⟨0,_,rfl,(by simp only [List.take_zero,List.flatten_nil,List.append_nil];rfl),(by first | exact .inl rfl | exact .inr rfl),fun g=>absurd g (by omega),by omega⟩,?_⟩
   intro vs σ hI
   obtain ⟨i,P,rfl,rfl,hP,hP0,hi⟩:=hI
   conv=>whnf
   refine CondP.dec (fun hi2=>?_) (fun hi2=>?_)
   ·have hi2:i<ps.length:=by have hi2:(i:Int)<(ps.map encBs).length:=hi2;rw [hl1] at hi2;omega
    obtain ⟨s,hs⟩:∃s,ps[i]=s:=⟨_,rfl⟩
    have hr1:(ps.map encBs)[((i:Nat):Int).toNat]?=some (encBs s):=by simp [hi2,hs]
    have htk:(ps.take (i+1)).flatten=(ps.take i).flatten++s:=by rw [List.take_succ_eq_append_getElem hi2,List.flatten_append,hs];simp
    have hle:(ps.take (i+1)).flatten.length≤ps.flatten.length:=by
     have e:ps.flatten=(ps.take (i+1)).flatten++(ps.drop (i+1)).flatten:=by rw [← List.flatten_append,List.take_append_drop]
     rw [e,List.length_append];omega
    rw [htk,List.length_append] at hle
    rcases hP with rfl | rfl
    all_goals
     conv=>whnf
     refine ⟨_,by omega,hr1,?_⟩
     conv=>whnf
     refine ⟨l++(ps.take i).flatten,s,rfl,⟨(by first | exact .inl rfl | exact .inr rfl),rfl,rfl⟩,⟨rfl,rfl⟩,by rw [List.length_append];omega,?_⟩
     conv=>whnf
     refine Or.inl ⟨InR.i64 (by omega) (by omega),?_⟩
     conv=>whnf
     refine ⟨⟨i+1,_,rfl,(by rw [htk,List.append_assoc];rfl),.inr rfl,fun _=>rfl,by omega⟩,?_⟩
     show ((ps.length:Int) - ((i:Int)+1)).toNat<((ps.length:Int) - (i:Int)).toNat
     omega
   ·have hi2:i=ps.length:=by have hi2:¬(i:Int)<(ps.map encBs).length:=hi2;rw [hl1] at hi2;omega
    subst hi2
    obtain rfl:=hP0 (List.length_pos_iff.2 hne)
    rw [List.take_length]
    conv=>whnf
    exact h
 ·exact h.elim
theorem commas_snoc (bt:Bs):∀(l:List Bs) (x:Bs),commas bt (l++[x])=if l=[] then x else commas bt l++(bt++x)
 | [],x=>rfl
 | [y],x=>by simp [commas]
 | y::z::l,x=>by
  have ih:=commas_snoc bt (z::l) x
  simp only [List.cons_append] at ih ⊢
  rw [commas,ih] <;> simp [commas]
theorem commas_take {α:Type} (bt:Bs) (f:α→Bs) {xs:List α} {i:Nat} (h:i<xs.length):commas bt ((xs.take (i+1)).map f)=if i=0 then f xs[i] else commas bt ((xs.take i).map f)++(bt++f xs[i]):=by
 rw [List.take_succ_eq_append_getElem h,List.map_append,List.map_cons,List.map_nil,commas_snoc]
 have e:((xs.take i).map f=[])↔i=0:=by
  rw [← List.length_eq_zero_iff,List.length_map,List.length_take];omega
 by_cases h0:i=0
 ·rw [if_pos (e.2 h0),if_pos h0]
 ·rw [if_neg (fun g=>h0 (e.1 g)),if_neg h0]
theorem commas_app_le (bt:Bs):∀(l m:List Bs),(commas bt l).length≤(commas bt (l++m)).length
 | [],m=>Nat.zero_le _
 | [x],[]=>Nat.le_refl _
 | [x],y::m=>by simp only [List.cons_append,List.nil_append,commas,List.length_append];omega
 | x::y::l,m=>by
  have ih:=commas_app_le bt (y::l) m
  simp only [List.cons_append,commas,List.length_append] at ih ⊢;omega
theorem commas_le {α:Type} (bt:Bs) (f:α→Bs) (xs:List α) (i:Nat):(commas bt ((xs.take i).map f)).length≤(commas bt (xs.map f)).length:=by
 have h:=commas_app_le bt ((xs.take i).map f) ((xs.drop i).map f)
 rwa [← List.map_append,List.take_append_drop] at h
end Go.PM.Lex
end

section
set_option maxRecDepth 100000
namespace Go.PM.Lex
open Go.Proofs
def Tab65:Tab:=(.node (.node (.node (.node .leaf 3 ⟨1,8,.int .i64,[.d (.int .i64 (0))],true⟩ .leaf) 4 ⟨1,1,.bool,[.d (.bool false)],false⟩ .leaf) 5 ⟨1,1,.int .u8,[.d (.int .u8 (0))],true⟩ (.node .leaf 9 ⟨1,16,.string,[.d (.str [])],false⟩ .leaf)) 80 ⟨1,24,.slice 5,[.nils 5],false⟩ (.node (.node .leaf 131 ⟨1,8,.int .u64,[.d (.int .u64 (0))],true⟩ .leaf) 261 ⟨1,8,.int .u64,[.d (.int .u64 (0))],true⟩ (.node .leaf 305 ⟨65,65,.array 65 5,[.d (.int .u8 (0)),.d (.int .u8 (0)),.d (.int .u8 (0)),.d (.int .u8 (0)),.d (.int .u8 (0)),.d (.int .u8 (0)),.d (.int .u8 (0)),.d (.int .u8 (0)),.d (.int .u8 (0)),.d (.int .u8 (0)),.d (.int .u8 (0)),.d (.int .u8 (0)),.d (.int .u8 (0)),.d (.int .u8 (0)),.d (.int .u8 (0)),.d (.int .u8 (0)),.d (.int .u8 (0)),.d (.int .u8 (0)),.d (.int .u8 (0)),.d (.int .u8 (0)),.d (.int .u8 (0)),.d (.int .u8 (0)),.d (.int .u8 (0)),.d (.int .u8 (0)),.d (.int .u8 (0)),.d (.int .u8 (0)),.d (.int .u8 (0)),.d (.int .u8 (0)),.d (.int .u8 (0)),.d (.int .u8 (0)),.d (.int .u8 (0)),.d (.int .u8 (0)),.d (.int .u8 (0)),.d (.int .u8 (0)),.d (.int .u8 (0)),.d (.int .u8 (0)),.d (.int .u8 (0)),.d (.int .u8 (0)),.d (.int .u8 (0)),.d (.int .u8 (0)),.d (.int .u8 (0)),.d (.int .u8 (0)),.d (.int .u8 (0)),.d (.int .u8 (0)),.d (.int .u8 (0)),.d (.int .u8 (0)),.d (.int .u8 (0)),.d (.int .u8 (0)),.d (.int .u8 (0)),.d (.int .u8 (0)),.d (.int .u8 (0)),.d (.int .u8 (0)),.d (.int .u8 (0)),.d (.int .u8 (0)),.d (.int .u8 (0)),.d (.int .u8 (0)),.d (.int .u8 (0)),.d (.int .u8 (0)),.d (.int .u8 (0)),.d (.int .u8 (0)),.d (.int .u8 (0)),.d (.int .u8 (0)),.d (.int .u8 (0)),.d (.int .u8 (0)),.d (.int .u8 (0))],false⟩ .leaf)))
theorem tab_ok65:TabOK Tab65 Tryz.prog:=by unfold TabOK;kernel_rfl
end Go.PM.Lex
end

section
set_option maxRecDepth 100000
set_option maxHeartbeats 8000000
namespace Go.PM.Lex
open Go.Proofs Go.Shelf Go.RowKit
variable {w0:World} {nG:Nat}
structure NumOK (w0:World) (nG:Nat):Prop where
 big:7<nG
 pow : Lib.TabIs Tryz.prog w0 "internal/strconv.uint64pow10" .u64 Lib.pow10Tab
 bru:w0.cell? ⟨5,15,none⟩=some (.int .u8 4)
theorem tz_key:IntKind.u64.wrap (bits BinOp.and IntKind.u64 (16:Int) (IntKind.u64.wrap (-(16:Int))) * 285870213051353865) / 288230376151711744=(15:Int):=by decide +kernel
theorem tz64_16 (w:World) (hcell:w.cell? ⟨5,15,none⟩=some (.int .u8 4)):Calls Tryz.prog 306 #[.int .u64 16] w fun e w'=>e=.returned (.int .i64 4)∧w'=w:=by
 go_enter Tryz.func306,Tryz.ntmps306
 go_wp2_with (simp only [tz_key])
 go_ret
 exact ⟨rfl,rfl⟩
theorem decDigits_go:∀(f n:Nat),n<f→Lib.decDigits n=numGo 10 f n
 | 0,n,h=>by omega
 | f+1,n,h=>by
  rw [Lib.decDigits,numGo]
  by_cases c:n<10
  ·rw [dif_pos c,if_pos c,digC,if_pos c]
  ·rw [dif_neg c,if_neg c,decDigits_go f (n / 10) (by omega),digC,if_pos (by omega)]
theorem itoa_numT {n:Int} (h:0≤n):Lib.itoa n=numT n:=by
 rw [Lib.itoa,if_neg (by omega),numT,if_neg (by omega),baseT]
 exact decDigits_go _ _ (by omega)
theorem tab_glob {e:Env} {σ:St} {w:World} {name:String} {k:IntKind} {zs:List Int} {g:Nat} (hS:SRel (GG w0 nG) e σ w) (h:Lib.TabIs Tryz.prog w0 name k zs) (hg:Tryz.prog.globalNamed name=some g) (hlt:g<nG):Lib.TabIs Tryz.prog w name k zs:=by
 unfold Lib.TabIs World.var? at h ⊢
 rw [hg] at h ⊢
 simp only [Option.bind_some] at h ⊢
 rw [hS.glob g hlt];exact h
theorem glob_at {e:Env} {σ:St} {w:World} {k i:Nat} {u:Value} (hS:SRel (GG w0 nG) e σ w) (hk:k<nG) (h:w0.cell? ⟨k,i,none⟩=some u):w.cell? ⟨k,i,none⟩=some u:=by
 have:=hS.glob k hk
 simpa [World.cell?,this] using h
noncomputable def spFmtI:Spec:=fun args σ K=>match args,σ with
 | [.d (.int .i64 n),.d (.int .i64 b)],⟨[],[],0⟩=>(b=10∧0≤n∧n<9223372036854775808)∧K (.ret (.d (.str (numT n)))) ⟨[],[],0⟩
 | _,_=>False
theorem spFmtI_mono:SpecMono spFmtI:=fun args σ K K' hK h=>by
 unfold spFmtI at h ⊢;split at h <;> first | exact ⟨h.1,hK _ _ h.2⟩ | exact h.elim
theorem fmtI_ok (hN:NumOK w0 nG):PCalls (GG w0 nG) 78 spFmtI:=pcalls_lib (enters_of Tryz.func78 (by kernel_rfl) rfl) fun args σ K h e w vs hS ha=>by
 unfold spFmtI at h
 split at h
 ·rename_i n b
  obtain ⟨⟨rfl,h0,h1⟩,h⟩:=h
  obtain ⟨u,v,rfl,hu,hv⟩:=args2 ha
  cases hu.dint;cases hv.dint
  have ht:=tab_glob hS hN.pow (g:=3) (by kernel_rfl) (by have:=hN.big;omega)
  have hc:=Tryz.strconv_FormatInt_10 n (by omega) (by omega) w ht
  rw [itoa_numT h0] at hc
  exact ⟨_,h,_,fun _ _=>.mkstr,hc.mono fun en w' ⟨h1,k,os,h2⟩=>⟨h1,Grows.of_below (by rw [h2];exact Lib.below_grow w.heap.size w (Nat.le_refl _) k os)⟩⟩
 ·exact h.elim
noncomputable def spTz:Spec:=fun args σ K=>match args,σ with
 | [.d (.int .u64 n)],⟨[],[],0⟩=>n=16∧K (.ret (.d (.int .i64 4))) ⟨[],[],0⟩
 | _,_=>False
theorem spTz_mono:SpecMono spTz:=fun args σ K K' hK h=>by
 unfold spTz at h ⊢;split at h <;> first | exact ⟨h.1,hK _ _ h.2⟩ | exact h.elim
theorem tz64_ok (hN:NumOK w0 nG):PCalls (GG w0 nG) 306 spTz:=pcalls_lib (enters_of Tryz.func306 (by kernel_rfl) rfl) fun args σ K h e w vs hS ha=>by
 unfold spTz at h
 split at h
 ·rename_i n
  obtain ⟨rfl,h⟩:=h
  obtain ⟨u,rfl,hu⟩:=args1 ha
  cases hu.dint
  exact ⟨_,h,_,fun _ _=>.d _ _ (.int _ _),(tz64_16 w (glob_at hS (k:=5) (by have:=hN.big;omega) hN.bru)).mono fun en w' ⟨h1,h2⟩=>⟨h1,by rw [h2];exact Grows.refl _⟩⟩
 ·exact h.elim
noncomputable def tblTz:Tbl:=[(306,spTz)]
theorem tz_ok (hN:NumOK w0 nG):PCalls (GG w0 nG) 276 spTz:=by
 refine pcalls tab_ok mixed (tbl:=tblTz) ⟨⟨tz64_ok hN,spTz_mono⟩,trivial⟩ Tryz.func276 rfl (by kernel_rfl) (by kernel_rfl) ?_
 intro args σ K h
 unfold spTz at h
 split at h
 ·obtain ⟨rfl,h⟩:=h
  refine ⟨loopsOf [],0,false,by simp,Nat.le_of_ble_eq_true rfl,?_⟩
  conv=>whnf
  refine ⟨rfl,?_⟩
  conv=>whnf
  exact h
 ·exact h.elim
noncomputable def spPow:Spec:=fun args σ K=>match args,σ with
 | [.d (.int .i64 n)],⟨[],[],0⟩=>n=16∧K (.ret (.d (.bool true))) ⟨[],[],0⟩
 | _,_=>False
theorem spPow_mono:SpecMono spPow:=fun args σ K K' hK h=>by
 unfold spPow at h ⊢;split at h <;> first | exact ⟨h.1,hK _ _ h.2⟩ | exact h.elim
theorem and_pow:bitsOf .and .i64 16 15=0:=by rw [bitsOf_eq];decide +kernel
theorem pow_ok:PCalls (GG w0 nG) 275 spPow:=by
 refine pcalls tab_ok mixed (tbl:=[]) trivial Tryz.func275 rfl (by kernel_rfl) (by kernel_rfl) ?_
 intro args σ K h
 unfold spPow at h
 split at h
 ·obtain ⟨rfl,h⟩:=h
  refine ⟨loopsOf [],0,false,by simp,Nat.le_of_ble_eq_true rfl,?_⟩
  conv=>whnf
  refine Or.inl ⟨InR.i64 (by omega) (by omega),?_⟩
  conv=>whnf
  have e:(bitsOf .and .i64 16 (16 - 1))=0:=and_pow
  rw [e]
  exact h
 ·exact h.elim
theorem hex_step {n:Nat} (h:16≤n):baseT 16 n=baseT 16 (n / 16)++[digC (n % 16)]:=by
 have key:∀(f g m:Nat),m<f→m<g→numGo 16 f m=numGo 16 g m:=by
  intro f
  induction f with
  | zero=>intro g m h;omega
  | succ f ih =>
   intro g m h1 h2
   obtain ⟨g,rfl⟩:∃k,g=k+1:=⟨g - 1,by omega⟩
   rw [numGo,numGo]
   split
   ·rfl
   ·rw [ih g (m / 16) (by omega) (by omega)]
 rw [baseT,numGo,if_neg (by omega),baseT,key n (n / 16+1) (n / 16) (by omega) (by omega)]
theorem hex_last {n:Nat} (h:n<16):baseT 16 n=[digC n]:=by rw [baseT,numGo,if_pos h]
def digs36:Bs:=[48,49,50,51,52,53,54,55,56,57,97,98,99,100,101,102,103,104,105,106,107,108,109,110,111,112,113,114,115,116,117,118,119,120,121,122]
theorem digs_at:∀d:Fin 16,digs36.getD d.val 0=digC d.val:=by decide +kernel
theorem and15 {u:Nat} (h:u<18446744073709551616):bitsOf .and .u64 (u:Int) 15=((u % 16:Nat):Int):=by
 have e:bitsOf .and .u64 (u:Int) 15=bits .and .u64 (u:Int) ((15:Nat):Int):=by rw [bitsOf_eq];rfl
 rw [e,bits_and_u64_nat u 15 h (by decide)]
 have:u &&& 15=u % 16:=Nat.and_two_pow_sub_one_eq_mod u 4
 rw [this]
def sh4 (n:Int):Int:=n.fdiv (2 ^ (min (Int.toNat 4) (IntKind.bits .u64)))
theorem sh4_nat (u:Nat):sh4 (u:Int)=((u / 16:Nat):Int):=by
 show (u:Int).fdiv ((2:Int) ^ 4)=_
 rw [show ((2:Int) ^ 4)=((16:Nat):Int) by decide,Int.fdiv_eq_ediv_of_nonneg _ (by decide)]
 omega
theorem digs_and {u:Nat} (h:u<18446744073709551616):digs36.getD (bitsOf .and .u64 (u:Int) 15).toNat 0=digC (u % 16):=by
 rw [and15 h,Int.toNat_natCast]
 exact digs_at ⟨u % 16,Nat.mod_lt _ (by decide)⟩
theorem digs_low {u:Nat} (h:u<16):digs36.getD (u:Int).toNat 0=digC u:=by
 rw [Int.toNat_natCast]
 exact digs_at ⟨u,h⟩
theorem and15_lo {u:Nat} (h:u<18446744073709551616):0≤bitsOf .and .u64 (u:Int) 15:=by rw [and15 h];omega
theorem and15_hi {u:Nat} (h:u<18446744073709551616):bitsOf .and .u64 (u:Int) 15<36:=by rw [and15 h];omega
noncomputable def spFb:Spec:=fun args σ K=>match args,σ with
 | [.sl 0 e [],.d (.int .u64 n),.d (.int .i64 b),.d (.bool ng),.d (.bool ap)],⟨[],[0],1⟩=>(b=16∧ng=false∧ap=false∧0≤n∧n<18446744073709551616)∧K (.ret (.tuple [.d (.sl []),.d (.str (baseT 16 n.toNat))])) ⟨[],[],0⟩
 | _,_=>False
theorem spFb_mono:SpecMono spFb:=fun args σ K K' hK h=>by
 unfold spFb at h ⊢;split at h <;> first | exact ⟨h.1,hK _ _ h.2⟩ | exact h.elim
noncomputable def tblFb:Tbl:=[(275,spPow),(276,spTz)]
theorem fb_ok (hN:NumOK w0 nG):PCalls (GG w0 nG) 224 spFb:=by
 refine pcallsB tab_ok65 mixed (tbl:=tblFb) ⟨⟨pow_ok,spPow_mono⟩,⟨tz_ok hN,spTz_mono⟩,trivial⟩ Tryz.func224 rfl (by kernel_rfl) (by kernel_rfl) ?_
 intro args σ K h
 unfold spFb at h
 split at h
 all_goals first | exact h.elim | skip
 all_goals
  obtain ⟨⟨rfl,rfl,rfl,h0,h1⟩,h⟩:=h
  rename_i e n
  obtain ⟨u0,rfl⟩:∃u:Nat,n=u:=⟨n.toNat,by omega⟩
  rw [Int.toNat_natCast] at h
  have hu0:u0<18446744073709551616:=by omega
  refine ⟨loopsOf [],unrOf [(11,17)],tieOf [],tieOf [101],tieOf [],0,false,by simp,Nat.le_of_ble_eq_true rfl,?_⟩
  conv=>whnf
  refine ⟨rfl,?_⟩
  conv=>whnf
  refine Or.inl ⟨InR.u64 (by omega) (by omega),?_⟩
  conv=>whnf
  refine ⟨rfl,?_⟩
  conv=>whnf
  refine Or.inl ⟨InR.u64 (by omega) (by omega),?_⟩
  conv=>whnf
  refine Or.inl ⟨InR.u64 (by omega) (by omega),?_⟩
  conv=>whnf
  refine Or.inl ⟨InR.u64 (by omega) (by omega),?_⟩
  conv=>whnf
  refine Or.inl ⟨InR.u64 (by omega) (by omega),?_⟩
  conv=>whnf
  refine CondP.dec (fun g0=>?_) (fun g0=>?_)
  ·have g0:(16:Int)≤(u0:Int):=g0
   conv=>whnf
   refine Or.inl ⟨InR.i64 (by decide) (by decide),?_⟩
   conv=>whnf
   refine ⟨(show 0≤bitsOf .and .u64 (u0:Int) 15 by skip;exact and15_lo (by omega)),(show bitsOf .and .u64 (u0:Int) 15<36 by skip;exact and15_hi (by omega)),?_⟩
   conv=>whnf
   refine ⟨by decide,by decide,?_⟩
   conv=>whnf
   refine ⟨by decide,?_⟩
   conv=>whnf
   refine CondP.dec (fun g1=>?_) (fun g1=>?_)
   ·have g1:(16:Int)≤(sh4 (u0:Int)):=g1
    rw [sh4_nat] at g1
    conv=>whnf
    refine Or.inl ⟨InR.i64 (by decide) (by decide),?_⟩
    conv=>whnf
    refine ⟨(show 0≤bitsOf .and .u64 (sh4 (u0:Int)) 15 by rw [sh4_nat];exact and15_lo (by omega)),(show bitsOf .and .u64 (sh4 (u0:Int)) 15<36 by rw [sh4_nat];exact and15_hi (by omega)),?_⟩
    conv=>whnf
    refine ⟨by decide,by decide,?_⟩
    conv=>whnf
    refine ⟨by decide,?_⟩
    conv=>whnf
    refine CondP.dec (fun g2=>?_) (fun g2=>?_)
    ·have g2:(16:Int)≤(sh4 (sh4 (u0:Int))):=g2
     rw [sh4_nat,sh4_nat] at g2
     conv=>whnf
     refine Or.inl ⟨InR.i64 (by decide) (by decide),?_⟩
     conv=>whnf
     refine ⟨(show 0≤bitsOf .and .u64 (sh4 (sh4 (u0:Int))) 15 by rw [sh4_nat,sh4_nat];exact and15_lo (by omega)),(show bitsOf .and .u64 (sh4 (sh4 (u0:Int))) 15<36 by rw [sh4_nat,sh4_nat];exact and15_hi (by omega)),?_⟩
     conv=>whnf
     refine ⟨by decide,by decide,?_⟩
     conv=>whnf
     refine ⟨by decide,?_⟩
     conv=>whnf
     refine CondP.dec (fun g3=>?_) (fun g3=>?_)
     ·have g3:(16:Int)≤(sh4 (sh4 (sh4 (u0:Int)))):=g3
      rw [sh4_nat,sh4_nat,sh4_nat] at g3
      conv=>whnf
      refine Or.inl ⟨InR.i64 (by decide) (by decide),?_⟩
      conv=>whnf
      refine ⟨(show 0≤bitsOf .and .u64 (sh4 (sh4 (sh4 (u0:Int)))) 15 by rw [sh4_nat,sh4_nat,sh4_nat];exact and15_lo (by omega)),(show bitsOf .and .u64 (sh4 (sh4 (sh4 (u0:Int)))) 15<36 by rw [sh4_nat,sh4_nat,sh4_nat];exact and15_hi (by omega)),?_⟩
      conv=>whnf
      refine ⟨by decide,by decide,?_⟩
      conv=>whnf
      refine ⟨by decide,?_⟩
      conv=>whnf
      refine CondP.dec (fun g4=>?_) (fun g4=>?_)
      ·have g4:(16:Int)≤(sh4 (sh4 (sh4 (sh4 (u0:Int))))):=g4
       rw [sh4_nat,sh4_nat,sh4_nat,sh4_nat] at g4
       conv=>whnf
       refine Or.inl ⟨InR.i64 (by decide) (by decide),?_⟩
       conv=>whnf
       refine ⟨(show 0≤bitsOf .and .u64 (sh4 (sh4 (sh4 (sh4 (u0:Int))))) 15 by rw [sh4_nat,sh4_nat,sh4_nat,sh4_nat];exact and15_lo (by omega)),(show bitsOf .and .u64 (sh4 (sh4 (sh4 (sh4 (u0:Int))))) 15<36 by rw [sh4_nat,sh4_nat,sh4_nat,sh4_nat];exact and15_hi (by omega)),?_⟩
       conv=>whnf
       refine ⟨by decide,by decide,?_⟩
       conv=>whnf
       refine ⟨by decide,?_⟩
       conv=>whnf
       refine CondP.dec (fun g5=>?_) (fun g5=>?_)
       ·have g5:(16:Int)≤(sh4 (sh4 (sh4 (sh4 (sh4 (u0:Int)))))):=g5
        rw [sh4_nat,sh4_nat,sh4_nat,sh4_nat,sh4_nat] at g5
        conv=>whnf
        refine Or.inl ⟨InR.i64 (by decide) (by decide),?_⟩
        conv=>whnf
        refine ⟨(show 0≤bitsOf .and .u64 (sh4 (sh4 (sh4 (sh4 (sh4 (u0:Int)))))) 15 by rw [sh4_nat,sh4_nat,sh4_nat,sh4_nat,sh4_nat];exact and15_lo (by omega)),(show bitsOf .and .u64 (sh4 (sh4 (sh4 (sh4 (sh4 (u0:Int)))))) 15<36 by rw [sh4_nat,sh4_nat,sh4_nat,sh4_nat,sh4_nat];exact and15_hi (by omega)),?_⟩
        conv=>whnf
        refine ⟨by decide,by decide,?_⟩
        conv=>whnf
        refine ⟨by decide,?_⟩
        conv=>whnf
        refine CondP.dec (fun g6=>?_) (fun g6=>?_)
        ·have g6:(16:Int)≤(sh4 (sh4 (sh4 (sh4 (sh4 (sh4 (u0:Int))))))):=g6
         rw [sh4_nat,sh4_nat,sh4_nat,sh4_nat,sh4_nat,sh4_nat] at g6
         conv=>whnf
         refine Or.inl ⟨InR.i64 (by decide) (by decide),?_⟩
         conv=>whnf
         refine ⟨(show 0≤bitsOf .and .u64 (sh4 (sh4 (sh4 (sh4 (sh4 (sh4 (u0:Int))))))) 15 by rw [sh4_nat,sh4_nat,sh4_nat,sh4_nat,sh4_nat,sh4_nat];exact and15_lo (by omega)),(show bitsOf .and .u64 (sh4 (sh4 (sh4 (sh4 (sh4 (sh4 (u0:Int))))))) 15<36 by rw [sh4_nat,sh4_nat,sh4_nat,sh4_nat,sh4_nat,sh4_nat];exact and15_hi (by omega)),?_⟩
         conv=>whnf
         refine ⟨by decide,by decide,?_⟩
         conv=>whnf
         refine ⟨by decide,?_⟩
         conv=>whnf
         refine CondP.dec (fun g7=>?_) (fun g7=>?_)
         ·have g7:(16:Int)≤(sh4 (sh4 (sh4 (sh4 (sh4 (sh4 (sh4 (u0:Int)))))))):=g7
          rw [sh4_nat,sh4_nat,sh4_nat,sh4_nat,sh4_nat,sh4_nat,sh4_nat] at g7
          conv=>whnf
          refine Or.inl ⟨InR.i64 (by decide) (by decide),?_⟩
          conv=>whnf
          refine ⟨(show 0≤bitsOf .and .u64 (sh4 (sh4 (sh4 (sh4 (sh4 (sh4 (sh4 (u0:Int)))))))) 15 by rw [sh4_nat,sh4_nat,sh4_nat,sh4_nat,sh4_nat,sh4_nat,sh4_nat];exact and15_lo (by omega)),(show bitsOf .and .u64 (sh4 (sh4 (sh4 (sh4 (sh4 (sh4 (sh4 (u0:Int)))))))) 15<36 by rw [sh4_nat,sh4_nat,sh4_nat,sh4_nat,sh4_nat,sh4_nat,sh4_nat];exact and15_hi (by omega)),?_⟩
          conv=>whnf
          refine ⟨by decide,by decide,?_⟩
          conv=>whnf
          refine ⟨by decide,?_⟩
          conv=>whnf
          refine CondP.dec (fun g8=>?_) (fun g8=>?_)
          ·have g8:(16:Int)≤(sh4 (sh4 (sh4 (sh4 (sh4 (sh4 (sh4 (sh4 (u0:Int))))))))):=g8
           rw [sh4_nat,sh4_nat,sh4_nat,sh4_nat,sh4_nat,sh4_nat,sh4_nat,sh4_nat] at g8
           conv=>whnf
           refine Or.inl ⟨InR.i64 (by decide) (by decide),?_⟩
           conv=>whnf
           refine ⟨(show 0≤bitsOf .and .u64 (sh4 (sh4 (sh4 (sh4 (sh4 (sh4 (sh4 (sh4 (u0:Int))))))))) 15 by rw [sh4_nat,sh4_nat,sh4_nat,sh4_nat,sh4_nat,sh4_nat,sh4_nat,sh4_nat];exact and15_lo (by omega)),(show bitsOf .and .u64 (sh4 (sh4 (sh4 (sh4 (sh4 (sh4 (sh4 (sh4 (u0:Int))))))))) 15<36 by rw [sh4_nat,sh4_nat,sh4_nat,sh4_nat,sh4_nat,sh4_nat,sh4_nat,sh4_nat];exact and15_hi (by omega)),?_⟩
           conv=>whnf
           refine ⟨by decide,by decide,?_⟩
           conv=>whnf
           refine ⟨by decide,?_⟩
           conv=>whnf
           refine CondP.dec (fun g9=>?_) (fun g9=>?_)
           ·have g9:(16:Int)≤(sh4 (sh4 (sh4 (sh4 (sh4 (sh4 (sh4 (sh4 (sh4 (u0:Int)))))))))):=g9
            rw [sh4_nat,sh4_nat,sh4_nat,sh4_nat,sh4_nat,sh4_nat,sh4_nat,sh4_nat,sh4_nat] at g9
            conv=>whnf
            refine Or.inl ⟨InR.i64 (by decide) (by decide),?_⟩
            conv=>whnf
            refine ⟨(show 0≤bitsOf .and .u64 (sh4 (sh4 (sh4 (sh4 (sh4 (sh4 (sh4 (sh4 (sh4 (u0:Int)))))))))) 15 by rw [sh4_nat,sh4_nat,sh4_nat,sh4_nat,sh4_nat,sh4_nat,sh4_nat,sh4_nat,sh4_nat];exact and15_lo (by omega)),(show bitsOf .and .u64 (sh4 (sh4 (sh4 (sh4 (sh4 (sh4 (sh4 (sh4 (sh4 (u0:Int)))))))))) 15<36 by rw [sh4_nat,sh4_nat,sh4_nat,sh4_nat,sh4_nat,sh4_nat,sh4_nat,sh4_nat,sh4_nat];exact and15_hi (by omega)),?_⟩
            conv=>whnf
            refine ⟨by decide,by decide,?_⟩
            conv=>whnf
            refine ⟨by decide,?_⟩
            conv=>whnf
            refine CondP.dec (fun g10=>?_) (fun g10=>?_)
            ·have g10:(16:Int)≤(sh4 (sh4 (sh4 (sh4 (sh4 (sh4 (sh4 (sh4 (sh4 (sh4 (u0:Int))))))))))):=g10
             rw [sh4_nat,sh4_nat,sh4_nat,sh4_nat,sh4_nat,sh4_nat,sh4_nat,sh4_nat,sh4_nat,sh4_nat] at g10
             conv=>whnf
             refine Or.inl ⟨InR.i64 (by decide) (by decide),?_⟩
             conv=>whnf
             refine ⟨(show 0≤bitsOf .and .u64 (sh4 (sh4 (sh4 (sh4 (sh4 (sh4 (sh4 (sh4 (sh4 (sh4 (u0:Int))))))))))) 15 by rw [sh4_nat,sh4_nat,sh4_nat,sh4_nat,sh4_nat,sh4_nat,sh4_nat,sh4_nat,sh4_nat,sh4_nat];exact and15_lo (by omega)),(show bitsOf .and .u64 (sh4 (sh4 (sh4 (sh4 (sh4 (sh4 (sh4 (sh4 (sh4 (sh4 (u0:Int))))))))))) 15<36 by rw [sh4_nat,sh4_nat,sh4_nat,sh4_nat,sh4_nat,sh4_nat,sh4_nat,sh4_nat,sh4_nat,sh4_nat];exact and15_hi (by omega)),?_⟩
             conv=>whnf
             refine ⟨by decide,by decide,?_⟩
             conv=>whnf
             refine ⟨by decide,?_⟩
             conv=>whnf
             refine CondP.dec (fun g11=>?_) (fun g11=>?_)
             ·have g11:(16:Int)≤(sh4 (sh4 (sh4 (sh4 (sh4 (sh4 (sh4 (sh4 (sh4 (sh4 (sh4 (u0:Int)))))))))))):=g11
              rw [sh4_nat,sh4_nat,sh4_nat,sh4_nat,sh4_nat,sh4_nat,sh4_nat,sh4_nat,sh4_nat,sh4_nat,sh4_nat] at g11
              conv=>whnf
              refine Or.inl ⟨InR.i64 (by decide) (by decide),?_⟩
              conv=>whnf
              refine ⟨(show 0≤bitsOf .and .u64 (sh4 (sh4 (sh4 (sh4 (sh4 (sh4 (sh4 (sh4 (sh4 (sh4 (sh4 (u0:Int)))))))))))) 15 by rw [sh4_nat,sh4_nat,sh4_nat,sh4_nat,sh4_nat,sh4_nat,sh4_nat,sh4_nat,sh4_nat,sh4_nat,sh4_nat];exact and15_lo (by omega)),(show bitsOf .and .u64 (sh4 (sh4 (sh4 (sh4 (sh4 (sh4 (sh4 (sh4 (sh4 (sh4 (sh4 (u0:Int)))))))))))) 15<36 by rw [sh4_nat,sh4_nat,sh4_nat,sh4_nat,sh4_nat,sh4_nat,sh4_nat,sh4_nat,sh4_nat,sh4_nat,sh4_nat];exact and15_hi (by omega)),?_⟩
              conv=>whnf
              refine ⟨by decide,by decide,?_⟩
              conv=>whnf
              refine ⟨by decide,?_⟩
              conv=>whnf
              refine CondP.dec (fun g12=>?_) (fun g12=>?_)
              ·have g12:(16:Int)≤(sh4 (sh4 (sh4 (sh4 (sh4 (sh4 (sh4 (sh4 (sh4 (sh4 (sh4 (sh4 (u0:Int))))))))))))):=g12
               rw [sh4_nat,sh4_nat,sh4_nat,sh4_nat,sh4_nat,sh4_nat,sh4_nat,sh4_nat,sh4_nat,sh4_nat,sh4_nat,sh4_nat] at g12
               conv=>whnf
               refine Or.inl ⟨InR.i64 (by decide) (by decide),?_⟩
               conv=>whnf
               refine ⟨(show 0≤bitsOf .and .u64 (sh4 (sh4 (sh4 (sh4 (sh4 (sh4 (sh4 (sh4 (sh4 (sh4 (sh4 (sh4 (u0:Int))))))))))))) 15 by rw [sh4_nat,sh4_nat,sh4_nat,sh4_nat,sh4_nat,sh4_nat,sh4_nat,sh4_nat,sh4_nat,sh4_nat,sh4_nat,sh4_nat];exact and15_lo (by omega)),(show bitsOf .and .u64 (sh4 (sh4 (sh4 (sh4 (sh4 (sh4 (sh4 (sh4 (sh4 (sh4 (sh4 (sh4 (u0:Int))))))))))))) 15<36 by rw [sh4_nat,sh4_nat,sh4_nat,sh4_nat,sh4_nat,sh4_nat,sh4_nat,sh4_nat,sh4_nat,sh4_nat,sh4_nat,sh4_nat];exact and15_hi (by omega)),?_⟩
               conv=>whnf
               refine ⟨by decide,by decide,?_⟩
               conv=>whnf
               refine ⟨by decide,?_⟩
               conv=>whnf
               refine CondP.dec (fun g13=>?_) (fun g13=>?_)
               ·have g13:(16:Int)≤(sh4 (sh4 (sh4 (sh4 (sh4 (sh4 (sh4 (sh4 (sh4 (sh4 (sh4 (sh4 (sh4 (u0:Int)))))))))))))):=g13
                rw [sh4_nat,sh4_nat,sh4_nat,sh4_nat,sh4_nat,sh4_nat,sh4_nat,sh4_nat,sh4_nat,sh4_nat,sh4_nat,sh4_nat,sh4_nat] at g13
                conv=>whnf
                refine Or.inl ⟨InR.i64 (by decide) (by decide),?_⟩
                conv=>whnf
                refine ⟨(show 0≤bitsOf .and .u64 (sh4 (sh4 (sh4 (sh4 (sh4 (sh4 (sh4 (sh4 (sh4 (sh4 (sh4 (sh4 (sh4 (u0:Int)))))))))))))) 15 by rw [sh4_nat,sh4_nat,sh4_nat,sh4_nat,sh4_nat,sh4_nat,sh4_nat,sh4_nat,sh4_nat,sh4_nat,sh4_nat,sh4_nat,sh4_nat];exact and15_lo (by omega)),(show bitsOf .and .u64 (sh4 (sh4 (sh4 (sh4 (sh4 (sh4 (sh4 (sh4 (sh4 (sh4 (sh4 (sh4 (sh4 (u0:Int)))))))))))))) 15<36 by rw [sh4_nat,sh4_nat,sh4_nat,sh4_nat,sh4_nat,sh4_nat,sh4_nat,sh4_nat,sh4_nat,sh4_nat,sh4_nat,sh4_nat,sh4_nat];exact and15_hi (by omega)),?_⟩
                conv=>whnf
                refine ⟨by decide,by decide,?_⟩
                conv=>whnf
                refine ⟨by decide,?_⟩
                conv=>whnf
                refine CondP.dec (fun g14=>?_) (fun g14=>?_)
                ·have g14:(16:Int)≤(sh4 (sh4 (sh4 (sh4 (sh4 (sh4 (sh4 (sh4 (sh4 (sh4 (sh4 (sh4 (sh4 (sh4 (u0:Int))))))))))))))):=g14
                 rw [sh4_nat,sh4_nat,sh4_nat,sh4_nat,sh4_nat,sh4_nat,sh4_nat,sh4_nat,sh4_nat,sh4_nat,sh4_nat,sh4_nat,sh4_nat,sh4_nat] at g14
                 conv=>whnf
                 refine Or.inl ⟨InR.i64 (by decide) (by decide),?_⟩
                 conv=>whnf
                 refine ⟨(show 0≤bitsOf .and .u64 (sh4 (sh4 (sh4 (sh4 (sh4 (sh4 (sh4 (sh4 (sh4 (sh4 (sh4 (sh4 (sh4 (sh4 (u0:Int))))))))))))))) 15 by rw [sh4_nat,sh4_nat,sh4_nat,sh4_nat,sh4_nat,sh4_nat,sh4_nat,sh4_nat,sh4_nat,sh4_nat,sh4_nat,sh4_nat,sh4_nat,sh4_nat];exact and15_lo (by omega)),(show bitsOf .and .u64 (sh4 (sh4 (sh4 (sh4 (sh4 (sh4 (sh4 (sh4 (sh4 (sh4 (sh4 (sh4 (sh4 (sh4 (u0:Int))))))))))))))) 15<36 by rw [sh4_nat,sh4_nat,sh4_nat,sh4_nat,sh4_nat,sh4_nat,sh4_nat,sh4_nat,sh4_nat,sh4_nat,sh4_nat,sh4_nat,sh4_nat,sh4_nat];exact and15_hi (by omega)),?_⟩
                 conv=>whnf
                 refine ⟨by decide,by decide,?_⟩
                 conv=>whnf
                 refine ⟨by decide,?_⟩
                 conv=>whnf
                 refine CondP.dec (fun g15=>?_) (fun g15=>?_)
                 ·have g15:(16:Int)≤(sh4 (sh4 (sh4 (sh4 (sh4 (sh4 (sh4 (sh4 (sh4 (sh4 (sh4 (sh4 (sh4 (sh4 (sh4 (u0:Int)))))))))))))))):=g15
                  rw [sh4_nat,sh4_nat,sh4_nat,sh4_nat,sh4_nat,sh4_nat,sh4_nat,sh4_nat,sh4_nat,sh4_nat,sh4_nat,sh4_nat,sh4_nat,sh4_nat,sh4_nat] at g15
                  exact absurd g15 (by omega)
                 have g15:¬(16:Int)≤(sh4 (sh4 (sh4 (sh4 (sh4 (sh4 (sh4 (sh4 (sh4 (sh4 (sh4 (sh4 (sh4 (sh4 (sh4 (u0:Int)))))))))))))))):=g15
                 rw [sh4_nat,sh4_nat,sh4_nat,sh4_nat,sh4_nat,sh4_nat,sh4_nat,sh4_nat,sh4_nat,sh4_nat,sh4_nat,sh4_nat,sh4_nat,sh4_nat,sh4_nat] at g15
                 have hb:baseT 16 u0=[digs36.getD (sh4 (sh4 (sh4 (sh4 (sh4 (sh4 (sh4 (sh4 (sh4 (sh4 (sh4 (sh4 (sh4 (sh4 (sh4 (u0:Int)))))))))))))))).toNat 0,digs36.getD (bitsOf .and .u64 (sh4 (sh4 (sh4 (sh4 (sh4 (sh4 (sh4 (sh4 (sh4 (sh4 (sh4 (sh4 (sh4 (sh4 (u0:Int))))))))))))))) 15).toNat 0,digs36.getD (bitsOf .and .u64 (sh4 (sh4 (sh4 (sh4 (sh4 (sh4 (sh4 (sh4 (sh4 (sh4 (sh4 (sh4 (sh4 (u0:Int)))))))))))))) 15).toNat 0,digs36.getD (bitsOf .and .u64 (sh4 (sh4 (sh4 (sh4 (sh4 (sh4 (sh4 (sh4 (sh4 (sh4 (sh4 (sh4 (u0:Int))))))))))))) 15).toNat 0,digs36.getD (bitsOf .and .u64 (sh4 (sh4 (sh4 (sh4 (sh4 (sh4 (sh4 (sh4 (sh4 (sh4 (sh4 (u0:Int)))))))))))) 15).toNat 0,digs36.getD (bitsOf .and .u64 (sh4 (sh4 (sh4 (sh4 (sh4 (sh4 (sh4 (sh4 (sh4 (sh4 (u0:Int))))))))))) 15).toNat 0,digs36.getD (bitsOf .and .u64 (sh4 (sh4 (sh4 (sh4 (sh4 (sh4 (sh4 (sh4 (sh4 (u0:Int)))))))))) 15).toNat 0,digs36.getD (bitsOf .and .u64 (sh4 (sh4 (sh4 (sh4 (sh4 (sh4 (sh4 (sh4 (u0:Int))))))))) 15).toNat 0,digs36.getD (bitsOf .and .u64 (sh4 (sh4 (sh4 (sh4 (sh4 (sh4 (sh4 (u0:Int)))))))) 15).toNat 0,digs36.getD (bitsOf .and .u64 (sh4 (sh4 (sh4 (sh4 (sh4 (sh4 (u0:Int))))))) 15).toNat 0,digs36.getD (bitsOf .and .u64 (sh4 (sh4 (sh4 (sh4 (sh4 (u0:Int)))))) 15).toNat 0,digs36.getD (bitsOf .and .u64 (sh4 (sh4 (sh4 (sh4 (u0:Int))))) 15).toNat 0,digs36.getD (bitsOf .and .u64 (sh4 (sh4 (sh4 (u0:Int)))) 15).toNat 0,digs36.getD (bitsOf .and .u64 (sh4 (sh4 (u0:Int))) 15).toNat 0,digs36.getD (bitsOf .and .u64 (sh4 (u0:Int)) 15).toNat 0,digs36.getD (bitsOf .and .u64 (u0:Int) 15).toNat 0]:=by
                  simp only [sh4_nat]
                  rw [digs_low (u:=u0 / 16 / 16 / 16 / 16 / 16 / 16 / 16 / 16 / 16 / 16 / 16 / 16 / 16 / 16 / 16) (by omega),digs_and (u:=u0 / 16 / 16 / 16 / 16 / 16 / 16 / 16 / 16 / 16 / 16 / 16 / 16 / 16 / 16) (by omega),digs_and (u:=u0 / 16 / 16 / 16 / 16 / 16 / 16 / 16 / 16 / 16 / 16 / 16 / 16 / 16) (by omega),digs_and (u:=u0 / 16 / 16 / 16 / 16 / 16 / 16 / 16 / 16 / 16 / 16 / 16 / 16) (by omega),digs_and (u:=u0 / 16 / 16 / 16 / 16 / 16 / 16 / 16 / 16 / 16 / 16 / 16) (by omega),digs_and (u:=u0 / 16 / 16 / 16 / 16 / 16 / 16 / 16 / 16 / 16 / 16) (by omega),digs_and (u:=u0 / 16 / 16 / 16 / 16 / 16 / 16 / 16 / 16 / 16) (by omega),digs_and (u:=u0 / 16 / 16 / 16 / 16 / 16 / 16 / 16 / 16) (by omega),digs_and (u:=u0 / 16 / 16 / 16 / 16 / 16 / 16 / 16) (by omega),digs_and (u:=u0 / 16 / 16 / 16 / 16 / 16 / 16) (by omega),digs_and (u:=u0 / 16 / 16 / 16 / 16 / 16) (by omega),digs_and (u:=u0 / 16 / 16 / 16 / 16) (by omega),digs_and (u:=u0 / 16 / 16 / 16) (by omega),digs_and (u:=u0 / 16 / 16) (by omega),digs_and (u:=u0 / 16) (by omega),digs_and (u:=u0) (by omega)]
                  rw [hex_step (n:=u0) (by omega),hex_step (n:=u0 / 16) (by omega),hex_step (n:=u0 / 16 / 16) (by omega),hex_step (n:=u0 / 16 / 16 / 16) (by omega),hex_step (n:=u0 / 16 / 16 / 16 / 16) (by omega),hex_step (n:=u0 / 16 / 16 / 16 / 16 / 16) (by omega),hex_step (n:=u0 / 16 / 16 / 16 / 16 / 16 / 16) (by omega),hex_step (n:=u0 / 16 / 16 / 16 / 16 / 16 / 16 / 16) (by omega),hex_step (n:=u0 / 16 / 16 / 16 / 16 / 16 / 16 / 16 / 16) (by omega),hex_step (n:=u0 / 16 / 16 / 16 / 16 / 16 / 16 / 16 / 16 / 16) (by omega),hex_step (n:=u0 / 16 / 16 / 16 / 16 / 16 / 16 / 16 / 16 / 16 / 16) (by omega),hex_step (n:=u0 / 16 / 16 / 16 / 16 / 16 / 16 / 16 / 16 / 16 / 16 / 16) (by omega),hex_step (n:=u0 / 16 / 16 / 16 / 16 / 16 / 16 / 16 / 16 / 16 / 16 / 16 / 16) (by omega),hex_step (n:=u0 / 16 / 16 / 16 / 16 / 16 / 16 / 16 / 16 / 16 / 16 / 16 / 16 / 16) (by omega),hex_step (n:=u0 / 16 / 16 / 16 / 16 / 16 / 16 / 16 / 16 / 16 / 16 / 16 / 16 / 16 / 16) (by omega),hex_last (n:=u0 / 16 / 16 / 16 / 16 / 16 / 16 / 16 / 16 / 16 / 16 / 16 / 16 / 16 / 16 / 16) (by omega)]
                  rfl
                 rw [hb] at h
                 conv=>whnf
                 refine Or.inl ⟨InR.i64 (by decide) (by decide),?_⟩
                 conv=>whnf
                 refine ⟨(show 0≤(sh4 (sh4 (sh4 (sh4 (sh4 (sh4 (sh4 (sh4 (sh4 (sh4 (sh4 (sh4 (sh4 (sh4 (sh4 (u0:Int)))))))))))))))) by rw [sh4_nat,sh4_nat,sh4_nat,sh4_nat,sh4_nat,sh4_nat,sh4_nat,sh4_nat,sh4_nat,sh4_nat,sh4_nat,sh4_nat,sh4_nat,sh4_nat,sh4_nat];omega),(show (sh4 (sh4 (sh4 (sh4 (sh4 (sh4 (sh4 (sh4 (sh4 (sh4 (sh4 (sh4 (sh4 (sh4 (sh4 (u0:Int))))))))))))))))<36 by rw [sh4_nat,sh4_nat,sh4_nat,sh4_nat,sh4_nat,sh4_nat,sh4_nat,sh4_nat,sh4_nat,sh4_nat,sh4_nat,sh4_nat,sh4_nat,sh4_nat,sh4_nat];omega),?_⟩
                 conv=>whnf
                 refine ⟨by decide,by decide,?_⟩
                 conv=>whnf
                 refine ⟨by decide,by decide,?_⟩
                 conv=>whnf
                 refine ⟨[digs36.getD (sh4 (sh4 (sh4 (sh4 (sh4 (sh4 (sh4 (sh4 (sh4 (sh4 (sh4 (sh4 (sh4 (sh4 (sh4 (u0:Int)))))))))))))))).toNat 0,digs36.getD (bitsOf .and .u64 (sh4 (sh4 (sh4 (sh4 (sh4 (sh4 (sh4 (sh4 (sh4 (sh4 (sh4 (sh4 (sh4 (sh4 (u0:Int))))))))))))))) 15).toNat 0,digs36.getD (bitsOf .and .u64 (sh4 (sh4 (sh4 (sh4 (sh4 (sh4 (sh4 (sh4 (sh4 (sh4 (sh4 (sh4 (sh4 (u0:Int)))))))))))))) 15).toNat 0,digs36.getD (bitsOf .and .u64 (sh4 (sh4 (sh4 (sh4 (sh4 (sh4 (sh4 (sh4 (sh4 (sh4 (sh4 (sh4 (u0:Int))))))))))))) 15).toNat 0,digs36.getD (bitsOf .and .u64 (sh4 (sh4 (sh4 (sh4 (sh4 (sh4 (sh4 (sh4 (sh4 (sh4 (sh4 (u0:Int)))))))))))) 15).toNat 0,digs36.getD (bitsOf .and .u64 (sh4 (sh4 (sh4 (sh4 (sh4 (sh4 (sh4 (sh4 (sh4 (sh4 (u0:Int))))))))))) 15).toNat 0,digs36.getD (bitsOf .and .u64 (sh4 (sh4 (sh4 (sh4 (sh4 (sh4 (sh4 (sh4 (sh4 (u0:Int)))))))))) 15).toNat 0,digs36.getD (bitsOf .and .u64 (sh4 (sh4 (sh4 (sh4 (sh4 (sh4 (sh4 (sh4 (u0:Int))))))))) 15).toNat 0,digs36.getD (bitsOf .and .u64 (sh4 (sh4 (sh4 (sh4 (sh4 (sh4 (sh4 (u0:Int)))))))) 15).toNat 0,digs36.getD (bitsOf .and .u64 (sh4 (sh4 (sh4 (sh4 (sh4 (sh4 (u0:Int))))))) 15).toNat 0,digs36.getD (bitsOf .and .u64 (sh4 (sh4 (sh4 (sh4 (sh4 (u0:Int)))))) 15).toNat 0,digs36.getD (bitsOf .and .u64 (sh4 (sh4 (sh4 (sh4 (u0:Int))))) 15).toNat 0,digs36.getD (bitsOf .and .u64 (sh4 (sh4 (sh4 (u0:Int)))) 15).toNat 0,digs36.getD (bitsOf .and .u64 (sh4 (sh4 (u0:Int))) 15).toNat 0,digs36.getD (bitsOf .and .u64 (sh4 (u0:Int)) 15).toNat 0,digs36.getD (bitsOf .and .u64 (u0:Int) 15).toNat 0],rfl,rfl,?_⟩
                 conv=>whnf
                 exact h
                have g14:¬(16:Int)≤(sh4 (sh4 (sh4 (sh4 (sh4 (sh4 (sh4 (sh4 (sh4 (sh4 (sh4 (sh4 (sh4 (sh4 (u0:Int))))))))))))))):=g14
                rw [sh4_nat,sh4_nat,sh4_nat,sh4_nat,sh4_nat,sh4_nat,sh4_nat,sh4_nat,sh4_nat,sh4_nat,sh4_nat,sh4_nat,sh4_nat,sh4_nat] at g14
                have hb:baseT 16 u0=[digs36.getD (sh4 (sh4 (sh4 (sh4 (sh4 (sh4 (sh4 (sh4 (sh4 (sh4 (sh4 (sh4 (sh4 (sh4 (u0:Int))))))))))))))).toNat 0,digs36.getD (bitsOf .and .u64 (sh4 (sh4 (sh4 (sh4 (sh4 (sh4 (sh4 (sh4 (sh4 (sh4 (sh4 (sh4 (sh4 (u0:Int)))))))))))))) 15).toNat 0,digs36.getD (bitsOf .and .u64 (sh4 (sh4 (sh4 (sh4 (sh4 (sh4 (sh4 (sh4 (sh4 (sh4 (sh4 (sh4 (u0:Int))))))))))))) 15).toNat 0,digs36.getD (bitsOf .and .u64 (sh4 (sh4 (sh4 (sh4 (sh4 (sh4 (sh4 (sh4 (sh4 (sh4 (sh4 (u0:Int)))))))))))) 15).toNat 0,digs36.getD (bitsOf .and .u64 (sh4 (sh4 (sh4 (sh4 (sh4 (sh4 (sh4 (sh4 (sh4 (sh4 (u0:Int))))))))))) 15).toNat 0,digs36.getD (bitsOf .and .u64 (sh4 (sh4 (sh4 (sh4 (sh4 (sh4 (sh4 (sh4 (sh4 (u0:Int)))))))))) 15).toNat 0,digs36.getD (bitsOf .and .u64 (sh4 (sh4 (sh4 (sh4 (sh4 (sh4 (sh4 (sh4 (u0:Int))))))))) 15).toNat 0,digs36.getD (bitsOf .and .u64 (sh4 (sh4 (sh4 (sh4 (sh4 (sh4 (sh4 (u0:Int)))))))) 15).toNat 0,digs36.getD (bitsOf .and .u64 (sh4 (sh4 (sh4 (sh4 (sh4 (sh4 (u0:Int))))))) 15).toNat 0,digs36.getD (bitsOf .and .u64 (sh4 (sh4 (sh4 (sh4 (sh4 (u0:Int)))))) 15).toNat 0,digs36.getD (bitsOf .and .u64 (sh4 (sh4 (sh4 (sh4 (u0:Int))))) 15).toNat 0,digs36.getD (bitsOf .and .u64 (sh4 (sh4 (sh4 (u0:Int)))) 15).toNat 0,digs36.getD (bitsOf .and .u64 (sh4 (sh4 (u0:Int))) 15).toNat 0,digs36.getD (bitsOf .and .u64 (sh4 (u0:Int)) 15).toNat 0,digs36.getD (bitsOf .and .u64 (u0:Int) 15).toNat 0]:=by
                 simp only [sh4_nat]
                 rw [digs_low (u:=u0 / 16 / 16 / 16 / 16 / 16 / 16 / 16 / 16 / 16 / 16 / 16 / 16 / 16 / 16) (by omega),digs_and (u:=u0 / 16 / 16 / 16 / 16 / 16 / 16 / 16 / 16 / 16 / 16 / 16 / 16 / 16) (by omega),digs_and (u:=u0 / 16 / 16 / 16 / 16 / 16 / 16 / 16 / 16 / 16 / 16 / 16 / 16) (by omega),digs_and (u:=u0 / 16 / 16 / 16 / 16 / 16 / 16 / 16 / 16 / 16 / 16 / 16) (by omega),digs_and (u:=u0 / 16 / 16 / 16 / 16 / 16 / 16 / 16 / 16 / 16 / 16) (by omega),digs_and (u:=u0 / 16 / 16 / 16 / 16 / 16 / 16 / 16 / 16 / 16) (by omega),digs_and (u:=u0 / 16 / 16 / 16 / 16 / 16 / 16 / 16 / 16) (by omega),digs_and (u:=u0 / 16 / 16 / 16 / 16 / 16 / 16 / 16) (by omega),digs_and (u:=u0 / 16 / 16 / 16 / 16 / 16 / 16) (by omega),digs_and (u:=u0 / 16 / 16 / 16 / 16 / 16) (by omega),digs_and (u:=u0 / 16 / 16 / 16 / 16) (by omega),digs_and (u:=u0 / 16 / 16 / 16) (by omega),digs_and (u:=u0 / 16 / 16) (by omega),digs_and (u:=u0 / 16) (by omega),digs_and (u:=u0) (by omega)]
                 rw [hex_step (n:=u0) (by omega),hex_step (n:=u0 / 16) (by omega),hex_step (n:=u0 / 16 / 16) (by omega),hex_step (n:=u0 / 16 / 16 / 16) (by omega),hex_step (n:=u0 / 16 / 16 / 16 / 16) (by omega),hex_step (n:=u0 / 16 / 16 / 16 / 16 / 16) (by omega),hex_step (n:=u0 / 16 / 16 / 16 / 16 / 16 / 16) (by omega),hex_step (n:=u0 / 16 / 16 / 16 / 16 / 16 / 16 / 16) (by omega),hex_step (n:=u0 / 16 / 16 / 16 / 16 / 16 / 16 / 16 / 16) (by omega),hex_step (n:=u0 / 16 / 16 / 16 / 16 / 16 / 16 / 16 / 16 / 16) (by omega),hex_step (n:=u0 / 16 / 16 / 16 / 16 / 16 / 16 / 16 / 16 / 16 / 16) (by omega),hex_step (n:=u0 / 16 / 16 / 16 / 16 / 16 / 16 / 16 / 16 / 16 / 16 / 16) (by omega),hex_step (n:=u0 / 16 / 16 / 16 / 16 / 16 / 16 / 16 / 16 / 16 / 16 / 16 / 16) (by omega),hex_step (n:=u0 / 16 / 16 / 16 / 16 / 16 / 16 / 16 / 16 / 16 / 16 / 16 / 16 / 16) (by omega),hex_last (n:=u0 / 16 / 16 / 16 / 16 / 16 / 16 / 16 / 16 / 16 / 16 / 16 / 16 / 16 / 16) (by omega)]
                 rfl
                rw [hb] at h
                conv=>whnf
                refine Or.inl ⟨InR.i64 (by decide) (by decide),?_⟩
                conv=>whnf
                refine ⟨(show 0≤(sh4 (sh4 (sh4 (sh4 (sh4 (sh4 (sh4 (sh4 (sh4 (sh4 (sh4 (sh4 (sh4 (sh4 (u0:Int))))))))))))))) by rw [sh4_nat,sh4_nat,sh4_nat,sh4_nat,sh4_nat,sh4_nat,sh4_nat,sh4_nat,sh4_nat,sh4_nat,sh4_nat,sh4_nat,sh4_nat,sh4_nat];omega),(show (sh4 (sh4 (sh4 (sh4 (sh4 (sh4 (sh4 (sh4 (sh4 (sh4 (sh4 (sh4 (sh4 (sh4 (u0:Int)))))))))))))))<36 by rw [sh4_nat,sh4_nat,sh4_nat,sh4_nat,sh4_nat,sh4_nat,sh4_nat,sh4_nat,sh4_nat,sh4_nat,sh4_nat,sh4_nat,sh4_nat,sh4_nat];omega),?_⟩
                conv=>whnf
                refine ⟨by decide,by decide,?_⟩
                conv=>whnf
                refine ⟨by decide,by decide,?_⟩
                conv=>whnf
                refine ⟨[digs36.getD (sh4 (sh4 (sh4 (sh4 (sh4 (sh4 (sh4 (sh4 (sh4 (sh4 (sh4 (sh4 (sh4 (sh4 (u0:Int))))))))))))))).toNat 0,digs36.getD (bitsOf .and .u64 (sh4 (sh4 (sh4 (sh4 (sh4 (sh4 (sh4 (sh4 (sh4 (sh4 (sh4 (sh4 (sh4 (u0:Int)))))))))))))) 15).toNat 0,digs36.getD (bitsOf .and .u64 (sh4 (sh4 (sh4 (sh4 (sh4 (sh4 (sh4 (sh4 (sh4 (sh4 (sh4 (sh4 (u0:Int))))))))))))) 15).toNat 0,digs36.getD (bitsOf .and .u64 (sh4 (sh4 (sh4 (sh4 (sh4 (sh4 (sh4 (sh4 (sh4 (sh4 (sh4 (u0:Int)))))))))))) 15).toNat 0,digs36.getD (bitsOf .and .u64 (sh4 (sh4 (sh4 (sh4 (sh4 (sh4 (sh4 (sh4 (sh4 (sh4 (u0:Int))))))))))) 15).toNat 0,digs36.getD (bitsOf .and .u64 (sh4 (sh4 (sh4 (sh4 (sh4 (sh4 (sh4 (sh4 (sh4 (u0:Int)))))))))) 15).toNat 0,digs36.getD (bitsOf .and .u64 (sh4 (sh4 (sh4 (sh4 (sh4 (sh4 (sh4 (sh4 (u0:Int))))))))) 15).toNat 0,digs36.getD (bitsOf .and .u64 (sh4 (sh4 (sh4 (sh4 (sh4 (sh4 (sh4 (u0:Int)))))))) 15).toNat 0,digs36.getD (bitsOf .and .u64 (sh4 (sh4 (sh4 (sh4 (sh4 (sh4 (u0:Int))))))) 15).toNat 0,digs36.getD (bitsOf .and .u64 (sh4 (sh4 (sh4 (sh4 (sh4 (u0:Int)))))) 15).toNat 0,digs36.getD (bitsOf .and .u64 (sh4 (sh4 (sh4 (sh4 (u0:Int))))) 15).toNat 0,digs36.getD (bitsOf .and .u64 (sh4 (sh4 (sh4 (u0:Int)))) 15).toNat 0,digs36.getD (bitsOf .and .u64 (sh4 (sh4 (u0:Int))) 15).toNat 0,digs36.getD (bitsOf .and .u64 (sh4 (u0:Int)) 15).toNat 0,digs36.getD (bitsOf .and .u64 (u0:Int) 15).toNat 0],rfl,rfl,?_⟩
                conv=>whnf
                exact h
               have g13:¬(16:Int)≤(sh4 (sh4 (sh4 (sh4 (sh4 (sh4 (sh4 (sh4 (sh4 (sh4 (sh4 (sh4 (sh4 (u0:Int)))))))))))))):=g13
               rw [sh4_nat,sh4_nat,sh4_nat,sh4_nat,sh4_nat,sh4_nat,sh4_nat,sh4_nat,sh4_nat,sh4_nat,sh4_nat,sh4_nat,sh4_nat] at g13
               have hb:baseT 16 u0=[digs36.getD (sh4 (sh4 (sh4 (sh4 (sh4 (sh4 (sh4 (sh4 (sh4 (sh4 (sh4 (sh4 (sh4 (u0:Int)))))))))))))).toNat 0,digs36.getD (bitsOf .and .u64 (sh4 (sh4 (sh4 (sh4 (sh4 (sh4 (sh4 (sh4 (sh4 (sh4 (sh4 (sh4 (u0:Int))))))))))))) 15).toNat 0,digs36.getD (bitsOf .and .u64 (sh4 (sh4 (sh4 (sh4 (sh4 (sh4 (sh4 (sh4 (sh4 (sh4 (sh4 (u0:Int)))))))))))) 15).toNat 0,digs36.getD (bitsOf .and .u64 (sh4 (sh4 (sh4 (sh4 (sh4 (sh4 (sh4 (sh4 (sh4 (sh4 (u0:Int))))))))))) 15).toNat 0,digs36.getD (bitsOf .and .u64 (sh4 (sh4 (sh4 (sh4 (sh4 (sh4 (sh4 (sh4 (sh4 (u0:Int)))))))))) 15).toNat 0,digs36.getD (bitsOf .and .u64 (sh4 (sh4 (sh4 (sh4 (sh4 (sh4 (sh4 (sh4 (u0:Int))))))))) 15).toNat 0,digs36.getD (bitsOf .and .u64 (sh4 (sh4 (sh4 (sh4 (sh4 (sh4 (sh4 (u0:Int)))))))) 15).toNat 0,digs36.getD (bitsOf .and .u64 (sh4 (sh4 (sh4 (sh4 (sh4 (sh4 (u0:Int))))))) 15).toNat 0,digs36.getD (bitsOf .and .u64 (sh4 (sh4 (sh4 (sh4 (sh4 (u0:Int)))))) 15).toNat 0,digs36.getD (bitsOf .and .u64 (sh4 (sh4 (sh4 (sh4 (u0:Int))))) 15).toNat 0,digs36.getD (bitsOf .and .u64 (sh4 (sh4 (sh4 (u0:Int)))) 15).toNat 0,digs36.getD (bitsOf .and .u64 (sh4 (sh4 (u0:Int))) 15).toNat 0,digs36.getD (bitsOf .and .u64 (sh4 (u0:Int)) 15).toNat 0,digs36.getD (bitsOf .and .u64 (u0:Int) 15).toNat 0]:=by
                simp only [sh4_nat]
                rw [digs_low (u:=u0 / 16 / 16 / 16 / 16 / 16 / 16 / 16 / 16 / 16 / 16 / 16 / 16 / 16) (by omega),digs_and (u:=u0 / 16 / 16 / 16 / 16 / 16 / 16 / 16 / 16 / 16 / 16 / 16 / 16) (by omega),digs_and (u:=u0 / 16 / 16 / 16 / 16 / 16 / 16 / 16 / 16 / 16 / 16 / 16) (by omega),digs_and (u:=u0 / 16 / 16 / 16 / 16 / 16 / 16 / 16 / 16 / 16 / 16) (by omega),digs_and (u:=u0 / 16 / 16 / 16 / 16 / 16 / 16 / 16 / 16 / 16) (by omega),digs_and (u:=u0 / 16 / 16 / 16 / 16 / 16 / 16 / 16 / 16) (by omega),digs_and (u:=u0 / 16 / 16 / 16 / 16 / 16 / 16 / 16) (by omega),digs_and (u:=u0 / 16 / 16 / 16 / 16 / 16 / 16) (by omega),digs_and (u:=u0 / 16 / 16 / 16 / 16 / 16) (by omega),digs_and (u:=u0 / 16 / 16 / 16 / 16) (by omega),digs_and (u:=u0 / 16 / 16 / 16) (by omega),digs_and (u:=u0 / 16 / 16) (by omega),digs_and (u:=u0 / 16) (by omega),digs_and (u:=u0) (by omega)]
                rw [hex_step (n:=u0) (by omega),hex_step (n:=u0 / 16) (by omega),hex_step (n:=u0 / 16 / 16) (by omega),hex_step (n:=u0 / 16 / 16 / 16) (by omega),hex_step (n:=u0 / 16 / 16 / 16 / 16) (by omega),hex_step (n:=u0 / 16 / 16 / 16 / 16 / 16) (by omega),hex_step (n:=u0 / 16 / 16 / 16 / 16 / 16 / 16) (by omega),hex_step (n:=u0 / 16 / 16 / 16 / 16 / 16 / 16 / 16) (by omega),hex_step (n:=u0 / 16 / 16 / 16 / 16 / 16 / 16 / 16 / 16) (by omega),hex_step (n:=u0 / 16 / 16 / 16 / 16 / 16 / 16 / 16 / 16 / 16) (by omega),hex_step (n:=u0 / 16 / 16 / 16 / 16 / 16 / 16 / 16 / 16 / 16 / 16) (by omega),hex_step (n:=u0 / 16 / 16 / 16 / 16 / 16 / 16 / 16 / 16 / 16 / 16 / 16) (by omega),hex_step (n:=u0 / 16 / 16 / 16 / 16 / 16 / 16 / 16 / 16 / 16 / 16 / 16 / 16) (by omega),hex_last (n:=u0 / 16 / 16 / 16 / 16 / 16 / 16 / 16 / 16 / 16 / 16 / 16 / 16 / 16) (by omega)]
                rfl
               rw [hb] at h
               conv=>whnf
               refine Or.inl ⟨InR.i64 (by decide) (by decide),?_⟩
               conv=>whnf
               refine ⟨(show 0≤(sh4 (sh4 (sh4 (sh4 (sh4 (sh4 (sh4 (sh4 (sh4 (sh4 (sh4 (sh4 (sh4 (u0:Int)))))))))))))) by rw [sh4_nat,sh4_nat,sh4_nat,sh4_nat,sh4_nat,sh4_nat,sh4_nat,sh4_nat,sh4_nat,sh4_nat,sh4_nat,sh4_nat,sh4_nat];omega),(show (sh4 (sh4 (sh4 (sh4 (sh4 (sh4 (sh4 (sh4 (sh4 (sh4 (sh4 (sh4 (sh4 (u0:Int))))))))))))))<36 by rw [sh4_nat,sh4_nat,sh4_nat,sh4_nat,sh4_nat,sh4_nat,sh4_nat,sh4_nat,sh4_nat,sh4_nat,sh4_nat,sh4_nat,sh4_nat];omega),?_⟩
               conv=>whnf
               refine ⟨by decide,by decide,?_⟩
               conv=>whnf
               refine ⟨by decide,by decide,?_⟩
               conv=>whnf
               refine ⟨[digs36.getD (sh4 (sh4 (sh4 (sh4 (sh4 (sh4 (sh4 (sh4 (sh4 (sh4 (sh4 (sh4 (sh4 (u0:Int)))))))))))))).toNat 0,digs36.getD (bitsOf .and .u64 (sh4 (sh4 (sh4 (sh4 (sh4 (sh4 (sh4 (sh4 (sh4 (sh4 (sh4 (sh4 (u0:Int))))))))))))) 15).toNat 0,digs36.getD (bitsOf .and .u64 (sh4 (sh4 (sh4 (sh4 (sh4 (sh4 (sh4 (sh4 (sh4 (sh4 (sh4 (u0:Int)))))))))))) 15).toNat 0,digs36.getD (bitsOf .and .u64 (sh4 (sh4 (sh4 (sh4 (sh4 (sh4 (sh4 (sh4 (sh4 (sh4 (u0:Int))))))))))) 15).toNat 0,digs36.getD (bitsOf .and .u64 (sh4 (sh4 (sh4 (sh4 (sh4 (sh4 (sh4 (sh4 (sh4 (u0:Int)))))))))) 15).toNat 0,digs36.getD (bitsOf .and .u64 (sh4 (sh4 (sh4 (sh4 (sh4 (sh4 (sh4 (sh4 (u0:Int))))))))) 15).toNat 0,digs36.getD (bitsOf .and .u64 (sh4 (sh4 (sh4 (sh4 (sh4 (sh4 (sh4 (u0:Int)))))))) 15).toNat 0,digs36.getD (bitsOf .and .u64 (sh4 (sh4 (sh4 (sh4 (sh4 (sh4 (u0:Int))))))) 15).toNat 0,digs36.getD (bitsOf .and .u64 (sh4 (sh4 (sh4 (sh4 (sh4 (u0:Int)))))) 15).toNat 0,digs36.getD (bitsOf .and .u64 (sh4 (sh4 (sh4 (sh4 (u0:Int))))) 15).toNat 0,digs36.getD (bitsOf .and .u64 (sh4 (sh4 (sh4 (u0:Int)))) 15).toNat 0,digs36.getD (bitsOf .and .u64 (sh4 (sh4 (u0:Int))) 15).toNat 0,digs36.getD (bitsOf .and .u64 (sh4 (u0:Int)) 15).toNat 0,digs36.getD (bitsOf .and .u64 (u0:Int) 15).toNat 0],rfl,rfl,?_⟩
               conv=>whnf
               exact h
              have g12:¬(16:Int)≤(sh4 (sh4 (sh4 (sh4 (sh4 (sh4 (sh4 (sh4 (sh4 (sh4 (sh4 (sh4 (u0:Int))))))))))))):=g12
              rw [sh4_nat,sh4_nat,sh4_nat,sh4_nat,sh4_nat,sh4_nat,sh4_nat,sh4_nat,sh4_nat,sh4_nat,sh4_nat,sh4_nat] at g12
              have hb:baseT 16 u0=[digs36.getD (sh4 (sh4 (sh4 (sh4 (sh4 (sh4 (sh4 (sh4 (sh4 (sh4 (sh4 (sh4 (u0:Int))))))))))))).toNat 0,digs36.getD (bitsOf .and .u64 (sh4 (sh4 (sh4 (sh4 (sh4 (sh4 (sh4 (sh4 (sh4 (sh4 (sh4 (u0:Int)))))))))))) 15).toNat 0,digs36.getD (bitsOf .and .u64 (sh4 (sh4 (sh4 (sh4 (sh4 (sh4 (sh4 (sh4 (sh4 (sh4 (u0:Int))))))))))) 15).toNat 0,digs36.getD (bitsOf .and .u64 (sh4 (sh4 (sh4 (sh4 (sh4 (sh4 (sh4 (sh4 (sh4 (u0:Int)))))))))) 15).toNat 0,digs36.getD (bitsOf .and .u64 (sh4 (sh4 (sh4 (sh4 (sh4 (sh4 (sh4 (sh4 (u0:Int))))))))) 15).toNat 0,digs36.getD (bitsOf .and .u64 (sh4 (sh4 (sh4 (sh4 (sh4 (sh4 (sh4 (u0:Int)))))))) 15).toNat 0,digs36.getD (bitsOf .and .u64 (sh4 (sh4 (sh4 (sh4 (sh4 (sh4 (u0:Int))))))) 15).toNat 0,digs36.getD (bitsOf .and .u64 (sh4 (sh4 (sh4 (sh4 (sh4 (u0:Int)))))) 15).toNat 0,digs36.getD (bitsOf .and .u64 (sh4 (sh4 (sh4 (sh4 (u0:Int))))) 15).toNat 0,digs36.getD (bitsOf .and .u64 (sh4 (sh4 (sh4 (u0:Int)))) 15).toNat 0,digs36.getD (bitsOf .and .u64 (sh4 (sh4 (u0:Int))) 15).toNat 0,digs36.getD (bitsOf .and .u64 (sh4 (u0:Int)) 15).toNat 0,digs36.getD (bitsOf .and .u64 (u0:Int) 15).toNat 0]:=by
               simp only [sh4_nat]
               rw [digs_low (u:=u0 / 16 / 16 / 16 / 16 / 16 / 16 / 16 / 16 / 16 / 16 / 16 / 16) (by omega),digs_and (u:=u0 / 16 / 16 / 16 / 16 / 16 / 16 / 16 / 16 / 16 / 16 / 16) (by omega),digs_and (u:=u0 / 16 / 16 / 16 / 16 / 16 / 16 / 16 / 16 / 16 / 16) (by omega),digs_and (u:=u0 / 16 / 16 / 16 / 16 / 16 / 16 / 16 / 16 / 16) (by omega),digs_and (u:=u0 / 16 / 16 / 16 / 16 / 16 / 16 / 16 / 16) (by omega),digs_and (u:=u0 / 16 / 16 / 16 / 16 / 16 / 16 / 16) (by omega),digs_and (u:=u0 / 16 / 16 / 16 / 16 / 16 / 16) (by omega),digs_and (u:=u0 / 16 / 16 / 16 / 16 / 16) (by omega),digs_and (u:=u0 / 16 / 16 / 16 / 16) (by omega),digs_and (u:=u0 / 16 / 16 / 16) (by omega),digs_and (u:=u0 / 16 / 16) (by omega),digs_and (u:=u0 / 16) (by omega),digs_and (u:=u0) (by omega)]
               rw [hex_step (n:=u0) (by omega),hex_step (n:=u0 / 16) (by omega),hex_step (n:=u0 / 16 / 16) (by omega),hex_step (n:=u0 / 16 / 16 / 16) (by omega),hex_step (n:=u0 / 16 / 16 / 16 / 16) (by omega),hex_step (n:=u0 / 16 / 16 / 16 / 16 / 16) (by omega),hex_step (n:=u0 / 16 / 16 / 16 / 16 / 16 / 16) (by omega),hex_step (n:=u0 / 16 / 16 / 16 / 16 / 16 / 16 / 16) (by omega),hex_step (n:=u0 / 16 / 16 / 16 / 16 / 16 / 16 / 16 / 16) (by omega),hex_step (n:=u0 / 16 / 16 / 16 / 16 / 16 / 16 / 16 / 16 / 16) (by omega),hex_step (n:=u0 / 16 / 16 / 16 / 16 / 16 / 16 / 16 / 16 / 16 / 16) (by omega),hex_step (n:=u0 / 16 / 16 / 16 / 16 / 16 / 16 / 16 / 16 / 16 / 16 / 16) (by omega),hex_last (n:=u0 / 16 / 16 / 16 / 16 / 16 / 16 / 16 / 16 / 16 / 16 / 16 / 16) (by omega)]
               rfl
              rw [hb] at h
              conv=>whnf
              refine Or.inl ⟨InR.i64 (by decide) (by decide),?_⟩
              conv=>whnf
              refine ⟨(show 0≤(sh4 (sh4 (sh4 (sh4 (sh4 (sh4 (sh4 (sh4 (sh4 (sh4 (sh4 (sh4 (u0:Int))))))))))))) by rw [sh4_nat,sh4_nat,sh4_nat,sh4_nat,sh4_nat,sh4_nat,sh4_nat,sh4_nat,sh4_nat,sh4_nat,sh4_nat,sh4_nat];omega),(show (sh4 (sh4 (sh4 (sh4 (sh4 (sh4 (sh4 (sh4 (sh4 (sh4 (sh4 (sh4 (u0:Int)))))))))))))<36 by rw [sh4_nat,sh4_nat,sh4_nat,sh4_nat,sh4_nat,sh4_nat,sh4_nat,sh4_nat,sh4_nat,sh4_nat,sh4_nat,sh4_nat];omega),?_⟩
              conv=>whnf
              refine ⟨by decide,by decide,?_⟩
              conv=>whnf
              refine ⟨by decide,by decide,?_⟩
              conv=>whnf
              refine ⟨[digs36.getD (sh4 (sh4 (sh4 (sh4 (sh4 (sh4 (sh4 (sh4 (sh4 (sh4 (sh4 (sh4 (u0:Int))))))))))))).toNat 0,digs36.getD (bitsOf .and .u64 (sh4 (sh4 (sh4 (sh4 (sh4 (sh4 (sh4 (sh4 (sh4 (sh4 (sh4 (u0:Int)))))))))))) 15).toNat 0,digs36.getD (bitsOf .and .u64 (sh4 (sh4 (sh4 (sh4 (sh4 (sh4 (sh4 (sh4 (sh4 (sh4 (u0:Int))))))))))) 15).toNat 0,digs36.getD (bitsOf .and .u64 (sh4 (sh4 (sh4 (sh4 (sh4 (sh4 (sh4 (sh4 (sh4 (u0:Int)))))))))) 15).toNat 0,digs36.getD (bitsOf .and .u64 (sh4 (sh4 (sh4 (sh4 (sh4 (sh4 (sh4 (sh4 (u0:Int))))))))) 15).toNat 0,digs36.getD (bitsOf .and .u64 (sh4 (sh4 (sh4 (sh4 (sh4 (sh4 (sh4 (u0:Int)))))))) 15).toNat 0,digs36.getD (bitsOf .and .u64 (sh4 (sh4 (sh4 (sh4 (sh4 (sh4 (u0:Int))))))) 15).toNat 0,digs36.getD (bitsOf .and .u64 (sh4 (sh4 (sh4 (sh4 (sh4 (u0:Int)))))) 15).toNat 0,digs36.getD (bitsOf .and .u64 (sh4 (sh4 (sh4 (sh4 (u0:Int))))) 15).toNat 0,digs36.getD (bitsOf .and .u64 (sh4 (sh4 (sh4 (u0:Int)))) 15).toNat 0,digs36.getD (bitsOf .and .u64 (sh4 (sh4 (u0:Int))) 15).toNat 0,digs36.getD (bitsOf .and .u64 (sh4 (u0:Int)) 15).toNat 0,digs36.getD (bitsOf .and .u64 (u0:Int) 15).toNat 0],rfl,rfl,?_⟩
              conv=>whnf
              exact h
             have g11:¬(16:Int)≤(sh4 (sh4 (sh4 (sh4 (sh4 (sh4 (sh4 (sh4 (sh4 (sh4 (sh4 (u0:Int)))))))))))):=g11
             rw [sh4_nat,sh4_nat,sh4_nat,sh4_nat,sh4_nat,sh4_nat,sh4_nat,sh4_nat,sh4_nat,sh4_nat,sh4_nat] at g11
             have hb:baseT 16 u0=[digs36.getD (sh4 (sh4 (sh4 (sh4 (sh4 (sh4 (sh4 (sh4 (sh4 (sh4 (sh4 (u0:Int)))))))))))).toNat 0,digs36.getD (bitsOf .and .u64 (sh4 (sh4 (sh4 (sh4 (sh4 (sh4 (sh4 (sh4 (sh4 (sh4 (u0:Int))))))))))) 15).toNat 0,digs36.getD (bitsOf .and .u64 (sh4 (sh4 (sh4 (sh4 (sh4 (sh4 (sh4 (sh4 (sh4 (u0:Int)))))))))) 15).toNat 0,digs36.getD (bitsOf .and .u64 (sh4 (sh4 (sh4 (sh4 (sh4 (sh4 (sh4 (sh4 (u0:Int))))))))) 15).toNat 0,digs36.getD (bitsOf .and .u64 (sh4 (sh4 (sh4 (sh4 (sh4 (sh4 (sh4 (u0:Int)))))))) 15).toNat 0,digs36.getD (bitsOf .and .u64 (sh4 (sh4 (sh4 (sh4 (sh4 (sh4 (u0:Int))))))) 15).toNat 0,digs36.getD (bitsOf .and .u64 (sh4 (sh4 (sh4 (sh4 (sh4 (u0:Int)))))) 15).toNat 0,digs36.getD (bitsOf .and .u64 (sh4 (sh4 (sh4 (sh4 (u0:Int))))) 15).toNat 0,digs36.getD (bitsOf .and .u64 (sh4 (sh4 (sh4 (u0:Int)))) 15).toNat 0,digs36.getD (bitsOf .and .u64 (sh4 (sh4 (u0:Int))) 15).toNat 0,digs36.getD (bitsOf .and .u64 (sh4 (u0:Int)) 15).toNat 0,digs36.getD (bitsOf .and .u64 (u0:Int) 15).toNat 0]:=by
              simp only [sh4_nat]
              rw [digs_low (u:=u0 / 16 / 16 / 16 / 16 / 16 / 16 / 16 / 16 / 16 / 16 / 16) (by omega),digs_and (u:=u0 / 16 / 16 / 16 / 16 / 16 / 16 / 16 / 16 / 16 / 16) (by omega),digs_and (u:=u0 / 16 / 16 / 16 / 16 / 16 / 16 / 16 / 16 / 16) (by omega),digs_and (u:=u0 / 16 / 16 / 16 / 16 / 16 / 16 / 16 / 16) (by omega),digs_and (u:=u0 / 16 / 16 / 16 / 16 / 16 / 16 / 16) (by omega),digs_and (u:=u0 / 16 / 16 / 16 / 16 / 16 / 16) (by omega),digs_and (u:=u0 / 16 / 16 / 16 / 16 / 16) (by omega),digs_and (u:=u0 / 16 / 16 / 16 / 16) (by omega),digs_and (u:=u0 / 16 / 16 / 16) (by omega),digs_and (u:=u0 / 16 / 16) (by omega),digs_and (u:=u0 / 16) (by omega),digs_and (u:=u0) (by omega)]
              rw [hex_step (n:=u0) (by omega),hex_step (n:=u0 / 16) (by omega),hex_step (n:=u0 / 16 / 16) (by omega),hex_step (n:=u0 / 16 / 16 / 16) (by omega),hex_step (n:=u0 / 16 / 16 / 16 / 16) (by omega),hex_step (n:=u0 / 16 / 16 / 16 / 16 / 16) (by omega),hex_step (n:=u0 / 16 / 16 / 16 / 16 / 16 / 16) (by omega),hex_step (n:=u0 / 16 / 16 / 16 / 16 / 16 / 16 / 16) (by omega),hex_step (n:=u0 / 16 / 16 / 16 / 16 / 16 / 16 / 16 / 16) (by omega),hex_step (n:=u0 / 16 / 16 / 16 / 16 / 16 / 16 / 16 / 16 / 16) (by omega),hex_step (n:=u0 / 16 / 16 / 16 / 16 / 16 / 16 / 16 / 16 / 16 / 16) (by omega),hex_last (n:=u0 / 16 / 16 / 16 / 16 / 16 / 16 / 16 / 16 / 16 / 16 / 16) (by omega)]
              rfl
             rw [hb] at h
             conv=>whnf
             refine Or.inl ⟨InR.i64 (by decide) (by decide),?_⟩
             conv=>whnf
             refine ⟨(show 0≤(sh4 (sh4 (sh4 (sh4 (sh4 (sh4 (sh4 (sh4 (sh4 (sh4 (sh4 (u0:Int)))))))))))) by rw [sh4_nat,sh4_nat,sh4_nat,sh4_nat,sh4_nat,sh4_nat,sh4_nat,sh4_nat,sh4_nat,sh4_nat,sh4_nat];omega),(show (sh4 (sh4 (sh4 (sh4 (sh4 (sh4 (sh4 (sh4 (sh4 (sh4 (sh4 (u0:Int))))))))))))<36 by rw [sh4_nat,sh4_nat,sh4_nat,sh4_nat,sh4_nat,sh4_nat,sh4_nat,sh4_nat,sh4_nat,sh4_nat,sh4_nat];omega),?_⟩
             conv=>whnf
             refine ⟨by decide,by decide,?_⟩
             conv=>whnf
             refine ⟨by decide,by decide,?_⟩
             conv=>whnf
             refine ⟨[digs36.getD (sh4 (sh4 (sh4 (sh4 (sh4 (sh4 (sh4 (sh4 (sh4 (sh4 (sh4 (u0:Int)))))))))))).toNat 0,digs36.getD (bitsOf .and .u64 (sh4 (sh4 (sh4 (sh4 (sh4 (sh4 (sh4 (sh4 (sh4 (sh4 (u0:Int))))))))))) 15).toNat 0,digs36.getD (bitsOf .and .u64 (sh4 (sh4 (sh4 (sh4 (sh4 (sh4 (sh4 (sh4 (sh4 (u0:Int)))))))))) 15).toNat 0,digs36.getD (bitsOf .and .u64 (sh4 (sh4 (sh4 (sh4 (sh4 (sh4 (sh4 (sh4 (u0:Int))))))))) 15).toNat 0,digs36.getD (bitsOf .and .u64 (sh4 (sh4 (sh4 (sh4 (sh4 (sh4 (sh4 (u0:Int)))))))) 15).toNat 0,digs36.getD (bitsOf .and .u64 (sh4 (sh4 (sh4 (sh4 (sh4 (sh4 (u0:Int))))))) 15).toNat 0,digs36.getD (bitsOf .and .u64 (sh4 (sh4 (sh4 (sh4 (sh4 (u0:Int)))))) 15).toNat 0,digs36.getD (bitsOf .and .u64 (sh4 (sh4 (sh4 (sh4 (u0:Int))))) 15).toNat 0,digs36.getD (bitsOf .and .u64 (sh4 (sh4 (sh4 (u0:Int)))) 15).toNat 0,digs36.getD (bitsOf .and .u64 (sh4 (sh4 (u0:Int))) 15).toNat 0,digs36.getD (bitsOf .and .u64 (sh4 (u0:Int)) 15).toNat 0,digs36.getD (bitsOf .and .u64 (u0:Int) 15).toNat 0],rfl,rfl,?_⟩
             conv=>whnf
             exact h
            have g10:¬(16:Int)≤(sh4 (sh4 (sh4 (sh4 (sh4 (sh4 (sh4 (sh4 (sh4 (sh4 (u0:Int))))))))))):=g10
            rw [sh4_nat,sh4_nat,sh4_nat,sh4_nat,sh4_nat,sh4_nat,sh4_nat,sh4_nat,sh4_nat,sh4_nat] at g10
            have hb:baseT 16 u0=[digs36.getD (sh4 (sh4 (sh4 (sh4 (sh4 (sh4 (sh4 (sh4 (sh4 (sh4 (u0:Int))))))))))).toNat 0,digs36.getD (bitsOf .and .u64 (sh4 (sh4 (sh4 (sh4 (sh4 (sh4 (sh4 (sh4 (sh4 (u0:Int)))))))))) 15).toNat 0,digs36.getD (bitsOf .and .u64 (sh4 (sh4 (sh4 (sh4 (sh4 (sh4 (sh4 (sh4 (u0:Int))))))))) 15).toNat 0,digs36.getD (bitsOf .and .u64 (sh4 (sh4 (sh4 (sh4 (sh4 (sh4 (sh4 (u0:Int)))))))) 15).toNat 0,digs36.getD (bitsOf .and .u64 (sh4 (sh4 (sh4 (sh4 (sh4 (sh4 (u0:Int))))))) 15).toNat 0,digs36.getD (bitsOf .and .u64 (sh4 (sh4 (sh4 (sh4 (sh4 (u0:Int)))))) 15).toNat 0,digs36.getD (bitsOf .and .u64 (sh4 (sh4 (sh4 (sh4 (u0:Int))))) 15).toNat 0,digs36.getD (bitsOf .and .u64 (sh4 (sh4 (sh4 (u0:Int)))) 15).toNat 0,digs36.getD (bitsOf .and .u64 (sh4 (sh4 (u0:Int))) 15).toNat 0,digs36.getD (bitsOf .and .u64 (sh4 (u0:Int)) 15).toNat 0,digs36.getD (bitsOf .and .u64 (u0:Int) 15).toNat 0]:=by
             simp only [sh4_nat]
             rw [digs_low (u:=u0 / 16 / 16 / 16 / 16 / 16 / 16 / 16 / 16 / 16 / 16) (by omega),digs_and (u:=u0 / 16 / 16 / 16 / 16 / 16 / 16 / 16 / 16 / 16) (by omega),digs_and (u:=u0 / 16 / 16 / 16 / 16 / 16 / 16 / 16 / 16) (by omega),digs_and (u:=u0 / 16 / 16 / 16 / 16 / 16 / 16 / 16) (by omega),digs_and (u:=u0 / 16 / 16 / 16 / 16 / 16 / 16) (by omega),digs_and (u:=u0 / 16 / 16 / 16 / 16 / 16) (by omega),digs_and (u:=u0 / 16 / 16 / 16 / 16) (by omega),digs_and (u:=u0 / 16 / 16 / 16) (by omega),digs_and (u:=u0 / 16 / 16) (by omega),digs_and (u:=u0 / 16) (by omega),digs_and (u:=u0) (by omega)]
             rw [hex_step (n:=u0) (by omega),hex_step (n:=u0 / 16) (by omega),hex_step (n:=u0 / 16 / 16) (by omega),hex_step (n:=u0 / 16 / 16 / 16) (by omega),hex_step (n:=u0 / 16 / 16 / 16 / 16) (by omega),hex_step (n:=u0 / 16 / 16 / 16 / 16 / 16) (by omega),hex_step (n:=u0 / 16 / 16 / 16 / 16 / 16 / 16) (by omega),hex_step (n:=u0 / 16 / 16 / 16 / 16 / 16 / 16 / 16) (by omega),hex_step (n:=u0 / 16 / 16 / 16 / 16 / 16 / 16 / 16 / 16) (by omega),hex_step (n:=u0 / 16 / 16 / 16 / 16 / 16 / 16 / 16 / 16 / 16) (by omega),hex_last (n:=u0 / 16 / 16 / 16 / 16 / 16 / 16 / 16 / 16 / 16 / 16) (by omega)]
             rfl
            rw [hb] at h
            conv=>whnf
            refine Or.inl ⟨InR.i64 (by decide) (by decide),?_⟩
            conv=>whnf
            refine ⟨(show 0≤(sh4 (sh4 (sh4 (sh4 (sh4 (sh4 (sh4 (sh4 (sh4 (sh4 (u0:Int))))))))))) by rw [sh4_nat,sh4_nat,sh4_nat,sh4_nat,sh4_nat,sh4_nat,sh4_nat,sh4_nat,sh4_nat,sh4_nat];omega),(show (sh4 (sh4 (sh4 (sh4 (sh4 (sh4 (sh4 (sh4 (sh4 (sh4 (u0:Int)))))))))))<36 by rw [sh4_nat,sh4_nat,sh4_nat,sh4_nat,sh4_nat,sh4_nat,sh4_nat,sh4_nat,sh4_nat,sh4_nat];omega),?_⟩
            conv=>whnf
            refine ⟨by decide,by decide,?_⟩
            conv=>whnf
            refine ⟨by decide,by decide,?_⟩
            conv=>whnf
            refine ⟨[digs36.getD (sh4 (sh4 (sh4 (sh4 (sh4 (sh4 (sh4 (sh4 (sh4 (sh4 (u0:Int))))))))))).toNat 0,digs36.getD (bitsOf .and .u64 (sh4 (sh4 (sh4 (sh4 (sh4 (sh4 (sh4 (sh4 (sh4 (u0:Int)))))))))) 15).toNat 0,digs36.getD (bitsOf .and .u64 (sh4 (sh4 (sh4 (sh4 (sh4 (sh4 (sh4 (sh4 (u0:Int))))))))) 15).toNat 0,digs36.getD (bitsOf .and .u64 (sh4 (sh4 (sh4 (sh4 (sh4 (sh4 (sh4 (u0:Int)))))))) 15).toNat 0,digs36.getD (bitsOf .and .u64 (sh4 (sh4 (sh4 (sh4 (sh4 (sh4 (u0:Int))))))) 15).toNat 0,digs36.getD (bitsOf .and .u64 (sh4 (sh4 (sh4 (sh4 (sh4 (u0:Int)))))) 15).toNat 0,digs36.getD (bitsOf .and .u64 (sh4 (sh4 (sh4 (sh4 (u0:Int))))) 15).toNat 0,digs36.getD (bitsOf .and .u64 (sh4 (sh4 (sh4 (u0:Int)))) 15).toNat 0,digs36.getD (bitsOf .and .u64 (sh4 (sh4 (u0:Int))) 15).toNat 0,digs36.getD (bitsOf .and .u64 (sh4 (u0:Int)) 15).toNat 0,digs36.getD (bitsOf .and .u64 (u0:Int) 15).toNat 0],rfl,rfl,?_⟩
            conv=>whnf
            exact h
           have g9:¬(16:Int)≤(sh4 (sh4 (sh4 (sh4 (sh4 (sh4 (sh4 (sh4 (sh4 (u0:Int)))))))))):=g9
           rw [sh4_nat,sh4_nat,sh4_nat,sh4_nat,sh4_nat,sh4_nat,sh4_nat,sh4_nat,sh4_nat] at g9
           have hb:baseT 16 u0=[digs36.getD (sh4 (sh4 (sh4 (sh4 (sh4 (sh4 (sh4 (sh4 (sh4 (u0:Int)))))))))).toNat 0,digs36.getD (bitsOf .and .u64 (sh4 (sh4 (sh4 (sh4 (sh4 (sh4 (sh4 (sh4 (u0:Int))))))))) 15).toNat 0,digs36.getD (bitsOf .and .u64 (sh4 (sh4 (sh4 (sh4 (sh4 (sh4 (sh4 (u0:Int)))))))) 15).toNat 0,digs36.getD (bitsOf .and .u64 (sh4 (sh4 (sh4 (sh4 (sh4 (sh4 (u0:Int))))))) 15).toNat 0,digs36.getD (bitsOf .and .u64 (sh4 (sh4 (sh4 (sh4 (sh4 (u0:Int)))))) 15).toNat 0,digs36.getD (bitsOf .and .u64 (sh4 (sh4 (sh4 (sh4 (u0:Int))))) 15).toNat 0,digs36.getD (bitsOf .and .u64 (sh4 (sh4 (sh4 (u0:Int)))) 15).toNat 0,digs36.getD (bitsOf .and .u64 (sh4 (sh4 (u0:Int))) 15).toNat 0,digs36.getD (bitsOf .and .u64 (sh4 (u0:Int)) 15).toNat 0,digs36.getD (bitsOf .and .u64 (u0:Int) 15).toNat 0]:=by
            simp only [sh4_nat]
            rw [digs_low (u:=u0 / 16 / 16 / 16 / 16 / 16 / 16 / 16 / 16 / 16) (by omega),digs_and (u:=u0 / 16 / 16 / 16 / 16 / 16 / 16 / 16 / 16) (by omega),digs_and (u:=u0 / 16 / 16 / 16 / 16 / 16 / 16 / 16) (by omega),digs_and (u:=u0 / 16 / 16 / 16 / 16 / 16 / 16) (by omega),digs_and (u:=u0 / 16 / 16 / 16 / 16 / 16) (by omega),digs_and (u:=u0 / 16 / 16 / 16 / 16) (by omega),digs_and (u:=u0 / 16 / 16 / 16) (by omega),digs_and (u:=u0 / 16 / 16) (by omega),digs_and (u:=u0 / 16) (by omega),digs_and (u:=u0) (by omega)]
            rw [hex_step (n:=u0) (by omega),hex_step (n:=u0 / 16) (by omega),hex_step (n:=u0 / 16 / 16) (by omega),hex_step (n:=u0 / 16 / 16 / 16) (by omega),hex_step (n:=u0 / 16 / 16 / 16 / 16) (by omega),hex_step (n:=u0 / 16 / 16 / 16 / 16 / 16) (by omega),hex_step (n:=u0 / 16 / 16 / 16 / 16 / 16 / 16) (by omega),hex_step (n:=u0 / 16 / 16 / 16 / 16 / 16 / 16 / 16) (by omega),hex_step (n:=u0 / 16 / 16 / 16 / 16 / 16 / 16 / 16 / 16) (by omega),hex_last (n:=u0 / 16 / 16 / 16 / 16 / 16 / 16 / 16 / 16 / 16) (by omega)]
            rfl
           rw [hb] at h
           conv=>whnf
           refine Or.inl ⟨InR.i64 (by decide) (by decide),?_⟩
           conv=>whnf
           refine ⟨(show 0≤(sh4 (sh4 (sh4 (sh4 (sh4 (sh4 (sh4 (sh4 (sh4 (u0:Int)))))))))) by rw [sh4_nat,sh4_nat,sh4_nat,sh4_nat,sh4_nat,sh4_nat,sh4_nat,sh4_nat,sh4_nat];omega),(show (sh4 (sh4 (sh4 (sh4 (sh4 (sh4 (sh4 (sh4 (sh4 (u0:Int))))))))))<36 by rw [sh4_nat,sh4_nat,sh4_nat,sh4_nat,sh4_nat,sh4_nat,sh4_nat,sh4_nat,sh4_nat];omega),?_⟩
           conv=>whnf
           refine ⟨by decide,by decide,?_⟩
           conv=>whnf
           refine ⟨by decide,by decide,?_⟩
           conv=>whnf
           refine ⟨[digs36.getD (sh4 (sh4 (sh4 (sh4 (sh4 (sh4 (sh4 (sh4 (sh4 (u0:Int)))))))))).toNat 0,digs36.getD (bitsOf .and .u64 (sh4 (sh4 (sh4 (sh4 (sh4 (sh4 (sh4 (sh4 (u0:Int))))))))) 15).toNat 0,digs36.getD (bitsOf .and .u64 (sh4 (sh4 (sh4 (sh4 (sh4 (sh4 (sh4 (u0:Int)))))))) 15).toNat 0,digs36.getD (bitsOf .and .u64 (sh4 (sh4 (sh4 (sh4 (sh4 (sh4 (u0:Int))))))) 15).toNat 0,digs36.getD (bitsOf .and .u64 (sh4 (sh4 (sh4 (sh4 (sh4 (u0:Int)))))) 15).toNat 0,digs36.getD (bitsOf .and .u64 (sh4 (sh4 (sh4 (sh4 (u0:Int))))) 15).toNat 0,digs36.getD (bitsOf .and .u64 (sh4 (sh4 (sh4 (u0:Int)))) 15).toNat 0,digs36.getD (bitsOf .and .u64 (sh4 (sh4 (u0:Int))) 15).toNat 0,digs36.getD (bitsOf .and .u64 (sh4 (u0:Int)) 15).toNat 0,digs36.getD (bitsOf .and .u64 (u0:Int) 15).toNat 0],rfl,rfl,?_⟩
           conv=>whnf
           exact h
          have g8:¬(16:Int)≤(sh4 (sh4 (sh4 (sh4 (sh4 (sh4 (sh4 (sh4 (u0:Int))))))))):=g8
          rw [sh4_nat,sh4_nat,sh4_nat,sh4_nat,sh4_nat,sh4_nat,sh4_nat,sh4_nat] at g8
          have hb:baseT 16 u0=[digs36.getD (sh4 (sh4 (sh4 (sh4 (sh4 (sh4 (sh4 (sh4 (u0:Int))))))))).toNat 0,digs36.getD (bitsOf .and .u64 (sh4 (sh4 (sh4 (sh4 (sh4 (sh4 (sh4 (u0:Int)))))))) 15).toNat 0,digs36.getD (bitsOf .and .u64 (sh4 (sh4 (sh4 (sh4 (sh4 (sh4 (u0:Int))))))) 15).toNat 0,digs36.getD (bitsOf .and .u64 (sh4 (sh4 (sh4 (sh4 (sh4 (u0:Int)))))) 15).toNat 0,digs36.getD (bitsOf .and .u64 (sh4 (sh4 (sh4 (sh4 (u0:Int))))) 15).toNat 0,digs36.getD (bitsOf .and .u64 (sh4 (sh4 (sh4 (u0:Int)))) 15).toNat 0,digs36.getD (bitsOf .and .u64 (sh4 (sh4 (u0:Int))) 15).toNat 0,digs36.getD (bitsOf .and .u64 (sh4 (u0:Int)) 15).toNat 0,digs36.getD (bitsOf .and .u64 (u0:Int) 15).toNat 0]:=by
           simp only [sh4_nat]
           rw [digs_low (u:=u0 / 16 / 16 / 16 / 16 / 16 / 16 / 16 / 16) (by omega),digs_and (u:=u0 / 16 / 16 / 16 / 16 / 16 / 16 / 16) (by omega),digs_and (u:=u0 / 16 / 16 / 16 / 16 / 16 / 16) (by omega),digs_and (u:=u0 / 16 / 16 / 16 / 16 / 16) (by omega),digs_and (u:=u0 / 16 / 16 / 16 / 16) (by omega),digs_and (u:=u0 / 16 / 16 / 16) (by omega),digs_and (u:=u0 / 16 / 16) (by omega),digs_and (u:=u0 / 16) (by omega),digs_and (u:=u0) (by omega)]
           rw [hex_step (n:=u0) (by omega),hex_step (n:=u0 / 16) (by omega),hex_step (n:=u0 / 16 / 16) (by omega),hex_step (n:=u0 / 16 / 16 / 16) (by omega),hex_step (n:=u0 / 16 / 16 / 16 / 16) (by omega),hex_step (n:=u0 / 16 / 16 / 16 / 16 / 16) (by omega),hex_step (n:=u0 / 16 / 16 / 16 / 16 / 16 / 16) (by omega),hex_step (n:=u0 / 16 / 16 / 16 / 16 / 16 / 16 / 16) (by omega),hex_last (n:=u0 / 16 / 16 / 16 / 16 / 16 / 16 / 16 / 16) (by omega)]
           rfl
          rw [hb] at h
          conv=>whnf
          refine Or.inl ⟨InR.i64 (by decide) (by decide),?_⟩
          conv=>whnf
          refine ⟨(show 0≤(sh4 (sh4 (sh4 (sh4 (sh4 (sh4 (sh4 (sh4 (u0:Int))))))))) by rw [sh4_nat,sh4_nat,sh4_nat,sh4_nat,sh4_nat,sh4_nat,sh4_nat,sh4_nat];omega),(show (sh4 (sh4 (sh4 (sh4 (sh4 (sh4 (sh4 (sh4 (u0:Int)))))))))<36 by rw [sh4_nat,sh4_nat,sh4_nat,sh4_nat,sh4_nat,sh4_nat,sh4_nat,sh4_nat];omega),?_⟩
          conv=>whnf
          refine ⟨by decide,by decide,?_⟩
          conv=>whnf
          refine ⟨by decide,by decide,?_⟩
          conv=>whnf
          refine ⟨[digs36.getD (sh4 (sh4 (sh4 (sh4 (sh4 (sh4 (sh4 (sh4 (u0:Int))))))))).toNat 0,digs36.getD (bitsOf .and .u64 (sh4 (sh4 (sh4 (sh4 (sh4 (sh4 (sh4 (u0:Int)))))))) 15).toNat 0,digs36.getD (bitsOf .and .u64 (sh4 (sh4 (sh4 (sh4 (sh4 (sh4 (u0:Int))))))) 15).toNat 0,digs36.getD (bitsOf .and .u64 (sh4 (sh4 (sh4 (sh4 (sh4 (u0:Int)))))) 15).toNat 0,digs36.getD (bitsOf .and .u64 (sh4 (sh4 (sh4 (sh4 (u0:Int))))) 15).toNat 0,digs36.getD (bitsOf .and .u64 (sh4 (sh4 (sh4 (u0:Int)))) 15).toNat 0,digs36.getD (bitsOf .and .u64 (sh4 (sh4 (u0:Int))) 15).toNat 0,digs36.getD (bitsOf .and .u64 (sh4 (u0:Int)) 15).toNat 0,digs36.getD (bitsOf .and .u64 (u0:Int) 15).toNat 0],rfl,rfl,?_⟩
          conv=>whnf
          exact h
         have g7:¬(16:Int)≤(sh4 (sh4 (sh4 (sh4 (sh4 (sh4 (sh4 (u0:Int)))))))):=g7
         rw [sh4_nat,sh4_nat,sh4_nat,sh4_nat,sh4_nat,sh4_nat,sh4_nat] at g7
         have hb:baseT 16 u0=[digs36.getD (sh4 (sh4 (sh4 (sh4 (sh4 (sh4 (sh4 (u0:Int)))))))).toNat 0,digs36.getD (bitsOf .and .u64 (sh4 (sh4 (sh4 (sh4 (sh4 (sh4 (u0:Int))))))) 15).toNat 0,digs36.getD (bitsOf .and .u64 (sh4 (sh4 (sh4 (sh4 (sh4 (u0:Int)))))) 15).toNat 0,digs36.getD (bitsOf .and .u64 (sh4 (sh4 (sh4 (sh4 (u0:Int))))) 15).toNat 0,digs36.getD (bitsOf .and .u64 (sh4 (sh4 (sh4 (u0:Int)))) 15).toNat 0,digs36.getD (bitsOf .and .u64 (sh4 (sh4 (u0:Int))) 15).toNat 0,digs36.getD (bitsOf .and .u64 (sh4 (u0:Int)) 15).toNat 0,digs36.getD (bitsOf .and .u64 (u0:Int) 15).toNat 0]:=by
          simp only [sh4_nat]
          rw [digs_low (u:=u0 / 16 / 16 / 16 / 16 / 16 / 16 / 16) (by omega),digs_and (u:=u0 / 16 / 16 / 16 / 16 / 16 / 16) (by omega),digs_and (u:=u0 / 16 / 16 / 16 / 16 / 16) (by omega),digs_and (u:=u0 / 16 / 16 / 16 / 16) (by omega),digs_and (u:=u0 / 16 / 16 / 16) (by omega),digs_and (u:=u0 / 16 / 16) (by omega),digs_and (u:=u0 / 16) (by omega),digs_and (u:=u0) (by omega)]
          rw [hex_step (n:=u0) (by omega),hex_step (n:=u0 / 16) (by omega),hex_step (n:=u0 / 16 / 16) (by omega),hex_step (n:=u0 / 16 / 16 / 16) (by omega),hex_step (n:=u0 / 16 / 16 / 16 / 16) (by omega),hex_step (n:=u0 / 16 / 16 / 16 / 16 / 16) (by omega),hex_step (n:=u0 / 16 / 16 / 16 / 16 / 16 / 16) (by omega),hex_last (n:=u0 / 16 / 16 / 16 / 16 / 16 / 16 / 16) (by omega)]
          rfl
         rw [hb] at h
         conv=>whnf
         refine Or.inl ⟨InR.i64 (by decide) (by decide),?_⟩
         conv=>whnf
         refine ⟨(show 0≤(sh4 (sh4 (sh4 (sh4 (sh4 (sh4 (sh4 (u0:Int)))))))) by rw [sh4_nat,sh4_nat,sh4_nat,sh4_nat,sh4_nat,sh4_nat,sh4_nat];omega),(show (sh4 (sh4 (sh4 (sh4 (sh4 (sh4 (sh4 (u0:Int))))))))<36 by rw [sh4_nat,sh4_nat,sh4_nat,sh4_nat,sh4_nat,sh4_nat,sh4_nat];omega),?_⟩
         conv=>whnf
         refine ⟨by decide,by decide,?_⟩
         conv=>whnf
         refine ⟨by decide,by decide,?_⟩
         conv=>whnf
         refine ⟨[digs36.getD (sh4 (sh4 (sh4 (sh4 (sh4 (sh4 (sh4 (u0:Int)))))))).toNat 0,digs36.getD (bitsOf .and .u64 (sh4 (sh4 (sh4 (sh4 (sh4 (sh4 (u0:Int))))))) 15).toNat 0,digs36.getD (bitsOf .and .u64 (sh4 (sh4 (sh4 (sh4 (sh4 (u0:Int)))))) 15).toNat 0,digs36.getD (bitsOf .and .u64 (sh4 (sh4 (sh4 (sh4 (u0:Int))))) 15).toNat 0,digs36.getD (bitsOf .and .u64 (sh4 (sh4 (sh4 (u0:Int)))) 15).toNat 0,digs36.getD (bitsOf .and .u64 (sh4 (sh4 (u0:Int))) 15).toNat 0,digs36.getD (bitsOf .and .u64 (sh4 (u0:Int)) 15).toNat 0,digs36.getD (bitsOf .and .u64 (u0:Int) 15).toNat 0],rfl,rfl,?_⟩
         conv=>whnf
         exact h
        have g6:¬(16:Int)≤(sh4 (sh4 (sh4 (sh4 (sh4 (sh4 (u0:Int))))))):=g6
        rw [sh4_nat,sh4_nat,sh4_nat,sh4_nat,sh4_nat,sh4_nat] at g6
        have hb:baseT 16 u0=[digs36.getD (sh4 (sh4 (sh4 (sh4 (sh4 (sh4 (u0:Int))))))).toNat 0,digs36.getD (bitsOf .and .u64 (sh4 (sh4 (sh4 (sh4 (sh4 (u0:Int)))))) 15).toNat 0,digs36.getD (bitsOf .and .u64 (sh4 (sh4 (sh4 (sh4 (u0:Int))))) 15).toNat 0,digs36.getD (bitsOf .and .u64 (sh4 (sh4 (sh4 (u0:Int)))) 15).toNat 0,digs36.getD (bitsOf .and .u64 (sh4 (sh4 (u0:Int))) 15).toNat 0,digs36.getD (bitsOf .and .u64 (sh4 (u0:Int)) 15).toNat 0,digs36.getD (bitsOf .and .u64 (u0:Int) 15).toNat 0]:=by
         simp only [sh4_nat]
         rw [digs_low (u:=u0 / 16 / 16 / 16 / 16 / 16 / 16) (by omega),digs_and (u:=u0 / 16 / 16 / 16 / 16 / 16) (by omega),digs_and (u:=u0 / 16 / 16 / 16 / 16) (by omega),digs_and (u:=u0 / 16 / 16 / 16) (by omega),digs_and (u:=u0 / 16 / 16) (by omega),digs_and (u:=u0 / 16) (by omega),digs_and (u:=u0) (by omega)]
         rw [hex_step (n:=u0) (by omega),hex_step (n:=u0 / 16) (by omega),hex_step (n:=u0 / 16 / 16) (by omega),hex_step (n:=u0 / 16 / 16 / 16) (by omega),hex_step (n:=u0 / 16 / 16 / 16 / 16) (by omega),hex_step (n:=u0 / 16 / 16 / 16 / 16 / 16) (by omega),hex_last (n:=u0 / 16 / 16 / 16 / 16 / 16 / 16) (by omega)]
         rfl
        rw [hb] at h
        conv=>whnf
        refine Or.inl ⟨InR.i64 (by decide) (by decide),?_⟩
        conv=>whnf
        refine ⟨(show 0≤(sh4 (sh4 (sh4 (sh4 (sh4 (sh4 (u0:Int))))))) by rw [sh4_nat,sh4_nat,sh4_nat,sh4_nat,sh4_nat,sh4_nat];omega),(show (sh4 (sh4 (sh4 (sh4 (sh4 (sh4 (u0:Int)))))))<36 by rw [sh4_nat,sh4_nat,sh4_nat,sh4_nat,sh4_nat,sh4_nat];omega),?_⟩
        conv=>whnf
        refine ⟨by decide,by decide,?_⟩
        conv=>whnf
        refine ⟨by decide,by decide,?_⟩
        conv=>whnf
        refine ⟨[digs36.getD (sh4 (sh4 (sh4 (sh4 (sh4 (sh4 (u0:Int))))))).toNat 0,digs36.getD (bitsOf .and .u64 (sh4 (sh4 (sh4 (sh4 (sh4 (u0:Int)))))) 15).toNat 0,digs36.getD (bitsOf .and .u64 (sh4 (sh4 (sh4 (sh4 (u0:Int))))) 15).toNat 0,digs36.getD (bitsOf .and .u64 (sh4 (sh4 (sh4 (u0:Int)))) 15).toNat 0,digs36.getD (bitsOf .and .u64 (sh4 (sh4 (u0:Int))) 15).toNat 0,digs36.getD (bitsOf .and .u64 (sh4 (u0:Int)) 15).toNat 0,digs36.getD (bitsOf .and .u64 (u0:Int) 15).toNat 0],rfl,rfl,?_⟩
        conv=>whnf
        exact h
       have g5:¬(16:Int)≤(sh4 (sh4 (sh4 (sh4 (sh4 (u0:Int)))))):=g5
       rw [sh4_nat,sh4_nat,sh4_nat,sh4_nat,sh4_nat] at g5
       have hb:baseT 16 u0=[digs36.getD (sh4 (sh4 (sh4 (sh4 (sh4 (u0:Int)))))).toNat 0,digs36.getD (bitsOf .and .u64 (sh4 (sh4 (sh4 (sh4 (u0:Int))))) 15).toNat 0,digs36.getD (bitsOf .and .u64 (sh4 (sh4 (sh4 (u0:Int)))) 15).toNat 0,digs36.getD (bitsOf .and .u64 (sh4 (sh4 (u0:Int))) 15).toNat 0,digs36.getD (bitsOf .and .u64 (sh4 (u0:Int)) 15).toNat 0,digs36.getD (bitsOf .and .u64 (u0:Int) 15).toNat 0]:=by
        simp only [sh4_nat]
        rw [digs_low (u:=u0 / 16 / 16 / 16 / 16 / 16) (by omega),digs_and (u:=u0 / 16 / 16 / 16 / 16) (by omega),digs_and (u:=u0 / 16 / 16 / 16) (by omega),digs_and (u:=u0 / 16 / 16) (by omega),digs_and (u:=u0 / 16) (by omega),digs_and (u:=u0) (by omega)]
        rw [hex_step (n:=u0) (by omega),hex_step (n:=u0 / 16) (by omega),hex_step (n:=u0 / 16 / 16) (by omega),hex_step (n:=u0 / 16 / 16 / 16) (by omega),hex_step (n:=u0 / 16 / 16 / 16 / 16) (by omega),hex_last (n:=u0 / 16 / 16 / 16 / 16 / 16) (by omega)]
        rfl
       rw [hb] at h
       conv=>whnf
       refine Or.inl ⟨InR.i64 (by decide) (by decide),?_⟩
       conv=>whnf
       refine ⟨(show 0≤(sh4 (sh4 (sh4 (sh4 (sh4 (u0:Int)))))) by rw [sh4_nat,sh4_nat,sh4_nat,sh4_nat,sh4_nat];omega),(show (sh4 (sh4 (sh4 (sh4 (sh4 (u0:Int))))))<36 by rw [sh4_nat,sh4_nat,sh4_nat,sh4_nat,sh4_nat];omega),?_⟩
       conv=>whnf
       refine ⟨by decide,by decide,?_⟩
       conv=>whnf
       refine ⟨by decide,by decide,?_⟩
       conv=>whnf
       refine ⟨[digs36.getD (sh4 (sh4 (sh4 (sh4 (sh4 (u0:Int)))))).toNat 0,digs36.getD (bitsOf .and .u64 (sh4 (sh4 (sh4 (sh4 (u0:Int))))) 15).toNat 0,digs36.getD (bitsOf .and .u64 (sh4 (sh4 (sh4 (u0:Int)))) 15).toNat 0,digs36.getD (bitsOf .and .u64 (sh4 (sh4 (u0:Int))) 15).toNat 0,digs36.getD (bitsOf .and .u64 (sh4 (u0:Int)) 15).toNat 0,digs36.getD (bitsOf .and .u64 (u0:Int) 15).toNat 0],rfl,rfl,?_⟩
       conv=>whnf
       exact h
      have g4:¬(16:Int)≤(sh4 (sh4 (sh4 (sh4 (u0:Int))))):=g4
      rw [sh4_nat,sh4_nat,sh4_nat,sh4_nat] at g4
      have hb:baseT 16 u0=[digs36.getD (sh4 (sh4 (sh4 (sh4 (u0:Int))))).toNat 0,digs36.getD (bitsOf .and .u64 (sh4 (sh4 (sh4 (u0:Int)))) 15).toNat 0,digs36.getD (bitsOf .and .u64 (sh4 (sh4 (u0:Int))) 15).toNat 0,digs36.getD (bitsOf .and .u64 (sh4 (u0:Int)) 15).toNat 0,digs36.getD (bitsOf .and .u64 (u0:Int) 15).toNat 0]:=by
       simp only [sh4_nat]
       rw [digs_low (u:=u0 / 16 / 16 / 16 / 16) (by omega),digs_and (u:=u0 / 16 / 16 / 16) (by omega),digs_and (u:=u0 / 16 / 16) (by omega),digs_and (u:=u0 / 16) (by omega),digs_and (u:=u0) (by omega)]
       rw [hex_step (n:=u0) (by omega),hex_step (n:=u0 / 16) (by omega),hex_step (n:=u0 / 16 / 16) (by omega),hex_step (n:=u0 / 16 / 16 / 16) (by omega),hex_last (n:=u0 / 16 / 16 / 16 / 16) (by omega)]
       rfl
      rw [hb] at h
      conv=>whnf
      refine Or.inl ⟨InR.i64 (by decide) (by decide),?_⟩
      conv=>whnf
      refine ⟨(show 0≤(sh4 (sh4 (sh4 (sh4 (u0:Int))))) by rw [sh4_nat,sh4_nat,sh4_nat,sh4_nat];omega),(show (sh4 (sh4 (sh4 (sh4 (u0:Int)))))<36 by rw [sh4_nat,sh4_nat,sh4_nat,sh4_nat];omega),?_⟩
      conv=>whnf
      refine ⟨by decide,by decide,?_⟩
      conv=>whnf
      refine ⟨by decide,by decide,?_⟩
      conv=>whnf
      refine ⟨[digs36.getD (sh4 (sh4 (sh4 (sh4 (u0:Int))))).toNat 0,digs36.getD (bitsOf .and .u64 (sh4 (sh4 (sh4 (u0:Int)))) 15).toNat 0,digs36.getD (bitsOf .and .u64 (sh4 (sh4 (u0:Int))) 15).toNat 0,digs36.getD (bitsOf .and .u64 (sh4 (u0:Int)) 15).toNat 0,digs36.getD (bitsOf .and .u64 (u0:Int) 15).toNat 0],rfl,rfl,?_⟩
      conv=>whnf
      exact h
     have g3:¬(16:Int)≤(sh4 (sh4 (sh4 (u0:Int)))):=g3
     rw [sh4_nat,sh4_nat,sh4_nat] at g3
     have hb:baseT 16 u0=[digs36.getD (sh4 (sh4 (sh4 (u0:Int)))).toNat 0,digs36.getD (bitsOf .and .u64 (sh4 (sh4 (u0:Int))) 15).toNat 0,digs36.getD (bitsOf .and .u64 (sh4 (u0:Int)) 15).toNat 0,digs36.getD (bitsOf .and .u64 (u0:Int) 15).toNat 0]:=by
      simp only [sh4_nat]
      rw [digs_low (u:=u0 / 16 / 16 / 16) (by omega),digs_and (u:=u0 / 16 / 16) (by omega),digs_and (u:=u0 / 16) (by omega),digs_and (u:=u0) (by omega)]
      rw [hex_step (n:=u0) (by omega),hex_step (n:=u0 / 16) (by omega),hex_step (n:=u0 / 16 / 16) (by omega),hex_last (n:=u0 / 16 / 16 / 16) (by omega)]
      rfl
     rw [hb] at h
     conv=>whnf
     refine Or.inl ⟨InR.i64 (by decide) (by decide),?_⟩
     conv=>whnf
     refine ⟨(show 0≤(sh4 (sh4 (sh4 (u0:Int)))) by rw [sh4_nat,sh4_nat,sh4_nat];omega),(show (sh4 (sh4 (sh4 (u0:Int))))<36 by rw [sh4_nat,sh4_nat,sh4_nat];omega),?_⟩
     conv=>whnf
     refine ⟨by decide,by decide,?_⟩
     conv=>whnf
     refine ⟨by decide,by decide,?_⟩
     conv=>whnf
     refine ⟨[digs36.getD (sh4 (sh4 (sh4 (u0:Int)))).toNat 0,digs36.getD (bitsOf .and .u64 (sh4 (sh4 (u0:Int))) 15).toNat 0,digs36.getD (bitsOf .and .u64 (sh4 (u0:Int)) 15).toNat 0,digs36.getD (bitsOf .and .u64 (u0:Int) 15).toNat 0],rfl,rfl,?_⟩
     conv=>whnf
     exact h
    have g2:¬(16:Int)≤(sh4 (sh4 (u0:Int))):=g2
    rw [sh4_nat,sh4_nat] at g2
    have hb:baseT 16 u0=[digs36.getD (sh4 (sh4 (u0:Int))).toNat 0,digs36.getD (bitsOf .and .u64 (sh4 (u0:Int)) 15).toNat 0,digs36.getD (bitsOf .and .u64 (u0:Int) 15).toNat 0]:=by
     simp only [sh4_nat]
     rw [digs_low (u:=u0 / 16 / 16) (by omega),digs_and (u:=u0 / 16) (by omega),digs_and (u:=u0) (by omega)]
     rw [hex_step (n:=u0) (by omega),hex_step (n:=u0 / 16) (by omega),hex_last (n:=u0 / 16 / 16) (by omega)]
     rfl
    rw [hb] at h
    conv=>whnf
    refine Or.inl ⟨InR.i64 (by decide) (by decide),?_⟩
    conv=>whnf
    refine ⟨(show 0≤(sh4 (sh4 (u0:Int))) by rw [sh4_nat,sh4_nat];omega),(show (sh4 (sh4 (u0:Int)))<36 by rw [sh4_nat,sh4_nat];omega),?_⟩
    conv=>whnf
    refine ⟨by decide,by decide,?_⟩
    conv=>whnf
    refine ⟨by decide,by decide,?_⟩
    conv=>whnf
    refine ⟨[digs36.getD (sh4 (sh4 (u0:Int))).toNat 0,digs36.getD (bitsOf .and .u64 (sh4 (u0:Int)) 15).toNat 0,digs36.getD (bitsOf .and .u64 (u0:Int) 15).toNat 0],rfl,rfl,?_⟩
    conv=>whnf
    exact h
   have g1:¬(16:Int)≤(sh4 (u0:Int)):=g1
   rw [sh4_nat] at g1
   have hb:baseT 16 u0=[digs36.getD (sh4 (u0:Int)).toNat 0,digs36.getD (bitsOf .and .u64 (u0:Int) 15).toNat 0]:=by
    simp only [sh4_nat]
    rw [digs_low (u:=u0 / 16) (by omega),digs_and (u:=u0) (by omega)]
    rw [hex_step (n:=u0) (by omega),hex_last (n:=u0 / 16) (by omega)]
    rfl
   rw [hb] at h
   conv=>whnf
   refine Or.inl ⟨InR.i64 (by decide) (by decide),?_⟩
   conv=>whnf
   refine ⟨(show 0≤(sh4 (u0:Int)) by rw [sh4_nat];omega),(show (sh4 (u0:Int))<36 by rw [sh4_nat];omega),?_⟩
   conv=>whnf
   refine ⟨by decide,by decide,?_⟩
   conv=>whnf
   refine ⟨by decide,by decide,?_⟩
   conv=>whnf
   refine ⟨[digs36.getD (sh4 (u0:Int)).toNat 0,digs36.getD (bitsOf .and .u64 (u0:Int) 15).toNat 0],rfl,rfl,?_⟩
   conv=>whnf
   exact h
  have g0:¬(16:Int)≤(u0:Int):=g0
  have hb:baseT 16 u0=[digs36.getD (u0:Int).toNat 0]:=by
   rw [digs_low (u:=u0) (by omega)]
   rw [hex_last (n:=u0) (by omega)]
  rw [hb] at h
  conv=>whnf
  refine Or.inl ⟨InR.i64 (by decide) (by decide),?_⟩
  conv=>whnf
  refine ⟨(show 0≤(u0:Int) by skip;omega),(show (u0:Int)<36 by skip;omega),?_⟩
  conv=>whnf
  refine ⟨by decide,by decide,?_⟩
  conv=>whnf
  refine ⟨by decide,by decide,?_⟩
  conv=>whnf
  refine ⟨[digs36.getD (u0:Int).toNat 0],rfl,rfl,?_⟩
  conv=>whnf
  exact h
noncomputable def spFmtU:Spec:=fun args σ K=>match args,σ with
 | [.d (.int .u64 n),.d (.int .i64 b)],⟨[],[],0⟩=>(b=16∧0≤n∧n<18446744073709551616)∧K (.ret (.d (.str (baseT 16 n.toNat)))) ⟨[],[],0⟩
 | _,_=>False
theorem spFmtU_mono:SpecMono spFmtU:=fun args σ K K' hK h=>by
 unfold spFmtU at h ⊢;split at h <;> first | exact ⟨h.1,hK _ _ h.2⟩ | exact h.elim
noncomputable def tblFu:Tbl:=[(224,spFb)]
theorem fu_ok (hN:NumOK w0 nG):PCalls (GG w0 nG) 158 spFmtU:=by
 refine pcalls tab_ok mixed (tbl:=tblFu) ⟨⟨fb_ok hN,spFb_mono⟩,trivial⟩ Tryz.func158 rfl (by kernel_rfl) (by kernel_rfl) ?_
 intro args σ K h
 unfold spFmtU at h
 split at h
 ·obtain ⟨⟨rfl,h0,h1⟩,h⟩:=h
  refine ⟨loopsOf [],0,false,by simp,Nat.le_of_ble_eq_true rfl,?_⟩
  conv=>whnf
  refine ⟨⟨rfl,rfl,rfl,h0,h1⟩,?_⟩
  conv=>whnf
  exact h
 ·exact h.elim
noncomputable def tblFmtU:Tbl:=[(158,spFmtU)]
theorem fmtU_ok (hN:NumOK w0 nG):PCalls (GG w0 nG) 77 spFmtU:=by
 refine pcalls tab_ok mixed (tbl:=tblFmtU) ⟨⟨fu_ok hN,spFmtU_mono⟩,trivial⟩ Tryz.func77 rfl (by kernel_rfl) (by kernel_rfl) ?_
 intro args σ K h
 unfold spFmtU at h
 split at h
 ·rename_i n b
  obtain ⟨⟨rfl,h0,h1⟩,h⟩:=h
  refine ⟨loopsOf [],0,false,by simp,Nat.le_of_ble_eq_true rfl,?_⟩
  conv=>whnf
  refine ⟨⟨rfl,h0,h1⟩,?_⟩
  generalize baseT 16 n.toNat=T at h ⊢
  conv=>whnf
  exact h
 ·exact h.elim
theorem numT_neg {n:Int} (h:n<0) (h0:-9223372036854775808≤n):0≤IntKind.u64.wrap n∧IntKind.u64.wrap n<18446744073709551616∧numT n=[48,120]++baseT 16 (IntKind.u64.wrap n).toNat:=by
 have e:IntKind.u64.wrap n=n+18446744073709551616:=by
  unfold IntKind.wrap
  simp [IntKind.signed,IntKind.bits];omega
 refine ⟨by omega,by omega,?_⟩
 rw [numT,if_pos h,e]
end Go.PM.Lex
end

section
namespace Go.PM.Lex
def rngN (n:Int):Bool:=decide (-9223372036854775808≤n) && decide (n<9223372036854775808)
mutual
def rngE:Ex→Bool
 | .mk _ _ n l _=>rngN n && rngEs l
def rngEs:List Ex→Bool
 | []=>true
 | x::l=>rngE x && rngEs l
end
theorem rngEs_eq (l:List Ex):rngEs l=l.all rngE:=by induction l with | nil=>rfl | cons x l ih=>simp [rngEs,ih]
theorem rngE_mk {op:Nat} {t:Bs} {n:Int} {l:List Ex} {a:Nat} (h:rngE (.mk op t n l a)=true):(-9223372036854775808≤n∧n<9223372036854775808)∧∀x∈l,rngE x=true:=by
 simp only [rngE,rngEs_eq,rngN,Bool.and_eq_true,decide_eq_true_eq] at h
 exact ⟨h.1,List.all_eq_true.1 h.2⟩
mutual
def rngL:Li→Bool
 | .mk _ _ args body _=>rngEs args && rngLs body
def rngLs:List Li→Bool
 | []=>true
 | x::l=>rngL x && rngLs l
end
theorem rngLs_eq (l:List Li):rngLs l=l.all rngL:=by induction l with | nil=>rfl | cons x l ih=>simp [rngLs,ih]
theorem rngL_mk {op:Nat} {rel:Bs} {args:List Ex} {body:List Li} {a:Nat} (h:rngL (.mk op rel args body a)=true):(∀x∈args,rngE x=true)∧∀x∈body,rngL x=true:=by
 simp only [rngL,rngEs_eq,rngLs_eq,Bool.and_eq_true] at h
 exact ⟨List.all_eq_true.1 h.1,List.all_eq_true.1 h.2⟩
def rngRu (r:Ru):Bool:=r.args.all rngE && r.body.all rngL
mutual
def rngU:Un→Bool
 | .mk _ _ rules comps _ _=>rules.all rngRu && rngCos comps
def rngCo:Co→Bool
 | .mk _ _ _ _ u _=>rngU u
def rngCos:List Co→Bool
 | []=>true
 | c::l=>rngCo c && rngCos l
end
theorem rngCos_eq (l:List Co):rngCos l=l.all rngCo:=by induction l with | nil=>rfl | cons x l ih=>simp [rngCos,ih]
end Go.PM.Lex
end

section
set_option maxRecDepth 100000
set_option maxHeartbeats 4000000
namespace Go.PM.Lex
open Go.Proofs
variable {w0:World} {nG:Nat}
def ablE (e:Ex):Bool:=mayE e && rngE e
theorem ablE_mk {op:Nat} {t:Bs} {n:Int} {l:List Ex} {a:Nat} (h:ablE (.mk op t n l a)=true):-2<argsN op∧(argsN op<0∨(l.length:Int)=argsN op)∧textB op t=true∧(-9223372036854775808≤n∧n<9223372036854775808)∧l.all ablE=true:=by
 simp only [ablE,Bool.and_eq_true] at h
 obtain ⟨h1,h2⟩:=h
 obtain ⟨r1,r2⟩:=rngE_mk h2
 simp only [mayE,mayEs_eq,Bool.and_eq_true,Bool.or_eq_true,decide_eq_true_eq] at h1
 obtain ⟨h1,h3,h4,h5,h6⟩:=h1
 refine ⟨h1,h3,h5,r1,?_⟩
 rw [List.all_eq_true] at h6 ⊢
 exact fun x hx=>by rw [ablE,h6 x hx,r2 x hx];rfl
theorem op_small {op:Nat} (h:-2<argsN op):op<26:=by
 by_cases hc:op<26
 ·exact hc
 ·unfold argsN at h
  (repeat rw [if_neg (by omega)] at h)
  omega
theorem op_kind {op:Nat} (h:-2<argsN op):(lineF op<5→argsN op=2)∧(lineF op=5→argsN op=1)∧lineF op≤6∧(op=5→argsN op=0):=by
 have hk:∀o:Fin 26,-2<argsN o.val→(lineF o.val<5→argsN o.val=2)∧(lineF o.val=5→argsN o.val=1)∧lineF o.val≤6∧(o.val=5→argsN o.val=0):=by decide
 exact hk ⟨op,op_small h⟩ h
noncomputable def spWE (n:Nat):Spec:=wrSp (.tuple []) fun rest txt=>∃pl e want,rest=[aggV encE pl e,.d (.int .i64 want)]∧(ablE e=true∧wE e≤n∧n≤1073741824∧0≤want∧want≤6)∧txt=exW want.toNat e
theorem spWE_mono (n:Nat):SpecMono (spWE n):=wrSp_mono _ _
noncomputable def spWA (n:Nat):Spec:=wrSp (.tuple []) fun rest txt=>∃fr fin pl xs,rest=[.d (.str fr),.d (.sl (encEs pl xs)),.d (.str fin)]∧(xs.all ablE=true∧szS wE xs≤n∧n≤1073741824)∧txt=argT fr fin xs
theorem spWA_mono (n:Nat):SpecMono (spWA n):=wrSp_mono _ _
theorem exW_0 (e:Ex):exW 0 e=exT e:=by rw [exW,parP,if_neg (by simp)]
noncomputable def tblWA1 (n:Nat):Tbl:=[(30,spWE n)]
theorem wa1_ok {n:Nat} (ht:TblOK (GG w0 nG) (tblWA1 n)):PCalls (GG w0 nG) 157 (spOne (aggV encE) ablE exT wE n):=by
 refine pcalls tab_ok mixed (tbl:=tblWA1 n) ht Tryz.func157 rfl (by kernel_rfl) (by kernel_rfl) ?_
 intro args σ K h
 unfold spOne at h
 split at h
 ·obtain ⟨l,pl,⟨op,tx,nn,xs,at'⟩,rfl,rfl,⟨rfl,rfl⟩,⟨hmay,hz,hn⟩,hlen,h⟩:=h
  refine ⟨loopsOf [],2,true,by simp,Nat.le_of_ble_eq_true rfl,?_⟩
  conv=>whnf
  refine ⟨l,exT (.mk op tx nn xs at'),rfl,⟨.inr rfl,rfl,rfl⟩,⟨pl,.mk op tx nn xs at',0,rfl,⟨hmay,hz,hn,by omega,by omega⟩,(exW_0 _).symm⟩,hlen,?_⟩
  conv=>whnf
  exact h
 ·exact h.elim
noncomputable def tblWA (n:Nat):Tbl:=[(75,spAdd),(156,spLi 157 encE ablE exT wE n)]
theorem wa_ok {n:Nat} (ht:TblOK (GG w0 nG) (tblWA n)):PCalls (GG w0 nG) 76 (spWA n):=by
 refine pcalls tab_ok mixed (tbl:=tblWA n) ht Tryz.func76 rfl (by kernel_rfl) (by kernel_rfl) ?_
 intro args σ K h
 unfold spWA wrSp at h
 split at h
 ·rename_i rest t p e rows
  obtain ⟨l,txt,rfl,⟨hp,rfl,rfl⟩,⟨fr,fin,pl,xs,rfl,⟨hmay,hz,hn⟩,rfl⟩,hlen,h⟩:=h
  have key:l++argT fr fin xs=l++fr++commas cmm (xs.map exT)++fin:=by simp only [argT,exTs,List.append_assoc]
  rw [key] at h
  have hlen:l.length+(fr.length+((commas cmm (xs.map exT)).length+fin.length))<70368744177664:=by have:=hlen;simp only [argT,exTs,List.length_append] at this;exact this
  refine ⟨loopsOf [],1,true,by simp,Nat.le_of_ble_eq_true rfl,?_⟩
  rcases hp with rfl | rfl
  all_goals
   conv=>whnf
   refine ⟨l,fr,rfl,⟨(by first | exact .inl rfl | exact .inr rfl),rfl,rfl⟩,⟨[fr],rfl,by simp,by simp,by simp⟩,by omega,?_⟩
   conv=>whnf
   refine ⟨l++fr,pl,xs,rfl,encEs_eq pl xs,⟨rfl,rfl,rfl⟩,⟨hmay,hz,hn⟩,by rw [List.length_append];show _+(commas cmm (xs.map exT)).length<_;omega,?_⟩
   conv=>whnf
   refine ⟨l++fr++commas cmm (xs.map exT),fin,rfl,⟨.inr rfl,rfl,rfl⟩,⟨[fin],rfl,by simp,by simp,by simp⟩,by simp only [List.length_append];omega,?_⟩
   conv=>whnf
   exact h
 ·exact h.elim
noncomputable def spRadd:List PV→St→(St→Prop)→Prop:=fun args σ K=>args.length≤Tryz.f75.ntmps∧W (ctxU Tab0 tblAdd noIter (loopsOf []) (unrOf [(1,3)]) (fun _=>false)) (bodyOf Tryz.f75) (recQ2 Tab0 Tryz.f75 σ.bx.length K) (argF 0 args) σ
theorem dadd:PDef (GG w0 nG) 75 spRadd (fun _ _ _ _=>False) :=
 pdef_plain tab_ok mixed tblAdd_ok Tryz.func75 rfl (by kernel_rfl) (by kernel_rfl) fun args σ K h=>⟨loopsOf [],unrOf [(1,3)],σ.bx.length,Nat.le_refl _,h.1,h.2⟩
noncomputable def tblWE (n:Nat):Tbl:=[(71,spOf),(75,spAdd),(30,spB spWE n),(76,spB spWA n),(78,spFmtI),(77,spFmtU),(73,spQuote)]
end Go.PM.Lex
end
