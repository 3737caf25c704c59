/- A part of the proof: plain logic, contracts and laws over the given program. -/
import GoSem.Core.Program
import GoSem.Core.Utf8
import GoSem.Op.IntBits
import Derived.CallsIn
set_option linter.unusedVariables false
set_option linter.unusedSimpArgs false
set_option linter.all false
set_option maxRecDepth 100000
set_option maxHeartbeats 16000000
noncomputable section
section
def Ta.{u}:type_of% @List.length_append.{u}:=@List.length_append
def Tb.{u}:type_of% @List.getElem?_eq_getElem.{u}:=@List.getElem?_eq_getElem
def Tc:type_of% @Nat.le_of_ble_eq_true:=@Nat.le_of_ble_eq_true
def Td.{u}:type_of% @List.length_cons.{u}:=@List.length_cons
def Te.{u,v}:type_of% @List.length_map.{u,v}:=@List.length_map
def Tf.{u}:type_of% @if_neg.{u}:=@if_neg
def Tg.{u}:type_of% @List.length_nil.{u}:=@List.length_nil
def Th.{u}:type_of% @if_pos.{u}:=@if_pos
def Ti:type_of% @Int.toNat_natCast:=@Int.toNat_natCast
def Tj.{u,v}:type_of% @List.getElem?_map.{u,v}:=@List.getElem?_map
def Tk.{u}:type_of% @List.getElem?_eq_some_iff.{u}:=@List.getElem?_eq_some_iff
def Tl.{u}:type_of% @List.drop_eq_getElem_cons.{u}:=@List.drop_eq_getElem_cons
def Tm:type_of% @Bool.and_eq_true:=@Bool.and_eq_true
def Tn.{u}:type_of% @List.append_assoc.{u}:=@List.append_assoc
def To.{u}:type_of% @Array.getElem?_eq_some_iff.{u}:=@Array.getElem?_eq_some_iff
def Tp:type_of% @Nat.eq_of_beq_eq_true:=@Nat.eq_of_beq_eq_true
def Tq.{u}:type_of% @List.all_eq_true.{u}:=@List.all_eq_true
def Tr.{u}:type_of% @List.drop_eq_nil_of_le.{u}:=@List.drop_eq_nil_of_le
def Tt:type_of% @Bool.false_eq_true:=@Bool.false_eq_true
def Tu.{u}:type_of% @List.length_drop.{u}:=@List.length_drop
def Tv.{u}:type_of% @List.mem_cons.{u}:=@List.mem_cons
def Tw.{u}:type_of% @List.forall_mem_singleton.{u}:=@List.forall_mem_singleton
def Tx.{u}:type_of% @Array.getElem?_toList.{u}:=@Array.getElem?_toList
def Tz:type_of% @Nat.le_refl:=@Nat.le_refl
def TA.{u}:type_of% @List.mem_cons_of_mem.{u}:=@List.mem_cons_of_mem
def TB.{u}:type_of% @Array.getElem?_eq_getElem.{u}:=@Array.getElem?_eq_getElem
def TC.{u}:type_of% @List.drop_drop.{u}:=@List.drop_drop
def TD.{u,v}:type_of% @List.map_cons.{u,v}:=@List.map_cons
def TE.{u}:type_of% @List.getElem_mem.{u}:=@List.getElem_mem
def TF:type_of% @Nat.lt_of_lt_of_le:=@Nat.lt_of_lt_of_le
def TG.{u,v}:type_of% @Option.map_eq_some_iff.{u,v}:=@Option.map_eq_some_iff
def TH.{u}:type_of% @List.length_singleton.{u}:=@List.length_singleton
def TJ.{u}:type_of% @List.mem_append.{u}:=@List.mem_append
def TL:type_of% @decide_eq_true:=@decide_eq_true
def TM.{u,v}:type_of% @List.map_nil.{u,v}:=@List.map_nil
def TN.{u}:type_of% @Array.mem_def.{u}:=@Array.mem_def
def TP.{u,v}:type_of% @List.map_append.{u,v}:=@List.map_append
def TQ:type_of% @decide_eq_true_eq:=@decide_eq_true_eq
def TS.{u}:type_of% @List.getD_eq_getElem?_getD.{u}:=@List.getD_eq_getElem?_getD
def TT:type_of% @Bool.false_and:=@Bool.false_and
def TU.{u}:type_of% @List.getElem?_append_left.{u}:=@List.getElem?_append_left
def TV.{u}:type_of% @List.getElem?_cons_succ.{u}:=@List.getElem?_cons_succ
def TW:type_of% @Int.add_sub_cancel:=@Int.add_sub_cancel
def TX:type_of% @Bool.true_and:=@Bool.true_and
def TY.{u}:type_of% @List.eq_nil_of_length_eq_zero.{u}:=@List.eq_nil_of_length_eq_zero
def TZ:type_of% @Bool.not_eq_true':=@Bool.not_eq_true'
def T1.{u}:type_of% @List.mem_of_getElem?.{u}:=@List.mem_of_getElem?
def T2.{u}:type_of% @List.append_nil.{u}:=@List.append_nil
def T3.{u}:type_of% @Array.getElem?_setIfInBounds.{u}:=@Array.getElem?_setIfInBounds
def T4:type_of% @Nat.mul_le_mul_right:=@Nat.mul_le_mul_right
def T5.{u}:type_of% @List.getElem?_append_right.{u}:=@List.getElem?_append_right
def T6.{u}:type_of% @List.take_length.{u}:=@List.take_length
def T7.{u}:type_of% @List.getElem?_eq_none.{u}:=@List.getElem?_eq_none
def T8.{u}:type_of% @List.take_zero.{u}:=@List.take_zero
def T9:type_of% @Nat.zero_add:=@Nat.zero_add
def Sa:type_of% @Nat.le_trans:=@Nat.le_trans
def Sb.{u}:type_of% @List.cons_append.{u}:=@List.cons_append
def Sc.{u,v}:type_of% @Option.map_some.{u,v}:=@Option.map_some
def Sd.{u}:type_of% @Array.mem_of_getElem?.{u}:=@Array.mem_of_getElem?
def Se:type_of% @Nat.zero_le:=@Nat.zero_le
def Sf.{u}:type_of% @List.getElem_of_mem.{u}:=@List.getElem_of_mem
def Sg:type_of% @Bool.or_eq_false_iff:=@Bool.or_eq_false_iff
def Sh.{u}:type_of% @List.nil_append.{u}:=@List.nil_append
def Si.{u}:type_of% @List.length_take.{u}:=@List.length_take
def Sj.{u}:type_of% @List.getElem?_replicate.{u}:=@List.getElem?_replicate
def Sk:type_of% @Nat.add_assoc:=@Nat.add_assoc
def Sl:type_of% @Nat.add_zero:=@Nat.add_zero
def Sm:type_of% @Bool.or_eq_true:=@Bool.or_eq_true
def Sn.{u}:type_of% @List.drop_zero.{u}:=@List.drop_zero
def So:type_of% @Bool.or_false:=@Bool.or_false
def Sp:type_of% @Nat.add_mul:=@Nat.add_mul
def Sq.{u}:type_of% @List.getD_cons_zero.{u}:=@List.getD_cons_zero
def Sr.{u}:type_of% @List.length_eq_zero_iff.{u}:=@List.length_eq_zero_iff
def Ss.{u,v}:type_of% @List.mem_map.{u,v}:=@List.mem_map
def Su.{u}:type_of% @List.drop_length.{u}:=@List.drop_length
def Sv.{u}:type_of% @List.not_mem_nil.{u}:=@List.not_mem_nil
def Sw.{u}:type_of% @Option.getD_some.{u}:=@Option.getD_some
def Sx.{u,v}:type_of% @List.map_congr_left.{u,v}:=@List.map_congr_left
def Sy.{u}:type_of% @List.takeWhile_cons.{u}:=@List.takeWhile_cons
def Sz.{u}:type_of% @Array.length_toList.{u}:=@Array.length_toList
def SA.{u}:type_of% @Option.isSome_iff_exists.{u}:=@Option.isSome_iff_exists
def SB.{u}:type_of% @List.getElem?_cons_zero.{u}:=@List.getElem?_cons_zero
def SC.{u}:type_of% @List.getD_cons_succ.{u}:=@List.getD_cons_succ
def SE.{u}:type_of% @List.length_set.{u}:=@List.length_set
def SF.{u}:type_of% @Array.getElem?_modify.{u}:=@Array.getElem?_modify
def SG.{u}:type_of% @List.getElem?_drop.{u}:=@List.getElem?_drop
def SH.{u,v,w}:type_of% @List.map_map.{u,v,w}:=@List.map_map
def SI:type_of% @Bool.not_not:=@Bool.not_not
def SJ.{u}:type_of% @Array.getElem_of_mem.{u}:=@Array.getElem_of_mem
def SK.{u}:type_of% @List.any_cons.{u}:=@List.any_cons
def SL:type_of% @Bool.false_or:=@Bool.false_or
def SN.{u}:type_of% @List.getElem?_take.{u}:=@List.getElem?_take
def mq0 {P:Prop} (h:P:=by
 rw [Zk4] at h
 refine ⟨L,ts,rfl,ho,fu,fun x ca=>?_⟩
 rcases x with ⟨v2,ts2⟩ | ⟨r2,e2⟩
 rotate_left
 ·exact mq206
 rw [ca,R.bind_ok] at h
 intro a2 gl ah
 have dw:=ah.hi
 obtain ⟨v2a,v2b,v2c,v2d,v2e⟩:=v2
 conv=>whnf
 refine ⟨L,ts2,relWords,rfl,ah,Or.inl ⟨rfl,rfl⟩,rfl,rfl,fun j hj am=>?_,fun hj=>wN ?_⟩
 ·have pq:=JR hj
  have ah3:j<6:=by simpa [relWords] using pq.2
  have gt:=am.hi
  clear pq
  rcases j with _ | j
  ·conv=>whnf
   refine WY ?_
   refine WY ?_
   refine ⟨L,ts2.tail,aggWords,rfl,am,Or.inr ⟨rfl,rfl⟩,rfl,rfl,fun m hm cf=>?_,fun hm=>wN ?_⟩
   ·rw [ZdR hj hm,R.bind_ok] at h
    have hml:=JR hm
    have ah4:m<4:=by simpa [aggWords] using hml.2
    have sy:=cf.hi
    clear hml
    rcases m with _ | m
    ·conv=>whnf
     refine WY ?_
     refine WY ?_
     rw [Th rfl] at h
     rw [WH,Th oM] at h
     refine ⟨L,ts2.tail.tail,rfl,cf,fun x rf=>?_⟩
     exact mq166
    conv=>whnf
    refine WY ?_
    refine WY ?_
    refine ZEy (fun _=>wN ?_) (fun g=>absurd g oM)
    rw [Tf oM] at h
    refine ⟨L,ts2.tail.tail,rfl,cf,fu,fun x kr=>?_⟩
    rcases x with ⟨v5,ts5⟩ | ⟨r5,e5⟩
    rotate_left
    ·exact mq191
    rw [kr,R.bind_ok] at h
    intro a5 mn cq
    have vz:=cq.hi
    obtain ⟨v5a,v5b,v5c,v5d,v5e⟩:=v5
    conv=>whnf
    refine ⟨rfl,rfl,Tc rfl,Tc rfl,wN ?_⟩
    repeat (refine ⟨rfl,?_⟩;conv=>whnf)
    refine ZEw (fun _=>wN ?_) (fun g=>absurd g oM)
    rw [WH,Th oM] at h
    refine ⟨L,ts5,rfl,cq,fun x rf=>?_⟩
    exact mq166
   rw [ZgO hj hm,R.bind_ok] at h
   rw [Tf oM] at h
   refine ⟨L,ts2.tail,rfl,am,fu,fun x kr=>?_⟩
   rcases x with ⟨v5,ts5⟩ | ⟨r5,e5⟩
   rotate_left
   ·exact mq191
   rw [kr,R.bind_ok] at h
   intro a5 mn cq
   have vz:=cq.hi
   obtain ⟨v5a,v5b,v5c,v5d,v5e⟩:=v5
   conv=>whnf
   refine ⟨rfl,rfl,Tc rfl,Tc rfl,wN ?_⟩
   repeat (refine ⟨rfl,?_⟩;conv=>whnf)
   rw [WH,Tf oM] at h
   exact h _ oM cq
  rw [ZdS hj,R.bind_ok] at h
  conv=>whnf
  refine WY ?_
  refine WY ?_
  refine ZEw (fun g=>absurd g oM) (fun _=>wN ?_)
  refine ZEy (fun _=>wN ?_) (fun g=>absurd g oM)
  rw [Tf oM] at h
  refine ⟨L,ts2.tail,rfl,am,fu,fun x kr=>?_⟩
  rcases x with ⟨v5,ts5⟩ | ⟨r5,e5⟩
  rotate_left
  ·exact mq191
  rw [kr,R.bind_ok] at h
  intro a5 mn cq
  have vz:=cq.hi
  obtain ⟨v5a,v5b,v5c,v5d,v5e⟩:=v5
  conv=>whnf
  refine ⟨rfl,rfl,Tc rfl,Tc rfl,wN ?_⟩
  repeat (refine ⟨rfl,?_⟩;conv=>whnf)
  refine ZEw (fun g=>absurd g oM) (fun _=>wN ?_)
  rw [WH,Tf oM] at h
  exact h _ oM cq
 refine ⟨L,ts2,rfl,ah,wN ?_⟩
 rw [Zbw hj,R.bind_err] at h
 exact h _ _):P:=h
def mq1 {P:Prop} (h:P:=by
 conv=>whnf
 repeat (refine ⟨rfl,?_⟩;conv=>whnf)
 refine ⟨L,ts',rfl,dj,[[116,121,112,101]],rfl,sM,fun b wl=>?_⟩
 cases b with
 | true =>
  rw [Th wl] at h
  have ah:=dj.tl (Yz wl)
  have dw:=ah.hi
  have gj:=ah.len
  conv=>whnf
  refine ⟨L,ts',rfl,dj,fun g=>wN ?_,fun g=>wN ?_⟩
  ·exact mq182
  have ai:¬tys.length=256:=by rw [Te] at g;omega
  rw [Tf ai] at h
  refine ⟨L,ts'.tail,rfl,ah,fun x fi=>?_⟩
  rcases x with ⟨v3,ts3⟩ | ⟨r3,e3⟩
  rotate_left
  ·exact mq179
  rw [fi,R.bind_ok] at h
  intro a3 gy am
  have gt:=am.hi
  obtain ⟨v3a,v3b,v3c,v3d,v3e,v3f⟩:=v3
  conv=>whnf
  have jy:=am.len
  repeat (refine ⟨rfl,?_⟩;conv=>whnf)
  refine ⟨Tw.2 rfl,(show ((tys.map (Zq (Zb L en))).length+1) * 96<=2 ^ 47 by rw [Te];omega),(show (tys.map (Zq (Zb L en))).length+1<=2 ^ 47 by rw [Te];omega),wN ?_⟩
  repeat (refine ⟨rfl,?_⟩;conv=>whnf)
  refine ⟨⟨tys++[⟨v3a,v3b,v3c,v3d,v3e,v3f⟩],rels,rules,comps,inits,overs,a3,ts3,f,rfl,?_,am,oM,oM,?_,h⟩,?_⟩
  ·rw [<- Zy (Zq (Zb L en)) tys];rfl
  ·simp only [Ta,TH];omega
  exact mq173
 | false =>
 rw [Tf (by rw [wl];simp)] at h
 conv=>whnf
 refine ⟨L,ts',rfl,dj,[[100,101,99,108]],rfl,sM,fun b wm=>?_⟩
 cases b with
 | true =>
  rw [Th wm] at h
  have ah:=dj.tl (Yz wm)
  have dw:=ah.hi
  have gj:=ah.len
  conv=>whnf
  refine ⟨L,ts',rfl,dj,fun g=>wN ?_,fun g=>wN ?_⟩
  ·exact mq182
  have ai:¬rels.length=256:=by rw [Te] at g;omega
  rw [Tf ai] at h
  refine ⟨L,ts'.tail,rfl,ah,fun x fi=>?_⟩
  rcases x with ⟨v3,ts3⟩ | ⟨r3,e3⟩
  rotate_left
  ·exact mq179
  rw [fi,R.bind_ok] at h
  intro a3 gy am
  have gt:=am.hi
  obtain ⟨v3a,v3b,v3c,v3d,v3e,v3f⟩:=v3
  conv=>whnf
  have jy:=am.len
  repeat (refine ⟨rfl,?_⟩;conv=>whnf)
  refine ⟨Tw.2 rfl,(show ((rels.map (ZN (Zb L en))).length+1) * 56<=2 ^ 47 by rw [Te];omega),(show (rels.map (ZN (Zb L en))).length+1<=2 ^ 47 by rw [Te];omega),wN ?_⟩
  repeat (refine ⟨rfl,?_⟩;conv=>whnf)
  refine ⟨⟨tys,rels++[⟨v3a,v3b,v3c,v3d,v3e,v3f⟩],rules,comps,inits,overs,a3,ts3,f,rfl,?_,am,oM,oM,?_,h⟩,?_⟩
  ·rw [<- Zy (ZN (Zb L en)) rels];rfl
  ·simp only [Ta,TH];omega
  exact mq173
 | false =>
 rw [Tf (by rw [wm];simp)] at h
 conv=>whnf
 refine ⟨L,ts',rfl,dj,[[99,111,109,112]],rfl,sM,fun b wo=>?_⟩
 cases b with
 | true =>
  rw [Th wo] at h
  have ah:=dj.tl (Yz wo)
  have dw:=ah.hi
  have gj:=ah.len
  conv=>whnf
  refine ⟨L,ts',rfl,dj,fun g=>wN ?_,fun g=>wN ?_⟩
  ·exact mq182
  have ai:¬comps.length=64:=by rw [Te] at g;omega
  rw [Tf ai] at h
  refine ⟨L,ts'.tail,rfl,ah,fu,fun x fi=>?_⟩
  rcases x with ⟨v3,ts3⟩ | ⟨r3,e3⟩
  rotate_left
  ·exact mq179
  rw [fi,R.bind_ok] at h
  intro a3 gy am
  have gt:=am.hi
  obtain ⟨v3a,v3b,v3c,v3d,⟨v3g,v3h,v3i,v3j,v3k,v3l⟩,v3f⟩:=v3
  conv=>whnf
  have jy:=am.len
  repeat (refine ⟨rfl,?_⟩;conv=>whnf)
  refine ⟨Tw.2 rfl,(show ((comps.map (XU (Zb L en))).length+1) * 232<=2 ^ 47 by rw [Te];omega),(show (comps.map (XU (Zb L en))).length+1<=2 ^ 47 by rw [Te];omega),wN ?_⟩
  repeat (refine ⟨rfl,?_⟩;conv=>whnf)
  refine ⟨⟨tys,rels,rules,comps++[.mk v3a v3b v3c v3d (.mk v3g v3h v3i v3j v3k v3l) v3f],inits,overs,a3,ts3,f,rfl,?_,am,oM,oM,?_,h⟩,?_⟩
  ·rw [<- Zy (XU (Zb L en)) comps];rfl
  ·simp only [Ta,TH];omega
  exact mq173
 | false =>
 rw [Tf (by rw [wo];simp)] at h
 conv=>whnf
 refine ⟨L,ts',rfl,dj,[[105,110,105,116]],rfl,sM,fun b wp=>?_⟩
 cases b with
 | true =>
  rw [Th wp] at h
  have ah:=dj.tl (Yz wp)
  have dw:=ah.hi
  have gj:=ah.len
  conv=>whnf
  refine ⟨L,ts',rfl,dj,fun g=>wN ?_,fun g=>wN ?_⟩
  ·exact mq182
  have ai:¬inits.length=256:=by rw [Te] at g;omega
  rw [Tf ai] at h
  refine ⟨L,ts'.tail,rfl,ah,wN ?_⟩
  rw [Zo0] at h
  refine ⟨L,ts'.tail,rfl,ah,fun x fi=>?_⟩
  rcases x with ⟨v3,ts3⟩ | ⟨r3,e3⟩
  rotate_left
  ·rw [fi,R.bind_err,R.bind_err] at h;intro a9 d9;(conv=>whnf);exact h _ _
  rw [fi,R.bind_ok] at h
  intro a3 gy am
  have gt:=am.hi
  conv=>whnf
  refine ⟨L,ts3,rfl,am,fun x nd=>?_⟩
  rcases x with ⟨v4,ts4⟩ | ⟨r4,e4⟩
  rotate_left
  ·rw [nd,R.bind_err,R.bind_err] at h;intro a9 d9;(conv=>whnf);exact h _ _
  rw [nd,R.bind_ok] at h
  intro a4 nz cf
  have sy:=cf.hi
  conv=>whnf
  refine ⟨L,ts4,rfl,cf,fun x kr=>?_⟩
  rcases x with ⟨v5,ts5⟩ | ⟨r5,e5⟩
  rotate_left
  ·rw [kr,R.bind_err,R.bind_err] at h;intro a9 d9;(conv=>whnf);exact h _ _
  rw [kr,R.bind_ok] at h
  intro a5 mn cq
  have vz:=cq.hi
  conv=>whnf
  refine ⟨L,ts5,rfl,cq,fun x rf=>?_⟩
  rcases x with ⟨v6,ts6⟩ | ⟨r6,e6⟩
  rotate_left
  ·rw [rf,R.bind_err,R.bind_err] at h;intro a9 d9;(conv=>whnf);exact h _ _
  rw [rf,R.bind_ok] at h
  intro a6 zw fb
  have hb6:=fb.hi
  conv=>whnf
  rw [R.bind_ok] at h
  have afx:=fb.len
  refine ⟨Tw.2 rfl,(show ((inits.map (We (Zb L en))).length+1) * 64<=2 ^ 47 by rw [Te];omega),(show (inits.map (We (Zb L en))).length+1<=2 ^ 47 by rw [Te];omega),wN ?_⟩
  repeat (refine ⟨rfl,?_⟩;conv=>whnf)
  refine ⟨⟨tys,rels,rules,comps,inits++[⟨v3,v5,v6,ts'.tail.length⟩],overs,a6,ts6,f,rfl,?_,fb,oM,oM,?_,h⟩,?_⟩
  ·rw [<- Zy (We (Zb L en)) inits];rfl
  ·simp only [Ta,TH];omega
  show ((L.length:Int) - a6).toNat<((L.length:Int) - a').toNat
  omega
 | false =>
 rw [Tf (by rw [wp];simp)] at h
 conv=>whnf
 refine ⟨L,ts',rfl,dj,[[111,118,101,114,114,105,100,101]],rfl,sM,fun b wq=>?_⟩
 cases b with
 | true =>
  rw [Th wq] at h
  have ah:=dj.tl (Yz wq)
  have dw:=ah.hi
  have gj:=ah.len
  conv=>whnf
  refine ⟨L,ts',rfl,dj,fun g=>wN ?_,fun g=>wN ?_⟩
  ·exact mq182
  have ai:¬overs.length=256:=by rw [Te] at g;omega
  rw [Tf ai] at h
  refine ⟨L,ts'.tail,rfl,ah,wN ?_⟩
  rw [Zo1] at h
  refine ⟨L,ts'.tail,rfl,ah,fun x fi=>?_⟩
  rcases x with ⟨v3,ts3⟩ | ⟨r3,e3⟩
  rotate_left
  ·rw [fi,R.bind_err,R.bind_err] at h;intro a9 d9;(conv=>whnf);exact h _ _
  rw [fi,R.bind_ok,R.bind_ok] at h
  intro a3 gy am
  have gt:=am.hi
  have jy:=am.len
  conv=>whnf
  refine ⟨Tw.2 rfl,(show ((overs.map (Wf (Zb L en))).length+1) * 24<=2 ^ 47 by rw [Te];omega),(show (overs.map (Wf (Zb L en))).length+1<=2 ^ 47 by rw [Te];omega),wN ?_⟩
  repeat (refine ⟨rfl,?_⟩;conv=>whnf)
  refine ⟨⟨tys,rels,rules,comps,inits,overs++[⟨v3,ts'.tail.length⟩],a3,ts3,f,rfl,?_,am,oM,oM,?_,h⟩,?_⟩
  ·rw [<- Zy (Wf (Zb L en)) overs];rfl
  ·simp only [Ta,TH];omega
  exact mq173
 | false =>
 rw [Tf (by rw [wq];simp)] at h
 conv=>whnf
 refine ⟨L,ts',rfl,dj,fun b hn=>?_⟩
 cases b with
 | false =>
  rw [Tf (by rw [hn];simp)] at h
  conv=>whnf
  refine ⟨L,ts',rfl,dj,wN ?_⟩
  exact h _ _
 | true =>
 rw [Th hn] at h
 conv=>whnf
 refine ⟨L,ts',rfl,dj,fun g=>wN ?_,fun g=>wN ?_⟩
 ·exact mq182
 have ai:¬rules.length=1024:=by rw [Te] at g;omega
 rw [Tf ai] at h
 refine Zj ?_
 rw [show a'+1 - 1=a' by omega]
 refine ⟨L,ts',rfl,dj,fu,fun x fi=>?_⟩
 rcases x with ⟨v3,ts3⟩ | ⟨r3,e3⟩
 rotate_left
 ·exact mq179
 rw [fi,R.bind_ok] at h
 intro a3 gy am
 have gt:=am.hi
 obtain ⟨v3a,v3b,v3c,v3d⟩:=v3
 conv=>whnf
 have jy:=am.len
 repeat (refine ⟨rfl,?_⟩;conv=>whnf)
 refine ⟨Tw.2 rfl,(show ((rules.map (ZS (Zb L en))).length+1) * 72<=2 ^ 47 by rw [Te];omega),(show (rules.map (ZS (Zb L en))).length+1<=2 ^ 47 by rw [Te];omega),wN ?_⟩
 repeat (refine ⟨rfl,?_⟩;conv=>whnf)
 refine ⟨⟨tys,rels,rules++[⟨v3a,v3b,v3c,v3d⟩],comps,inits,overs,a3,ts3,f,rfl,?_,am,oM,oM,?_,h⟩,?_⟩
 ·rw [<- Zy (ZS (Zb L en)) rules];rfl
 ·simp only [Ta,TH];omega
 exact mq173):P:=h
def mq2 {P:Prop} (h:P:=by
 refine ⟨oM,oM,oM,wN ?_⟩
 have gk:cut s (((a:Int)+2)).toNat ((e:Int)).toNat=Zc (s.drop a):=by rw [hst.2];congr 1 <;> omega
 refine ⟨true,⟨⟨?_,?_⟩,rfl,rfl⟩,fun h5 nn=>?_,fun h5=>?_⟩
 ·exact (congrArg (fun l:Bs=>l.all (YR true)=true) gk).mpr cd
 ·exact (congrArg (fun l:Bs=>l.length<4294967281) gk).mpr (show _<_ by omega)
 ·have fe:Zc (s.drop a)=[]\/18446744073709551616<=YY 16 (Zc (s.drop a)):=by rw [<- gk];exact h5
  exact mq169
 have fe:¬(Zc (s.drop a)=[]\/18446744073709551616<=YY 16 (Zc (s.drop a))):=by rw [<- gk];exact h5
 simp only [not_or] at fe
 have qy:=X3 (s.drop (a+Zu (s.drop a)))
 have wr:=X3 (s.drop ((e:Int)).toNat)
 have ww:(pk (s.drop ((e:Int)).toNat)).1=(pk ((s.drop a).drop (Zu (s.drop a)))).1:=by rw [TC,<- hst.1];rfl
 have g6:ZI (s.drop a)=if Zd (pk ((s.drop a).drop (Zu (s.drop a)))).1=true\/Zf (pk ((s.drop a).drop (Zu (s.drop a)))).1=true\/(YG (s.drop a)=true/\16<(Zc (s.drop a)).length) then none else some (YY 16 (Zc (s.drop a))):=by
  unfold ZI
  simp only [f5,if_true,Tt,if_false]
  rw [Tf fe.1,Tf fe.2]
 conv=>whnf
 refine ⟨⟨oM,oM⟩,wN ?_⟩
 refine ⟨⟨wr.1,oM⟩,wN ?_⟩
 refine ZEz (fun h6=>wN ?_) (fun h6=>wN ?_)
 ·exact mq193
 refine ZEz (fun h7=>wN ?_) (fun h7=>wN ?_)
 ·exact mq192
 have g7:¬Zd (pk ((s.drop a).drop (Zu (s.drop a)))).1=true/\¬Zf (pk ((s.drop a).drop (Zu (s.drop a)))).1=true:=by
  exact mq187
 refine Zj ?_
 refine ZEw (fun h8=>wN ?_) (fun h8=>wN ?_)
 ·(try (refine ⟨rfl,?_⟩;conv=>whnf))
  (try (refine ⟨rfl,?_⟩;conv=>whnf))
  exact ct (by rw [g6,Th (.inr (.inr ⟨f5,oM⟩))])
 have g9:=cz _ (by rw [g6,Tf (by simp only [not_or];exact ⟨g7.1,g7.2,oM⟩)])
 rw [<- hst.1,<- gk] at g9
 exact Or.inr g9):P:=h
def mq3 {P:Prop} (h:P:=by
 have pn:¬(3<=a1/\a1<=8):=oM
 refine ZEw (fun aei=>wN ?_) (fun aei=>wN ?_)
 ·have h9:a1=9:=by omega
  refine ZEw (fun hr=>?_) (fun hr=>?_)
  rotate_left
  ·have lc:YV a1 a2 a3.length a4.length=false:=by simp [YV,h9,hr]
   conv=>whnf
   exact mq194
  conv=>whnf
  refine ZEw (fun hA=>?_) (fun hA=>?_)
  rotate_left
  ·have hA:¬a3.length=1:=fun g=>hA (by show ((Zp pl a3).length:Int)=1;rw [dx,g];rfl)
   have lc:YV a1 a2 a3.length a4.length=false:=by simp [YV,h9,hA]
   conv=>whnf
   exact mq194
  have hA:a3.length=1:=by have hA:((Zp pl a3).length:Int)=1:=hA;rw [dx] at hA;omega
  conv=>whnf
  refine ZEw (fun hB=>wN ?_) (fun hB=>wN ?_)
  ·have hB:=s9.1 hB
   have lc:YV a1 a2 a3.length a4.length=true:=by simp [YV,h9,hr,hA,hB]
   exact mq167
  have hB:¬0<a4.length:=fun g=>hB (s9.2 g)
  have lc:YV a1 a2 a3.length a4.length=false:=by simp only [YV,h9,hr,hA,decide_eq_false hB];simp
  exact mq194
 have hn9:¬a1=9:=oM
 refine ZEw (fun hg9=>wN ?_) (fun hg9=>wN ?_)
 ·refine ZEw (fun aej=>wN ?_) (fun aej=>wN ?_)
  ·have wt:9<a1/\a1<=12:=by omega
   refine ZEw (fun hr=>?_) (fun hr=>?_)
   rotate_left
   ·have lc:YV a1 a2 a3.length a4.length=false:=by simp [YV,kw,pn,hn9,wt,hr]
    conv=>whnf
    exact mq194
   conv=>whnf
   refine ZEw (fun hA=>?_) (fun hA=>?_)
   rotate_left
   ·have hA:¬a3.length=2:=fun g=>hA (by show ((Zp pl a3).length:Int)=2;rw [dx,g];rfl)
    have lc:YV a1 a2 a3.length a4.length=false:=by simp [YV,kw,pn,hn9,wt,hA]
    conv=>whnf
    exact mq194
   have hA:a3.length=2:=by have hA:((Zp pl a3).length:Int)=2:=hA;rw [dx] at hA;omega
   conv=>whnf
   refine ZEw (fun hB=>wN ?_) (fun hB=>wN ?_)
   ·have hB:=s9.1 hB
    have lc:YV a1 a2 a3.length a4.length=true:=by simp [YV,kw,pn,hn9,wt,hr,hA,hB]
    exact mq167
   have hB:¬0<a4.length:=fun g=>hB (s9.2 g)
   have lc:YV a1 a2 a3.length a4.length=false:=by simp only [YV,kw,pn,hn9,wt,hr,hA,decide_eq_false hB];simp
   exact mq194
  have wt:¬(9<a1/\a1<=12):=by omega
  exact mq207
 have wt:¬(9<a1/\a1<=12):=oM
 exact mq207):P:=h
def mq4 {P:Prop} (h:P:=by
 refine ZEw (fun h1=>?_) (fun h1=>?_)
 rotate_left
 ·exact mq204
 conv=>whnf
 refine ZEw (fun h2=>wN ?_) (fun h2=>wN ?_)
 ·refine ZEw (fun h3=>wN ?_) (fun h3=>wN ?_)
  ·exact mq201
  refine ZEw (fun h5=>?_) (fun h5=>?_)
  rotate_left
  ·exact mq172
  have h5:a1=3:=oM
  have ic:(decide (a3=0) || decide (a1=3))=true:=by simp [h5]
  exact mq196
 refine ZEw (fun h6=>?_) (fun h6=>?_)
 rotate_left
 ·exact mq176
 have h6:(a4.length:Int)=a:=by rw [<- eu];exact h6
 conv=>whnf
 refine ZEw (fun h3=>wN ?_) (fun h3=>wN ?_)
 ·exact mq200
 refine ZEw (fun h5=>?_) (fun h5=>?_)
 rotate_left
 ·exact mq172
 have h5:a1=3:=oM
 have ic:(decide (a3=0) || decide (a1=3))=true:=by simp [h5]
 exact mq195):P:=h
def mq5 {P:Prop} (h:P:=by
 refine ⟨oM,oM,oM,wN ?_⟩
 have gk:cut s ((a:Int)).toNat ((e:Int)).toNat=Zc (s.drop a):=by rw [hst.2];congr 1 <;> omega
 refine ⟨false,⟨⟨?_,?_⟩,rfl,rfl⟩,fun h5 nn=>?_,fun h5=>?_⟩
 ·exact (congrArg (fun l:Bs=>l.all (YR false)=true) gk).mpr cd
 ·exact (congrArg (fun l:Bs=>l.length<4294967281) gk).mpr (show _<_ by omega)
 ·have fe:Zc (s.drop a)=[]\/9223372036854775808<=YY 10 (Zc (s.drop a)):=by rw [<- gk];exact h5
  exact mq169
 have fe:¬(Zc (s.drop a)=[]\/9223372036854775808<=YY 10 (Zc (s.drop a))):=by rw [<- gk];exact h5
 simp only [not_or] at fe
 have qy:=X3 (s.drop (a+Zu (s.drop a)))
 have wr:=X3 (s.drop ((e:Int)).toNat)
 have ww:(pk (s.drop ((e:Int)).toNat)).1=(pk ((s.drop a).drop (Zu (s.drop a)))).1:=by rw [TC,<- hst.1];rfl
 have g6:ZI (s.drop a)=if Zd (pk ((s.drop a).drop (Zu (s.drop a)))).1=true\/Zf (pk ((s.drop a).drop (Zu (s.drop a)))).1=true\/(YG (s.drop a)=true/\16<(Zc (s.drop a)).length) then none else some (YY 10 (Zc (s.drop a))):=by
  unfold ZI
  simp only [f5,if_true,Tt,if_false]
  rw [Tf fe.1,Tf fe.2]
 conv=>whnf
 refine ⟨⟨oM,oM⟩,wN ?_⟩
 refine ⟨⟨wr.1,oM⟩,wN ?_⟩
 refine ZEz (fun h6=>wN ?_) (fun h6=>wN ?_)
 ·exact mq193
 refine ZEz (fun h7=>wN ?_) (fun h7=>wN ?_)
 ·exact mq192
 have g7:¬Zd (pk ((s.drop a).drop (Zu (s.drop a)))).1=true/\¬Zf (pk ((s.drop a).drop (Zu (s.drop a)))).1=true:=by
  exact mq187
 have g9:=cz _ (by rw [g6,Tf (by simp only [not_or];exact ⟨g7.1,g7.2,by rw [f5];simp⟩)])
 rw [<- hst.1,<- gk] at g9
 exact Or.inr g9):P:=h
def mq6 {P:Prop} (h:P:=by
 refine ZEw (fun h1=>?_) (fun h1=>?_)
 rotate_left
 ·exact mq204
 conv=>whnf
 refine ZEw (fun h2=>wN ?_) (fun h2=>wN ?_)
 ·exact mq170
 refine ZEw (fun h6=>?_) (fun h6=>?_)
 rotate_left
 ·exact mq176
 have h6:(a4.length:Int)=a:=by rw [<- eu];exact h6
 conv=>whnf
 exact mq170):P:=h
def mq7 {P:Prop} (h:P:=by
 unfold XC at h
 split at h
 ·obtain ⟨pl,l,rfl,⟨rfl,hz,hn⟩,h⟩:=h
  refine pwv [] 0 false ?_
  refine ⟨pl,l,rfl,⟨rfl,rfl,hz,hn⟩,fun b hb=>wN ?_⟩
  exact h _ (by rw [<- hb,SI])
 exact h.elim):P:=h
def mq8 {P:Prop} (h:P:=by
 exact mq167):P:=h
def mq9 {P:Prop} (h:P:=by
 refine ⟨⟨0,n+1,_,rfl,rfl,oM,⟨hM1,by rw [Sn];omega⟩,hF⟩,?_⟩
 rintro w σ1 ⟨j,n1,M1,rfl,rfl,hj,⟨wg,lm⟩,ha⟩
 conv=>whnf
 refine ZEw (fun hc=>?_) (fun hc=>?_)
 rotate_left
 ·have hc:¬(j:Int)<((fs.map Zn).length:Int):=hc
  rw [Te] at hc
  rw [Tr oM] at ha
  have ha:M1=F:=ha
  subst ha
  conv=>whnf
  exact h
 have ab:j<fs.length:=by have hc:(j:Int)<((fs.map Zn).length:Int):=hc;rw [Te] at hc;omega
 have aq:j<eargs.length:=oM
 rw [Tl ab,Tl aq] at ha
 simp only [ZaT] at ha
 have hk:=rk j _ _ (Tb aq) (Tb ab)
 have pj:(fs.map Zn)[(j:Int).toNat]?=some (Zn fs[j]):=by rw [Ti,Tj,Tb ab];rfl
 have n7:(Zp pl eargs)[(j:Int).toNat]?=some (ZW pl eargs[j]):=by rw [Ze,Ti,Tj,Tb aq];rfl
 have eg:=ZE szE eargs j aq
 have io:=ZcG (f:=szE) (Tb aq)
 have hμ:((eargs.length:Int) - ((j:Int)+1)).toNat<((eargs.length:Int) - (j:Int)).toNat:=oM
 generalize fs[j]=f0 at ha hk pj
 generalize eargs[j]=x0 at ha hk n7 eg io
 obtain ⟨f1,f2⟩:=f0
 obtain ⟨x1,x2,x3,x4,x5⟩:=x0
 conv=>whnf
 refine ⟨_,oM,pj,wN ?_⟩
 refine ⟨_,oM,n7,wN ?_⟩
 refine ⟨oM,pl,p,r,vs,more,.mk x1 x2 x3 x4 x5,M1,n1,rfl,rfl,rfl,hp,⟨oM,oM⟩,hk,⟨wg,oM⟩,wN ?_⟩
 have hM3:=ZaN (wiE p (.mk x1 x2 x3 x4 x5) f2) wg
 have hwl:=Zg4 p (.mk x1 x2 x3 x4 x5) f2
 rw [WO,List.foldl_append] at ha
 (repeat (refine ⟨rfl,?_⟩;conv=>whnf))
 refine Zj ?_
 exact ⟨⟨j+1,n1+(wiE p (.mk x1 x2 x3 x4 x5) f2).length,_,rfl,rfl,oM,⟨hM3,oM⟩,ha⟩,hμ⟩):P:=h
def mq10 {P:Prop} (h:P:=by
 have ll:=Zh4 hd oM
 conv=>whnf
 refine ZEw (fun g1=>wN ?_) (fun g1=>?_)
 ·refine ZEw (fun g2=>wN ?_) (fun g2=>?_)
  ·refine WY ?_
   refine WY ?_
   have hD:(J1 b:Int)=Zh .or .u8 (b.toNat:Int) 32 - 97+10:=oM
   refine WY ?_
   refine ZEw (fun h6=>?_) (fun h6=>wN ?_)
   ·omega
   refine ZEw (fun h7=>wN ?_) (fun h7=>wN ?_)
   ·exact sq oM
   refine J0 ?_
   refine J0 ?_
   refine J0 ?_
   by_cases dr:(N:Int) * 16+(Zh .or .u8 (b.toNat:Int) 32 - 97+10)<=18446744073709551615
   ·refine J0 ?_
    refine ZEw (fun h8=>?_) (fun h8=>wN ?_)
    ·omega
    refine ZEw (fun h9=>wN ?_) (fun h9=>wN ?_)
    ·exact sq oM
    refine Zj ?_
    refine ⟨⟨rfl,i+1,?_,oM,oM⟩,?_⟩
    ·have e:((YY 16 (l.take (i+1)):Nat):Int)=(N:Int) * 16+(Zh .or .u8 (b.toNat:Int) 32 - 97+10):=by omega
     rw [e];rfl
    exact mq190
   have hw:IntKind.u64.wrap ((N:Int) * 16+(Zh .or .u8 (b.toNat:Int) 32 - 97+10))=(N:Int) * 16+(Zh .or .u8 (b.toNat:Int) 32 - 97+10) - 18446744073709551616:=by
    exact mq202
   exact mq199
  omega
 omega):P:=h
def mq11 {P:Prop} (h:P:=by
 refine ⟨⟨0,rfl,rfl,oM,hX⟩,?_⟩
 rintro w σ1 ⟨j,rfl,rfl,hj,ha⟩
 conv=>whnf
 refine ZEw (fun hc=>?_) (fun hc=>?_)
 rotate_left
 ·have hc:¬(j:Int)<((fs.map Zn).length:Int):=hc
  rw [Te] at hc
  rw [Tr oM] at ha
  have ha:none=X:=ha
  subst ha
  conv=>whnf
  exact h
 have ab:j<fs.length:=by have hc:(j:Int)<((fs.map Zn).length:Int):=hc;rw [Te] at hc;omega
 have aq:j<eargs.length:=oM
 rw [Tl ab,Tl aq] at ha
 simp only [ZaT] at ha
 have hk:=rk j _ _ (Tb aq) (Tb ab)
 have pj:(fs.map Zn)[(j:Int).toNat]?=some (Zn fs[j]):=by rw [Ti,Tj,Tb ab];rfl
 have n7:(Zp pl eargs)[(j:Int).toNat]?=some (ZW pl eargs[j]):=by rw [Ze,Ti,Tj,Tb aq];rfl
 have eg:=ZE szE eargs j aq
 have hμ:((eargs.length:Int) - ((j:Int)+1)).toNat<((eargs.length:Int) - (j:Int)).toNat:=oM
 generalize fs[j]=f0 at ha hk pj
 generalize eargs[j]=x0 at ha hk n7 eg
 obtain ⟨f1,f2⟩:=f0
 obtain ⟨x1,x2,x3,x4,x5⟩:=x0
 conv=>whnf
 refine ⟨_,oM,pj,wN ?_⟩
 refine ⟨_,oM,n7,wN ?_⟩
 refine ⟨oM,pl,p,r,vs,more,.mk x1 x2 x3 x4 x5,M,kn,rfl,rfl,rfl,hp,⟨oM,oM⟩,hk,mc,fun y hy=>?_⟩
 rw [W4,hy] at ha
 cases y with
 | some ae =>
  obtain ⟨a,e⟩:=ae
  simp only [orF] at ha
  subst ha
  simp only [FlK] at h |-
  conv=>whnf
  exact h
 | none =>
 simp only [FlK,orF] at ha |-
 conv=>whnf
 (repeat (refine ⟨rfl,?_⟩;conv=>whnf))
 refine Zj ?_
 exact ⟨⟨j+1,rfl,rfl,oM,ha⟩,hμ⟩):P:=h
def mq12 {P:Prop} (h:P:=by
 refine ⟨fun _=>0,a1,rfl,⟨by simp only [wBs];omega,oM⟩,fun b ek=>?_⟩
 cases b with
 | false =>
  conv=>whnf
  exact h _ (by simp [Yl,ek])
 | true =>
 conv=>whnf
 refine ⟨pl,a2,rfl,⟨rfl,oM,oM⟩,fun b iu=>?_⟩
 cases b with
 | false =>
  conv=>whnf
  exact h _ (by simp [Yl,ek,iu])
 | true =>
 conv=>whnf
 refine ⟨pl,a4,rfl,⟨rfl,oM,oM⟩,fun b iq=>?_⟩
 cases b with
 | false =>
  conv=>whnf
  exact h _ (by simp [Yl,ek,iu,iq])
 | true =>
 conv=>whnf
 refine ⟨pl,.mk u1 u2 u3 u4 u5 u6,rfl,⟨oM,oM⟩,fun b hu=>wN ?_⟩
 exact h _ (by simp only [Yl,ma,ek,iu,iq,hu,TX])):P:=h
def mq13 {P:Prop} (h:P:=by
 rcases x with ⟨v3,ts3⟩ | ⟨r3,e3⟩
 rotate_left
 ·exact mq179
 rw [fi,R.bind_ok] at h
 intro a3 gy am
 have gt:=am.hi
 conv=>whnf
 refine Zj ?_
 rw [TW]
 exact h _ oM am):P:=h
def mq14 {P:Prop} (h:P:=by
 cases b with
 | false =>
  rw [Zo,Tf (by rw [dm];simp),R.bind_err] at h
  exact mq208
 | true =>
 rw [Zo,Th dm] at h
 conv=>whnf
 refine ZEw (fun hc=>wN ?_) (fun hc=>wN ?_)
 ·rw [Th oM,R.bind_err] at h
  refine ⟨L,ts,rfl,ho,wN ?_⟩
  exact h _ _
 rw [Tf oM] at h
 refine ⟨L,ts,rfl,ho,fun x hx=>?_⟩
 rw [ZR,Th dm] at hx
 subst hx
 intro a1 ew ak
 have bu:=ak.hi
 conv=>whnf
 refine Zj ?_
 refine ⟨_,fun _ _ h=>h,Tc rfl,wN ?_⟩
 refine ⟨L,ts.tail,rfl,ak,⟨oM,oM,oM⟩,fun x ca=>?_⟩
 rcases x with ⟨v2,ts2⟩ | ⟨r2,e2⟩
 rotate_left
 ·exact mq206
 rw [ca,R.bind_ok] at h
 intro a2 gl ah
 have dw:=ah.hi
 obtain ⟨v2a,v2b,v2c,v2d,v2e⟩:=v2
 conv=>whnf
 repeat (refine ⟨rfl,?_⟩;conv=>whnf)
 rw [Th rfl,R.bind_ok] at h
 refine Zj ?_
 rw [TW]
 exact h _ oM ah):P:=h
def mq15 {P:Prop} (h:P:=by
 refine ⟨L,ts1,rfl,ak,fu,fun x hx=>?_⟩
 rw [hx] at step
 cases x with
 | err r e =>
  exact mq180
 | ok v ts2 =>
 rw [R.bind_ok] at step
 intro a2 ar ah
 have dl:=ah.len
 have rj:=ah.hi
 obtain ⟨v1,v2,v3,v4,v5⟩:=v
 conv=>whnf
 refine ⟨Tw.2 rfl,(show ((l.map (Xp (Zb L en))).length+1) * 80<=2 ^ 47 by rw [Te];omega),(show (l.map (Xp (Zb L en))).length+1<=2 ^ 47 by rw [Te];omega),wN ?_⟩
 refine ⟨L,ts2,rfl,ah,[[44]],rfl,sM,fun hw am=>wN ?_,fun hw=>wN ?_⟩
 ·rw [Th hw] at step
  have dx:=am.len
  refine ⟨⟨_,a2+1,ts2.tail,f,congrArg (fun r=>[PV.sl 0 142 r]) (Zy (Xp (Zb L en)) l (.mk v1 v2 v3 v4 v5)),rfl,am,by simp only [Ta,TH];omega,oM,step⟩,?_⟩
  exact mq178
 rw [Tf (by rw [hw];simp)] at step
 rw [step] at h
 exact Zrm (h a2 oM ah) (congrArg (fun r=>PEnd.ret (PV.d (D.sl r))) (Zy (Xp (Zb L en)) l (.mk v1 v2 v3 v4 v5)).symm) rfl):P:=h
def mq16 {P:Prop} (h:P:=by
 refine ⟨L,ts1,rfl,ak,fu,fun x hx=>?_⟩
 rw [hx] at step
 cases x with
 | err r e =>
  exact mq180
 | ok v ts2 =>
 rw [R.bind_ok] at step
 intro a2 ar ah
 have dl:=ah.len
 have rj:=ah.hi
 obtain ⟨v1,v2,v3,v4,v5⟩:=v
 conv=>whnf
 refine ⟨Tw.2 rfl,(show ((l.map (ZW (Zb L en))).length+1) * 64<=2 ^ 47 by rw [Te];omega),(show (l.map (ZW (Zb L en))).length+1<=2 ^ 47 by rw [Te];omega),wN ?_⟩
 refine ⟨L,ts2,rfl,ah,[[44]],rfl,sM,fun hw am=>wN ?_,fun hw=>wN ?_⟩
 ·rw [Th hw] at step
  have dx:=am.len
  refine ⟨⟨_,a2+1,ts2.tail,f,congrArg (fun r=>[PV.sl 0 138 r]) (Zy (ZW (Zb L en)) l (.mk v1 v2 v3 v4 v5)),rfl,am,by simp only [Ta,TH];omega,oM,step⟩,?_⟩
  exact mq178
 rw [Tf (by rw [hw];simp)] at step
 rw [step] at h
 exact Zrm (h a2 oM ah) (congrArg (fun r=>PEnd.ret (PV.d (D.sl r))) (Zy (ZW (Zb L en)) l (.mk v1 v2 v3 v4 v5)).symm) rfl):P:=h
def mq17 {P:Prop} (h:P:=by
 exact mq179):P:=h
def mq18 {P:Prop} (h:P:=by
 refine ⟨L,ts1,rfl,ak,fun x hx=>?_⟩
 rw [hx] at step
 cases x with
 | err r e =>
  exact mq180
 | ok v ts2 =>
 rw [R.bind_ok] at step
 intro a2 ar ah
 have dl:=ah.len
 have rj:=ah.hi
 obtain ⟨v1,v2⟩:=v
 conv=>whnf
 refine ⟨Tw.2 rfl,(show ((l.map (Zt)).length+1) * 40<=2 ^ 47 by rw [Te];omega),(show (l.map (Zt)).length+1<=2 ^ 47 by rw [Te];omega),wN ?_⟩
 refine ⟨L,ts2,rfl,ah,[[124]],rfl,sM,fun hw am=>wN ?_,fun hw=>wN ?_⟩
 ·rw [Th hw] at step
  have dx:=am.len
  refine ⟨⟨_,a2+1,ts2.tail,f,congrArg (fun r=>[PV.sl 0 59 r]) (Zy (Zt) l _),rfl,am,by simp only [Ta,TH];omega,oM,step⟩,?_⟩
  exact mq178
 rw [Tf (by rw [hw];simp)] at step
 rw [step] at h
 exact Zrm (h a2 oM ah) (congrArg (fun r=>PEnd.ret (PV.d (D.sl r))) (Zy (Zt) l _).symm) rfl):P:=h
def mq19 {P:Prop} (h:P:=by
 refine ⟨L,ts1,rfl,ak,fun x hx=>?_⟩
 rw [hx] at step
 cases x with
 | err r e =>
  exact mq180
 | ok v ts2 =>
 rw [R.bind_ok] at step
 intro a2 ar ah
 have dl:=ah.len
 have rj:=ah.hi
 obtain ⟨v1,v2⟩:=v
 conv=>whnf
 refine ⟨Tw.2 rfl,(show ((l.map (Zn)).length+1) * 32<=2 ^ 47 by rw [Te];omega),(show (l.map (Zn)).length+1<=2 ^ 47 by rw [Te];omega),wN ?_⟩
 refine ⟨L,ts2,rfl,ah,[[44]],rfl,sM,fun hw am=>wN ?_,fun hw=>wN ?_⟩
 ·rw [Th hw] at step
  have dx:=am.len
  refine ⟨⟨_,a2+1,ts2.tail,f,congrArg (fun r=>[PV.sl 0 89 r]) (Zy (Zn) l _),rfl,am,by simp only [Ta,TH];omega,oM,step⟩,?_⟩
  exact mq178
 rw [Tf (by rw [hw];simp)] at step
 rw [step] at h
 exact Zrm (h a2 oM ah) (congrArg (fun r=>PEnd.ret (PV.d (D.sl r))) (Zy (Zn) l _).symm) rfl):P:=h
def mq20 {P:Prop} (h:P:=by
 refine ⟨L,ts1,rfl,ak,fun x hx=>?_⟩
 rw [hx] at step
 cases x with
 | err r e =>
  exact mq180
 | ok v ts2 =>
 rw [R.bind_ok] at step
 intro a2 ar ah
 have dl:=ah.len
 have rj:=ah.hi
 skip
 conv=>whnf
 refine ⟨Tw.2 rfl,(show ((l.map (Ym)).length+1) * 16<=2 ^ 47 by rw [Te];omega),(show (l.map (Ym)).length+1<=2 ^ 47 by rw [Te];omega),wN ?_⟩
 refine ⟨L,ts2,rfl,ah,[[44]],rfl,sM,fun hw am=>wN ?_,fun hw=>wN ?_⟩
 ·rw [Th hw] at step
  have dx:=am.len
  refine ⟨⟨_,a2+1,ts2.tail,f,congrArg (fun r=>[PV.sl 0 9 r]) (Zy (Ym) l _),rfl,am,by simp only [Ta,TH];omega,oM,step⟩,?_⟩
  exact mq178
 rw [Tf (by rw [hw];simp)] at step
 rw [step] at h
 exact Zrm (h a2 oM ah) (congrArg (fun r=>PEnd.ret (PV.d (D.sl r))) (Zy (Ym) l _).symm) rfl):P:=h
def mq21 {P:Prop} (h:P:=by
 refine ⟨fun _=>0,a2,rfl,⟨by simp only [wBs];omega,oM⟩,fun b ek=>?_⟩
 cases b with
 | false =>
  conv=>whnf
  exact h _ (by simp [Yq,mq,ek])
 | true =>
 conv=>whnf
 refine ⟨pl,a4,rfl,⟨rfl,oM,oM⟩,fun b iu=>?_⟩
 cases b with
 | false =>
  conv=>whnf
  exact h _ (by simp [Yq,mq,ek,iu])
 | true =>
 conv=>whnf
 refine ⟨pl,a5,rfl,⟨rfl,oM,oM⟩,fun b iq=>wN ?_⟩
 exact h _ (by simp only [Yq,mq,ek,iu,iq,TX])):P:=h
def mq22 {P:Prop} (h:P:=by
 rw [hp,TX] at hs
 conv=>whnf
 refine Zj ?_
 refine ⟨⟨i+1,rfl,rfl,oM,hs⟩,?_⟩
 exact lzM oM):P:=h
def mq23 {P:Prop} (h:P:=by
 exact ⟨_,h,by rw [Z2,Op.equalIn];simp [Za eh],ZM rfl,rfl⟩):P:=h
def mq24 {P:Prop} (h:P:=by
 refine ⟨sM,fun r hr=>by rw [(List.mem_replicate.1 hr).2],fun a b y u hb hy hu=>?_⟩
 by_cases ha:a<n
 ·have ab:a * zero.length+b<n * zero.length:=by
   calc a * zero.length+b<a * zero.length+zero.length:=by omega
    _=(a+1) * zero.length:=by rw [Sp,Nat.one_mul]
    _<=n * zero.length:=T4 _ ha
  have hm:(a * zero.length+b) % z.cells.size=b:=by rw [hzc,Nat.mul_comm,Nat.mul_add_mod,Nat.mod_eq_of_lt hb]
  rw [Tx,Array.getElem?_map,Array.getElem?_range,Th ab] at hu
  simp only [Sc,hm,Option.some.injEq] at hu
  have hbz:b<z.cells.size:=oM
  rw [getElem!_pos z.cells b hbz] at hu
  have cp:b<(T.get el).zero.length:=oM
  have:=nr b _ u (Tb cp) (by rw [Tx,TB hbz,hu])
  rw [Sj,Th ha] at hy
  simp only [Option.bind_some] at hy
  exact Wq (co b _ y (Tb cp) hy) this.1
 rw [Sj,Tf ha] at hy;cases hy):P:=h
def mq25 {P:Prop} (h:P:=by
 exact mq208):P:=h
def mq26 {P:Prop} (h:P:=by
 have ac:l.length<=i:=lzG aa ac
 rw [WM _ ac] at hs
 exact h _ (by rw [hs];simp)):P:=h
def mq27 {P:Prop} (h:P:=by
 conv=>whnf
 refine Zj ?_
 refine ⟨⟨i+1,_,rfl,(by rw [ki,hT];simp only [Tn];rfl),.inr rfl,oM⟩,?_⟩
 exact lzM oM):P:=h
def mq28 {P:Prop} (h:P:=by
 generalize l[j]=x at hs hr
 obtain ⟨x1,x2,x3,x4,x5,x6⟩:=x
 conv=>whnf
 refine ⟨_,oM,hr,wN ?_⟩
 refine ⟨pl,_,rfl,wN ?_⟩
 refine ZEE (fun v hv=>?_) (fun hv=>wN ?_)
 ·rw [ZQ] at hv
  obtain ⟨n,hn,rfl⟩:=TG.1 hv
  rw [Tf (by rw [show lkM _ _=some n from hn];simp)] at hs
  conv=>whnf
  refine Zj ?_
  exact ⟨⟨j+1,rfl,by rw [hs];rfl,oM⟩,by show ((l.length:Int) - ((j:Int)+1)).toNat<((l.length:Int) - (j:Int)).toNat;omega⟩
 rw [ZQ,Option.map_eq_none_iff] at hv
 rw [Th (by rw [show lkM _ _=none from hv];rfl)] at hs
 refine ⟨pl,_,rfl,wN ?_⟩
 refine Zj ?_
 exact ⟨⟨j+1,rfl,by rw [hs,<- VX];rfl,oM⟩,by show ((l.length:Int) - ((j:Int)+1)).toNat<((l.length:Int) - (j:Int)).toNat;omega⟩):P:=h
def mq29 {P:Prop} (h:P:=by
 intro j x hx
 have hj:=(Tk.1 hx).1
 have cj:(Zg l)[j]?=some [.int .u8 x.toNat]:=by simp [Zg,hx]
 generalize hrr:Zg l=rr at hd cj
 have aa:rr.length=l.length:=by rw [<- hrr];simp [Zg]
 generalize hvv:Value.slice (some ⟨g,0,none⟩) l.length cap=vv at hd
 cases hd with
 | slnil=>simp at cj
 | slz=>simp at cj
 | sl _ _ _ _ sz u hcap hsz hc ho hu =>
 simp only [Value.slice.injEq,Option.some.injEq,Addr.mk.injEq] at hvv
 obtain ⟨⟨rfl,rfl,_⟩,_,rfl⟩:=hvv
 have jm:sz=1:=by
  have:=hsz _ (T1 cj);simpa using this.symm
 subst jm
 have h1:=hc j 0 oM oM
 have h2:=hu j 0 (.int .u8 x.toNat) (by rw [cj];rfl)
 generalize huu:u j 0=uu at h1 h2;cases h2
 simpa using h1):P:=h
def mq30 {P:Prop} (h:P:=by
 have h:=h rfl
 conv=>whnf
 refine ⟨_,oM,hr,wN ?_⟩
 refine ZEy (fun hq=>wN ?_) (fun hq=>wN ?_)
 ·have hq:¬d2.length=eargs.length:=by have hq:¬((d2.map Zn).length:Int)=((Zp pl eargs).length:Int):=hq;rw [Te,ar] at hq;omega
  have h:=h _ rfl
  rw [Th hq] at h
  exact h
 have hq:d2.length=eargs.length:=by have hq:((d2.map Zn).length:Int)=((Zp pl eargs).length:Int):=hq;rw [Te,ar] at hq;omega
 rw [Tf (fun g=>g hq)] at h
 refine ⟨pl,p,r,vs,more,rfl,hp,eargs,rfl,rfl,⟨hz,hm⟩,fun x hx=>?_⟩
 have h:=h x hx
 cases x with
 | none=>simp only [RtK] at h |-;(conv=>whnf);exact h
 | some ae=>obtain ⟨a,e⟩:=ae;simp only [RtK] at h |-;(conv=>whnf);exact h):P:=h
def mq31 {P:Prop} (h:P:=by
 refine ⟨pl,p,r,vs,more,rfl,hp,.mk x1 x2 x3 x4 x5,rfl,⟨eg,hm⟩,fun f hg=>?_⟩
 cases f with
 | none =>
  have:=ik hg
  simp only [RtK]
  conv=>whnf
  refine Zj ?_
  exact ⟨⟨j+1,rfl,rfl,oM,this⟩,hμ⟩
 | some ae =>
 obtain ⟨a,e⟩:=ae
 have:=ct _ hg
 subst this
 simp only [RtK] at h |-
 conv=>whnf
 exact h):P:=h
def mq32 {P:Prop} (h:P:=by
 have hk:=(Tk.1 hx).1
 have gu:k<vs.size:=oM
 have:(vs++Array.replicate (fn.ntmps - vs.size) undef).getD (0+k) Go.undef=vs[k]:=by
  simp [Array.getD,Array.getElem_append,gu]
  intro h;omega
 rw [this]
 exact af.2 k x _ hx (TB gu)):P:=h
def mq33 {P:Prop} (h:P:=by
 refine ⟨⟨rfl,e+(pk (s.drop e)).2,f,k1,k2,rfl,k3,k4⟩,?_⟩
 exact (show ((s.length:Int) - ((e:Int)+((pk (s.drop e)).2:Int))).toNat<((s.length:Int) - (e:Int)).toNat by omega)):P:=h
def mq34 {P:Prop} (h:P:=by
 have e:Zg (Lib.encodeRune c)=[[D.int .u8 (Zh .or .u8 224 (IntKind.u8.wrap (c.fdiv (2 ^ min (Int.toNat 12) IntKind.i32.bits))))],[D.int .u8 (Zh .or .u8 128 (Zh .and .u8 (IntKind.u8.wrap (c.fdiv (2 ^ min (Int.toNat 6) IntKind.i32.bits))) 63))],[D.int .u8 (Zh .or .u8 128 (Zh .and .u8 (IntKind.u8.wrap (c)) 63))]]:=by
  rw [Wl,Lib.encodeRuneZ_three oM]
  simp only [e6,e12,e18,wu8,TD,TM]
  rw [ZC6 oM oM,a63 oM oM,a63 oM oM,Zuo oM oM,Zuo oM oM,show c / 4096 % 256=c / 4096 by omega,show c / 64 % 256 % 64=c / 64 % 64 by omega,show c % 256 % 64=c % 64 by omega]
  all_goals (try omega)
  (try (congr 1 <;> omega))
 rw [e] at h;exact h):P:=h
def mq35 {P:Prop} (h:P:=by
 simp only [Zke] at ha
 cases b with
 | true =>
  conv=>whnf
  rw [Th hb] at ha
  exact h j ha.symm
 | false =>
 conv=>whnf
 rw [Tf (fun g=>Bool.noConfusion (hb.symm.trans g))] at ha
 refine Zj ?_
 exact ⟨⟨j+1,rfl,rfl,oM,ha⟩,by show ((l.length:Int) - ((j:Int)+1)).toNat<((l.length:Int) - (j:Int)).toNat;omega⟩):P:=h
def mq36 {P:Prop} (h:P:=by
 conv=>whnf
 refine ⟨fun _=>0,a1,rfl,⟨by simp only [wBs];omega,oM⟩,fun b ek=>?_⟩
 cases b with
 | false =>
  conv=>whnf
  exact h _ (by simp [Yl,ek])
 | true =>
 conv=>whnf
 refine ⟨pl,a2,rfl,⟨rfl,oM,oM⟩,fun b iu=>?_⟩
 cases b with
 | false =>
  conv=>whnf
  exact h _ (by simp [Yl,ek,iu])
 | true =>
 conv=>whnf
 refine ⟨pl,a4,rfl,⟨rfl,oM,oM⟩,fun b iq=>?_⟩
 cases b with
 | false =>
  conv=>whnf
  exact h _ (by simp [Yl,ek,iu,iq])
 | true =>
 conv=>whnf
 exact h _ (by simp only [Yl,ma,TT,Bool.and_false])):P:=h
def mq37 {P:Prop} (h:P:=by
 have e:Z9 (s.drop a.toNat)=2:=by
  have:twos.any (Lib.hasPrefix (s.drop a.toNat))=true:=by simp [twos,h2]
  simp [Z9,this]
 rw [e] at h
 exact h):P:=h
def mq38 {P:Prop} (h:P:=by
 rcases x with ⟨v8,ts8⟩ | ⟨r8,e8⟩
 rotate_left
 ·rw [xu,R.bind_err] at h;intro a9 d9;(conv=>whnf);exact h _ _
 rw [xu,R.bind_ok] at h
 intro a8 aek jh
 have hb8:=jh.hi
 obtain ⟨v8a,v8b,v8c,v8d,v8e,v8f⟩:=v8
 conv=>whnf
 rw [Tf sM] at h
 refine ⟨L,ts8,rfl,jh,fun x hx9=>?_⟩
 rcases x with ⟨v9,ts9⟩ | ⟨r9,e9⟩
 rotate_left
 ·rw [hx9,R.bind_err,R.bind_err] at h;intro a9 d9;(conv=>whnf);exact h _ _
 rw [hx9,R.bind_ok,R.bind_ok] at h
 intro a9 ael fh
 have s4:=fh.hi
 conv=>whnf
 refine Zj ?_
 rw [TW]
 exact h _ oM fh):P:=h
def mq39 {P:Prop} (h:P:=by
 rw [hp,TT] at hs
 conv=>whnf
 exact h _ (by rw [hs];simp;try omega)):P:=h
def mq40 {P:Prop} (h:P:=by
 exact mq191):P:=h
def mq41 {P:Prop} (h:P:=by
 exact mq206):P:=h
def mq42 {P:Prop} (h:P:=by
 have d8:u.drop i=[]:=Tr oM
 have g1:Y3 (s.drop a)=.err 0:=by rw [<- fk];simp [ZH,d8]
 (try (refine ⟨rfl,?_⟩;conv=>whnf))
 (try (refine ⟨rfl,?_⟩;conv=>whnf))
 exact ct _ g1):P:=h
def mq43 {P:Prop} (h:P:=by
 rcases x with ⟨v11,ts11⟩ | ⟨r11,e11⟩
 rotate_left
 ·rw [ku,R.bind_err] at h;intro a9 d9;(conv=>whnf);exact h _ _
 rw [ku,R.bind_ok] at h
 intro a11 s6 lw
 have z7:=lw.hi
 conv=>whnf
 refine ⟨L,ts11,rfl,lw,⟨fu,sM⟩,fun x lx=>?_⟩
 rcases x with ⟨v12,ts12⟩ | ⟨r12,e12⟩
 rotate_left
 ·rw [lx,R.bind_err] at h;intro a9 d9;(conv=>whnf);exact h _ _
 rw [lx,R.bind_ok] at h
 intro a12 s7 ly
 have z8:=ly.hi
 conv=>whnf
 rw [<- Ze]
 exact h _ oM ly):P:=h
def mq44 {P:Prop} (h:P:=by
 obtain ⟨pe,σ',e',hK,pt,jw,hst⟩:=hA
 cases pe with
 | ret pv =>
  obtain ⟨u,rfl,hr⟩:=pt
  simp only at hK
  rw [Z3] at hK
  exact ⟨_,e',σ',hK,jw,(hF.clean hst).put hr (by rw [hN];exact fun d h=>(hd d h).1),hL.trans hst,by rw [Yt];exact hN,by rw [Xa];exact bc.later hst,Zf3 hd hZ⟩
 | panic pv =>
 obtain ⟨u,rfl,hr⟩:=pt
 exact ⟨.panic pv,_,e',σ',hK,⟨u,rfl,hr⟩,jw,ZkF (hF.clean (Later.refl _ _ _)) hst,hL.trans hst,hN,bc.later hst,hZ⟩):P:=h
def mq45 {P:Prop} (h:P:=by
 refine ⟨v'::vs',tk2,as2,h2,Uj dv ca,ga,by simp [hl],fun i x y hx hy=>?_⟩
 cases i with
 | zero=>simp at hx hy;subst hx;subst hy;exact hv.ext ca
 | succ i=>exact bv i x y (by simpa using hx) (by simpa using hy)):P:=h
def mq46 {P:Prop} (h:P:=by
 refine ⟨_,_,h,.mkint,?_⟩
 simp only [ho,resolve,invoke,builtin,Sem.run_bind,Sem.run_pure,Result.andThen,Builtin.len_,ql,l7,Za hd]
 rfl):P:=h
def mq47 {P:Prop} (h:P:=by
 unfold Ja at h
 split at h
 ·obtain ⟨pl,⟨a1,a2⟩,rfl,⟨rfl,hz,hn⟩,h⟩:=h
  refine pwv [] 1 false ?_
  refine ⟨pl,⟨a1,a2⟩,rfl,⟨hz,hn⟩,fun b hb=>wN ?_⟩
  exact h _ (by rw [hb])
 exact h.elim):P:=h
def mq48 {P:Prop} (h:P:=by
 rw [dv,R.bind_err] at h;intro a9 d9;(conv=>whnf);exact h _ _):P:=h
def mq49 {P:Prop} (h:P:=by
 conv=>whnf
 (try (refine ⟨rfl,?_⟩;conv=>whnf))
 (try (refine ⟨rfl,?_⟩;conv=>whnf))
 exact ct 3 (by rw [Xh,hn,hc,Tf jp,Th rfl])):P:=h
def mq50 {P:Prop} (h:P:=by
 refine Zj ?_
 exact ⟨⟨rfl,e+1,rfl,⟨g1,g2⟩,g3⟩,(show ((s.length:Int) - ((e:Int)+1)).toNat<((s.length:Int) - (e:Int)).toNat by omega)⟩):P:=h
def mq51 {P:Prop} (h:P:=by
 conv=>whnf
 exact h):P:=h
def mq52 {P:Prop} (h:P:=by
 cases hx
 simp only [ZW,ff] at h
 conv=>whnf
 refine Or.inl ⟨hn.inr,wN ?_⟩
 exact h _ _ oM hn):P:=h
def mq53 {P:Prop} (h:P:=by
 repeat (first | (refine ZEw (fun _=>?_) (fun g=>absurd hq g);conv=>whnf))
 exact h _ (by rw [show x.text=_ from hq];rfl) _ _ oM ho):P:=h
def mq54 {P:Prop} (h:P:=by
 exact mq194):P:=h
def mq55 {P:Prop} (h:P:=by
 refine ⟨fun r hr=>by (simp at hr;rcases hr with rfl | rfl | rfl <;> rfl),(show (rows.length+3) * 1<=2 ^ 47 by omega),(show rows.length+3<=2 ^ 47 by omega),?_⟩
 conv=>whnf
 exact g):P:=h
def mq56 {P:Prop} (h:P:=by
 exact mq199):P:=h
def mq57 {P:Prop} (h:P:=by
 subst pr
 refine ⟨?_,⟨.normal,f,e,σ,h,rfl,hS,hF,hL,hN,bc,hZ⟩⟩
 rw [List.eq_nil_iff_forall_not_mem]
 intro i hi
 obtain ⟨h1,o,ho,_⟩:=mem_ready.1 hi
 have ab:=(To.1 ho).1
 have:=(dt i ab).2 (fun p hp=>by cases hp)
 have f8:i<listed.size:=by rw [hsz];exact ab
 simp [Array.getD,f8] at this h1
 rw [this] at h1;cases h1):P:=h
def mq58 {P:Prop} (h:P:=by
 simp only [twos,List.take,SK,List.any_nil,So,Sg,Sq,SC] at hn bz |-
 simp only [hn,bz,and_self]):P:=h
def mq59 {P:Prop} (h:P:=by
 refine ⟨pl,p,r,v,b,rfl,hp,.mk x1 x2 x3 x4 x5,rfl,⟨eg,hm⟩,fun v' b' hg=>wN ?_⟩
 have:=ik v' b' hg
 refine Zj ?_
 exact ⟨⟨j+1,v',b',rfl,rfl,oM,this⟩,hμ⟩):P:=h
def mq60 {P:Prop} (h:P:=by
 exact mq202):P:=h
def mq61 {P:Prop} (h:P:=by
 split at h;· cases h;rename_i h;subst h;exact .inl ⟨dM,rfl⟩
 split at h;· cases h;rename_i h;subst h;exact .inr (.inl ⟨dM,rfl⟩)
 split at h;· cases h;rename_i h;subst h;exact .inr (.inr (.inl ⟨dM,rfl⟩))
 split at h;· cases h;rename_i h;subst h;exact .inr (.inr (.inr ⟨dM,rfl⟩))
 cases h):P:=h
def mq62 {P:Prop} (h:P:=by
 refine Zj ?_
 exact ⟨⟨j+1,rfl,by rw [e1,ez];rfl,oM⟩,by show ((p.types.length:Int) - ((j:Int)+1)).toNat<((p.types.length:Int) - (j:Int)).toNat;omega⟩):P:=h
def mq63 {P:Prop} (h:P:=by
 unfold anc
 have:(W5 ops.toList []).length=ops.size:=by
  have:∀(l:List Oper) (acc:List Nat),(W5 l acc).length=acc.length+l.length:=by
   intro l
   induction l with
   | nil=>intro acc;rfl
   | cons o l ih=>intro acc;rw [W5,ih];simp;omega
  rw [this];simp
 rw [TS,T7 oM]
 simp):P:=h
def mq64 {P:Prop} (h:P:=by
 rw [Lib.decodeL_N]
 have k0:=(r.getD 0 0).toNat_lt
 rcases Lib.decodeN_shape r.length (r.getD 0 0).toNat (r.getD 1 0).toNat (r.getD 2 0).toNat (r.getD 3 0).toNat with ⟨c,e⟩ | ⟨c1,c2,c3,cv,e⟩ | ⟨c1,c2,c3,c4,cv,cs,e⟩ | ⟨c1,c2,c3,c4,c5,cv,cw,e⟩ | e
 all_goals (rw [e];dsimp only;omega)):P:=h
def mq65 {P:Prop} (h:P:=by
 refine ⟨oM,oM,wN ?_⟩
 rw [gw]
 refine ⟨⟨oM,oM⟩,?_⟩
 rw [yj]
 conv=>whnf
 refine J0 ?_
 refine oiO ?_
 rw [e1]
 conv=>whnf
 exact ⟨⟨k+1,n',rfl,rfl,oM,e2,e3⟩,(show ((s.length:Int) - (((a+2+k:Nat):Int)+1)).toNat<((s.length:Int) - ((a+2+k:Nat):Int)).toNat by omega)⟩):P:=h
def mq66 {P:Prop} (h:P:=by
 refine Zj ?_
 refine ⟨⟨1,rfl,(by rw [cu];simp only [T8,TM,Zi,T2];rfl),oM⟩,?_⟩
 exact lzM oM):P:=h
def mq67 {P:Prop} (h:P:=by
 simp only [Instr.storeAt,Instr.sureAddr,storeVar,Sem.run_bind,Sem.run_pure,Result.andThen,Zw hi]
 rw [Tf (by rw [j9];simp)]
 exact aj):P:=h
def mq68 {P:Prop} (h:P:=by
 refine Go.Lib.run_unsafeString_row w.drew (ρ.t 127) (ρ.t 3) (ρ.t 9) (ρ.t 5) L.t127 X.cellsByte g cur.size (by have qk:w.drew.heap[g]?=some (.cells cur (ρ.t 5) fz):=hg;simp [World.shape?,qk]) l h0 hn dr ?_
 intro j x hx
 have:=ay j x hx
 rw [Yd,T9];exact this):P:=h
def mq69 {P:Prop} (h:P:=by
 generalize l[i]=x at hr
 conv=>whnf
 refine ⟨_,oM,hr,wN ?_⟩
 refine ⟨_,oM,hr,wN ?_⟩
 (repeat (refine ⟨rfl,?_⟩;conv=>whnf))
 refine ZEy (fun g=>absurd rfl g) (fun _=>wN ?_)
 refine Zj ?_
 refine ⟨⟨i+1,rfl,rfl,oM⟩,?_⟩
 exact lzM oM):P:=h
def mq70 {P:Prop} (h:P:=by
 rw [hm,Th ⟨hb,hc⟩] at h
 refine ⟨L,ts1,rfl,ak,wN ?_⟩
 exact h _ _):P:=h
def mq71 {P:Prop} (h:P:=by
 refine Zj ?_
 refine ⟨⟨i+1,rfl,(by rw [cu];simp only [Tn];rfl),oM⟩,?_⟩
 exact lzM oM):P:=h
def mq72 {P:Prop} (h:P:=by
 unfold Zbv at h
 split at h
 ·rename_i w t0 t rows a en dp
  obtain ⟨L,ts,rfl,ho,h1,h2⟩:=h
  refine pwv [] 2 false ?_
  refine ⟨L,ts,rfl,ho,[w],rfl,sM,fun hw ah=>wN ?_,fun hw=>wN ?_⟩
  ·exact h1 hw ah
  exact h2 hw
 exact h.elim):P:=h
def mq73 {P:Prop} (h:P:=by
 unfold ZfI at h
 split at h
 ·obtain ⟨pl,p,l,rfl,rfl,hc,h⟩:=h
  refine pwv [] 6 false ?_
  refine ⟨pl,p,l,rfl,rfl,hc,fun i hi=>wN ?_⟩
  exact h _ (by rw [Bool.eq_iff_iff,decide_eq_true_iff,<- hi];exact (ZgY l 0).symm)
 exact h.elim):P:=h
def mq74 {P:Prop} (h:P:=by
 refine ⟨L,ts,rfl,ho,wN ?_⟩
 exact h _ _):P:=h
def mq75 {P:Prop} (h:P:=by
 rw [ZkU hE] at my
 subst my
 have g1:Y3 (s.drop a)=.err (1+i - 1):=by rw [<- fk];simp [ZH,ai,hE]
 conv=>whnf
 refine Zj ?_
 have g2:=ct _ g1
 rw [show ((a+(1+i - 1):Nat):Int)=(a:Int)+1+(i:Int) - 1 by omega] at g2
 exact g2):P:=h
def mq76 {P:Prop} (h:P:=by
 rename_i t m x v ho
 obtain ⟨σ1,w1,hK,aj,hst,ii⟩:=ZcT hT hS (hρ m) (hρ x) (hρ v) h
 refine ⟨_,_,Go.undef,w1,e,hK,.inr ⟨?_,rfl⟩,hst,ii,.undef _⟩
 unfold execOp
 simp only [ho,Sem.run_bind,aj,Result.andThen,Sem.run_pure]):P:=h
def mq77 {P:Prop} (h:P:=by
 refine Or.inr (wN ?_)
 refine Or.inr ?_
 rw [e1]
 conv=>whnf
 refine Zj ?_
 exact ⟨⟨k+1,n',false,rfl,rfl,oM,e2,hf,fun g=>by cases g⟩,(show ((s.length:Int) - (((a+k:Nat):Int)+1)).toNat<((s.length:Int) - ((a+k:Nat):Int)).toNat by omega)⟩):P:=h
def mq78 {P:Prop} (h:P:=by
 cases r with
 | tmp t=>simp only [pres,Z7] at h |-;exact ih (fun vs h=>hK _ h) h
 | cell a t =>
 simp only [pres] at h |-
 obtain ⟨v,h1,h2⟩:=Zf5 h
 refine h2 _ ?_
 rw [Z7] at h1 |-
 exact ih (fun vs h=>hK _ h) h1):P:=h
def mq79 {P:Prop} (h:P:=by
 unfold Ja at h
 split at h
 ·obtain ⟨pl,⟨a1,a2,a3,a4,a5,a6⟩,rfl,⟨rfl,hz,hn⟩,h⟩:=h
  refine pwv [] 1 false ?_
  refine ⟨pl,⟨a1,a2,a3,a4,a5,a6⟩,rfl,⟨hz,hn⟩,fun b hb=>wN ?_⟩
  exact h _ (by rw [hb])
 exact h.elim):P:=h
def mq80 {P:Prop} (h:P:=by
 refine Zj ?_
 refine ⟨⟨rfl,e+1,rfl,oM,oM,bi (by have dg:Zf ((s.getD e 0).toNat:Int)=true:=h3;simp only [YR,dg,Bool.true_or])⟩,?_⟩
 exact mq189):P:=h
def mq81 {P:Prop} (h:P:=by
 have fe:(pk (u.drop i)).1<32:=by rw [ql,w8] at h5;exact h5
 have g1:Y3 (s.drop a)=.err (1+i):=by rw [<- fk];simp [ZH,ai,dg,gq,fe]
 have g2:=ct _ g1
 rw [show ((a+(1+i):Nat):Int)=(a:Int)+1+(i:Int) by omega] at g2
 exact g2):P:=h
def mq82 {P:Prop} (h:P:=by
 unfold Ja at h
 split at h
 ·obtain ⟨pl,⟨a1,a2,a3,a4,a5⟩,rfl,⟨rfl,hz,hn⟩,h⟩:=h
  refine pwv [] 1 false ?_
  refine ⟨pl,(.mk a1 a2 a3 a4 a5),rfl,⟨hz,hn⟩,fun b hb=>wN ?_⟩
  exact h _ (by rw [hb])
 exact h.elim):P:=h
def mq83 {P:Prop} (h:P:=by
 unfold Xk at h
 split at h
 ·rename_i s
  refine pwu [] 0 false ?_
  repeat' ((conv=>whnf);refine ZEw (fun hc=>?_) (fun hc=>?_))
  all_goals (conv=>whnf)
  all_goals exact h _ (by simp [ZT, *])
 exact h.elim):P:=h
def mq84 {P:Prop} (h:P:=by
 rcases x with ⟨v1,ts1⟩ | ⟨r1,e1⟩
 rotate_left
 ·rw [dv] at h;intro a9 d9;(conv=>whnf);exact h _ _
 rw [dv] at h
 intro a1 ew ak
 have bu:=ak.hi
 obtain ⟨v1a,v1b,v1c,v1d,v1e⟩:=v1
 conv=>whnf
 exact h _ oM ak):P:=h
def mq85 {P:Prop} (h:P:=by
 have f8:i<listed.size:=by rw [hsz];exact hi
 simp [Array.getD,f8]):P:=h
def mq86 {P:Prop} (h:P:=by
 unfold wpOpIn
 rw [ho]
 dsimp only
 split at bi
 ·rename_i hw
  rw [Th hw]
  exact Oper.wpIn_mono (fun a w h=>next a w (hK a w h)) bi
 rename_i hw
 rw [Tf hw]
 exact ⟨fun _ _=>trivial,next _ _ (hK _ _ bi)⟩):P:=h
def mq87 {P:Prop} (h:P:=by
 unfold Ja at h
 split at h
 ·obtain ⟨pl,⟨a1,a2,a3,a4⟩,rfl,⟨rfl,hz,hn⟩,h⟩:=h
  refine pwv [] 1 false ?_
  refine ⟨pl,⟨a1,a2,a3,a4⟩,rfl,⟨hz,hn⟩,fun b hb=>wN ?_⟩
  exact h _ (by rw [hb])
 exact h.elim):P:=h
def mq88 {P:Prop} (h:P:=by
 cases lr with
 | ptr _ _ _ =>
 refine Calls.mono (Zh1 (e.β 0) w (by simp [World.cell?,dh,ky])) fun en w' ⟨h1,h2⟩=>?_
 rw [h2]
 exact ⟨h1,.tuple [] #[] rfl (fun i x u hx=>by simp at hx),hS,Later.refl _ _ _⟩):P:=h
def mq89 {P:Prop} (h:P:=by
 refine Zj ?_
 exact ⟨⟨j+1,rfl,rfl,oM,ha⟩,hμ⟩):P:=h
def mq90 {P:Prop} (h:P:=by
 obtain ⟨pvs,r,hlv,hr,hvr⟩:=Wb (C:=C) (by rw [hC.T];exact hT) h1 h2 (by rw [hC.T];exact hl)
 obtain ⟨pv',σ2,e2,hK,_,jx,m8⟩:=Wv h1 h3 hk hvr hlv
 exact ⟨r,hr,rfl,⟨r,rfl⟩,σ2,e2,hK,jx,m8⟩):P:=h
def mq91 {P:Prop} (h:P:=by
 refine ⟨oM,pl,p,r,v,b,rfl,hp,.mk x1 x2 x3 x4 x5,rfl,⟨oM,oM⟩,fun v' b' hg=>wN ?_⟩
 rw [hg] at ha
 (repeat (refine ⟨rfl,?_⟩;conv=>whnf))
 refine Zj ?_
 exact ⟨⟨j+1,v',b',rfl,rfl,oM,ha⟩,hμ⟩):P:=h
def mq92 {P:Prop} (h:P:=by
 cases hy
 obtain ⟨q1,q2⟩:=h3 0 p u rfl hu
 refine ⟨?_,q2⟩
 rcases hp with rfl | rfl
 ·cases q1 with
  | d _ _ hd=>exact .d _ _ (hd.later hL)
 cases q1 with
 | ptr b o hb=>exact .ptr 0 0 sM):P:=h
def mq93 {P:Prop} (h:P:=by
 rcases h.ftok t1 fx p1 rl with h2 | ⟨t0,og,p0,mb,h2⟩ | h2
 ·exact .inl (by rw [<- h1];exact h2)
 ·exact .inr (.inl ⟨t0,og,p0,mb,h2.trans h1⟩)
 exact .inr (.inr (by rw [<- h1];exact h2))):P:=h
def mq94 {P:Prop} (h:P:=by
 split at h
 ·rename_i ht
  exact ⟨_,_,as++[some t],by simpa using h,⟨[some t],rfl⟩,hI.add ((Ys _ _).1 ht),.sl t el rows _ sM⟩
 exact ⟨_,tk,as,h,⟨[],sM⟩,hI,.cl (.sl t el rows) rfl⟩):P:=h
def mq95 {P:Prop} (h:P:=by
 subst h0
 cases hk:(T.get t).kind <;> rw [hk] at aw <;> first | (cases aw.1;done) | (cases aw;done) | (exact fm hk) | (obtain ⟨_,h1,_⟩:=aw;cases h1;done) | (obtain ⟨_,_,_,h1⟩:=aw;cases h1;done)):P:=h
def mq96 {P:Prop} (h:P:=by
 simp only [Ta,Td,Tg];omega):P:=h
def mq97 {P:Prop} (h:P:=by
 exact ⟨pv,_,hK,hr,Y8 hd du mw g1 q2⟩):P:=h
def mq98 {P:Prop} (h:P:=by
 simp only [Sem.run_bind,newRow,run_newObj,Result.andThen,Sem.run_pure]
 rfl):P:=h
def mq99 {P:Prop} (h:P:=by
 rcases h.ex with ⟨a,ha,h⟩ | ⟨ha,h⟩
 ·exact ⟨_,h,fun K' h'=>by simp only [YC,hk,hz,hb];exact .yes ha h'⟩
 exact ⟨_,h,fun K' h'=>by simp only [YC,hk,hz,hb];exact .no ha h'⟩):P:=h
def mq100 {P:Prop} (h:P:=by
 show LeavesIn _ _ _ _ _ _ _ _ _
 rw [ey]
 refine go _ sM ((hd.ret _ _ _ hq _ _ _ _ h1 zt).mono fun en u2 w2 hh=>?_)
 obtain ⟨rfl,⟨r,rfl⟩,σ2,e2,hK,jx,i7⟩:=hh
 exact after jx i7 hK):P:=h
def mq101 {P:Prop} (h:P:=by
 rw [nd,R.bind_err] at h;intro a9 d9;(conv=>whnf);exact h _ _):P:=h
def mq102 {P:Prop} (h:P:=by
 have hd:(s.drop (e+k)).drop (t.fin - (e+k))=s.drop t.fin:=by rw [TC,show e+k+(t.fin - (e+k))=t.fin by omega]
 rw [cd,g1,Ta]
 simp only [hd,Td,Tg,Int.natCast_add,Int.sub_sub,Tn,Sb,Sh]
 rfl):P:=h
def mq103 {P:Prop} (h:P:=by
 rw [hd] at hx
 subst hx
 conv=>whnf
 refine ZEy (fun _=>wN ?_) (fun g=>absurd (by have g:(e:Int)=0:=g;omega) (Zeb hd))
 (repeat (refine ⟨rfl,?_⟩;conv=>whnf))
 exact h2):P:=h
def mq104 {P:Prop} (h:P:=by
 rw [hl] at h
 refine ⟨_,_,h,.mkint,?_⟩
 simp only [ho,resolve,invoke,builtin,Sem.run_bind,Sem.run_pure,Result.andThen,Builtin.len_,ql,l7,Za hd,getObj,Sem.run,g1]
 rfl):P:=h
def mq105 {P:Prop} (h:P:=by
 refine ZEw (fun h1=>?_) (fun h1=>?_)
 ·refine ZbW h ?_
  simp only [Zf,decide_eq_decide];omega
 refine ZbW h ?_
 simp only [Zf,decide_eq_false_iff_not];omega):P:=h
def mq106 {P:Prop} (h:P:=by
 refine ⟨⟨false,_,_,f,_,rfl,?_,.inr rfl,⟨g3,oM,?_⟩,g1.symm⟩,?_⟩
 ·rw [Wj];rfl
 ·rw [Ta];omega
 exact mq203):P:=h
def mq107 {P:Prop} (h:P:=by
 have b3:=Up (n:=n) (k:=34) oM oM h3
 have b4:=Up (n:=n) (k:=92) oM oM h4
 simp only [List.contains_cons,List.contains_nil,So,Sg,beq_eq_false_iff_ne]
 exact ⟨b1,b2,b3,b4⟩):P:=h
def mq108 {P:Prop} (h:P:=by
 (try (refine ⟨rfl,?_⟩;conv=>whnf))
 (try (refine ⟨rfl,?_⟩;conv=>whnf))
 have g2:=cz _ _ g1
 rw [show ((a+(1+i+1):Nat):Int)=(a:Int)+1+(i:Int)+1 by omega] at g2
 exact g2):P:=h
def mq109 {P:Prop} (h:P:=by
 obtain ⟨h4,h5,hK⟩:=h
 refine ⟨_,hK,fun K' h'=>?_⟩
 simp only [qop,hi,hk,hx]
 cases fc:(T.get el).kind
 case other=>exact absurd fc ho
 all_goals exact ⟨h4,h5,h'⟩):P:=h
def mq110 {P:Prop} (h:P:=by
 rw [fi,R.bind_ok] at h
 intro a3 gy am
 have gt:=am.hi
 conv=>whnf
 exact h _ oM am):P:=h
def mq111 {P:Prop} (h:P:=by
 have:(Array.replicate ops.size false).getD k false=false:=by simp [Array.getD]
 rw [this]
 simp only [Tt,false_iff]
 obtain ⟨p,hp,he⟩:=kg k hk
 exact fun hh=>hh p hp he):P:=h
def mq112 {P:Prop} (h:P:=by
 rw [Ze] at hr
 simp only [TD,TM,Tv,Sv,or_false] at hr
 rcases hr with rfl | rfl <;> rfl):P:=h
def mq113 {P:Prop} (h:P:=by
 simp only [RtK]
 conv=>whnf
 refine ⟨Tc rfl,wN ?_⟩
 exact h):P:=h
def mq114 {P:Prop} (h:P:=by
 repeat' ((conv=>whnf);refine ZEw (fun hc=>?_) (fun hc=>?_))
 all_goals (conv=>whnf)
 all_goals exact h _ _ (by rw [Zcf,Tf hn];simp [*]) (by rw [Zcf,Tf hn];simp [*])):P:=h
def mq115 {P:Prop} (h:P:=by
 intro b off u hu
 by_cases hbg:b=g
 ·subst hbg
  simp only [World.cell?,rb,g6] at hu |-
  exact hu
 simpa [World.cell?,VO w g l.length b hbg] using hu):P:=h
def mq116 {P:Prop} (h:P:=by
 rw [List.take_add_one,Tb ab,Option.toList_some,TP,TD,TM]
 unfold YU
 rw [VY,show (((0:Nat):Int)+(((l.take j).map (·.name)).length:Int))=j by simp;omega]):P:=h
def mq117 {P:Prop} (h:P:=by
 refine ⟨_,ρ' x,h,hx,?_⟩
 cases hv:ρ' x <;> rw [hv] at hx <;> cases hx
 simp [ho,hv]):P:=h
def mq118 {P:Prop} (h:P:=by
 cases hE:Y0 o.op with
 | true=>simp only [hE] at hk |-;rw [chkL_iff] at hk |-;exact ⟨hk.1,hK _ _ _ hk.2⟩
 | false=>simp only [hE] at hk |-;exact hK _ _ _ hk):P:=h
def mq119 {P:Prop} (h:P:=by
 by_cases gh:∃m',m'<m/\Mu a1 w1 m'
 ·obtain ⟨m',h1,h2⟩:=gh;exact ihm m' h1 h2
 exact ⟨m,hm,fun m' zg=>Nat.le_of_not_lt fun ab=>gh ⟨m',ab,zg⟩⟩):P:=h
def mq120 {P:Prop} (h:P:=by
 unfold execOp
 simp only [ho,Sem.run_bind]
 rw [show (Array.map (fun x=>match x with | (i,x)=>(i,ρ' x)) ps)=(ps.map fun p=>(p.1,ρ' p.2)) from rfl,aj]
 rfl):P:=h
def mq121 {P:Prop} (h:P:=by
 have hk:k<l.length:=(Tk.1 hy).1
 rw [Array.getElem?_extract] at hu
 split at hu
 ·exact hr (off+k) y u (by rw [(hb k hk).2];exact hy) hu
 cases hu):P:=h
def mq122 {P:Prop} (h:P:=by
 rcases TJ.1 hy with hy | hy
 ·exact hj y (by simp [hy])
 rcases Tv.1 hy with rfl | hy
 ·exact fun e=>hji e.symm
 exact hj y (by simp [hy])):P:=h
def mq123 {P:Prop} (h:P:=by
 exact Zdg (fun vs s hh=>⟨hh.1,fun vs σ1 hI=>ih (fun e f σ h=>by cases e with | normal=>exact h | _=>exact hQ _ _ _ h) (hh.2 vs σ1 hI)⟩) h):P:=h
def mq124 {P:Prop} (h:P:=by
 exact h _ (by simp [Yq,mq])):P:=h
def mq125 {P:Prop} (h:P:=by
 unfold U2 at h
 split at h
 ·obtain ⟨pl,⟨x1,x2,x3,x4,x5,x6⟩,rfl,h⟩:=h
  refine pwv [] 0 false ?_
  exact h
 exact h.elim):P:=h
def mq126 {P:Prop} (h:P:=by
 refine ⟨⟨out',i+2,f,?_,rfl,e2,e3⟩,(show ((s.length:Int) - ((i:Int)+2)).toNat<((s.length:Int) - (i:Int)).toNat by omega)⟩
 rw [<- e1];rfl):P:=h
def mq127 {P:Prop} (h:P:=by
 rw [Int.min_eq_right oM,List.take_of_length_le hD,List.take_of_length_le hD];rfl):P:=h
def mq128 {P:Prop} (h:P:=by
 rw [<- vw,Wk,Tu] at this
 exact ⟨fun g=>this.1 oM,fun g=>this.2.1 oM,fun g=>⟨by have:=(this.2.2 g).1;omega,(this.2.2 g).2⟩⟩):P:=h
def mq129 {P:Prop} (h:P:=by
 refine ZEw (fun h6=>wN ?_) (fun h6=>wN ?_)
 ·refine ZEw (fun h7=>absurd ⟨h6,h7⟩ k3) (fun h7=>wN ?_)
  exact h
 exact h):P:=h
def mq130 {P:Prop} (h:P:=by
 rcases Tv.1 ja with rfl | ja
 ·exact fun e=>h1.2 e.symm
 exact fun e=>(List.rel_of_pairwise_cons hp ja).2.1 ed (TN.1 jb) hb e.symm):P:=h
def mq131 {P:Prop} (h:P:=by
 (repeat (refine ⟨rfl,?_⟩;conv=>whnf))
 cases more with
 | true=>(conv=>whnf);exact yes true sM
 | false=>(conv=>whnf);exact yes _ sM):P:=h
def mq132 {P:Prop} (h:P:=by
 repeat (refine ⟨rfl,?_⟩;conv=>whnf)
 refine Zj ?_
 exact h _ oM xr):P:=h
def mq133 {P:Prop} (h:P:=by
 rename_i h1 h2
 obtain ⟨v,g1,g2⟩:=VH h
 exact ⟨_,g1,fun K' h'=>by simp only [YK,h1,h2];exact g2 (fun r=>K' _) h'⟩):P:=h
def mq134 {P:Prop} (h:P:=by
 intro a4 dp4 eu cf
 conv=>whnf
 exact h _ _ oM cf):P:=h
def mq135 {P:Prop} (h:P:=by
 refine Zj ?_
 refine ⟨⟨i+1,_,_,rfl,by rw [j6];rfl,oM,oM,iz⟩,?_⟩
 show (6 - ((i:Int)+1)).toNat<(6 - (i:Int)).toNat
 omega):P:=h
def mq136 {P:Prop} (h:P:=by
 rw [ho] at he
 cases he
 conv=>whnf
 refine ZEy (fun _=>wN ?_) (fun g=>absurd (by have g:(k:Int)=0:=g;omega) hk)
 exact h1):P:=h
def mq137 {P:Prop} (h:P:=by
 subst h3
 exact ⟨.ret .undef,σ,e,hK,⟨_,rfl,.undef _⟩,hS.grow (ZEC h4),((ZEC h4).stepped e σ).toLater⟩):P:=h
def mq138 {P:Prop} (h:P:=by
 have bz:¬i<l.length:=fun g=>h2 (by simpa using g)
 have tu:i=l.length:=oM
 rw [tu,T6] at hNN
 rw [hNN] at lb
 exact lb oM):P:=h
def mq139 {P:Prop} (h:P:=by
 rename_i f hf;rw [hf] at h;exact h):P:=h
def mq140 {P:Prop} (h:P:=by
 obtain ⟨i,fj,hiu⟩:=SJ hu
 have ab:i<cs'.length:=by rw [<- oh];exact fj
 exact (n9 i _ u (Tb ab) (by rw [TB fj,hiu])).2):P:=h
def mq141 {P:Prop} (h:P:=by
 rw [show (Array.map (fun x=>match x with | (i,x)=>(i,ρ' x)) ps).toList=(ps.map fun p=>(p.1,ρ' p.2)).toList from rfl,om]
 rfl):P:=h
def mq142 {P:Prop} (h:P:=by
 rw [n4,R.bind_err,R.bind_err] at h;intro a9 d9;(conv=>whnf);exact h _ _):P:=h
def mq143 {P:Prop} (h:P:=by
 rw [show off+k=off+rows.length * (T.get el).size+(k - olds.length) by rw [<- ak.len];omega,this]
 rw [Tb mc] at hk
 exact hk):P:=h
def mq144 {P:Prop} (h:P:=by
 have oa:G.P.info? f.type=some j:=by rw [ht];exact hj
 have:j.size≠0:=oM
 simp [fieldPlace,Zw oa,this,Yd,dj]):P:=h
def mq145 {P:Prop} (h:P:=by
 simp only [Int.natCast_add] at h
 exact h):P:=h
def mq146 {P:Prop} (h:P:=by
 apply Classical.byContradiction
 intro jp
 have:=(dt i ab).2 (fun p hp e=>jp ⟨p,hp,e⟩)
 rw [h1] at this;cases this):P:=h
def mq147 {P:Prop} (h:P:=by
 unfold execOp
 simp only [ho,resolve,hv,Deferred.ofValue,Sem.run_bind,Sem.run_pure,Result.andThen,invoke]
 exact jo _ _):P:=h
def mq148 {P:Prop} (h:P:=by
 rw [Tf (by rw [gz];simp)] at h
 exact h _ oM dj):P:=h
def mq149 {P:Prop} (h:P:=by
 rw [List.drop_nil] at ha
 cases hd:eargs.drop j with
 | nil=>rw [hd] at ha;exact ha
 | cons x l=>rw [hd] at ha;exact ha):P:=h
def mq150 {P:Prop} (h:P:=by
 exact ⟨⟨rfl,x,rfl,⟨g1,g2⟩,g3⟩,(show ((s.length:Int) - (x:Int)).toNat<((s.length:Int) - (e:Int)).toNat by omega)⟩):P:=h
def mq151 {P:Prop} (h:P:=by
 unfold execOp
 simp only [ho,Instr.makeMap,Sem.run_bind,Result.andThen,Sem.run_pure,run_newObj,Option.map_none]
 rfl):P:=h
def mq152 {P:Prop} (h:P:=by
 simp only [show IntKind.i64.bits=64 from rfl,show IntKind.i64.signed=true from rfl,TX]
 split <;> simp at * <;> omega):P:=h
def mq153 {P:Prop} (h:P:=by
 rw [fi,R.bind_ok] at h
 intro a3 gy am
 have gt:=am.hi
 conv=>whnf
 rw [<- Ze]
 exact h _ oM am):P:=h
def mq154 {P:Prop} (h:P:=by
 rw [Tf sM] at h
 conv=>whnf
 exact h _ oM dj):P:=h
def mq155 {P:Prop} (h:P:=by
 rw [hq] at hu
 rw [Tx,hq] at hx
 cases hx;cases hu;exact hρ q):P:=h
def mq156 {P:Prop} (h:P:=by
 have h2:=tn k oM
 rw [SG,Tb hk] at h2
 have:=(Tk.1 h2).1
 exact ⟨by rw [hsz];exact this,by rw [h2,Tb hk]⟩):P:=h
def mq157 {P:Prop} (h:P:=by
 injection hv with _ hv;injection hv with kz oi;injection kz with kz;injection kz with _ kz;exact ⟨oM,oi⟩):P:=h
def mq158 {P:Prop} (h:P:=by
 obtain ⟨k,h1,h2⟩:=ZfE h
 rw [Tj] at h2
 obtain ⟨t,h3,h4⟩:=TG.1 h2
 exact ⟨k,t,h1,h3,h4⟩):P:=h
def mq159 {P:Prop} (h:P:=by
 (repeat (refine ⟨rfl,?_⟩;conv=>whnf))
 exact h _ _ oM am):P:=h
def mq160 {P:Prop} (h:P:=by
 obtain ⟨j,hj,rfl⟩:=Sf hu
 have h1:j<l.length:=oM
 exact (bj j l[j] _ (Tb h1) (by rw [<- Tx,Tb hj])).2):P:=h
def mq161 {P:Prop} (h:P:=by
 refine Prod.ext rfl ?_
 simp only [Td];omega):P:=h
def mq162 {P:Prop} (h:P:=by
 refine ZEw (fun _=>wN ?_) (fun g=>absurd rfl g)
 have q:decide (e=e)=true:=TL rfl
 rw [q]
 exact h):P:=h
def mq163 {P:Prop} (h:P:=by
 (conv=>whnf);exact h _ (by simp [Yj,mo,h4])):P:=h
def mq164 {P:Prop} (h:P:=by
 unfold World.freeze;split <;> rfl):P:=h
def mq165 {P:Prop} (h:P:=by
 rcases TJ.1 hx with hx | hx
 ·exact (pu.2.2 x hx (i,o') sM).1
 exact fun e=>(ge.1 x hx).1 e.symm):P:=h
def mq166 {P:Prop} (h:P:=by
 rcases x with ⟨v6,ts6⟩ | ⟨r6,e6⟩
 rotate_left
 ·rw [rf,R.bind_err] at h;intro a9 d9;(conv=>whnf);exact h _ _
 rw [rf,R.bind_ok] at h
 intro a6 zw fb
 have hb6:=fb.hi
 conv=>whnf
 refine ⟨_,fun _ _ h=>h,Tc rfl,wN ?_⟩
 refine ⟨L,ts6,rfl,fb,[[123]],rfl,sM,fun b nf=>?_⟩
 cases b with
 | false =>
  rw [Zo,Tf (by rw [nf];simp),R.bind_err] at h
  conv=>whnf
  refine ⟨L,ts6,rfl,fb,fun x hx=>?_⟩
  rw [ZR,Tf (by rw [nf];simp)] at hx
  subst hx
  intro a9 d9
  conv=>whnf
  exact h _ _
 | true =>
 rw [Zo,Th nf] at h
 conv=>whnf
 refine ZEw (fun hc=>wN ?_) (fun hc=>wN ?_)
 ·rw [Th oM,R.bind_err] at h
  refine ⟨L,ts6,rfl,fb,wN ?_⟩
  exact h _ _
 rw [Tf oM] at h
 refine ⟨L,ts6,rfl,fb,fun x hx=>?_⟩
 rw [ZR,Th nf] at hx
 subst hx
 intro a7 aaf iz
 have hb7:=iz.hi
 conv=>whnf
 refine Zj ?_
 refine ⟨_,fun _ _ h=>h,Tc rfl,wN ?_⟩
 refine ⟨L,ts6.tail,rfl,iz,⟨oM,oM,oM⟩,fun x xu=>?_⟩
 rcases x with ⟨v8,ts8⟩ | ⟨r8,e8⟩
 rotate_left
 ·rw [xu,R.bind_err] at h;intro a9 d9;(conv=>whnf);exact h _ _
 rw [xu,R.bind_ok] at h
 intro a8 aek jh
 have hb8:=jh.hi
 conv=>whnf
 rw [Tf sM] at h
 refine ⟨L,ts8,rfl,jh,fun x hx9=>?_⟩
 rcases x with ⟨v9,ts9⟩ | ⟨r9,e9⟩
 rotate_left
 ·rw [hx9,R.bind_err,R.bind_err] at h;intro a9 d9;(conv=>whnf);exact h _ _
 rw [hx9,R.bind_ok,R.bind_ok] at h
 intro a9 ael fh
 have s4:=fh.hi
 conv=>whnf
 refine Zj ?_
 rw [TW]
 rw [<- ZD]
 exact h _ oM fh):P:=h
def mq167 {P:Prop} (h:P:=by
 refine ⟨pl,a3,Ze _ _,⟨rfl,oM,oM⟩,fun b hb=>?_⟩
 cases b with
 | false =>
  conv=>whnf
  exact h _ (by simp [YJ,Zx,hb])
 | true =>
 conv=>whnf
 refine ⟨oM,pl,a4,ZD _ _,⟨rfl,oM,oM⟩,fun b dw=>wN ?_⟩
 exact h _ (by simp [YJ,Zx,Xj,lc,hb,dw])):P:=h
def mq168 {P:Prop} (h:P:=by
 refine ⟨fun _=>0,a2,rfl,⟨by simp only [wBs];omega,oM⟩,fun b d0=>?_⟩
 cases b with
 | false =>
  have lc:YV a1 a2 a3.length a4.length=false:=by simp [YV,fg,d0]
  conv=>whnf
  conv=>whnf
  exact mq54
 | true =>
 conv=>whnf
 refine ZEy (fun hB=>wN ?_) (fun hB=>wN ?_)
 ·have hB:¬0<a4.length:=fun g=>hB (s9.2 g)
  have lc:YV a1 a2 a3.length a4.length=true:=by simp only [YV,fg,d0,decide_eq_false hB];simp
  exact mq8
 have hB:=s9.1 hB
 have lc:YV a1 a2 a3.length a4.length=false:=by simp [YV,fg,hB]
 exact mq54):P:=h
def mq169 {P:Prop} (h:P:=by
 have g5:ZI (s.drop a)=none:=by
  unfold ZI
  simp only [f5,if_true,Tt,if_false]
  rcases fe with g | g
  ·rw [Th g]
  by_cases g0:Zc (s.drop a)=[]
  ·rw [Th g0]
  rw [Tf g0,Th g]
 conv=>whnf
 refine ⟨⟨oM,oM⟩,wN ?_⟩
 (try (refine ⟨rfl,?_⟩;conv=>whnf))
 (try (refine ⟨rfl,?_⟩;conv=>whnf))
 exact ct g5):P:=h
def mq170 {P:Prop} (h:P:=by
 refine ZEw (fun h3=>wN ?_) (fun h3=>wN ?_)
 ·exact h _ (by simp [Yj,mo])
 refine ZEw (fun h5=>?_) (fun h5=>?_)
 rotate_left
 ·have h5:¬a1=3:=by omega
  (conv=>whnf);exact h _ (by simp [Yj,h3,h5])
 have h5:a1=3:=oM
 have ic:(decide (a3=0) || decide (a1=3))=true:=by simp [h5]
 conv=>whnf
 exact h _ (by simp [Yj,mo])):P:=h
def mq171 {P:Prop} (h:P:=by
 refine ⟨fun r hr=>by (simp at hr;rcases hr with rfl <;> rfl),(show (rows.length+1) * 1<=2 ^ 47 by omega),(show rows.length+1<=2 ^ 47 by omega),?_⟩
 exact mq51):P:=h
def mq172 {P:Prop} (h:P:=by
 have h5:¬a1=3:=by omega
 (conv=>whnf);exact h _ (by simp [Yj,h3,h5])):P:=h
def mq173 {P:Prop} (h:P:=by
 show ((L.length:Int) - a3).toNat<((L.length:Int) - a').toNat
 omega):P:=h
def mq174 {P:Prop} (h:P:=by
 refine ⟨fun _=>0,a2,rfl,⟨by simp only [wBs];omega,oM⟩,fun b d0=>?_⟩
 cases b with
 | false =>
  have mo:V9 a1 a2=false:=by simp [V9,fg,d0]
  conv=>whnf
  exact mq6
 | true =>
 have mo:V9 a1 a2=true:=by simp [V9,fg,d0]
 conv=>whnf
 exact mq4):P:=h
def mq175 {P:Prop} (h:P:=by
 rcases x with ⟨v2,ts2⟩ | ⟨r2,e2⟩
 rotate_left
 ·exact mq41
 rw [ca,R.bind_ok] at h
 intro a2 gl ah
 have dw:=ah.hi
 conv=>whnf
 refine ⟨L,ts2,rfl,ah,fun x fi=>?_⟩
 rcases x with ⟨v3,ts3⟩ | ⟨r3,e3⟩
 rotate_left
 ·exact mq17
 exact mq110):P:=h
def mq176 {P:Prop} (h:P:=by
 have h6:¬(a4.length:Int)=a:=fun g=>h6 (by show ((Zp pl a4).length:Int)=a;rw [eu];exact g)
 (conv=>whnf);exact h _ (by simp [Yj,ha,h2,h6])):P:=h
def mq177 {P:Prop} (h:P:=by
 obtain ⟨a,e⟩:=ae
 simp only [orF] at ha
 subst ha
 simp only [RtK] at h |-
 exact mq51):P:=h
def mq178 {P:Prop} (h:P:=by
 show ((L.length:Int) - (a2+1)).toNat<((L.length:Int) - a1).toNat
 omega):P:=h
def mq179 {P:Prop} (h:P:=by
 rw [fi,R.bind_err] at h;intro a9 d9;(conv=>whnf);exact h _ _):P:=h
def mq180 {P:Prop} (h:P:=by
 rw [step,R.bind_err] at h
 intro a2 dp2
 conv=>whnf
 exact h _ _):P:=h
def mq181 {P:Prop} (h:P:=by
 subst hx
 intro a9 d9
 conv=>whnf
 exact h _ _):P:=h
def mq182 {P:Prop} (h:P:=by
 rw [Th (by rw [Te] at g;omega)] at h
 exact h _ _):P:=h
def mq183 {P:Prop} (h:P:=by
 have ac:i=xs.length:=lzE cg oM ac
 subst ac
 rw [T6]
 exact mq51):P:=h
def mq184 {P:Prop} (h:P:=by
 rw [Tf sM] at h
 refine ⟨L,ts2,rfl,ah,fun x fi=>?_⟩
 exact mq13):P:=h
def mq185 {P:Prop} (h:P:=by
 obtain ⟨a,e⟩:=ae
 simp only [orF] at hX
 subst hX
 simp only [FlK] at h |-
 exact mq51):P:=h
def mq186 {P:Prop} (h:P:=by
 refine Vd ?_
 refine ⟨B.1,B.2,wN ?_⟩
 refine ⟨dM,dM,wN ?_⟩
 refine ⟨dM,dM,wN ?_⟩
 refine ⟨?_,?_,?_,?_⟩
 rotate_left 3
 ·exact mq51
 ·rfl
 rfl):P:=h
def mq187 {P:Prop} (h:P:=by
 rw [<- ww];exact ⟨by have h6':Zd (pk (s.drop ((e:Int)).toNat)).1=false:=h6;rw [h6'];simp,by have zk:Zf (pk (s.drop ((e:Int)).toNat)).1=false:=h7;rw [zk];simp⟩):P:=h
def mq188 {P:Prop} (h:P:=by
 rw [Zo,Tf (by rw [dm];simp)] at h
 exact mq25):P:=h
def mq189 {P:Prop} (h:P:=by
 exact (show ((s.length:Int) - ((e:Int)+1)).toNat<((s.length:Int) - (e:Int)).toNat by omega)):P:=h
def mq190 {P:Prop} (h:P:=by
 exact (show ((l.length:Int) - ((i:Int)+1)).toNat<((l.length:Int) - (i:Int)).toNat by omega)):P:=h
def mq191 {P:Prop} (h:P:=by
 rw [kr,R.bind_err] at h;intro a9 d9;(conv=>whnf);exact h _ _):P:=h
def mq192 {P:Prop} (h:P:=by
 (try (refine ⟨rfl,?_⟩;conv=>whnf))
 (try (refine ⟨rfl,?_⟩;conv=>whnf))
 exact ct (by rw [g6,Th (.inr (.inl (by rw [<- ww];exact h7)))])):P:=h
def mq193 {P:Prop} (h:P:=by
 (try (refine ⟨rfl,?_⟩;conv=>whnf))
 (try (refine ⟨rfl,?_⟩;conv=>whnf))
 exact ct (by rw [g6,Th (.inl (by rw [<- ww];exact h6))])):P:=h
def mq194 {P:Prop} (h:P:=by
 exact h _ (by simp [YJ,lc])):P:=h
def mq195 {P:Prop} (h:P:=by
 conv=>whnf
 refine ⟨oM,pl,a4,Ze _ _,⟨rfl,oM,oM⟩,fun b hb=>wN ?_⟩
 exact h _ (by simp [Yj,Zx,ha,mo,hb,h1,h6,ic])):P:=h
def mq196 {P:Prop} (h:P:=by
 conv=>whnf
 refine ⟨oM,pl,a4,Ze _ _,⟨rfl,oM,oM⟩,fun b hb=>wN ?_⟩
 exact h _ (by simp [Yj,Zx,ha,mo,hb,h1,h2,ic])):P:=h
def mq197 {P:Prop} (h:P:=by
 refine ⟨dM,wN ?_⟩
 refine Or.inr (wN ?_)
 refine ⟨dM,wN ?_⟩
 refine Or.inr (wN ?_)
 refine Or.inr (wN ?_)
 exact mq55):P:=h
def mq198 {P:Prop} (h:P:=by
 refine Or.inl ⟨InR.i64 tN tN,wN ?_⟩
 exact mq33):P:=h
def mq199 {P:Prop} (h:P:=by
 refine Or.inr (wN ?_)
 refine ZEw (fun h8=>wN ?_) (fun h8=>?_)
 ·exact sq oM
 exfalso;exact h8 (by rw [hw];omega)):P:=h
def mq200 {P:Prop} (h:P:=by
 refine ⟨oM,pl,a4,Ze _ _,⟨rfl,oM,oM⟩,fun b hb=>wN ?_⟩
 exact h _ (by simp [Yj,Zx,ha,mo,hb,h1,h6,h3])):P:=h
def mq201 {P:Prop} (h:P:=by
 refine ⟨oM,pl,a4,Ze _ _,⟨rfl,oM,oM⟩,fun b hb=>wN ?_⟩
 exact h _ (by simp [Yj,Zx,ha,mo,hb,h1,h2,h3])):P:=h
def mq202 {P:Prop} (h:P:=by
 simp only [IntKind.wrap,show IntKind.u64.bits=64 from rfl,show IntKind.u64.signed=false from rfl,TT,Tt,if_false]
 omega):P:=h
def mq203 {P:Prop} (h:P:=by
 exact (show u.length - (i+(decodeL u i).2)<u.length - i by omega)):P:=h
def mq204 {P:Prop} (h:P:=by
 have h1:¬-2<a:=h1;(conv=>whnf);exact h _ (by simp [Yj,ha,h1])):P:=h
def mq205 {P:Prop} (h:P:=by
 conv=>whnf
 refine ⟨_,oM,hr,wN ?_⟩
 refine ⟨pl,p,_,rfl,rfl,⟨hp,ra⟩,fun b hb=>?_⟩
 exact mq35):P:=h
def mq206 {P:Prop} (h:P:=by
 rw [ca,R.bind_err] at h;intro a9 d9;(conv=>whnf);exact h _ _):P:=h
def mq207 {P:Prop} (h:P:=by
 have lc:YV a1 a2 a3.length a4.length=false:=by simp only [YV,kw,pn,hn9,wt,if_false]
 exact mq194):P:=h
def mq208 {P:Prop} (h:P:=by
 conv=>whnf
 refine ⟨L,ts,rfl,ho,fun x hx=>?_⟩
 rw [ZR,Tf (by rw [dm];simp)] at hx
 exact mq181):P:=h
end

section
namespace Go.PM
def wN {P Q:Prop} (k:Q) (h:Q->P:=by intro k;(conv=>whnf);exact k):P:=h k
def oM {P:Prop} (h:P:=by omega):P:=h
def sM {P:Prop} (h:P:=by simp):P:=h
def dM {P:Prop} (h:P:=by decide):P:=h
def iM {P:Prop} (h:P:=by first | exact .inl rfl | exact .inr rfl):P:=h
def sO {P:Prop} (h:P:=by simp;omega):P:=h
def hD {P:Prop} (h:P:=by rw [Tu];omega):P:=h
def tN {P:Prop} (h:P:=by simp only [Ti];omega):P:=h
def oP {P:Prop} (h:P:=by simp [Op.operands]):P:=h
def zN {P:Prop} (h:P:=by simp only [T8,TM,List.flatten_nil,T2];rfl):P:=h
inductive D where
 | bool (b:Bool) | int (k:IntKind) (n:Int) | str (s:List UInt8) | sl (rows:List (List D)) | nilp | nilf | nili
 deriving Inhabited
inductive PV where
 | d (x:D) | undef | ptr (b off:Nat) | elem (r:List D) (off:Nat) | sl (tok e:Nat) (rows:List (List D)) | nils (e:Nat) | asl (b off n:Nat)
 | func (f:FuncId) (first caps:List PV) | iface (t:TypeId) (v:PV) | agg (cs:List PV) | tuple (vs:List PV) | raw (v:Value) | mp (b:Nat) | nilm
 deriving Inhabited
inductive MV where
 | one (x:D) | agg (l:List D)
 deriving Inhabited
def MV.pv:MV->PV | .one x=>.d x | .agg l=>.agg (l.map .d)
inductive Box where
 | dmap (m:List (List UInt8×MV)) | smap (el:Nat) (m:List (List UInt8×List (List D))) (fo:Option (List UInt8×PV)) | cells (t:TypeId) (cs:List PV) | iter (s:List UInt8) (pos:Nat) | loop (st:LoopState) (pd:Option Code) (r:Loop) | map (cs:List PV) (bn:List Nat) (ck:Nat)
 deriving Inhabited
structure St where
 bx:List Box
 tk:List Nat
 nx:Nat
inductive TK where
 | other | int (k:IntKind) | bool | string | ptr (e:Nat) | slice (e:Nat) | array (n e:Nat) | struct (fs:List (Nat×Nat)) | func | iface | map (k e:Nat)
structure TI where
 size:Nat
 bytes:Nat
 kind:TK
 zero:List PV
 eqok:Bool
def TI.no:TI:=⟨0,0,.other,[],false⟩
inductive Tab where
 | leaf | node (l:Tab) (k:Nat) (v:TI) (r:Tab)
def Tab.get:Tab->Nat->TI
 | .leaf,_=>TI.no
 | .node l k v r,n=>match Nat.beq n k with
  | true=>v
  | false=>match Nat.ble n k with
   | true=>l.get n
   | false=>r.get n
def TK.isAgg:TK->Bool | .array _ _ | .struct _=>true | _=>false
abbrev Frame:=Nat->PV
def Uc (f:Frame) (i:Nat) (v:PV):Frame:=fun n=>match Nat.beq i n with
 | true=>v
 | false=>f n
def Zcm:Value->PV
 | .bool b=>.d (.bool b)
 | .int k n=>.d (.int k n)
 | .string s=>.d (.str s.data.toList)
 | .pointer none=>.d .nilp
 | .slice none 0 0=>.nils 0
 | .nilFunc=>.d .nilf
 | .nilIface=>.d .nili
 | .map none=>.nilm
 | v=>.raw v
def ZBQ:Value->Bool
 | .agg _=>false
 | .tuple _=>false
 | _=>true
def ZiZ:Value->PV
 | .agg cs=>match cs.toList.all ZBQ with | true=>.agg (cs.toList.map Zcm) | false=>.raw (.agg cs)
 | v=>Zcm v
def ev (f:Frame):Operand->PV
 | .tmp t=>f t
 | .const v=>ZiZ v
 | .global _=>.undef
 | .func g=>.func g [] []
def CondP:Bool->Prop->Prop->Prop
 | true,X,_=>X
 | false,_,Y=>Y
def Yn:Nat->(Nat->Prop)->Prop
 | 0,K=>K 0
 | n+1,K=>Yn n fun m=>K (m+1)
def Znz (v:PV) (K:PV->Prop):Prop:=match v with
 | .d x=>K (.d x) | .undef=>K .undef | .ptr b off=>Yn b fun b=>Yn off fun off=>K (.ptr b off) | .elem r off=>Yn off fun off=>K (.elem r off) | .sl t z r=>Yn t fun t=>K (.sl t z r) | .nils z=>K (.nils z)
 | .asl b off n=>Yn b fun b=>Yn off fun off=>K (.asl b off n) | .func f a c=>K (.func f a c) | .iface t v=>K (.iface t v) | .agg cs=>K (.agg cs) | .tuple vs=>K (.tuple vs) | .raw v=>K (.raw v) | .mp b=>Yn b fun b=>K (.mp b) | .nilm=>K .nilm
def VB:List PV->(List PV->Prop)->Prop
 | [],K=>K []
 | v::l,K=>Znz v fun v=>VB l fun l=>K (v::l)
def Zkz (v:PV) (K:PV->Prop):Prop:=match v with
 | .d x=>K (.d x) | .undef=>K .undef | .ptr b off=>Yn b fun b=>Yn off fun off=>K (.ptr b off) | .elem r off=>Yn off fun off=>K (.elem r off) | .sl t z r=>Yn t fun t=>K (.sl t z r) | .nils z=>K (.nils z)
 | .asl b off n=>Yn b fun b=>Yn off fun off=>K (.asl b off n) | .raw v=>K (.raw v) | .mp b=>Yn b fun b=>K (.mp b) | .nilm=>K .nilm
 | .func f a c=>VB a fun a=>VB c fun c=>K (.func f a c) | .iface t v=>K (.iface t v) | .agg cs=>VB cs fun cs=>K (.agg cs) | .tuple vs=>K (.tuple vs)
def ZfX:List PV->(List PV->Prop)->Prop
 | [],K=>K []
 | v::l,K=>Zkz v fun v=>ZfX l fun l=>K (v::l)
def U8 (v:PV) (K:PV->Prop):Prop:=match v with
 | .d x=>K (.d x) | .undef=>K .undef | .ptr b off=>Yn b fun b=>Yn off fun off=>K (.ptr b off) | .elem r off=>Yn off fun off=>K (.elem r off) | .sl t z r=>Yn t fun t=>K (.sl t z r) | .nils z=>K (.nils z)
 | .asl b off n=>Yn b fun b=>Yn off fun off=>K (.asl b off n) | .raw v=>K (.raw v) | .mp b=>Yn b fun b=>K (.mp b) | .nilm=>K .nilm
 | .func f a c=>VB a fun a=>VB c fun c=>K (.func f a c) | .iface t v=>Zkz v fun v=>K (.iface t v) | .agg cs=>VB cs fun cs=>K (.agg cs) | .tuple vs=>ZfX vs fun vs=>K (.tuple vs)
def ZiS (f:Frame) (d:Option Nat) (v:PV) (K:Frame->Prop):Prop:=match d with
 | some i=>U8 v fun v=>K (Uc f i v)
 | none=>K f
def ZEz {t:Bool} {X Y:Prop} (h1:t=true->X) (h2:t=false->Y):CondP t X Y:=by cases t;exact h2 rfl;exact h1 rfl
def V6 {α:Type}:Nat->List α->Option (List α)
 | 0,_=>some []
 | n+1,x::l=>match V6 n l with | some r=>some (x::r) | none=>none
 | _+1,[]=>none
def Z6 {α:Type}:List α->Nat->List α->List α
 | l,_,[]=>l
 | [],_,_=>[]
 | _::l,0,v::vs=>v::Z6 l 0 vs
 | x::l,n+1,vs=>x::Z6 l n vs
def Zhn (t:Nat):List Nat->Bool
 | []=>false
 | x::l=>match Nat.beq x t with | true=>true | false=>Zhn t l
def Jd (t:Nat):List Nat->List Nat
 | []=>[]
 | x::l=>match Nat.beq x t with | true=>Jd t l | false=>x::Jd t l
def PV.cells:PV->Option (List PV)
 | .agg cs=>some cs | .undef=>none | .tuple _=>none | .raw (.func f a c)=>some [.raw (.func f a c)] | .raw _=>none | v=>some [v]
def toD:PV->Option D | .d x=>some x | .sl _ _ rows=>some (.sl rows) | .nils _=>some (.sl []) | _=>none
def ZnA:List PV->Option (List D)
 | []=>some []
 | v::l=>match toD v with | some x=>(match ZnA l with | some r=>some (x::r) | none=>none) | none=>none
def keq:IntKind->IntKind->Bool
 | .i8,.i8 | .i16,.i16 | .i32,.i32 | .i64,.i64 | .u8,.u8 | .u16,.u16 | .u32,.u32 | .u64,.u64=>true
 | _,_=>false
def ZcJ (op:BinOp) (k:IntKind) (a b:Int):Int:=match (Op.intBits op k a b:Sem Value) with | .pure (.int _ n)=>n | _=>0
def Zh:BinOp->IntKind->Int->Int->Int:=Classical.choose (⟨ZcJ,rfl⟩:∃f,f=ZcJ)
def Yb:Zh=ZcJ:=Classical.choose_spec (⟨ZcJ,rfl⟩:∃f,f=ZcJ)
def InR (k:IntKind) (n:Int):Prop:=k.wrap n=n
def ZcK (k:IntKind) (n:Int) (K:PV->Prop):Prop:=(InR k n/\K (.d (.int k n)))\/K (.d (.int k (k.wrap n)))
def ZyZ (op:BinOp) (k:IntKind) (a b:Int) (K:PV->Prop):Prop:=match op with
 | .add=>ZcK k (a+b) K | .sub=>ZcK k (a - b) K | .mul=>ZcK k (a * b) K
 | .quo=>b≠0/\ZcK k (a.tdiv b) K | .rem=>b≠0/\K (.d (.int k (a.tmod b)))
 | .and=>K (.d (.int k (Zh .and k a b))) | .or=>K (.d (.int k (Zh .or k a b))) | .xor=>K (.d (.int k (Zh .xor k a b))) | .andNot=>K (.d (.int k (Zh .andNot k a b)))
 | .eql=>K (.d (.bool (decide (a=b)))) | .neq=>K (.d (.bool (!decide (a=b)))) | .lss=>K (.d (.bool (decide (a<b)))) | .leq=>K (.d (.bool (decide (a<=b))))
 | .gtr=>K (.d (.bool (decide (b<a)))) | .geq=>K (.d (.bool (decide (b<=a))))
 | _=>False
def Zud:Operand->Bool | .const _=>true | _=>false
def YK (T:Tab):Nat->List (Nat×Nat)->List PV->List PV->(Bool->Prop)->Prop
 | _,[],[],[],K=>K true
 | i,(o,t)::fs,x::xs,y::ys,K=>match Nat.beq o i,(T.get t).kind,x,y with
  | true,.int _,.d (.int k a),.d (.int k' b)=>(match keq k k' with | true=>YK T (i+1) fs xs ys fun r=>K (decide (a=b) && r) | false=>False)
  | true,.string,.d (.str a),.d (.str b)=>YK T (i+1) fs xs ys fun r=>K (decide (a=b) && r)
  | true,.bool,.d (.bool a),.d (.bool b)=>YK T (i+1) fs xs ys fun r=>K (decide (a=b) && r)
  | _,_,_,_=>False
 | _,_,_,_,_=>False
def peq (T:Tab) (t:TypeId) (x y:Operand) (px py:PV) (K:Bool->Prop):Prop:=match (T.get t).kind with
 | .bool=>match px,py with
  | .d (.bool a),.d (.bool b)=>K (decide (a=b))
  | _,_=>False
 | .ptr _=>match px,py with
  | .d .nilp,.d .nilp=>K true
  | .d .nilp,.ptr _ _=>K false
  | .d .nilp,.elem _ _=>K false
  | .ptr _ _,.d .nilp=>K false
  | .elem _ _,.d .nilp=>K false
  | _,_=>False
 | .func=>match px,py with
  | .d .nilf,.d .nilf=>K true
  | .d .nilf,.func _ _ _=>K false
  | .func _ _ _,.d .nilf=>K false
  | _,_=>False
 | .iface=>match px,py with
  | .d .nili,.d .nili=>match Zud x || Zud y with | true=>K true | false=>False
  | .d .nili,.iface _ _=>K false
  | .iface _ _,.d .nili=>K false
  | .iface t (.d (.int k a)),.iface t' (.d (.int k' b))=>match Nat.beq t t',(T.get t).kind,(T.get t).eqok with
   | true,.int _,true=>(match keq k k' with | true=>K (decide (a=b)) | false=>False)
   | false,_,_=>K false
   | _,_,_=>False
  | _,_=>False
 | .map _ _=>match px,py with
  | .nilm,.nilm=>K true
  | .mp _,.nilm=>K false
  | .nilm,.mp _=>K false
  | _,_=>False
 | .slice _=>match px,py with
  | .nils _,.nils _=>K true
  | .d (.sl (_::_)),.nils _=>K false
  | .sl _ _ (_::_),.nils _=>K false
  | _,_=>False
 | .struct fs=>match (T.get t).eqok with
  | true=>match px,py with
   | .agg xs,.agg ys=>YK T 0 fs xs ys K
   | _,_=>False
  | false=>False
 | _=>False
def Zue (T:Tab) (op:BinOp) (t:TypeId) (x y:Operand) (px py:PV) (K:PV->Prop):Prop :=
 match px,py with
 | .d (.int k a),.d (.int k' b)=>match op with
  | .shl=>0<=b/\ZcK k (a * 2 ^ (min b.toNat k.bits)) K
  | .shr=>0<=b/\K (.d (.int k (a.fdiv (2 ^ (min b.toNat k.bits)))))
  | op=>match keq k k' with | true=>ZyZ op k a b K | false=>False
 | .d (.str a),.d (.str b)=>match op with
  | .add=>a.length+b.length<2 ^ 62/\K (.d (.str (a++b))) | .eql=>K (.d (.bool (decide (a=b)))) | .neq=>K (.d (.bool (!decide (a=b))))
  | .lss=>K (.d (.bool (Op.bytesLess a b))) | .geq=>K (.d (.bool (!Op.bytesLess a b)))
  | .leq=>K (.d (.bool (Op.bytesLess a b || decide (a=b)))) | .gtr=>K (.d (.bool (!(Op.bytesLess a b || decide (a=b)))))
  | _=>False
 | px,py=>match op with
  | .eql=>peq T t x y px py fun b=>K (.d (.bool b))
  | .neq=>peq T t x y px py fun b=>K (.d (.bool (!b)))
  | _=>False
def decodeL (s:List UInt8) (pos:Nat):Nat×Nat:=Utf8.decode ⟨s.toArray⟩ pos
def Yw (T:Tab) (fs:List (Nat×Nat)) (ρ:Operand->PV):List (Nat×Operand)->List PV->(List PV->Prop)->Prop
 | [],cs,K=>K cs
 | (i,x)::ps,cs,K=>match fs[i]?,(ρ x).cells with
  | some (o,t),some l=>match Nat.beq l.length (T.get t).size,Nat.ble (o+l.length) cs.length,(T.get t).kind with
   | _,_,.other=>False
   | true,true,_=>Yw T fs ρ ps (Z6 cs o l) K
   | _,_,_=>False
  | _,_=>False
def ZuW (s e:Nat):Nat->Nat->List (Nat×Nat)
 | 0,_=>[]
 | n+1,i=>(i * s,e)::ZuW s e n (i+1)
def VC (lo hi:Option PV) (len:Nat) (K:Nat->Nat->Prop):Prop :=
 match lo,hi with
 | none,none=>K 0 len
 | some x,none=>match x with
  | .d (.int _ n)=>0<=n/\n<=len/\K n.toNat len
  | _=>False
 | none,some y=>match y with
  | .d (.int _ m)=>0<=m/\m<=len/\K 0 m.toNat
  | _=>False
 | some x,some y=>match x,y with
  | .d (.int _ n),.d (.int _ m)=>0<=n/\n<=m/\m<=len/\K n.toNat m.toNat
  | _,_=>False
def cut {α:Type} (l:List α) (a b:Nat):List α:=(l.take b).drop a
def Je (T:Tab) (t:TypeId) (x:PV) (lo hi:Option PV) (K:PV->Prop):Prop:=match (T.get t).kind with
 | .string=>match x with
  | .d (.str s)=>VC lo hi s.length fun a b=>K (.d (.str (cut s a b)))
  | _=>False
 | .slice e=>match (T.get e).kind with
  | .other=>False
  | _=>match toD x with
   | some (.sl rows)=>(∀r∈rows,r.length=(T.get e).size)/\VC lo hi rows.length fun a b=>K (.d (.sl (cut rows a b)))
   | _=>False
 | .array n e=>match (T.get e).kind with
  | .other=>False
  | _=>match x,lo,hi with
   | .ptr b off,none,none=>K (.asl b off n)
   | .ptr b off,some (.d (.int _ a)),none=>0<=a/\a<n/\K (.asl b (off+a.toNat * (T.get e).size) (n - a.toNat))
   | _,_,_=>False
 | _=>False
def ZaV (T:Tab) (t:TypeId) (x:PV) (bx:List Box) (K:PV->Prop):Prop:=match x with
 | .ptr b off=>match bx[b]? with
  | some (.cells _ cs)=>match (T.get t).kind.isAgg with
   | true=>match V6 (T.get t).size (cs.drop off) with | some l=>K (.agg l) | none=>False
   | false=>match (T.get t).kind with | .other=>False | _=>match cs[off]? with | some v=>K v | none=>False
  | _=>False
 | .elem r off=>match (T.get t).kind.isAgg with
   | true=>match V6 (T.get t).size (r.drop off) with | some l=>K (.agg (l.map .d)) | none=>False
   | false=>match (T.get t).kind with | .other=>False | _=>match r[off]? with | some v=>K (.d v) | none=>False
 | _=>False
def ZnB (v:TI):Option PV:=match v.kind.isAgg,v.zero with | true,z=>some (.agg z) | false,[z]=>some z | _,_=>none
def findM (key:List UInt8):List PV->Option PV
 | .d (.str k)::v::l=>match decide (key=k) with | true=>some v | false=>findM key l
 | _=>none
def optK {α:Type} (o:Option α) (A:α->Prop) (B:Prop):Prop:=match o with | some a=>A a | none=>B
def optK.yes {α:Type} {o:Option α} {A:α->Prop} {B:Prop} {a:α} (h:o=some a) (k:A a):optK o A B:=by subst h;exact k
def optK.no {α:Type} {o:Option α} {A:α->Prop} {B:Prop} (h:o=none) (k:B):optK o A B:=by subst h;exact k
def ZEE {α:Type} {o:Option α} {A:α->Prop} {B:Prop} (h1:∀a,o=some a->A a) (h2:o=none->B):optK o A B:=by cases o with | some a=>exact h1 a rfl | none=>exact h2 rfl
def lkM {α:Type} (k:List UInt8):List (List UInt8×α)->Option α
 | []=>none
 | (x,v)::l=>match decide (k=x) with | true=>some v | false=>lkM k l
def YB {α:Type} (k:List UInt8) (v:α):List (List UInt8×α)->List (List UInt8×α)
 | []=>[(k,v)]
 | (x,u)::l=>match decide (k=x) with | true=>(x,v)::l | false=>(x,u)::YB k v l
def Zhq (k:List UInt8) (rows:List (List D)):Option (List UInt8×PV)->PV
 | none=>.d (.sl rows)
 | some (k',v)=>match decide (k=k') with | true=>v | false=>.d (.sl rows)
def VZ:List (List UInt8×List (List D))->Option (List UInt8×PV)->List PV
 | [],_=>[]
 | (k,rows)::l,fo=>.d (.str k)::Zhq k rows fo::VZ l fo
def ZBz (m:List (List UInt8×List (List D))) (fo:Option (List UInt8×PV)):List PV :=
 (match fo with | none=>.nilm | some (k,v)=>.tuple [.d (.str k),v])::m.map fun x=>.tuple [.d (.str x.1),.d (.sl x.2)]
def ZaW:List (List UInt8×MV)->List PV
 | []=>[]
 | (k,v)::l=>.d (.str k)::v.pv::ZaW l
def ZBR:PV->Option MV
 | .agg cs=>match ZnA cs with | some l=>some (.agg l) | none=>none
 | v=>match toD v with | some x=>some (.one x) | none=>none
def YC (T:Tab) (t:TypeId) (m key:PV) (ok:Bool) (bx:List Box) (K:PV->Prop):Prop:=match (T.get t).kind with
 | .map _ e=>match (T.get e).kind with
  | .other=>False
  | _=>match key with
   | .d (.str k) =>
    match ZnB (T.get e) with
    | some z=>match m with
     | .nilm=>K (match ok with | true=>.tuple [z,.d (.bool false)] | false=>z)
     | .mp b=>match bx[b]? with
      | some (.map cs _ _)=>match findM k cs with
       | some v=>K (match ok with | true=>.tuple [v,.d (.bool true)] | false=>v)
       | none=>K (match ok with | true=>.tuple [z,.d (.bool false)] | false=>z)
      | some (.dmap l)=>optK (lkM k l) (fun v=>K (match ok with | true=>.tuple [v.pv,.d (.bool true)] | false=>v.pv)) (K (match ok with | true=>.tuple [z,.d (.bool false)] | false=>z))
      | some (.smap _ l fo)=>match fo with
       | none=>optK (lkM k l) (fun v=>K (match ok with | true=>.tuple [.d (.sl v),.d (.bool true)] | false=>.d (.sl v))) (K (match ok with | true=>.tuple [z,.d (.bool false)] | false=>z))
       | some (k',v)=>match ok,z with | false,.nils _=>k=k'/\K v | _,_=>False
      | _=>False
     | _=>False
    | none=>False
   | _=>False
 | _=>False
def qop (T:Tab) (o:Op) (ty:TypeId) (ρ:Operand->PV) (bx:List Box) (K:PV->Prop):Prop :=
 match o with
 | .move x | .assign x=>match ρ x with
  | .nils _=>match (T.get ty).kind with | .slice e=>K (.nils e) | _=>K (.nils 0)
  | v=>K v
 | .pick c a b=>match ρ c with | .d (.bool t)=>CondP t (K (ρ a)) (K (ρ b)) | _=>False
 | .build t ps=>match (T.get t).kind with
  | .struct fs=>Yw T fs ρ ps.toList (T.get t).zero fun cs=>K (.agg cs)
  | .array n e=>match (T.get e).kind with
   | .other=>False
   | _=>match Nat.ble 1 (T.get e).size with
    | true=>Yw T (ZuW (T.get e).size e n 0) ρ ps.toList (T.get t).zero fun cs=>K (.agg cs)
    | false=>False
  | _=>False
 | .load t a=>ZaV T t (ρ a) bx K
 | .lookup t m x ok=>YC T t (ρ m) (ρ x) ok bx K
 | .nilCheck x=>match ρ x with
  | .ptr b off=>K (.ptr b off)
  | .elem r off=>K (.elem r off)
  | .func g a c=>K (.func g a c)
  | _=>False
 | .binOp op t x y _=>Zue T op t x y (ρ x) (ρ y) K
 | .unOp op _ x=>match op,ρ x with
  | .not,.d (.bool b)=>K (.d (.bool (!b)))
  | .neg,.d (.int k a)=>ZcK k (0 - a) K
  | .xor,.d (.int k a)=>K (.d (.int k (Zh .xor k (if k.signed then -1 else k.max) a)))
  | _,_=>False
 | .convert s d x=>match (T.get s).kind with
  | .other=>False
  | .slice e=>match (T.get d).kind with
   | .string=>match (T.get e).kind with
    | .int .u8=>match toD (ρ x) with
     | some (.sl rows)=>∃l:List UInt8,rows=l.map (fun b=>[.int .u8 b.toNat])/\K (.d (.str l))
     | _=>False
    | _=>False
   | _=>False
  | _=>match (T.get d).kind with
   | .int k=>match ρ x with | .d (.int _ n)=>ZcK k n K | _=>False
   | .string=>match ρ x with | .d (.str s)=>K (.d (.str s)) | .d (.int _ n)=>K (.d (.str (Utf8.encode n).data.toList)) | _=>False
   | _=>False
 | .fieldAddr s x i=>match (T.get s).kind with
  | .struct fs=>match fs[i]? with
   | some (o,_)=>match ρ x with
    | .ptr b off=>K (.ptr b (off+o))
    | .elem r off=>K (.elem r (off+o))
    | _=>False
   | none=>False
  | _=>False
 | .field s x i=>match (T.get s).kind with
  | .struct fs=>match fs[i]? with
   | some (o,t)=>match ρ x with
    | .agg cs=>match (T.get t).kind.isAgg with
     | true=>match V6 (T.get t).size (cs.drop o) with | some l=>K (.agg l) | none=>False
     | false=>match (T.get t).kind with | .other=>False | _=>match cs[o]? with | some v=>K v | none=>False
    | _=>False
   | none=>False
  | _=>False
 | .index t x i=>match ρ i with
  | .d (.int _ n)=>match (T.get t).kind with
   | .string=>match ρ x with
    | .d (.str s)=>0<=n/\n<s.length/\K (.d (.int .u8 (s.getD n.toNat 0).toNat))
    | _=>False
   | .array m e=>match ρ x with
    | .agg cs=>match (T.get e).kind.isAgg with
     | true=>match V6 (T.get e).size (cs.drop (n.toNat * (T.get e).size)) with
      | some l=>0<=n/\n<m/\K (.agg l)
      | none=>False
     | false=>match (T.get e).kind with
      | .other=>False
      | _=>match Nat.beq (T.get e).size 1 with
       | true=>match cs[n.toNat]? with | some v=>0<=n/\n<m/\K v | none=>False
       | false=>False
    | _=>False
   | _=>False
  | _=>False
 | .indexAddr t x i=>match ρ i with
  | .d (.int _ n)=>match (T.get t).kind with
   | .slice e=>match (T.get e).kind with
    | .other=>False
    | _=>match ρ x with
     | .asl b off m=>0<=n/\n<m/\K (.ptr b (off+n.toNat * (T.get e).size))
     | px=>match toD px with
      | some (.sl rows)=>∃r,0<=n/\rows[n.toNat]?=some r/\(match Nat.beq r.length (T.get e).size with | true=>K (.elem r 0) | false=>False)
      | _=>False
   | .array m e=>match (T.get e).kind with
    | .other=>False
    | _=>match ρ x with
     | .ptr b off=>0<=n/\n<m/\K (.ptr b (off+n.toNat * (T.get e).size))
     | _=>False
   | _=>False
  | _=>False
 | .slice t x lo hi none=>Je T t (ρ x) (lo.map ρ) (hi.map ρ) K
 | .extract x i=>match ρ x with
  | .tuple vs=>match vs[i]? with | some v=>K v | none=>False
  | _=>False
 | .makeFunc (.func g) a c=>K (.func g (a.toList.map ρ) (c.toList.map ρ))
 | .makeInterface t x=>match (T.get t).kind with
  | .iface=>False
  | .other=>False
  | _=>K (.iface t (ρ x))
 | .typeAssert x _ t true=>match (T.get t).kind with
  | .iface=>False
  | .other=>False
  | _=>match ρ x with
   | .iface t' v=>match Nat.beq t' t with
    | true=>K (.tuple [v,.d (.bool true)])
    | false=>False
   | _=>False
 | .call { callee:=.builtin b,args,argTypes }=>match b,argTypes.toList,args.toList.map ρ with
  | .len,t::_,[v]=>match (T.get t).kind with
   | .string=>match v with | .d (.str s)=>K (.d (.int .i64 s.length)) | _=>False
   | .slice _=>match v with
    | .asl _ _ n=>K (.d (.int .i64 n))
    | v=>match toD v with | some (.sl rows)=>K (.d (.int .i64 rows.length)) | _=>False
   | .map _ _=>match v with
    | .nilm=>K (.d (.int .i64 (0:Nat)))
    | .mp b=>match bx[b]? with | some (.map cs _ _)=>K (.d (.int .i64 (cs.length / 2:Nat))) | some (.dmap l)=>K (.d (.int .i64 l.length)) | _=>False
    | _=>False
   | _=>False
  | .min,_,[.d (.int k a),.d (.int k' b)]=>match keq k k' with | true=>K (.d (.int k (min a b))) | false=>False
  | .max,_,[.d (.int k a),.d (.int k' b)]=>match keq k k' with | true=>K (.d (.int k (max a b))) | false=>False
  | _,_,_=>False
 | _=>False
def Zl3 (T:Tab) (o:Op):Option Operand:=match o with
 | .convert s d x=>match (T.get s).kind with
  | .string=>match (T.get d).kind with
   | .slice e=>match (T.get e).kind with
    | .int .u8=>some x
    | _=>none
   | _=>none
  | _=>none
 | _=>none
def Zi0 (v:PV):Option (List D):=match v.cells with | some l=>ZnA l | none=>none
def X7 (w:Nat) (ρ:Operand->PV):List (Nat×Operand)->List (List D)->Option (List (List D))
 | [],rows=>some rows
 | (i,x)::ps,rows=>match Zi0 (ρ x) with
  | some r=>(match Nat.beq r.length w,Nat.ble (i+1) rows.length with | true,true=>X7 w ρ ps (rows.set i r) | _,_=>none)
  | none=>none
def ZcL (zero:List D) (ρ:Operand->PV) (n:Nat) (ps:List (Nat×Operand)):Option (List (List D)):=X7 zero.length ρ ps (List.replicate n zero)
def Zhr (T:Tab) (o:Op) (ty:TypeId) (ρ:Operand->PV) (bx:List Box) (K:PV->Prop):Prop:=match Zl3 T o with
 | some x=>match ρ x with
  | .d (.str s)=>K (.d (.sl (s.map fun b=>[.int .u8 b.toNat])))
  | _=>False
 | none=>match o with
  | .buildSlice t n ps=>match (T.get t).kind with
   | .slice e=>match (T.get e).kind with
    | .other=>False
    | _=>match ZnA (T.get e).zero with
     | some zero=>match Nat.ble 1 zero.length,Nat.ble (n * zero.length) 16777216,ZcL zero ρ n ps.toList with
      | true,true,some rows=>K (.d (.sl rows))
      | _,_,_=>False
     | none=>False
   | _=>False
  | .makeSlice t l c=>match (T.get t).kind with
   | .slice e=>match (T.get e).kind with
    | .other=>False
    | _=>match ZnA (T.get e).zero,ρ l,ρ c with
     | some zero,.d (.int .i64 (.ofNat n)),.d (.int .i64 (.ofNat m))=>n=m/\1<=zero.length/\n * zero.length<=16777216/\n * (T.get e).bytes<=16777216/\K (.d (.sl (List.replicate n zero)))
     | _,_,_=>False
   | _=>False
  | o=>qop T o ty ρ bx K
def St.set (σ:St) (b:Nat) (x:Box):St:={ σ with bx:=σ.bx.set b x }
def St.new (σ:St) (x:Box):St:={ σ with bx:=σ.bx++[x] }
def VD (T:Tab) (tx el:Nat) (x:PV):Option (List (List D)):=match (T.get tx).kind with
 | .string=>match (T.get el).kind with
  | .int .u8=>match x with
   | .d (.str s)=>some (s.map fun b=>[.int .u8 b.toNat])
   | _=>none
  | _=>none
 | .slice _=>match toD x with
  | some (.sl rows)=>some rows
  | _=>none
 | _=>none
def Zl4 (key:List UInt8) (v:PV):List PV->Option (List PV)
 | .d (.str k)::u::l=>match decide (key=k) with
  | true=>some (.d (.str k)::v::l)
  | false=>match Zl4 key v l with | some l=>some (.d (.str k)::u::l) | none=>none
 | _=>none
def ZcM (T:Tab) (t:TypeId) (m key v:PV) (σ:St) (K:PV->St->Prop):Prop:=match (T.get t).kind with
 | .map _ _=>match key,m with
  | .d (.str k),.mp b=>match σ.bx[b]? with
   | some (.map cs bn ck)=>match Zl4 k v cs with
    | some cs=>K .undef (σ.set b (.map cs bn ck))
    | none=>K .undef (σ.set b (.map (cs++[.d (.str k),v]) (bn++[ck]) (ck+1)))
   | some (.dmap l)=>match ZBR v with
    | some x=>K .undef (σ.set b (.dmap (YB k x l)))
    | none=>False
   | some (.smap el l (some (k',_)))=>k=k'/\K .undef (σ.set b (.smap el (YB k [] l) (some (k,v))))
   | _=>False
  | _,_=>False
 | _=>False
def asT (T:Tab) (t:TypeId) (v:PV):PV:=match v with
 | .nils e=>match (T.get t).kind with | .slice el=>.nils el | _=>.nils e
 | v=>v
def eop (T:Tab) (o:Op) (ρ:Operand->PV) (σ:St) (K:PV->St->Prop):Prop :=
 match o with
 | .alloc e=>match (T.get e).kind with | .other=>False | _=>K (.ptr σ.bx.length 0) (σ.new (.cells e (T.get e).zero))
 | .box e x=>match (ρ x).cells with | some l=>K (.ptr σ.bx.length 0) (σ.new (.cells e l)) | none=>False
 | .store t a x=>match ρ a with
  | .ptr b off=>match σ.bx[b]? with
   | some (.cells ty cs)=>match (asT T t (ρ x)).cells with
    | some l=>match Nat.beq l.length (T.get t).size,Nat.ble (off+l.length) cs.length,(T.get t).kind with
     | _,_,.other=>False
     | true,true,_=>K .undef (σ.set b (.cells ty (Z6 cs off l)))
     | _,_,_=>False
    | none=>False
   | _=>False
  | _=>False
 | .range t x=>match (T.get t).kind with
  | .string=>match ρ x with
   | .d (.str s)=>K (.ptr σ.bx.length 0) (σ.new (.iter s 0))
   | _=>False
  | _=>False
 | .makeMap t none=>match (T.get t).kind with
  | .map _ e=>match (T.get e).kind with
   | .slice _=>K (.mp σ.bx.length) (σ.new (.map [] [] 0))
   | .map _ _=>K (.mp σ.bx.length) (σ.new (.map [] [] 0))
   | _=>K (.mp σ.bx.length) (σ.new (.dmap []))
  | _=>False
 | .mapUpdate t m x v=>ZcM T t (ρ m) (ρ x) (ρ v) σ K
 | .insert t m x v=>ZcM T t (ρ m) (ρ x) (ρ v) σ K
 | .next x true=>match ρ x with
  | .ptr b 0=>match σ.bx[b]? with
   | some (.iter s pos)=>CondP (decide (pos<s.length)) (K (.tuple [.d (.bool true),.d (.int .i64 pos),.d (.int .i32 (decodeL s pos).1)]) (σ.set b (.iter s (pos+(decodeL s pos).2)))) (K (.tuple [.d (.bool false)]) σ)
   | _=>False
  | _=>False
 | .call { callee:=.builtin .append,args,argTypes }=>match argTypes.toList,args.toList.map ρ with
  | [t,tx],[s,x]=>match (T.get t).kind with
   | .slice el=>match (T.get el).kind with
    | .other=>False
    | _=>match Nat.ble 1 (T.get el).size,VD T tx el x with
     | true,some more=>match s with
      | .nils _=>(∀r∈more,r.length=(T.get el).size)/\more.length * (T.get el).bytes<=2 ^ 47/\more.length<=2 ^ 47/\K (.sl σ.nx el more) { σ with tk:=σ.nx::σ.tk,nx:=σ.nx+1 }
      | .sl tok e2 rows=>match Zhn tok σ.tk,Nat.beq e2 el with
       | true,true=>(∀r∈more,r.length=(T.get el).size)/\(rows.length+more.length) * (T.get el).bytes<=2 ^ 47/\rows.length+more.length<=2 ^ 47 /\
         K (.sl σ.nx el (rows++more)) { σ with tk:=σ.nx::Jd tok σ.tk,nx:=σ.nx+1 }
       | _,_=>False
      | _=>False
     | _,_=>False
   | _=>False
  | _,_=>False
 | _=>False
def Y0:Op->Bool
 | .alloc _ | .box _ _ | .store _ _ _ | .range _ _ | .next _ _ | .makeMap _ _ | .mapUpdate _ _ _ _ | .insert _ _ _ _=>true
 | .call { callee:=.builtin .append,.. }=>true
 | .call { callee:=.builtin _,.. }=>false
 | .call _=>true
 | .panic _=>true
 | _=>false
mutual
def bnd (n:Nat):PV->Bool
 | .ptr b _=>Nat.ble (b+1) n
 | .asl b _ _=>Nat.ble (b+1) n
 | .mp b=>Nat.ble (b+1) n
 | .func _ a c=>Zri n a && Zri n c
 | .iface _ v=>bnd n v
 | .agg cs=>Zri n cs
 | .tuple vs=>Zri n vs
 | _=>true
def Zri (n:Nat):List PV->Bool
 | []=>true
 | v::l=>bnd n v && Zri n l
end
mutual
def clean:PV->PV
 | .sl _ _ rows=>.d (.sl rows)
 | .nils _=>.d (.sl [])
 | .func f a c=>.func f (Xr a) (Xr c)
 | .iface t v=>.iface t (clean v)
 | .agg cs=>.agg (Xr cs)
 | .tuple vs=>.tuple (Xr vs)
 | .d x=>.d x
 | .undef=>.undef
 | .ptr b o=>.ptr b o
 | .elem r o=>.elem r o
 | .asl b o n=>.asl b o n
 | .raw v=>.raw v
 | .mp b=>.mp b
 | .nilm=>.nilm
def Xr:List PV->List PV
 | []=>[]
 | v::l=>clean v::Xr l
end
def V0 (f:Frame):Frame:=fun i=>clean (f i)
mutual
def cleanN:PV->PV
 | .sl _ _ rows=>.d (.sl rows)
 | .nils e=>.nils e
 | .func f a c=>.func f (Xr a) (Xr c)
 | .iface t v=>.iface t (clean v)
 | .agg cs=>.agg (cleanNL cs)
 | .tuple vs=>.tuple (Xr vs)
 | .d x=>.d x
 | .undef=>.undef
 | .ptr b o=>.ptr b o
 | .elem r o=>.elem r o
 | .asl b o n=>.asl b o n
 | .raw v=>.raw v
 | .mp b=>.mp b
 | .nilm=>.nilm
def cleanNL:List PV->List PV
 | []=>[]
 | v::l=>cleanN v::cleanNL l
end
inductive PEnd where | ret (v:PV) | panic (v:PV)
inductive PExit where | normal | exit (id:Nat) | goto (l:Nat) | ret | panic (v:PV)
abbrev PQ:=PExit->Frame->St->Prop
structure LoopAnn where
 live:List Nat
 keep:List Nat
 I:List PV->St->Prop
 μ:List PV->St->Nat
structure Cx where
 T:Tab
 call:FuncId->List PV->St->(PEnd->St->Prop)->Prop
 raw:Value->List PV->St->(PEnd->St->Prop)->Prop
 iter:FuncId->List PV->(Value->List PV->St->(PEnd->St->Prop)->Prop)->St->(PEnd->St->Prop)->Prop
 loop:Nat->LoopAnn
 unr:Nat->Nat:=fun _=>0
 tie:Nat->Bool:=fun _=>false
 bsl:Nat->Bool:=fun _=>false
 pk:Bool:=true
 cut:Nat->Option (List Nat×(List PV->St->Prop)):=fun _=>none
 ag:Nat->Bool:=fun _=>false
 foc:Nat->Bool:=fun _=>false
def LoopAnn.tied (A:LoopAnn) (f:Frame):LoopAnn:=⟨A.live,A.keep,fun vs σ=>A.I (A.keep.map (fun i=>clean (f i))++vs) σ,fun vs σ=>A.μ (A.keep.map (fun i=>clean (f i))++vs) σ⟩
def Cx.inner (C:Cx):Cx:={ C with iter:=fun _ _ _ _ _=>False }
def Cx.calm (C:Cx):Cx:={ C with raw:=fun _ _ _ _=>False,iter:=fun _ _ _ _ _=>False,pk:=false }
def Cx.pf (C:Cx) (f:Frame):Frame:=match C.pk with | true=>V0 f | false=>fun _=>.undef
def Zhs:List PV->(List PV->Prop)->Prop
 | [],K=>K []
 | v::l,K=>U8 v fun v=>Zhs l fun l=>K (v::l)
def ZcN:List Nat->(List Nat->Prop)->Prop
 | [],K=>K []
 | t::l,K=>Yn t fun t=>ZcN l fun l=>K (t::l)
def X2:List Box->(List Box->Prop)->Prop
 | [],K=>K []
 | .cells t cs::l,K=>Zhs cs fun cs=>X2 l fun l=>K (.cells t cs::l)
 | .iter s p::l,K=>X2 l fun l=>K (.iter s p::l)
 | .loop st pd r::l,K=>X2 l fun l=>K (.loop st pd r::l)
 | .dmap m::l,K=>X2 l fun l=>K (.dmap m::l)
 | .smap el m none::l,K=>X2 l fun l=>K (.smap el m none::l)
 | .smap el m (some (k,v))::l,K=>U8 v fun v=>X2 l fun l=>K (.smap el m (some (k,v))::l)
 | .map cs bn ck::l,K=>Zhs cs fun cs=>ZcN bn fun bn=>Yn ck fun ck=>X2 l fun l=>K (.map cs bn ck::l)
def Xv (σ:St) (K:St->Prop):Prop:=X2 σ.bx fun bx=>ZcN σ.tk fun tk=>Yn σ.nx fun nx=>K ⟨bx,tk,nx⟩
def Zuf:List PV->Bool
 | []=>false
 | .raw (.func (.yield _) _ _)::_=>true
 | _::l=>Zuf l
def ZeU (C:Cx) (fv:PV) (args:List PV) (f:Frame) (σ:St) (K:PEnd->Frame->St->Prop):Prop:=match fv with
 | .func g first caps=>match Zuf args with
  | false=>C.call g (first++args++caps) σ fun e σ=>K e f σ
  | true=>C.iter g (first++args++caps) C.raw σ fun e σ=>K e (V0 f) σ
 | .raw v=>C.raw v args σ fun e σ=>K e (V0 f) σ
 | _=>False
def Wn (C:Cx) (o:Oper) (f:Frame) (σ:St) (Q:PQ) (K:Frame->St->Prop):Prop :=
 match Y0 o.op with
 | false=>Zhr C.T o.op o.type (ev f) σ.bx fun v=>ZiS f o.dst v fun f=>K f σ
 | true=>match o.op with
  | .call { callee:=.value x,args,.. }=>ZeU C (ev f x) (args.toList.map (ev f)) f σ fun e f σ'=>match e with
    | .ret v=>Xv σ' fun σ'=>ZiS f o.dst v fun f=>K f σ'
    | .panic v=>Xv σ' fun σ'=>U8 v fun v=>Q (.panic v) (C.pf f) σ'
  | .panic x=>match ev f x with
    | .iface t v=>Q (.panic (.iface t v)) (C.pf f) σ
    | _=>False
  | op=>eop C.T op (ev f) σ fun v σ'=>Xv σ' fun σ'=>ZiS f o.dst v fun f=>K f σ'
def Ve (all:List Oper) (j:Nat):Option Nat:=match all[j]? with | some o=>o.dst | none=>none
def V7 (C:Cx) (all:List Oper) (Q:PQ) (o:Oper) (f:Frame) (σ:St) (K:Frame->St->Prop):Prop :=
 match o.guard with
 | none=>Wn C o f σ Q K
 | some (j,want)=>match Ve all j with
  | some s=>match f s with
   | .d (.bool t)=>CondP t
     (match want with | true=>Wn C o (Uc f s (.d (.bool true))) σ Q K | false=>ZiS (Uc f s (.d (.bool true))) o.dst (.raw Go.undef) fun f=>K f σ)
     (match want with | false=>Wn C o (Uc f s (.d (.bool false))) σ Q K | true=>ZiS (Uc f s (.d (.bool false))) o.dst (.raw Go.undef) fun f=>K f σ)
   | .raw (.tuple _)=>ZiS f o.dst (.raw Go.undef) fun f=>K f σ
   | _=>False
  | none=>False
def ZkA (C:Cx) (o:Oper):Bool:=match o.dst with
 | some d=>match o.guard with | none=>C.bsl d | _=>false
 | none=>false
def Zy0 (T:Tab) (o:Op) (ρ:Operand->PV) (σ:St) (K:PV->St->Prop):Prop:=match o with
 | .buildSlice t n ps=>match (T.get t).kind with
   | .slice e=>match (T.get e).kind with
    | .other=>False
    | _=>match ZnA (T.get e).zero with
     | some zero=>match Nat.ble 1 zero.length,Nat.ble (n * zero.length) 16777216,Nat.ble 1 n,ZcL zero ρ n ps.toList with
      | true,true,true,some rows=>K (.sl σ.nx e rows) { σ with tk:=σ.nx::σ.tk,nx:=σ.nx+1 }
      | _,_,_,_=>False
     | none=>False
   | _=>False
 | .convert s d x=>match (T.get s).kind with
   | .slice e=>match (T.get d).kind,(T.get e).kind,ρ x with
    | .string,.int .u8,.asl b off n=>match σ.bx[b]? with
     | some (.cells _ cs)=>∃l:List UInt8,l.length=n/\V6 n (cs.drop off)=some (l.map fun b=>.d (.int .u8 b.toNat))/\K (.d (.str l)) σ
     | _=>False
    | _,_,_=>False
   | _=>False
 | .makeMap t none=>match (T.get t).kind with
  | .map _ e=>match (T.get e).kind with
   | .slice el=>K (.mp σ.bx.length) (σ.new (.smap el [] none))
   | _=>False
  | _=>False
 | _=>False
def ZkB (C:Cx) (all:List Oper) (Q:PQ) (o:Oper) (f:Frame) (σ:St) (K:Frame->St->Prop):Prop:=match ZkA C o with
 | true=>Zy0 C.T o.op (ev f) σ fun v σ'=>Xv σ' fun σ'=>ZiS f o.dst v fun f=>K f σ'
 | false=>V7 C all Q o f σ K
def Zrj (C:Cx) (all:List Oper) (Q:PQ):List Oper->Frame->St->Prop
 | [],f,σ=>Q .normal f σ
 | o::rest,f,σ=>ZkB C all Q o f σ (Zrj C all Q rest)
structure Ld where
 i:Nat
 b:Nat
 off:Nat
 n:Nat
def Z8 (bx:List Box) (b off n:Nat):Option (Nat×List PV×List (List UInt8×MV)):=match bx[b]? with
 | some (.cells _ cs)=>some (0,(cs.drop off).take n,[])
 | some (.map cs _ _)=>some (1,cs,[])
 | some (.dmap m)=>some (2,[],m)
 | some (.smap _ m fo)=>some (3,ZBz m fo,[])
 | _=>none
def Jf (acc:List Nat):List Edge->Nat->Nat
 | [],s=>s
 | e::l,s=>match Region.binds .any e with
  | true=>Jf acc l (s ||| 2 ^ e.on ||| acc.getD e.on 0)
  | false=>Jf acc l s
def W5:List Oper->List Nat->List Nat
 | [],acc=>acc
 | o::l,acc=>W5 l (acc++[Jf acc o.after.toList 0])
def anc (ms:List Nat) (i j:Nat):Bool:=(ms.getD j 0).testBit i
def W6 (o:Oper) (left:List (Nat×Oper)):Bool:=match left with
 | []=>false
 | (i,_)::l=>(o.after.toList.any fun e=>Region.binds .any e && Nat.beq e.on i) || W6 o l
def ZfY:List (Nat×Oper)->List (Nat×Oper)->Option (Nat×Oper)
 | _,[]=>none
 | left,(i,o)::l=>match Y0 o.op,W6 o left with
  | false,false=>some (i,o)
  | _,_=>ZfY left l
def Yr (i:Nat):List (Nat×Oper)->List (Nat×Oper)
 | []=>[]
 | (j,o)::l=>match Nat.beq i j with | true=>l | false=>(j,o)::Yr i l
def V3:Nat->List (Nat×Oper)->List (Nat×Oper)
 | 0,l=>l
 | _+1,[]=>[]
 | n+1,x::l=>match ZfY (x::l) (x::l) with
  | some (i,o)=>(i,o)::V3 n (Yr i (x::l))
  | none=>x::V3 n l
def ZK:Nat->List Oper->List (Nat×Oper)
 | _,[]=>[]
 | i,o::l=>(i,o)::ZK (i+1) l
def Zht (ops:List Oper):List (Nat×Oper):=V3 ops.length (ZK 0 ops)
def Zrs (ms:List Nat) (j:Nat) (pre post:List Box):List Ld->Prop->Prop
 | [],X=>X
 | ⟨i,b,off,n⟩::l,X=>match anc ms i j with
  | true=>Zrs ms j pre post l X
  | false=>Z8 pre b off n=Z8 post b off n/\Zrs ms j pre post l X
def Zrk (T:Tab) (o:Op) (ρ:Operand->PV):Option (Nat×Nat×Nat):=match o with
 | .load t a=>match ρ a with
  | .ptr b off=>some (b,off,(T.get t).size)
  | _=>none
 | .lookup _ x _ _=>match ρ x with
  | .mp b=>some (b,0,0)
  | _=>none
 | .call { callee:=.builtin .len,args,.. }=>match args.toList.map ρ with
  | [.mp b]=>some (b,0,0)
  | _=>none
 | _=>none
def Ud (T:Tab) (o:Oper) (i:Nat) (f:Frame) (ctx:List Ld):List Ld:=match Zrk T o.op (ev f) with
 | some (b,off,n)=>⟨i,b,off,n⟩::ctx
 | none=>ctx
def Wo (C:Cx) (all:List Oper) (ms:List Nat) (Q:PQ) (i:Nat) (o:Oper) (ctx:List Ld) (f:Frame) (σ:St) (K:List Ld->Frame->St->Prop):Prop :=
 V7 C all Q o f σ fun f' σ'=>match Y0 o.op with
  | true=>Zrs ms i σ.bx σ'.bx ctx (K ctx f' σ')
  | false=>K (Ud C.T o i f ctx) f' σ'
def WP (C:Cx) (all:List Oper) (ms:List Nat) (Q:PQ):List (Nat×Oper)->List Ld->Frame->St->Prop
 | [],_,f,σ=>Q .normal f σ
 | (i,o)::rest,ctx,f,σ=>Wo C all ms Q i o ctx f σ (WP C all ms Q rest)
def Zl5 (left:List (Nat×Oper)):List (Nat×Oper)->(Nat->Oper->Prop)->Prop
 | [],_=>True
 | (i,o)::l,X=>match W6 o left with
  | true=>Zl5 left l X
  | false=>X i o/\Zl5 left l X
def Wp (C:Cx) (all:List Oper) (ms:List Nat) (Q:PQ):Nat->List (Nat×Oper)->List Ld->Frame->St->Prop
 | _,[],_,f,σ=>Q .normal f σ
 | 0,_::_,_,_,_=>False
 | n+1,x::l,ctx,f,σ=>match ZfY (x::l) (x::l) with
  | some (i,o)=>Wo C all ms Q i o ctx f σ (Wp C all ms Q n (Yr i (x::l)))
  | none=>Zl5 (x::l) (x::l) fun i o=>Wo C all ms Q i o ctx f σ (Wp C all ms Q n (Yr i (x::l)))
def Zhu (ms:List Nat):Option Nat->List (Nat×Oper)->Bool
 | _,[]=>true
 | prev,(i,o)::l=>match Y0 o.op with
  | false=>Zhu ms prev l
  | true=>(match prev with | none=>true | some j=>anc ms j i) && Zhu ms (some i) l
def toks:Nat->List Nat
 | 0=>[]
 | k+1=>k::toks k
def ZuX (n:Nat) (tk:List Nat) (k:Nat) (v:PV) (K:PV->List Nat->Nat->Prop):Prop:=match v with
 | .sl t e rows=>match Zhn t tk with
  | true=>K (.sl k e rows) (Jd t tk) (k+1)
  | false=>K (.d (.sl rows)) tk k
 | .nils e=>K (.sl k e []) tk (k+1)
 | v=>match bnd n v with
  | true=>U8 (clean v) fun v=>K v tk k
  | false=>K .undef tk k
def Zug (n:Nat):List PV->List Nat->Nat->(List PV->List Nat->Nat->Prop)->Prop
 | [],tk,k,K=>K [] tk k
 | v::l,tk,k,K=>ZuX n tk k v fun v tk k=>Zug n l tk k fun l tk k=>K (v::l) tk k
def ZfZ (n:Nat) (tk:List Nat) (k:Nat) (v:PV) (K:PV->List Nat->Nat->Prop):Prop:=match v with
 | .sl t e rows=>match Zhn t tk with
  | true=>K (.sl k e rows) (Jd t tk) (k+1)
  | false=>K (.d (.sl rows)) tk k
 | .nils e=>K (.sl k e []) tk (k+1)
 | v=>match bnd n v with
  | true=>U8 (cleanN v) fun v=>K v tk k
  | false=>K .undef tk k
def Zl6 (n:Nat):List PV->List Nat->Nat->(List PV->List Nat->Nat->Prop)->Prop
 | [],tk,k,K=>K [] tk k
 | v::l,tk,k,K=>ZfZ n tk k v fun v tk k=>Zl6 n l tk k fun l tk k=>K (v::l) tk k
def Zl7 (n:Nat) (tk:List Nat) (k:Nat) (v:PV) (K:PV->List Nat->Nat->Prop):Prop:=match v with
 | .agg cs=>Zl6 n cs tk k fun cs tk k=>K (.agg cs) tk k
 | v=>ZfZ n tk k v K
def Zl8 (n:Nat):List PV->List Nat->Nat->(List PV->List Nat->Nat->Prop)->Prop
 | [],tk,k,K=>K [] tk k
 | v::l,tk,k,K=>Zl7 n tk k v fun v tk k=>Zl8 n l tk k fun l tk k=>K (v::l) tk k
def Zrt (md n:Nat) (vs:List PV) (tk:List Nat) (k:Nat) (K:List PV->List Nat->Nat->Prop):Prop:=match md with
 | 0=>Zug n vs tk k K
 | 1=>Zl6 n vs tk k K
 | _=>Zl8 n vs tk k K
def Zep (n:Nat):Nat->List Box->List Nat->Nat->(List Box->List Nat->Nat->Prop)->Prop
 | 0,_,tk,k,K=>K [] tk k
 | _+1,[],_,_,_=>False
 | m+1,.cells t cs::l,tk,k,K=>Zug n cs tk k fun cs tk k=>Zep n m l tk k fun l tk k=>K (.cells t cs::l) tk k
 | m+1,.iter s p::l,tk,k,K=>Zep n m l tk k fun l tk k=>K (.iter s p::l) tk k
 | m+1,.loop st pd r::l,tk,k,K=>Zep n m l tk k fun l tk k=>K (.loop st pd r::l) tk k
 | m+1,.dmap c::l,tk,k,K=>Zep n m l tk k fun l tk k=>K (.dmap c::l) tk k
 | m+1,.smap el c none::l,tk,k,K=>Zep n m l tk k fun l tk k=>K (.smap el c none::l) tk k
 | _+1,.smap _ _ (some _)::_,_,_,_=>False
 | m+1,.map cs bn ck::l,tk,k,K=>Zug n cs tk k fun cs tk k=>Zep n m l tk k fun l tk k=>K (.map cs bn ck::l) tk k
def ZnC (n:Nat) (vs:List PV) (σ:St) (K:List PV->St->Prop):Prop :=
 Zug n vs σ.tk 0 fun vs tk k=>Zep n n σ.bx tk k fun bs _ k=>K vs ⟨bs,toks k,k⟩
def Jg (ag:Bool) (n:Nat) (vs:List PV) (σ:St) (K:List PV->St->Prop):Prop:=match ag with
 | true=>Zl8 n vs σ.tk 0 fun vs tk k=>Zep n n σ.bx tk k fun bs _ k=>K vs ⟨bs,toks k,k⟩
 | false=>ZnC n vs σ K
def Zf0 (f:Frame):List Nat->List PV->Frame
 | i::is,v::vs=>Uc (Zf0 f is vs) i v
 | _,_=>f
def Zi1 (f:Frame):List Nat->Frame
 | []=>fun _=>.undef
 | i::is=>Uc (Zi1 f is) i (clean (f i))
def YW:List Oper->List Nat->Bool
 | [],_=>true
 | o::l,ks=>(match o.dst with | some d=>!(Zhn d ks) | none=>true) && YW l ks
def Yi (ks:List Nat):Code->Bool
 | .region _ ops _=>YW ops.toList ks
 | .seq a b=>Yi ks a && Yi ks b
 | .cond _ a b=>Yi ks a && Yi ks b
 | .block _ b=>Yi ks b
 | .loop b=>Yi ks b
 | .rangeFunc ..=>true
 | .scope b=>Yi ks b
 | _=>true
def keyOf:Code->Nat
 | .region id _ _=>id
 | .seq a _=>keyOf a
 | .cond _ a _=>keyOf a
 | .block _ b=>keyOf b
 | .loop b=>keyOf b
 | .scope b=>keyOf b
 | _=>0
def ZnD:Frame->List Nat->List PV->Frame
 | f,i::is,v::vs=>ZnD (Uc f i v) is vs
 | f,_,_=>f
def Zzb (i:Nat) (r:Loop) (st:LoopState) (pd:Option Code) (b:Bool) (σ:St) (K:PEnd->St->Prop):Prop :=
 σ.bx[i]?=some (.loop .busy none r)/\K (.ret (.d (.bool b))) (σ.set i (.loop st pd r))
def ZuY (i l:Nat) (r:Loop) (ps:List Nat) (WA WB:PQ->Frame->St->Prop) (f:Frame) (v:Value) (args:List PV) (σ:St) (K:PEnd->St->Prop):Prop :=
 v=.func (.yield l) #[] #[]/\σ.bx[i]?=some (.loop .ready none r)/\args.length=ps.length /\
  WA (fun e f1 σ1=>match e with
   | .normal=>σ1.bx[i]?=some (.loop .ready none r)/\WB (fun e _ σ2=>match e with
     | .normal=>Zzb i r .ready none true σ2 K
     | .ret=>Zzb i r .done (some .ret) false σ2 K
     | .exit id=>Zzb i r .done (some (.exit id)) false σ2 K
     | .goto t=>Zzb i r .done (some (.goto t)) false σ2 K
     | .panic _=>False) f1 (σ1.set i (.loop .busy none r))
   | _=>False) (ZnD f ps args) σ
def ZnE (i:Nat) (r:Loop) (f:Frame) (Q:PQ) (σ:St):Option Code->Prop
 | none=>Q .normal f (σ.set i (.loop .exhausted none r))
 | some .ret=>Q .ret f (σ.set i (.loop .exhausted (some .ret) r))
 | some (.exit id)=>Q (.exit id) f (σ.set i (.loop .exhausted (some (.exit id)) r))
 | some (.goto t)=>Q (.goto t) f (σ.set i (.loop .exhausted (some (.goto t)) r))
 | _=>False
def Zeq (i:Nat):List Oper->Bool
 | []=>false
 | o::l=>match o.dst with
  | some d=>(match Nat.beq d i with | true=>true | false=>Zeq i l)
  | none=>Zeq i l
def Cx.pd (C:Cx) (ops:List Oper) (f:Frame):Frame:=match C.pk with
 | true=>fun i=>match Zeq i ops with | true=>.undef | false=>clean (f i)
 | false=>fun _=>.undef
def Zi2 (C:Cx) (ops:List Oper) (f0:Frame) (Q:PQ):PQ:=fun e f σ=>match e with
 | .panic v=>Q (.panic v) (C.pd ops f0) σ
 | e=>Q e f σ
structure Hole where
 pre:List Oper
 A:Oper
 I:Oper
 S:Oper
 F:Oper
 H:Oper
def ZeV (ops:List Oper):Option Hole:=match ops.reverse with
 | H::F::S::I::A::pre=>match A.op,I.op,S.op,F.op,H.op with
  | .call { callee:=.builtin .append,.. },.indexAddr _ _ _,.store _ _ _,.fieldAddr _ _ _,.store _ _ _=>some ⟨pre.reverse,A,I,S,F,H⟩
  | _,_,_,_,_=>none
 | _=>none
def Zl9 (T:Tab) (h:Hole) (f:Frame) (σ:St) (K:Frame->St->Prop):Prop:=match h.A.op,h.I.op,h.S.op with
 | .call { callee:=.builtin .append,args,argTypes },.indexAddr _ _ ix,.store ts _ x=>match argTypes.toList,args.toList,h.A.dst,h.I.dst with
  | [t,tx],[s,z],some da,some di=>match (T.get t).kind with
   | .slice el=>match (T.get el).kind with
    | .other=>False
    | _=>match Nat.ble 1 (T.get el).size,Nat.beq ts el,VD T tx el (ev f z),Zi0 (ev f x),ev f ix with
     | true,true,some [zr],some row,.d (.int _ n)=>match Nat.beq zr.length (T.get el).size,Nat.beq row.length (T.get el).size with
      | true,true=>match ev f s with
       | .nils _=>n=0/\1 * (T.get el).bytes<=2 ^ 47/\Xv ⟨σ.bx,(σ.nx+1)::σ.tk,σ.nx+2⟩ fun σ'=>ZiS f (some da) (.sl (σ.nx+1) el [row]) fun f=>ZiS f (some di) .undef fun f=>K f σ'
       | .sl tok e2 rows=>match Zhn tok σ.tk,Nat.beq e2 el with
        | true,true=>n=rows.length/\(rows.length+1) * (T.get el).bytes<=2 ^ 47/\rows.length+1<=2 ^ 47 /\
          Xv ⟨σ.bx,(σ.nx+1)::Jd tok σ.tk,σ.nx+2⟩ fun σ'=>ZiS f (some da) (.sl (σ.nx+1) el (rows++[row])) fun f=>ZiS f (some di) .undef fun f=>K f σ'
        | _,_=>False
       | _=>False
      | _,_=>False
     | _,_,_,_,_=>False
   | _=>False
  | _,_,_,_=>False
 | _,_,_=>False
def ZnF (C:Cx) (all:List Oper) (h:Hole) (Q:PQ):PQ:=fun e f σ=>match e with
 | .normal=>Zl9 C.T h f σ fun f σ=>V7 C all Q h.F f σ fun f σ=>V7 C all Q h.H f σ fun f σ=>Q .normal f σ
 | e=>Q e f σ
def ZkC (i:Nat) (f:Frame) (Q:PQ) (e:PEnd) (σ:St):Prop:=match e with
 | .ret _=>match σ.bx[i]? with
  | some (.loop st pd r)=>match st with
   | .busy=>False
   | _=>ZnE i r f Q σ pd
  | _=>False
 | .panic v=>Q (.panic v) (fun _=>.undef) σ
def ZeW (S:PQ->Frame->St->Prop) (Q:PQ):Nat->Frame->St->Prop
 | 0,_,_=>False
 | n+1,f,σ=>S (fun e f σ=>match e with | .normal=>ZeW S Q n f σ | e=>Q e f σ) f σ
def ZeX (b:Nat) (k:List UInt8) (σ:St) (K:St->Prop):Prop:=match σ.bx[b]? with
 | some (.smap el m none)=>optK (lkM k m) (fun rows=>K { σ.set b (.smap el m (some (k,.sl σ.nx el rows))) with tk:=σ.nx::σ.tk,nx:=σ.nx+1 }) (K (σ.set b (.smap el m (some (k,.nils el)))))
 | _=>False
def UH (b:Nat) (σ:St) (K:St->Prop):Prop:=match σ.bx[b]? with
 | some (.smap el m (some (k,.sl t e2 rows)))=>match Zhn t σ.tk,Nat.beq e2 el with
  | true,true=>K { σ.set b (.smap el (YB k rows m) none) with tk:=Jd t σ.tk }
  | _,_=>False
 | _=>False
def ZDw (b:Nat) (Q:PQ):PQ:=fun e f σ=>match e with
 | .normal=>UH b σ fun σ=>Xv σ fun σ=>Q .normal f σ
 | _=>False
def WR (C:Cx) (ops:List Oper) (draw:Bool) (Q:PQ) (f:Frame) (σ:St):Prop:=match draw with
  | false=>Zrj C ops Q ops f σ
  | true=>match ZeV ops with
   | none=>match Zhu (W5 ops []) none (ZK 0 ops) with
    | true=>WP C.calm ops (W5 ops []) (Zi2 C ops f Q) (Zht ops) [] f σ
    | false=>Wp C.calm ops (W5 ops []) (Zi2 C ops f Q) ops.length (ZK 0 ops) [] f σ
   | some h=>WP C.calm ops (W5 ops []) (ZnF C.calm ops h (Zi2 C ops f Q)) (V3 h.pre.length (ZK 0 h.pre)) [] f σ
def W:Cx->Code->PQ->Frame->St->Prop
 | _,.skip,Q,f,σ=>Q .normal f σ
 | C,.region id ops draw,Q,f,σ=>match C.foc id with
  | false=>WR C ops.toList draw Q f σ
  | true=>∃b k,ZeX b k σ fun σ=>Xv σ fun σ=>WR C ops.toList draw (ZDw b Q) f σ
 | C,.seq a b,Q,f,σ=>match C.cut (keyOf b) with
  | none=>W C a (fun e f σ=>match e with | .normal=>W C b Q f σ | e=>Q e f σ) f σ
  | some (live,I)=>W C a (fun e f σ=>match e with | .normal=>ZnC σ.bx.length (live.map f) σ I | e=>Q e f σ) f σ/\∀vs σ1,I vs σ1->W C b Q (Zf0 (fun _=>.undef) live vs) σ1
 | C,.cond c x y,Q,f,σ=>match ev f c with | .d (.bool t)=>CondP t (W C x Q f σ) (W C y Q f σ) | _=>False
 | C,.block id b,Q,f,σ=>W C b (fun e f σ=>match e with | .exit i=>(match Nat.beq i id with | true=>Q .normal f σ | false=>Q (.exit i) f σ) | e=>Q e f σ) f σ
 | C,.scope b,Q,f,σ=>W C b (fun e f σ=>match e with | .goto _=>False | e=>Q e f σ) f σ
 | _,.exit id,Q,f,σ=>Q (.exit id) f σ
 | _,.goto l,Q,f,σ=>Q (.goto l) f σ
 | _,.label _,Q,f,σ=>Q .normal f σ
 | _,.ret,Q,f,σ=>Q .ret f σ
 | C,.loop b,Q,f,σ=>match C.unr (keyOf b) with
  | n+1=>ZeW (fun Q f σ=>W C b Q f σ) Q (n+1) f σ
  | 0=>match Yi (C.loop (keyOf b)).keep b with
   | true=>match C.tie (keyOf b) with
    | false => Jg (C.ag (keyOf b)) σ.bx.length ((C.loop (keyOf b)).live.map f) σ fun vs σ0 => (C.loop (keyOf b)).I vs σ0 /\
       ∀vs σ1,(C.loop (keyOf b)).I vs σ1->W C b (fun e f' σ'=>match e with
        | .normal=>Jg (C.ag (keyOf b)) σ1.bx.length ((C.loop (keyOf b)).live.map f') σ' fun vs' σ''=>(C.loop (keyOf b)).I vs' σ''/\(C.loop (keyOf b)).μ vs' σ''<(C.loop (keyOf b)).μ vs σ1
        | e=>Q e f' σ') (Zf0 (Zi1 f (C.loop (keyOf b)).keep) (C.loop (keyOf b)).live vs) σ1
    | true => Jg (C.ag (keyOf b)) σ.bx.length (((C.loop (keyOf b)).tied f).live.map f) σ fun vs σ0 => ((C.loop (keyOf b)).tied f).I vs σ0 /\
       ∀vs σ1,((C.loop (keyOf b)).tied f).I vs σ1->W C b (fun e f' σ'=>match e with
        | .normal=>Jg (C.ag (keyOf b)) σ1.bx.length (((C.loop (keyOf b)).tied f).live.map f') σ' fun vs' σ''=>((C.loop (keyOf b)).tied f).I vs' σ''/\((C.loop (keyOf b)).tied f).μ vs' σ''<((C.loop (keyOf b)).tied f).μ vs σ1
        | e=>Q e f' σ') (Zf0 (Zi1 f ((C.loop (keyOf b)).tied f).keep) ((C.loop (keyOf b)).tied f).live vs) σ1
   | false=>False
 | C,.rangeFunc g ps asg body,Q,f,σ=>match ev f g with
  | .func gid first caps=>∀(l:Nat) (r:Loop),
    C.iter gid (first++.raw (.func (.yield l) #[] #[])::caps) (ZuY σ.bx.length l r ps.toList (fun Q f σ=>W C.inner asg Q f σ) (fun Q f σ=>W C.inner body Q f σ) (V0 f)) (σ.new (.loop .ready none r))
     (ZkC σ.bx.length (V0 f) Q)
  | _=>False
 | _,_,_,_,_=>False
def pres (T:Tab) (f:Frame) (bx:List Box):List ResultVar->(List PV->Prop)->Prop
 | [],K=>K []
 | .tmp t::l,K=>U8 (f t) fun v=>pres T f bx l fun vs=>K (v::vs)
 | .cell a t::l,K=>ZaV T t (f a) bx fun v=>U8 v fun v=>pres T f bx l fun vs=>K (v::vs)
def Ju:List PV->PV
 | [v]=>v
 | vs=>.tuple vs
def ZeY (ag:Bool) (keep:Nat) (own:Bool) (v:PV) (σ:St) (K:PV->St->Prop):Prop :=
 match bnd keep v with
 | true=>match own with
  | true=>Jg ag keep [v] σ fun vs σ'=>match vs with | [v]=>K v σ' | _=>False
  | false=>Zep keep keep σ.bx [] 0 fun bs _ k=>K (clean v) ⟨bs,toks k,k⟩
 | false=>False
abbrev Zhv (keep:Nat) (own:Bool) (v:PV) (σ:St) (K:PV->St->Prop):Prop:=ZeY false keep own v σ K
def Zuh (ag:Bool) (T:Tab) (fn:Func) (keep:Nat) (own:Bool) (R:PEnd->St->Prop):PQ:=fun e f σ=>match e with
 | .normal | .ret=>pres T f σ.bx fn.results.toList fun vs=>ZeY ag keep own (Ju vs) σ fun v σ'=>R (.ret v) σ'
 | .panic v=>ZeY ag keep own v σ fun v σ'=>R (.panic v) σ'
 | _=>False
abbrev Zzc (T:Tab) (fn:Func) (keep:Nat) (own:Bool) (R:PEnd->St->Prop):PQ:=Zuh false T fn keep own R
def Zeo:Nat->List PV->Frame
 | _,[]=>fun _=>.undef
 | i,v::vs=>Uc (Zeo (i+1) vs) i v
def Xs (fn : Func) : Code := match fn.body with | some c => c | none => .refuse ""
def WFG (ag:Bool) (C:Cx) (fn:Func) (keep:Nat) (own:Bool) (args:List PV) (σ:St) (R:PEnd->St->Prop):Prop :=
 W C (Xs fn) (Zuh ag C.T fn keep own R) (Zeo 0 args) σ
abbrev WF (C:Cx) (fn:Func) (keep:Nat) (own:Bool) (args:List PV) (σ:St) (R:PEnd->St->Prop):Prop:=WFG false C fn keep own args σ R
end Go.PM
end
