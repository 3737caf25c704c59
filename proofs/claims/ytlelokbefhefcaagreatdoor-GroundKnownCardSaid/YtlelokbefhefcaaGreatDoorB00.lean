/- A part of the proof: plain logic, contracts and laws over the given program. -/
import GoSem.Core.Program
import GoSem.Core.Utf8
import GoSem.Op.IntBits
import Derived.CallsIn
set_option linter.unusedVariables false
set_option linter.unusedSimpArgs false
set_option linter.all false
set_option maxRecDepth 100000
set_option maxHeartbeats 16000000
noncomputable section
section
def Ta.{u}:type_of% @List.length_append.{u}:=@List.length_append
def Tb.{u}:type_of% @List.getElem?_eq_getElem.{u}:=@List.getElem?_eq_getElem
def Tc:type_of% @Nat.le_of_ble_eq_true:=@Nat.le_of_ble_eq_true
def Td.{u,v}:type_of% @List.length_map.{u,v}:=@List.length_map
def Te.{u}:type_of% @List.length_cons.{u}:=@List.length_cons
def Tf.{u}:type_of% @if_neg.{u}:=@if_neg
def Tg.{u}:type_of% @List.length_nil.{u}:=@List.length_nil
def Th:type_of% @Int.toNat_natCast:=@Int.toNat_natCast
def Ti.{u,v}:type_of% @List.getElem?_map.{u,v}:=@List.getElem?_map
def Tj.{u}:type_of% @if_pos.{u}:=@if_pos
def Tk.{u}:type_of% @List.drop_eq_getElem_cons.{u}:=@List.drop_eq_getElem_cons
def Tl:type_of% @Bool.and_eq_true:=@Bool.and_eq_true
def Tm.{u}:type_of% @List.all_eq_true.{u}:=@List.all_eq_true
def Tn.{u}:type_of% @List.append_assoc.{u}:=@List.append_assoc
def To.{u}:type_of% @List.getElem?_eq_some_iff.{u}:=@List.getElem?_eq_some_iff
def Tp.{u}:type_of% @List.drop_eq_nil_of_le.{u}:=@List.drop_eq_nil_of_le
def Tq.{u}:type_of% @List.forall_mem_singleton.{u}:=@List.forall_mem_singleton
def Tr:type_of% @Nat.le_refl:=@Nat.le_refl
def Tt:type_of% @Nat.eq_of_beq_eq_true:=@Nat.eq_of_beq_eq_true
def Tu.{u}:type_of% @List.mem_cons.{u}:=@List.mem_cons
def Tv:type_of% @Bool.false_eq_true:=@Bool.false_eq_true
def Tw.{u}:type_of% @Array.getElem?_eq_some_iff.{u}:=@Array.getElem?_eq_some_iff
def Tx.{u}:type_of% @List.length_drop.{u}:=@List.length_drop
def Tz.{u,v}:type_of% @List.map_cons.{u,v}:=@List.map_cons
def TA:type_of% @Nat.lt_of_lt_of_le:=@Nat.lt_of_lt_of_le
def TB.{u,v}:type_of% @Option.map_eq_some_iff.{u,v}:=@Option.map_eq_some_iff
def TC.{u}:type_of% @List.getElem_mem.{u}:=@List.getElem_mem
def TD.{u}:type_of% @List.length_singleton.{u}:=@List.length_singleton
def TE.{u}:type_of% @List.mem_append.{u}:=@List.mem_append
def TF.{u}:type_of% @Array.getElem?_toList.{u}:=@Array.getElem?_toList
def TG.{u}:type_of% @List.mem_cons_of_mem.{u}:=@List.mem_cons_of_mem
def TH:type_of% @decide_eq_true_eq:=@decide_eq_true_eq
def TJ.{u,v}:type_of% @List.map_nil.{u,v}:=@List.map_nil
def TL.{u}:type_of% @List.drop_drop.{u}:=@List.drop_drop
def TM.{u}:type_of% @Array.getElem?_eq_getElem.{u}:=@Array.getElem?_eq_getElem
def TN:type_of% @Nat.le_trans:=@Nat.le_trans
def TP:type_of% @Bool.false_and:=@Bool.false_and
def TQ:type_of% @Int.add_sub_cancel:=@Int.add_sub_cancel
def TS.{u,v}:type_of% @List.map_append.{u,v}:=@List.map_append
def TT:type_of% @Bool.true_and:=@Bool.true_and
def TU.{u}:type_of% @List.eq_nil_of_length_eq_zero.{u}:=@List.eq_nil_of_length_eq_zero
def TV.{u}:type_of% @Array.mem_def.{u}:=@Array.mem_def
def TW.{u}:type_of% @List.append_nil.{u}:=@List.append_nil
def TX:type_of% @decide_eq_true:=@decide_eq_true
def TY.{u,v}:type_of% @Option.map_some.{u,v}:=@Option.map_some
def TZ:type_of% @Bool.not_eq_true':=@Bool.not_eq_true'
def T1.{u}:type_of% @List.mem_of_getElem?.{u}:=@List.mem_of_getElem?
def T2.{u}:type_of% @List.getD_eq_getElem?_getD.{u}:=@List.getD_eq_getElem?_getD
def T3.{u}:type_of% @List.getElem?_cons_succ.{u}:=@List.getElem?_cons_succ
def T4.{u}:type_of% @List.getElem?_append_left.{u}:=@List.getElem?_append_left
def T5.{u}:type_of% @List.getElem_of_mem.{u}:=@List.getElem_of_mem
def T6.{u}:type_of% @List.take_zero.{u}:=@List.take_zero
def T7.{u}:type_of% @List.take_length.{u}:=@List.take_length
def T8.{u}:type_of% @List.takeWhile_cons.{u}:=@List.takeWhile_cons
def T9.{u}:type_of% @List.cons_append.{u}:=@List.cons_append
def Sa:type_of% @Nat.zero_le:=@Nat.zero_le
def Sb.{u}:type_of% @Array.mem_of_getElem?.{u}:=@Array.mem_of_getElem?
def Sc.{u}:type_of% @List.getElem?_append_right.{u}:=@List.getElem?_append_right
def Sd.{u}:type_of% @List.length_eq_zero_iff.{u}:=@List.length_eq_zero_iff
def Se:type_of% @Bool.or_eq_false_iff:=@Bool.or_eq_false_iff
def Sf:type_of% @Nat.mul_le_mul_right:=@Nat.mul_le_mul_right
def Sg.{u}:type_of% @List.nil_append.{u}:=@List.nil_append
def Sh:type_of% @Bool.or_eq_true:=@Bool.or_eq_true
def Si:type_of% @Bool.or_false:=@Bool.or_false
def Sj.{u,v,w}:type_of% @List.map_map.{u,v,w}:=@List.map_map
def Sk:type_of% @Nat.zero_add:=@Nat.zero_add
def Sl.{u,v}:type_of% @List.foldl_append.{u,v}:=@List.foldl_append
def Sm.{u}:type_of% @List.drop_zero.{u}:=@List.drop_zero
def Sn.{u}:type_of% @Option.getD_some.{u}:=@Option.getD_some
def So.{u,v}:type_of% @List.map_congr_left.{u,v}:=@List.map_congr_left
def Sp.{u}:type_of% @List.getElem?_eq_none.{u}:=@List.getElem?_eq_none
def Sq.{u}:type_of% @Option.isSome_iff_exists.{u}:=@Option.isSome_iff_exists
def Sr.{u}:type_of% @List.not_mem_nil.{u}:=@List.not_mem_nil
def Ss.{u}:type_of% @List.getElem?_replicate.{u}:=@List.getElem?_replicate
def Su.{u,v}:type_of% @List.mem_map.{u,v}:=@List.mem_map
def Sv.{u}:type_of% @List.getD_cons_zero.{u}:=@List.getD_cons_zero
def Sw.{u}:type_of% @List.drop_length.{u}:=@List.drop_length
def Sx:type_of% @Bool.not_not:=@Bool.not_not
def Sy.{u}:type_of% @Array.getElem_of_mem.{u}:=@Array.getElem_of_mem
def Sz.{u}:type_of% @List.getD_cons_succ.{u}:=@List.getD_cons_succ
def SA.{u}:type_of% @List.any_cons.{u}:=@List.any_cons
def mq0 {P:Prop} (h:P:=by
 rw [ZlD] at h
 refine ⟨L,ts,rfl,ho,fp,fun x bo=>?_⟩
 rcases x with ⟨v2,ts2⟩ | ⟨r2,e2⟩
 rotate_left
 ·exact mq192
 rw [bo,R.bind_ok] at h
 intro a2 gd af
 have dq:=af.hi
 obtain ⟨v2a,v2b,v2c,v2d,v2e⟩:=v2
 conv=>whnf
 refine ⟨L,ts2,relWords,rfl,af,Or.inl ⟨rfl,rfl⟩,rfl,rfl,fun j hj ak=>?_,fun hj=>wN ?_⟩
 ·have pa:=JO hj
  have ah0:j<6:=by simpa [relWords] using pa.2
  have ge:=ak.hi
  clear pa
  rcases j with _ | j
  ·conv=>whnf
   refine W7 ?_
   refine W7 ?_
   refine ⟨L,ts2.tail,aggWords,rfl,ak,Or.inr ⟨rfl,rfl⟩,rfl,rfl,fun m hm bz=>?_,fun hm=>wN ?_⟩
   ·rw [ZdM hj hm,R.bind_ok] at h
    have hml:=JO hm
    have ah1:m<4:=by simpa [aggWords] using hml.2
    have rl:=bz.hi
    clear hml
    rcases m with _ | m
    ·conv=>whnf
     refine W7 ?_
     refine W7 ?_
     rw [Tj rfl] at h
     rw [Wo,Tj oM] at h
     refine ⟨L,ts2.tail.tail,rfl,bz,fun x qi=>?_⟩
     exact mq151
    conv=>whnf
    refine W7 ?_
    refine W7 ?_
    refine ZGi (fun _=>wN ?_) (fun g=>absurd g oM)
    rw [Tf oM] at h
    refine ⟨L,ts2.tail.tail,rfl,bz,fp,fun x jv=>?_⟩
    rcases x with ⟨v5,ts5⟩ | ⟨r5,e5⟩
    rotate_left
    ·exact mq177
    rw [jv,R.bind_ok] at h
    intro a5 lz cj
    have tv:=cj.hi
    obtain ⟨v5a,v5b,v5c,v5d,v5e⟩:=v5
    conv=>whnf
    refine ⟨rfl,rfl,Tc rfl,Tc rfl,wN ?_⟩
    repeat (refine ⟨rfl,?_⟩;conv=>whnf)
    refine ZGg (fun _=>wN ?_) (fun g=>absurd g oM)
    rw [Wo,Tj oM] at h
    refine ⟨L,ts5,rfl,cj,fun x qi=>?_⟩
    exact mq151
   rw [Zhg hj hm,R.bind_ok] at h
   rw [Tf oM] at h
   refine ⟨L,ts2.tail,rfl,ak,fp,fun x jv=>?_⟩
   rcases x with ⟨v5,ts5⟩ | ⟨r5,e5⟩
   rotate_left
   ·exact mq177
   rw [jv,R.bind_ok] at h
   intro a5 lz cj
   have tv:=cj.hi
   obtain ⟨v5a,v5b,v5c,v5d,v5e⟩:=v5
   conv=>whnf
   refine ⟨rfl,rfl,Tc rfl,Tc rfl,wN ?_⟩
   repeat (refine ⟨rfl,?_⟩;conv=>whnf)
   rw [Wo,Tf oM] at h
   exact h _ oM cj
  rw [ZdN hj,R.bind_ok] at h
  conv=>whnf
  refine W7 ?_
  refine W7 ?_
  refine ZGg (fun g=>absurd g oM) (fun _=>wN ?_)
  refine ZGi (fun _=>wN ?_) (fun g=>absurd g oM)
  rw [Tf oM] at h
  refine ⟨L,ts2.tail,rfl,ak,fp,fun x jv=>?_⟩
  rcases x with ⟨v5,ts5⟩ | ⟨r5,e5⟩
  rotate_left
  ·exact mq177
  rw [jv,R.bind_ok] at h
  intro a5 lz cj
  have tv:=cj.hi
  obtain ⟨v5a,v5b,v5c,v5d,v5e⟩:=v5
  conv=>whnf
  refine ⟨rfl,rfl,Tc rfl,Tc rfl,wN ?_⟩
  repeat (refine ⟨rfl,?_⟩;conv=>whnf)
  refine ZGg (fun g=>absurd g oM) (fun _=>wN ?_)
  rw [Wo,Tf oM] at h
  exact h _ oM cj
 refine ⟨L,ts2,rfl,af,wN ?_⟩
 rw [Zbo hj,R.bind_err] at h
 exact h _ _):P:=h
def mq1 {P:Prop} (h:P:=by
 conv=>whnf
 repeat (refine ⟨rfl,?_⟩;conv=>whnf)
 refine ⟨L,ts',rfl,cx,[[116,121,112,101]],rfl,sM,fun b ul=>?_⟩
 cases b with
 | true =>
  rw [Tj ul] at h
  have af:=cx.tl (YA ul)
  have dq:=af.hi
  have f9:=af.len
  conv=>whnf
  refine ⟨L,ts',rfl,cx,fun g=>wN ?_,fun g=>wN ?_⟩
  ·exact mq169
  have ai:¬tys.length=256:=by rw [Td] at g;omega
  rw [Tf ai] at h
  refine ⟨L,ts'.tail,rfl,af,fun x fd=>?_⟩
  rcases x with ⟨v3,ts3⟩ | ⟨r3,e3⟩
  rotate_left
  ·exact mq166
  rw [fd,R.bind_ok] at h
  intro a3 gg ak
  have ge:=ak.hi
  obtain ⟨v3a,v3b,v3c,v3d,v3e,v3f⟩:=v3
  conv=>whnf
  have je:=ak.len
  repeat (refine ⟨rfl,?_⟩;conv=>whnf)
  refine ⟨Tq.2 rfl,(show ((tys.map (Zs (Zb L en))).length+1) * 96<=2 ^ 47 by rw [Td];omega),(show (tys.map (Zs (Zb L en))).length+1<=2 ^ 47 by rw [Td];omega),wN ?_⟩
  repeat (refine ⟨rfl,?_⟩;conv=>whnf)
  refine ⟨⟨tys++[⟨v3a,v3b,v3c,v3d,v3e,v3f⟩],rels,rules,comps,inits,overs,a3,ts3,f,rfl,?_,ak,oM,oM,?_,h⟩,?_⟩
  ·rw [<- Zv (Zs (Zb L en)) tys];rfl
  ·simp only [Ta,TD];omega
  exact mq159
 | false =>
 rw [Tf (by rw [ul];simp)] at h
 conv=>whnf
 refine ⟨L,ts',rfl,cx,[[100,101,99,108]],rfl,sM,fun b um=>?_⟩
 cases b with
 | true =>
  rw [Tj um] at h
  have af:=cx.tl (YA um)
  have dq:=af.hi
  have f9:=af.len
  conv=>whnf
  refine ⟨L,ts',rfl,cx,fun g=>wN ?_,fun g=>wN ?_⟩
  ·exact mq169
  have ai:¬rels.length=256:=by rw [Td] at g;omega
  rw [Tf ai] at h
  refine ⟨L,ts'.tail,rfl,af,fun x fd=>?_⟩
  rcases x with ⟨v3,ts3⟩ | ⟨r3,e3⟩
  rotate_left
  ·exact mq166
  rw [fd,R.bind_ok] at h
  intro a3 gg ak
  have ge:=ak.hi
  obtain ⟨v3a,v3b,v3c,v3d,v3e,v3f⟩:=v3
  conv=>whnf
  have je:=ak.len
  repeat (refine ⟨rfl,?_⟩;conv=>whnf)
  refine ⟨Tq.2 rfl,(show ((rels.map (ZM (Zb L en))).length+1) * 56<=2 ^ 47 by rw [Td];omega),(show (rels.map (ZM (Zb L en))).length+1<=2 ^ 47 by rw [Td];omega),wN ?_⟩
  repeat (refine ⟨rfl,?_⟩;conv=>whnf)
  refine ⟨⟨tys,rels++[⟨v3a,v3b,v3c,v3d,v3e,v3f⟩],rules,comps,inits,overs,a3,ts3,f,rfl,?_,ak,oM,oM,?_,h⟩,?_⟩
  ·rw [<- Zv (ZM (Zb L en)) rels];rfl
  ·simp only [Ta,TD];omega
  exact mq159
 | false =>
 rw [Tf (by rw [um];simp)] at h
 conv=>whnf
 refine ⟨L,ts',rfl,cx,[[99,111,109,112]],rfl,sM,fun b uo=>?_⟩
 cases b with
 | true =>
  rw [Tj uo] at h
  have af:=cx.tl (YA uo)
  have dq:=af.hi
  have f9:=af.len
  conv=>whnf
  refine ⟨L,ts',rfl,cx,fun g=>wN ?_,fun g=>wN ?_⟩
  ·exact mq169
  have ai:¬comps.length=64:=by rw [Td] at g;omega
  rw [Tf ai] at h
  refine ⟨L,ts'.tail,rfl,af,fp,fun x fd=>?_⟩
  rcases x with ⟨v3,ts3⟩ | ⟨r3,e3⟩
  rotate_left
  ·exact mq166
  rw [fd,R.bind_ok] at h
  intro a3 gg ak
  have ge:=ak.hi
  obtain ⟨v3a,v3b,v3c,v3d,⟨v3g,v3h,v3i,v3j,v3k,v3l⟩,v3f⟩:=v3
  conv=>whnf
  have je:=ak.len
  repeat (refine ⟨rfl,?_⟩;conv=>whnf)
  refine ⟨Tq.2 rfl,(show ((comps.map (XK (Zb L en))).length+1) * 232<=2 ^ 47 by rw [Td];omega),(show (comps.map (XK (Zb L en))).length+1<=2 ^ 47 by rw [Td];omega),wN ?_⟩
  repeat (refine ⟨rfl,?_⟩;conv=>whnf)
  refine ⟨⟨tys,rels,rules,comps++[.mk v3a v3b v3c v3d (.mk v3g v3h v3i v3j v3k v3l) v3f],inits,overs,a3,ts3,f,rfl,?_,ak,oM,oM,?_,h⟩,?_⟩
  ·rw [<- Zv (XK (Zb L en)) comps];rfl
  ·simp only [Ta,TD];omega
  exact mq159
 | false =>
 rw [Tf (by rw [uo];simp)] at h
 conv=>whnf
 refine ⟨L,ts',rfl,cx,[[105,110,105,116]],rfl,sM,fun b uq=>?_⟩
 cases b with
 | true =>
  rw [Tj uq] at h
  have af:=cx.tl (YA uq)
  have dq:=af.hi
  have f9:=af.len
  conv=>whnf
  refine ⟨L,ts',rfl,cx,fun g=>wN ?_,fun g=>wN ?_⟩
  ·exact mq169
  have ai:¬inits.length=256:=by rw [Td] at g;omega
  rw [Tf ai] at h
  refine ⟨L,ts'.tail,rfl,af,wN ?_⟩
  rw [ZpI] at h
  refine ⟨L,ts'.tail,rfl,af,fun x fd=>?_⟩
  rcases x with ⟨v3,ts3⟩ | ⟨r3,e3⟩
  rotate_left
  ·rw [fd,R.bind_err,R.bind_err] at h;intro a9 d9;(conv=>whnf);exact h _ _
  rw [fd,R.bind_ok] at h
  intro a3 gg ak
  have ge:=ak.hi
  conv=>whnf
  refine ⟨L,ts3,rfl,ak,fun x me=>?_⟩
  rcases x with ⟨v4,ts4⟩ | ⟨r4,e4⟩
  rotate_left
  ·rw [me,R.bind_err,R.bind_err] at h;intro a9 d9;(conv=>whnf);exact h _ _
  rw [me,R.bind_ok] at h
  intro a4 my bz
  have rl:=bz.hi
  conv=>whnf
  refine ⟨L,ts4,rfl,bz,fun x jv=>?_⟩
  rcases x with ⟨v5,ts5⟩ | ⟨r5,e5⟩
  rotate_left
  ·rw [jv,R.bind_err,R.bind_err] at h;intro a9 d9;(conv=>whnf);exact h _ _
  rw [jv,R.bind_ok] at h
  intro a5 lz cj
  have tv:=cj.hi
  conv=>whnf
  refine ⟨L,ts5,rfl,cj,fun x qi=>?_⟩
  rcases x with ⟨v6,ts6⟩ | ⟨r6,e6⟩
  rotate_left
  ·rw [qi,R.bind_err,R.bind_err] at h;intro a9 d9;(conv=>whnf);exact h _ _
  rw [qi,R.bind_ok] at h
  intro a6 yq et
  have hb6:=et.hi
  conv=>whnf
  rw [R.bind_ok] at h
  have aff:=et.len
  refine ⟨Tq.2 rfl,(show ((inits.map (X0 (Zb L en))).length+1) * 64<=2 ^ 47 by rw [Td];omega),(show (inits.map (X0 (Zb L en))).length+1<=2 ^ 47 by rw [Td];omega),wN ?_⟩
  repeat (refine ⟨rfl,?_⟩;conv=>whnf)
  refine ⟨⟨tys,rels,rules,comps,inits++[⟨v3,v5,v6,ts'.tail.length⟩],overs,a6,ts6,f,rfl,?_,et,oM,oM,?_,h⟩,?_⟩
  ·rw [<- Zv (X0 (Zb L en)) inits];rfl
  ·simp only [Ta,TD];omega
  show ((L.length:Int) - a6).toNat<((L.length:Int) - a').toNat
  omega
 | false =>
 rw [Tf (by rw [uq];simp)] at h
 conv=>whnf
 refine ⟨L,ts',rfl,cx,[[111,118,101,114,114,105,100,101]],rfl,sM,fun b ur=>?_⟩
 cases b with
 | true =>
  rw [Tj ur] at h
  have af:=cx.tl (YA ur)
  have dq:=af.hi
  have f9:=af.len
  conv=>whnf
  refine ⟨L,ts',rfl,cx,fun g=>wN ?_,fun g=>wN ?_⟩
  ·exact mq169
  have ai:¬overs.length=256:=by rw [Td] at g;omega
  rw [Tf ai] at h
  refine ⟨L,ts'.tail,rfl,af,wN ?_⟩
  rw [ZpJ] at h
  refine ⟨L,ts'.tail,rfl,af,fun x fd=>?_⟩
  rcases x with ⟨v3,ts3⟩ | ⟨r3,e3⟩
  rotate_left
  ·rw [fd,R.bind_err,R.bind_err] at h;intro a9 d9;(conv=>whnf);exact h _ _
  rw [fd,R.bind_ok,R.bind_ok] at h
  intro a3 gg ak
  have ge:=ak.hi
  have je:=ak.len
  conv=>whnf
  refine ⟨Tq.2 rfl,(show ((overs.map (X1 (Zb L en))).length+1) * 24<=2 ^ 47 by rw [Td];omega),(show (overs.map (X1 (Zb L en))).length+1<=2 ^ 47 by rw [Td];omega),wN ?_⟩
  repeat (refine ⟨rfl,?_⟩;conv=>whnf)
  refine ⟨⟨tys,rels,rules,comps,inits,overs++[⟨v3,ts'.tail.length⟩],a3,ts3,f,rfl,?_,ak,oM,oM,?_,h⟩,?_⟩
  ·rw [<- Zv (X1 (Zb L en)) overs];rfl
  ·simp only [Ta,TD];omega
  exact mq159
 | false =>
 rw [Tf (by rw [ur];simp)] at h
 conv=>whnf
 refine ⟨L,ts',rfl,cx,fun b hn=>?_⟩
 cases b with
 | false =>
  rw [Tf (by rw [hn];simp)] at h
  conv=>whnf
  refine ⟨L,ts',rfl,cx,wN ?_⟩
  exact h _ _
 | true =>
 rw [Tj hn] at h
 conv=>whnf
 refine ⟨L,ts',rfl,cx,fun g=>wN ?_,fun g=>wN ?_⟩
 ·exact mq169
 have ai:¬rules.length=1024:=by rw [Td] at g;omega
 rw [Tf ai] at h
 refine Zi ?_
 rw [show a'+1 - 1=a' by omega]
 refine ⟨L,ts',rfl,cx,fp,fun x fd=>?_⟩
 rcases x with ⟨v3,ts3⟩ | ⟨r3,e3⟩
 rotate_left
 ·exact mq166
 rw [fd,R.bind_ok] at h
 intro a3 gg ak
 have ge:=ak.hi
 obtain ⟨v3a,v3b,v3c,v3d⟩:=v3
 conv=>whnf
 have je:=ak.len
 repeat (refine ⟨rfl,?_⟩;conv=>whnf)
 refine ⟨Tq.2 rfl,(show ((rules.map (ZQ (Zb L en))).length+1) * 72<=2 ^ 47 by rw [Td];omega),(show (rules.map (ZQ (Zb L en))).length+1<=2 ^ 47 by rw [Td];omega),wN ?_⟩
 repeat (refine ⟨rfl,?_⟩;conv=>whnf)
 refine ⟨⟨tys,rels,rules++[⟨v3a,v3b,v3c,v3d⟩],comps,inits,overs,a3,ts3,f,rfl,?_,ak,oM,oM,?_,h⟩,?_⟩
 ·rw [<- Zv (ZQ (Zb L en)) rules];rfl
 ·simp only [Ta,TD];omega
 exact mq159):P:=h
def mq2 {P:Prop} (h:P:=by
 refine ⟨oM,oM,oM,wN ?_⟩
 have ga:cut s (((a:Int)+2)).toNat ((e:Int)).toNat=Zd (s.drop a):=by rw [hst.2];congr 1 <;> omega
 refine ⟨true,⟨⟨?_,?_⟩,rfl,rfl⟩,fun h5 nn=>?_,fun h5=>?_⟩
 ·exact (congrArg (fun l:Bs=>l.all (XZ true)=true) ga).mpr dk
 ·exact (congrArg (fun l:Bs=>l.length<4294967281) ga).mpr (show _<_ by omega)
 ·have gc:Zd (s.drop a)=[]\/18446744073709551616<=Ww 16 (Zd (s.drop a)):=by rw [<- ga];exact h5
  exact mq154
 have gc:¬(Zd (s.drop a)=[]\/18446744073709551616<=Ww 16 (Zd (s.drop a))):=by rw [<- ga];exact h5
 simp only [not_or] at gc
 have tn:=WH (s.drop (a+ZH (s.drop a)))
 have ut:=WH (s.drop ((e:Int)).toNat)
 have vq:(pk (s.drop ((e:Int)).toNat)).1=(pk ((s.drop a).drop (ZH (s.drop a)))).1:=by rw [TL,<- hst.1];rfl
 have g6:Z1 (s.drop a)=if Zm (pk ((s.drop a).drop (ZH (s.drop a)))).1=true\/Zo (pk ((s.drop a).drop (ZH (s.drop a)))).1=true\/(W8 (s.drop a)=true/\16<(Zd (s.drop a)).length) then none else some (Ww 16 (Zd (s.drop a))):=by
  unfold Z1
  simp only [ic,if_true,Tv,if_false]
  rw [Tf gc.1,Tf gc.2]
 conv=>whnf
 refine ⟨⟨oM,oM⟩,wN ?_⟩
 refine ⟨⟨ut.1,oM⟩,wN ?_⟩
 refine ZGj (fun h6=>wN ?_) (fun h6=>wN ?_)
 ·exact mq179
 refine ZGj (fun h7=>wN ?_) (fun h7=>wN ?_)
 ·exact mq178
 have g7:¬Zm (pk ((s.drop a).drop (ZH (s.drop a)))).1=true/\¬Zo (pk ((s.drop a).drop (ZH (s.drop a)))).1=true:=by
  exact mq174
 refine Zi ?_
 refine ZGg (fun h8=>wN ?_) (fun h8=>wN ?_)
 ·(try (refine ⟨rfl,?_⟩;conv=>whnf))
  (try (refine ⟨rfl,?_⟩;conv=>whnf))
  exact dl (by rw [g6,Tj (.inr (.inr ⟨ic,oM⟩))])
 have g9:=d7 _ (by rw [g6,Tf (by simp only [not_or];exact ⟨g7.1,g7.2,oM⟩)])
 rw [<- hst.1,<- ga] at g9
 exact Or.inr g9):P:=h
def mq3 {P:Prop} (h:P:=by
 have o8:¬(3<=a1/\a1<=8):=oM
 refine ZGg (fun adx=>wN ?_) (fun adx=>wN ?_)
 ·have h9:a1=9:=by omega
  refine ZGg (fun hr=>?_) (fun hr=>?_)
  rotate_left
  ·have j5:YY a1 a2 a3.length a4.length=false:=by simp [YY,h9,hr]
   conv=>whnf
   exact mq180
  conv=>whnf
  refine ZGg (fun hA=>?_) (fun hA=>?_)
  rotate_left
  ·have hA:¬a3.length=1:=fun g=>hA (by show ((Ze pl a3).length:Int)=1;rw [dc,g];rfl)
   have j5:YY a1 a2 a3.length a4.length=false:=by simp [YY,h9,hA]
   conv=>whnf
   exact mq180
  have hA:a3.length=1:=by have hA:((Ze pl a3).length:Int)=1:=hA;rw [dc] at hA;omega
  conv=>whnf
  refine ZGg (fun hB=>wN ?_) (fun hB=>wN ?_)
  ·have hB:=ru.1 hB
   have j5:YY a1 a2 a3.length a4.length=true:=by simp [YY,h9,hr,hA,hB]
   exact mq152
  have hB:¬0<a4.length:=fun g=>hB (ru.2 g)
  have j5:YY a1 a2 a3.length a4.length=false:=by simp only [YY,h9,hr,hA,decide_eq_false hB];simp
  exact mq180
 have zu:¬a1=9:=oM
 refine ZGg (fun hg9=>wN ?_) (fun hg9=>wN ?_)
 ·refine ZGg (fun ady=>wN ?_) (fun ady=>wN ?_)
  ·have uv:9<a1/\a1<=12:=by omega
   refine ZGg (fun hr=>?_) (fun hr=>?_)
   rotate_left
   ·have j5:YY a1 a2 a3.length a4.length=false:=by simp [YY,jx,o8,zu,uv,hr]
    conv=>whnf
    exact mq180
   conv=>whnf
   refine ZGg (fun hA=>?_) (fun hA=>?_)
   rotate_left
   ·have hA:¬a3.length=2:=fun g=>hA (by show ((Ze pl a3).length:Int)=2;rw [dc,g];rfl)
    have j5:YY a1 a2 a3.length a4.length=false:=by simp [YY,jx,o8,zu,uv,hA]
    conv=>whnf
    exact mq180
   have hA:a3.length=2:=by have hA:((Ze pl a3).length:Int)=2:=hA;rw [dc] at hA;omega
   conv=>whnf
   refine ZGg (fun hB=>wN ?_) (fun hB=>wN ?_)
   ·have hB:=ru.1 hB
    have j5:YY a1 a2 a3.length a4.length=true:=by simp [YY,jx,o8,zu,uv,hr,hA,hB]
    exact mq152
   have hB:¬0<a4.length:=fun g=>hB (ru.2 g)
   have j5:YY a1 a2 a3.length a4.length=false:=by simp only [YY,jx,o8,zu,uv,hr,hA,decide_eq_false hB];simp
   exact mq180
  have uv:¬(9<a1/\a1<=12):=by omega
  exact mq194
 have uv:¬(9<a1/\a1<=12):=oM
 exact mq194):P:=h
def mq4 {P:Prop} (h:P:=by
 refine ZGg (fun h1=>?_) (fun h1=>?_)
 rotate_left
 ·exact mq190
 conv=>whnf
 refine ZGg (fun h2=>wN ?_) (fun h2=>wN ?_)
 ·refine ZGg (fun h3=>wN ?_) (fun h3=>wN ?_)
  ·exact mq187
  refine ZGg (fun h5=>?_) (fun h5=>?_)
  rotate_left
  ·exact mq158
  have h5:a1=3:=oM
  have jz:(decide (a3=0) || decide (a1=3))=true:=by simp [h5]
  exact mq182
 refine ZGg (fun h6=>?_) (fun h6=>?_)
 rotate_left
 ·exact mq162
 have h6:(a4.length:Int)=a:=by rw [<- ei];exact h6
 conv=>whnf
 refine ZGg (fun h3=>wN ?_) (fun h3=>wN ?_)
 ·exact mq186
 refine ZGg (fun h5=>?_) (fun h5=>?_)
 rotate_left
 ·exact mq158
 have h5:a1=3:=oM
 have jz:(decide (a3=0) || decide (a1=3))=true:=by simp [h5]
 exact mq181):P:=h
def mq5 {P:Prop} (h:P:=by
 refine ⟨oM,oM,oM,wN ?_⟩
 have ga:cut s ((a:Int)).toNat ((e:Int)).toNat=Zd (s.drop a):=by rw [hst.2];congr 1 <;> omega
 refine ⟨false,⟨⟨?_,?_⟩,rfl,rfl⟩,fun h5 nn=>?_,fun h5=>?_⟩
 ·exact (congrArg (fun l:Bs=>l.all (XZ false)=true) ga).mpr dk
 ·exact (congrArg (fun l:Bs=>l.length<4294967281) ga).mpr (show _<_ by omega)
 ·have gc:Zd (s.drop a)=[]\/9223372036854775808<=Ww 10 (Zd (s.drop a)):=by rw [<- ga];exact h5
  exact mq154
 have gc:¬(Zd (s.drop a)=[]\/9223372036854775808<=Ww 10 (Zd (s.drop a))):=by rw [<- ga];exact h5
 simp only [not_or] at gc
 have tn:=WH (s.drop (a+ZH (s.drop a)))
 have ut:=WH (s.drop ((e:Int)).toNat)
 have vq:(pk (s.drop ((e:Int)).toNat)).1=(pk ((s.drop a).drop (ZH (s.drop a)))).1:=by rw [TL,<- hst.1];rfl
 have g6:Z1 (s.drop a)=if Zm (pk ((s.drop a).drop (ZH (s.drop a)))).1=true\/Zo (pk ((s.drop a).drop (ZH (s.drop a)))).1=true\/(W8 (s.drop a)=true/\16<(Zd (s.drop a)).length) then none else some (Ww 10 (Zd (s.drop a))):=by
  unfold Z1
  simp only [ic,if_true,Tv,if_false]
  rw [Tf gc.1,Tf gc.2]
 conv=>whnf
 refine ⟨⟨oM,oM⟩,wN ?_⟩
 refine ⟨⟨ut.1,oM⟩,wN ?_⟩
 refine ZGj (fun h6=>wN ?_) (fun h6=>wN ?_)
 ·exact mq179
 refine ZGj (fun h7=>wN ?_) (fun h7=>wN ?_)
 ·exact mq178
 have g7:¬Zm (pk ((s.drop a).drop (ZH (s.drop a)))).1=true/\¬Zo (pk ((s.drop a).drop (ZH (s.drop a)))).1=true:=by
  exact mq174
 have g9:=d7 _ (by rw [g6,Tf (by simp only [not_or];exact ⟨g7.1,g7.2,by rw [ic];simp⟩)])
 rw [<- hst.1,<- ga] at g9
 exact Or.inr g9):P:=h
def mq6 {P:Prop} (h:P:=by
 refine ZGg (fun h1=>?_) (fun h1=>?_)
 rotate_left
 ·exact mq190
 conv=>whnf
 refine ZGg (fun h2=>wN ?_) (fun h2=>wN ?_)
 ·exact mq155
 refine ZGg (fun h6=>?_) (fun h6=>?_)
 rotate_left
 ·exact mq162
 have h6:(a4.length:Int)=a:=by rw [<- ei];exact h6
 conv=>whnf
 exact mq155):P:=h
def mq7 {P:Prop} (h:P:=by
 unfold Xx at h
 split at h
 ·obtain ⟨pl,l,rfl,⟨rfl,hz,hn⟩,h⟩:=h
  refine pwv [] 0 false ?_
  refine ⟨pl,l,rfl,⟨rfl,rfl,hz,hn⟩,fun b hb=>wN ?_⟩
  exact h _ (by rw [<- hb,Sx])
 exact h.elim):P:=h
def mq8 {P:Prop} (h:P:=by
 exact mq152):P:=h
def mq9 {P:Prop} (h:P:=by
 refine ⟨⟨0,n+1,_,rfl,rfl,oM,⟨hM1,by rw [Sm];omega⟩,hF⟩,?_⟩
 rintro w σ1 ⟨j,n1,M1,rfl,rfl,hj,⟨ug,kj⟩,ha⟩
 conv=>whnf
 refine ZGg (fun hc=>?_) (fun hc=>?_)
 rotate_left
 ·have hc:¬(j:Int)<((fs.map Zn).length:Int):=hc
  rw [Td] at hc
  rw [Tp oM] at ha
  have ha:M1=F:=ha
  subst ha
  conv=>whnf
  exact h
 have aa:j<fs.length:=by have hc:(j:Int)<((fs.map Zn).length:Int):=hc;rw [Td] at hc;omega
 have av:j<eargs.length:=oM
 rw [Tk aa,Tk av] at ha
 simp only [ZaX] at ha
 have hk:=rk j _ _ (Tb av) (Tb aa)
 have o4:(fs.map Zn)[(j:Int).toNat]?=some (Zn fs[j]):=by rw [Th,Ti,Tb aa];rfl
 have m9:(Ze pl eargs)[(j:Int).toNat]?=some (ZF pl eargs[j]):=by rw [Zc,Th,Ti,Tb av];rfl
 have dy:=ZD szE eargs j av
 have iw:=ZcL (f:=szE) (Tb av)
 have hμ:((eargs.length:Int) - ((j:Int)+1)).toNat<((eargs.length:Int) - (j:Int)).toNat:=oM
 generalize fs[j]=f0 at ha hk o4
 generalize eargs[j]=x0 at ha hk m9 dy iw
 obtain ⟨f1,f2⟩:=f0
 obtain ⟨x1,x2,x3,x4,x5⟩:=x0
 conv=>whnf
 refine ⟨_,oM,o4,wN ?_⟩
 refine ⟨_,oM,m9,wN ?_⟩
 refine ⟨oM,pl,p,r,vs,more,.mk x1 x2 x3 x4 x5,M1,n1,rfl,rfl,rfl,hp,⟨oM,oM⟩,hk,⟨ug,oM⟩,wN ?_⟩
 have hM3:=ZaH (wiE p (.mk x1 x2 x3 x4 x5) f2) ug
 have hwl:=Zhy p (.mk x1 x2 x3 x4 x5) f2
 rw [Wv,Sl] at ha
 (repeat (refine ⟨rfl,?_⟩;conv=>whnf))
 refine Zi ?_
 exact ⟨⟨j+1,n1+(wiE p (.mk x1 x2 x3 x4 x5) f2).length,_,rfl,rfl,oM,⟨hM3,oM⟩,ha⟩,hμ⟩):P:=h
def mq10 {P:Prop} (h:P:=by
 have pt:=ZiD hd oM
 conv=>whnf
 refine ZGg (fun g1=>wN ?_) (fun g1=>?_)
 ·refine ZGg (fun g2=>wN ?_) (fun g2=>?_)
  ·refine W7 ?_
   refine W7 ?_
   have hD:(ZgY b:Int)=Zj .or .u8 (b.toNat:Int) 32 - 97+10:=oM
   refine W7 ?_
   refine ZGg (fun h6=>?_) (fun h6=>wN ?_)
   ·omega
   refine ZGg (fun h7=>wN ?_) (fun h7=>wN ?_)
   ·exact rj oM
   refine ZaV ?_
   refine ZaV ?_
   refine ZaV ?_
   by_cases dj:(N:Int) * 16+(Zj .or .u8 (b.toNat:Int) 32 - 97+10)<=18446744073709551615
   ·refine ZaV ?_
    refine ZGg (fun h8=>?_) (fun h8=>wN ?_)
    ·omega
    refine ZGg (fun h9=>wN ?_) (fun h9=>wN ?_)
    ·exact rj oM
    refine Zi ?_
    refine ⟨⟨rfl,i+1,?_,oM,oM⟩,?_⟩
    ·have e:((Ww 16 (l.take (i+1)):Nat):Int)=(N:Int) * 16+(Zj .or .u8 (b.toNat:Int) 32 - 97+10):=by omega
     rw [e];rfl
    exact mq176
   have hw:IntKind.u64.wrap ((N:Int) * 16+(Zj .or .u8 (b.toNat:Int) 32 - 97+10))=(N:Int) * 16+(Zj .or .u8 (b.toNat:Int) 32 - 97+10) - 18446744073709551616:=by
    exact mq188
   exact mq185
  omega
 omega):P:=h
def mq11 {P:Prop} (h:P:=by
 refine ⟨⟨0,rfl,rfl,oM,hX⟩,?_⟩
 rintro w σ1 ⟨j,rfl,rfl,hj,ha⟩
 conv=>whnf
 refine ZGg (fun hc=>?_) (fun hc=>?_)
 rotate_left
 ·have hc:¬(j:Int)<((fs.map Zn).length:Int):=hc
  rw [Td] at hc
  rw [Tp oM] at ha
  have ha:none=X:=ha
  subst ha
  conv=>whnf
  exact h
 have aa:j<fs.length:=by have hc:(j:Int)<((fs.map Zn).length:Int):=hc;rw [Td] at hc;omega
 have av:j<eargs.length:=oM
 rw [Tk aa,Tk av] at ha
 simp only [ZaX] at ha
 have hk:=rk j _ _ (Tb av) (Tb aa)
 have o4:(fs.map Zn)[(j:Int).toNat]?=some (Zn fs[j]):=by rw [Th,Ti,Tb aa];rfl
 have m9:(Ze pl eargs)[(j:Int).toNat]?=some (ZF pl eargs[j]):=by rw [Zc,Th,Ti,Tb av];rfl
 have dy:=ZD szE eargs j av
 have hμ:((eargs.length:Int) - ((j:Int)+1)).toNat<((eargs.length:Int) - (j:Int)).toNat:=oM
 generalize fs[j]=f0 at ha hk o4
 generalize eargs[j]=x0 at ha hk m9 dy
 obtain ⟨f1,f2⟩:=f0
 obtain ⟨x1,x2,x3,x4,x5⟩:=x0
 conv=>whnf
 refine ⟨_,oM,o4,wN ?_⟩
 refine ⟨_,oM,m9,wN ?_⟩
 refine ⟨oM,pl,p,r,vs,more,.mk x1 x2 x3 x4 x5,M,kn,rfl,rfl,rfl,hp,⟨oM,oM⟩,hk,lm,fun y hy=>?_⟩
 rw [WJ,hy] at ha
 cases y with
 | some ae =>
  obtain ⟨a,e⟩:=ae
  simp only [orF] at ha
  subst ha
  simp only [FlK] at h |-
  conv=>whnf
  exact h
 | none =>
 simp only [FlK,orF] at ha |-
 conv=>whnf
 (repeat (refine ⟨rfl,?_⟩;conv=>whnf))
 refine Zi ?_
 exact ⟨⟨j+1,rfl,rfl,oM,ha⟩,hμ⟩):P:=h
def mq12 {P:Prop} (h:P:=by
 refine ⟨fun _=>0,a1,rfl,⟨by simp only [wBs];omega,oM⟩,fun b eh=>?_⟩
 cases b with
 | false =>
  conv=>whnf
  exact h _ (by simp [Yi,eh])
 | true =>
 conv=>whnf
 refine ⟨pl,a2,rfl,⟨rfl,oM,oM⟩,fun b gx=>?_⟩
 cases b with
 | false =>
  conv=>whnf
  exact h _ (by simp [Yi,eh,gx])
 | true =>
 conv=>whnf
 refine ⟨pl,a4,rfl,⟨rfl,oM,oM⟩,fun b ff=>?_⟩
 cases b with
 | false =>
  conv=>whnf
  exact h _ (by simp [Yi,eh,gx,ff])
 | true =>
 conv=>whnf
 refine ⟨pl,.mk u1 u2 u3 u4 u5 u6,rfl,⟨oM,oM⟩,fun b hu=>wN ?_⟩
 exact h _ (by simp only [Yi,lg,eh,gx,ff,hu,TT])):P:=h
def mq13 {P:Prop} (h:P:=by
 rcases x with ⟨v3,ts3⟩ | ⟨r3,e3⟩
 rotate_left
 ·exact mq166
 rw [fd,R.bind_ok] at h
 intro a3 gg ak
 have ge:=ak.hi
 conv=>whnf
 refine Zi ?_
 rw [TQ]
 exact h _ oM ak):P:=h
def mq14 {P:Prop} (h:P:=by
 have hr:(Ze pl e4)[(j:Int).toNat]?=some (ZF pl e4[j]):=by rw [Th,Zc,Ti,Tb aa];rfl
 have hg:=YC e4 j aa
 have hμ:((e4.length:Int) - ((j:Int)+1)).toNat<((e4.length:Int) - (j:Int)).toNat:=oM
 generalize e4[j]=x at hd hr hg
 rw [hd] at h1 h2 ha
 obtain ⟨b1,b2,b3,b4,b5⟩:=x
 conv=>whnf
 refine ⟨_,oM,hr,wN ?_⟩
 refine ⟨oM,pl,.mk b1 b2 b3 b4 b5,M,rfl,rfl,⟨oM,oM⟩,fun ho=>wN ?_,fun y ho=>wN ?_⟩
 ·rw [ho] at ha
  refine Zi ?_
  exact ⟨⟨j+1,rfl,rfl,oM,ha⟩,hμ⟩
 rw [ho] at h2
 have h2:=h2 _ rfl
 exact h2):P:=h
def mq15 {P:Prop} (h:P:=by
 cases b with
 | false =>
  rw [Zp,Tf (by rw [cz];simp),R.bind_err] at h
  exact mq195
 | true =>
 rw [Zp,Tj cz] at h
 conv=>whnf
 refine ZGg (fun hc=>wN ?_) (fun hc=>wN ?_)
 ·rw [Tj oM,R.bind_err] at h
  refine ⟨L,ts,rfl,ho,wN ?_⟩
  exact h _ _
 rw [Tf oM] at h
 refine ⟨L,ts,rfl,ho,fun x hx=>?_⟩
 rw [ZP,Tj cz] at hx
 subst hx
 intro a1 ek ah
 have bv:=ah.hi
 conv=>whnf
 refine Zi ?_
 refine ⟨_,fun _ _ h=>h,Tc rfl,wN ?_⟩
 refine ⟨L,ts.tail,rfl,ah,⟨oM,oM,oM⟩,fun x bo=>?_⟩
 rcases x with ⟨v2,ts2⟩ | ⟨r2,e2⟩
 rotate_left
 ·exact mq192
 rw [bo,R.bind_ok] at h
 intro a2 gd af
 have dq:=af.hi
 obtain ⟨v2a,v2b,v2c,v2d,v2e⟩:=v2
 conv=>whnf
 repeat (refine ⟨rfl,?_⟩;conv=>whnf)
 rw [Tj rfl,R.bind_ok] at h
 refine Zi ?_
 rw [TQ]
 exact h _ oM af):P:=h
def mq16 {P:Prop} (h:P:=by
 refine ⟨L,ts1,rfl,ah,fp,fun x hx=>?_⟩
 rw [hx] at step
 cases x with
 | err r e =>
  exact mq167
 | ok v ts2 =>
 rw [R.bind_ok] at step
 intro a2 am af
 have cy:=af.len
 have ql:=af.hi
 obtain ⟨v1,v2,v3,v4,v5⟩:=v
 conv=>whnf
 refine ⟨Tq.2 rfl,(show ((l.map (YQ (Zb L en))).length+1) * 80<=2 ^ 47 by rw [Td];omega),(show (l.map (YQ (Zb L en))).length+1<=2 ^ 47 by rw [Td];omega),wN ?_⟩
 refine ⟨L,ts2,rfl,af,[[44]],rfl,sM,fun hw ak=>wN ?_,fun hw=>wN ?_⟩
 ·rw [Tj hw] at step
  have dc:=ak.len
  refine ⟨⟨_,a2+1,ts2.tail,f,congrArg (fun r=>[PV.sl 0 30 r]) (Zv (YQ (Zb L en)) l (.mk v1 v2 v3 v4 v5)),rfl,ak,by simp only [Ta,TD];omega,oM,step⟩,?_⟩
  exact mq165
 rw [Tf (by rw [hw];simp)] at step
 rw [step] at h
 exact Zsl (h a2 oM af) (congrArg (fun r=>PEnd.ret (PV.d (D.sl r))) (Zv (YQ (Zb L en)) l (.mk v1 v2 v3 v4 v5)).symm) rfl):P:=h
def mq17 {P:Prop} (h:P:=by
 refine ⟨L,ts1,rfl,ah,fp,fun x hx=>?_⟩
 rw [hx] at step
 cases x with
 | err r e =>
  exact mq167
 | ok v ts2 =>
 rw [R.bind_ok] at step
 intro a2 am af
 have cy:=af.len
 have ql:=af.hi
 obtain ⟨v1,v2,v3,v4,v5⟩:=v
 conv=>whnf
 refine ⟨Tq.2 rfl,(show ((l.map (ZF (Zb L en))).length+1) * 64<=2 ^ 47 by rw [Td];omega),(show (l.map (ZF (Zb L en))).length+1<=2 ^ 47 by rw [Td];omega),wN ?_⟩
 refine ⟨L,ts2,rfl,af,[[44]],rfl,sM,fun hw ak=>wN ?_,fun hw=>wN ?_⟩
 ·rw [Tj hw] at step
  have dc:=ak.len
  refine ⟨⟨_,a2+1,ts2.tail,f,congrArg (fun r=>[PV.sl 0 25 r]) (Zv (ZF (Zb L en)) l (.mk v1 v2 v3 v4 v5)),rfl,ak,by simp only [Ta,TD];omega,oM,step⟩,?_⟩
  exact mq165
 rw [Tf (by rw [hw];simp)] at step
 rw [step] at h
 exact Zsl (h a2 oM af) (congrArg (fun r=>PEnd.ret (PV.d (D.sl r))) (Zv (ZF (Zb L en)) l (.mk v1 v2 v3 v4 v5)).symm) rfl):P:=h
def mq18 {P:Prop} (h:P:=by
 exact mq166):P:=h
def mq19 {P:Prop} (h:P:=by
 refine ⟨L,ts1,rfl,ah,fun x hx=>?_⟩
 rw [hx] at step
 cases x with
 | err r e =>
  exact mq167
 | ok v ts2 =>
 rw [R.bind_ok] at step
 intro a2 am af
 have cy:=af.len
 have ql:=af.hi
 obtain ⟨v1,v2⟩:=v
 conv=>whnf
 refine ⟨Tq.2 rfl,(show ((l.map (Zy)).length+1) * 40<=2 ^ 47 by rw [Td];omega),(show (l.map (Zy)).length+1<=2 ^ 47 by rw [Td];omega),wN ?_⟩
 refine ⟨L,ts2,rfl,af,[[124]],rfl,sM,fun hw ak=>wN ?_,fun hw=>wN ?_⟩
 ·rw [Tj hw] at step
  have dc:=ak.len
  refine ⟨⟨_,a2+1,ts2.tail,f,congrArg (fun r=>[PV.sl 0 151 r]) (Zv (Zy) l _),rfl,ak,by simp only [Ta,TD];omega,oM,step⟩,?_⟩
  exact mq165
 rw [Tf (by rw [hw];simp)] at step
 rw [step] at h
 exact Zsl (h a2 oM af) (congrArg (fun r=>PEnd.ret (PV.d (D.sl r))) (Zv (Zy) l _).symm) rfl):P:=h
def mq20 {P:Prop} (h:P:=by
 refine ⟨L,ts1,rfl,ah,fun x hx=>?_⟩
 rw [hx] at step
 cases x with
 | err r e =>
  exact mq167
 | ok v ts2 =>
 rw [R.bind_ok] at step
 intro a2 am af
 have cy:=af.len
 have ql:=af.hi
 obtain ⟨v1,v2⟩:=v
 conv=>whnf
 refine ⟨Tq.2 rfl,(show ((l.map (Zn)).length+1) * 32<=2 ^ 47 by rw [Td];omega),(show (l.map (Zn)).length+1<=2 ^ 47 by rw [Td];omega),wN ?_⟩
 refine ⟨L,ts2,rfl,af,[[44]],rfl,sM,fun hw ak=>wN ?_,fun hw=>wN ?_⟩
 ·rw [Tj hw] at step
  have dc:=ak.len
  refine ⟨⟨_,a2+1,ts2.tail,f,congrArg (fun r=>[PV.sl 0 192 r]) (Zv (Zn) l _),rfl,ak,by simp only [Ta,TD];omega,oM,step⟩,?_⟩
  exact mq165
 rw [Tf (by rw [hw];simp)] at step
 rw [step] at h
 exact Zsl (h a2 oM af) (congrArg (fun r=>PEnd.ret (PV.d (D.sl r))) (Zv (Zn) l _).symm) rfl):P:=h
def mq21 {P:Prop} (h:P:=by
 refine ⟨L,ts1,rfl,ah,fun x hx=>?_⟩
 rw [hx] at step
 cases x with
 | err r e =>
  exact mq167
 | ok v ts2 =>
 rw [R.bind_ok] at step
 intro a2 am af
 have cy:=af.len
 have ql:=af.hi
 skip
 conv=>whnf
 refine ⟨Tq.2 rfl,(show ((l.map (Yh)).length+1) * 16<=2 ^ 47 by rw [Td];omega),(show (l.map (Yh)).length+1<=2 ^ 47 by rw [Td];omega),wN ?_⟩
 refine ⟨L,ts2,rfl,af,[[44]],rfl,sM,fun hw ak=>wN ?_,fun hw=>wN ?_⟩
 ·rw [Tj hw] at step
  have dc:=ak.len
  refine ⟨⟨_,a2+1,ts2.tail,f,congrArg (fun r=>[PV.sl 0 9 r]) (Zv (Yh) l _),rfl,ak,by simp only [Ta,TD];omega,oM,step⟩,?_⟩
  exact mq165
 rw [Tf (by rw [hw];simp)] at step
 rw [step] at h
 exact Zsl (h a2 oM af) (congrArg (fun r=>PEnd.ret (PV.d (D.sl r))) (Zv (Yh) l _).symm) rfl):P:=h
def mq22 {P:Prop} (h:P:=by
 refine ⟨fun _=>0,a2,rfl,⟨by simp only [wBs];omega,oM⟩,fun b eh=>?_⟩
 cases b with
 | false =>
  conv=>whnf
  exact h _ (by simp [Yo,l4,eh])
 | true =>
 conv=>whnf
 refine ⟨pl,a4,rfl,⟨rfl,oM,oM⟩,fun b gx=>?_⟩
 cases b with
 | false =>
  conv=>whnf
  exact h _ (by simp [Yo,l4,eh,gx])
 | true =>
 conv=>whnf
 refine ⟨pl,a5,rfl,⟨rfl,oM,oM⟩,fun b ff=>wN ?_⟩
 exact h _ (by simp only [Yo,l4,eh,gx,ff,TT])):P:=h
def mq23 {P:Prop} (h:P:=by
 rw [hp,TT] at hs
 conv=>whnf
 refine Zi ?_
 refine ⟨⟨i+1,rfl,rfl,oM,hs⟩,?_⟩
 exact lzM oM):P:=h
def mq24 {P:Prop} (h:P:=by
 refine ⟨⟨0,M,rfl,rfl,oM,rfl⟩,?_⟩
 rintro vs σ1 ⟨j,M',rfl,rfl,hj,ha⟩
 conv=>whnf
 refine ZGg (fun hc=>?_) (fun hc=>?_)
 rotate_left
 ·have ez:e4.length<=j:=by have hc:¬(j:Int)<((Ze pl e4).length:Nat):=hc;omega
  rw [Tp ez] at ha
  rw [<- ha] at h
  conv=>whnf
  exact h
 have aa:j<e4.length:=by have hc:(j:Int)<((Ze pl e4).length:Nat):=hc;omega
 rw [ZbB aa] at ha
 have hr:(Ze pl e4)[(j:Int).toNat]?=some (ZF pl e4[j]):=by rw [Th,Zc,Ti,Tb aa];rfl
 have hg:=YC e4 j aa
 have hμ:((e4.length:Int) - ((j:Int)+1)).toNat<((e4.length:Int) - (j:Int)).toNat:=oM
 generalize e4[j]=x at ha hr hg
 obtain ⟨b1,b2,b3,b4,b5⟩:=x
 conv=>whnf
 refine ⟨_,oM,hr,wN ?_⟩
 refine ⟨oM,pl,.mk b1 b2 b3 b4 b5,M',rfl,rfl,⟨oM,oM⟩,wN ?_⟩
 refine Zi ?_
 exact ⟨⟨j+1,_,rfl,rfl,oM,ha⟩,hμ⟩):P:=h
def mq25 {P:Prop} (h:P:=by
 exact ⟨_,h,by rw [ZZ,Op.equalIn];simp [Za fh],ZK rfl,rfl⟩):P:=h
def mq26 {P:Prop} (h:P:=by
 exact mq195):P:=h
def mq27 {P:Prop} (h:P:=by
 have ab:l.length<=i:=lzG hlen ab
 rw [Wt _ ab] at hs
 exact h _ (by rw [hs];simp)):P:=h
def mq28 {P:Prop} (h:P:=by
 conv=>whnf
 refine Zi ?_
 refine ⟨⟨i+1,_,rfl,(by rw [ip,hT];simp only [Tn];rfl),.inr rfl,oM⟩,?_⟩
 exact lzM oM):P:=h
def mq29 {P:Prop} (h:P:=by
 generalize l[j]=x at hs hr
 obtain ⟨x1,x2,x3,x4,x5,x6⟩:=x
 conv=>whnf
 refine ⟨_,oM,hr,wN ?_⟩
 refine ⟨pl,_,rfl,wN ?_⟩
 refine ZGp (fun v hv=>?_) (fun hv=>wN ?_)
 ·rw [ZI] at hv
  obtain ⟨n,hn,rfl⟩:=TB.1 hv
  rw [Tf (by rw [show lkM _ _=some n from hn];simp)] at hs
  conv=>whnf
  refine Zi ?_
  exact ⟨⟨j+1,rfl,by rw [hs];rfl,oM⟩,by show ((l.length:Int) - ((j:Int)+1)).toNat<((l.length:Int) - (j:Int)).toNat;omega⟩
 rw [ZI,Option.map_eq_none_iff] at hv
 rw [Tj (by rw [show lkM _ _=none from hv];rfl)] at hs
 refine ⟨pl,_,rfl,wN ?_⟩
 refine Zi ?_
 exact ⟨⟨j+1,rfl,by rw [hs,<- XN];rfl,oM⟩,by show ((l.length:Int) - ((j:Int)+1)).toNat<((l.length:Int) - (j:Int)).toNat;omega⟩):P:=h
def mq30 {P:Prop} (h:P:=by
 intro j x hx
 have hj:=(To.1 hx).1
 have cd:(Zl l)[j]?=some [.int .u8 x.toNat]:=by simp [Zl,hx]
 generalize hrr:Zl l=rr at hd cd
 have hlen:rr.length=l.length:=by rw [<- hrr];simp [Zl]
 generalize hvv:Value.slice (some ⟨g,0,none⟩) l.length cap=vv at hd
 cases hd with
 | slnil=>simp at cd
 | slz=>simp at cd
 | sl _ _ _ _ sz u hcap hsz hc ho hu =>
 simp only [Value.slice.injEq,Option.some.injEq,Addr.mk.injEq] at hvv
 obtain ⟨⟨rfl,rfl,_⟩,_,rfl⟩:=hvv
 have j8:sz=1:=by
  have:=hsz _ (T1 cd);simpa using this.symm
 subst j8
 have h1:=hc j 0 oM oM
 have h2:=hu j 0 (.int .u8 x.toNat) (by rw [cd];rfl)
 generalize huu:u j 0=uu at h1 h2;cases h2
 simpa using h1):P:=h
def mq31 {P:Prop} (h:P:=by
 have h:=h rfl
 conv=>whnf
 refine ⟨_,oM,hr,wN ?_⟩
 refine ZGi (fun hq=>wN ?_) (fun hq=>wN ?_)
 ·have hq:¬d2.length=eargs.length:=by have hq:¬((d2.map Zn).length:Int)=((Ze pl eargs).length:Int):=hq;rw [Td,am] at hq;omega
  have h:=h _ rfl
  rw [Tj hq] at h
  exact h
 have hq:d2.length=eargs.length:=by have hq:((d2.map Zn).length:Int)=((Ze pl eargs).length:Int):=hq;rw [Td,am] at hq;omega
 rw [Tf (fun g=>g hq)] at h
 refine ⟨pl,p,r,vs,more,rfl,hp,eargs,rfl,rfl,⟨hz,hm⟩,fun x hx=>?_⟩
 have h:=h x hx
 cases x with
 | none=>simp only [RtK] at h |-;(conv=>whnf);exact h
 | some ae=>obtain ⟨a,e⟩:=ae;simp only [RtK] at h |-;(conv=>whnf);exact h):P:=h
def mq32 {P:Prop} (h:P:=by
 refine ⟨pl,p,r,vs,more,rfl,hp,.mk x1 x2 x3 x4 x5,rfl,⟨dy,hm⟩,fun f hg=>?_⟩
 cases f with
 | none =>
  have:=kz hg
  simp only [RtK]
  conv=>whnf
  refine Zi ?_
  exact ⟨⟨j+1,rfl,rfl,oM,this⟩,hμ⟩
 | some ae =>
 obtain ⟨a,e⟩:=ae
 have:=dl _ hg
 subst this
 simp only [RtK] at h |-
 conv=>whnf
 exact h):P:=h
def mq33 {P:Prop} (h:P:=by
 have hk:=(To.1 hx).1
 have jy:k<vs.size:=oM
 have:(vs++Array.replicate (fn.ntmps - vs.size) undef).getD (0+k) Go.undef=vs[k]:=by
  simp [Array.getD,Array.getElem_append,jy]
  omega
 rw [this]
 exact ac.2 k x _ hx (TM jy)):P:=h
def mq34 {P:Prop} (h:P:=by
 refine Zi ?_
 exact ⟨⟨_,M',j+1,rfl,by rw [hb];rfl,⟨hn,⟨k',gl⟩,o6⟩,oM⟩,hμ⟩):P:=h
def mq35 {P:Prop} (h:P:=by
 have e:Zl (Lib.encodeRune c)=[[D.int .u8 (Zj .or .u8 224 (IntKind.u8.wrap (c.fdiv (2 ^ min (Int.toNat 12) IntKind.i32.bits))))],[D.int .u8 (Zj .or .u8 128 (Zj .and .u8 (IntKind.u8.wrap (c.fdiv (2 ^ min (Int.toNat 6) IntKind.i32.bits))) 63))],[D.int .u8 (Zj .or .u8 128 (Zj .and .u8 (IntKind.u8.wrap (c)) 63))]]:=by
  rw [X8,Lib.encodeRuneZ_three oM]
  simp only [e6,e12,e18,wu8,Tz,TJ]
  rw [ZEV oM oM,a63 oM oM,a63 oM oM,Zvk oM oM,Zvk oM oM,show c / 4096 % 256=c / 4096 by omega,show c / 64 % 256 % 64=c / 64 % 64 by omega,show c % 256 % 64=c % 64 by omega]
  all_goals (try omega)
  (try (congr 1 <;> omega))
 rw [e] at h;exact h):P:=h
def mq36 {P:Prop} (h:P:=by
 simp only [Zhs] at ha
 cases b with
 | true =>
  conv=>whnf
  rw [Tj hb] at ha
  exact h j ha.symm
 | false =>
 conv=>whnf
 rw [Tf (fun g=>Bool.noConfusion (hb.symm.trans g))] at ha
 exact mq183):P:=h
theorem mq37 {P:Prop} (h:P:=by
 refine ⟨sM,fun r hr=>by simp_all,fun a b y u hb hy hu=>?_⟩
 by_cases ha:a<n
 ·have aa:a * zero.length+b<n * zero.length:=by
   grind
  have hm:(a * zero.length+b) % z.cells.size=b:=by rw [hzc,Nat.mul_comm,Nat.mul_add_mod,Nat.mod_eq_of_lt hb]
  rw [TF,Array.getElem?_map,Array.getElem?_range,Tj aa] at hu
  simp only [TY,hm,Option.some.injEq] at hu
  have hbz:b<z.cells.size:=oM
  rw [getElem!_pos z.cells b hbz] at hu
  have ct:b<(T.get el).zero.length:=oM
  have:=ml b _ u (Tb ct) (by simp_all)
  rw [Ss,Tj ha] at hy
  simp only [Option.bind_some] at hy
  exact Wd (cg b _ y (Tb ct) hy) this.1
 simp_all):P:=h
def mq38 {P:Prop} (h:P:=by
 have tq:(Ze pl b3)[(i:Int).toNat]?=some (ZF pl b3[i]):=by rw [Th,Zc,Ti,Tb lx];rfl
 have hg3:=YC b3 i lx
 generalize b3[i]=y at nz tq hg3
 rw [nz] at h1 h2 ff
 obtain ⟨c1,c2,c3,c4,c5⟩:=y
 conv=>whnf
 refine ⟨_,oM,tq,wN ?_⟩
 refine ⟨pl,.mk c1 c2 c3 c4 c5,M,rfl,rfl,⟨oM,oM⟩,fun hy=>wN ?_,fun z hy=>wN ?_⟩
 ·rw [hy] at ff
  refine Zi ?_
  refine ⟨⟨j2,i+1,b2,b3,b4,b5,rfl,rfl,hx,oM,ff⟩,?_⟩
  exact mq193
 rw [hy] at h2
 have h2:=h2 z rfl
 exact h2):P:=h
def mq39 {P:Prop} (h:P:=by
 conv=>whnf
 refine ⟨fun _=>0,a1,rfl,⟨by simp only [wBs];omega,oM⟩,fun b eh=>?_⟩
 cases b with
 | false =>
  conv=>whnf
  exact h _ (by simp [Yi,eh])
 | true =>
 conv=>whnf
 refine ⟨pl,a2,rfl,⟨rfl,oM,oM⟩,fun b gx=>?_⟩
 cases b with
 | false =>
  conv=>whnf
  exact h _ (by simp [Yi,eh,gx])
 | true =>
 conv=>whnf
 refine ⟨pl,a4,rfl,⟨rfl,oM,oM⟩,fun b ff=>?_⟩
 cases b with
 | false =>
  conv=>whnf
  exact h _ (by simp [Yi,eh,gx,ff])
 | true =>
 conv=>whnf
 exact h _ (by simp only [Yi,lg,TP,Bool.and_false])):P:=h
def mq40 {P:Prop} (h:P:=by
 have e:Yg (s.drop a.toNat)=2:=by
  have:twos.any (Lib.hasPrefix (s.drop a.toNat))=true:=by simp [twos,h2]
  simp [Yg,this]
 rw [e] at h
 exact h):P:=h
def mq41 {P:Prop} (h:P:=by
 rcases x with ⟨v8,ts8⟩ | ⟨r8,e8⟩
 rotate_left
 ·rw [wg,R.bind_err] at h;intro a9 d9;(conv=>whnf);exact h _ _
 rw [wg,R.bind_ok] at h
 intro a8 adz ir
 have hb8:=ir.hi
 obtain ⟨v8a,v8b,v8c,v8d,v8e,v8f⟩:=v8
 conv=>whnf
 rw [Tf sM] at h
 refine ⟨L,ts8,rfl,ir,fun x zw=>?_⟩
 rcases x with ⟨v9,ts9⟩ | ⟨r9,e9⟩
 rotate_left
 ·rw [zw,R.bind_err,R.bind_err] at h;intro a9 d9;(conv=>whnf);exact h _ _
 rw [zw,R.bind_ok,R.bind_ok] at h
 intro a9 ad0 fe
 have rm:=fe.hi
 conv=>whnf
 refine Zi ?_
 rw [TQ]
 exact h _ oM fe):P:=h
def mq42 {P:Prop} (h:P:=by
 rw [hp,TP] at hs
 conv=>whnf
 exact h _ (by rw [hs];simp;try omega)):P:=h
def mq43 {P:Prop} (h:P:=by
 exact mq177):P:=h
def mq44 {P:Prop} (h:P:=by
 exact mq192):P:=h
def mq45 {P:Prop} (h:P:=by
 have fj:u.drop i=[]:=Tp oM
 have g1:WO (s.drop a)=.err 0:=by rw [<- fu];simp [Z7,fj]
 (try (refine ⟨rfl,?_⟩;conv=>whnf))
 (try (refine ⟨rfl,?_⟩;conv=>whnf))
 exact dl _ g1):P:=h
def mq46 {P:Prop} (h:P:=by
 rcases x with ⟨v11,ts11⟩ | ⟨r11,e11⟩
 rotate_left
 ·rw [jw,R.bind_err] at h;intro a9 d9;(conv=>whnf);exact h _ _
 rw [jw,R.bind_ok] at h
 intro a11 rp kw
 have yv:=kw.hi
 conv=>whnf
 refine ⟨L,ts11,rfl,kw,⟨fp,sM⟩,fun x kx=>?_⟩
 rcases x with ⟨v12,ts12⟩ | ⟨r12,e12⟩
 rotate_left
 ·rw [kx,R.bind_err] at h;intro a9 d9;(conv=>whnf);exact h _ _
 rw [kx,R.bind_ok] at h
 intro a12 rq ky
 have yw:=ky.hi
 conv=>whnf
 rw [<- Zc]
 exact h _ oM ky):P:=h
def mq47 {P:Prop} (h:P:=by
 conv=>whnf
 exact h):P:=h
def mq48 {P:Prop} (h:P:=by
 refine Zi ?_
 exact ⟨⟨j+1,rfl,rfl,oM,ha⟩,hμ⟩):P:=h
theorem mq49 {P:Prop} (h:P:=by
 obtain ⟨pe,σ',e',hK,vj,hS',hst⟩:=hA
 cases pe with
 | ret pv =>
  obtain ⟨u,rfl,hr⟩:=vj
  simp only at hK
  rw [Z0] at hK
  exact ⟨_,e',σ',hK,hS',(hF.clean hst).put hr (by simp_all),hL.trans hst,by rw [Yr];exact hN,by rw [Xa];exact ba.later hst,Zgz hd hZ⟩
 | panic pv =>
 obtain ⟨u,rfl,hr⟩:=vj
 exact ⟨.panic pv,_,e',σ',hK,⟨u,rfl,hr⟩,hS',Zln (hF.clean (Later.refl _ _ _)) hst,hL.trans hst,hN,ba.later hst,hZ⟩):P:=h
def mq50 {P:Prop} (h:P:=by
 refine ⟨_,_,h,.mkint,?_⟩
 simp only [ho,resolve,invoke,builtin,Sem.run_bind,Sem.run_pure,Result.andThen,Builtin.len_,n5,ld,Za hd]
 rfl):P:=h
def mq51 {P:Prop} (h:P:=by
 unfold U4 at h
 split at h
 ·obtain ⟨pl,⟨a1,a2⟩,rfl,⟨rfl,hz,hn⟩,h⟩:=h
  refine pwv [] 1 false ?_
  refine ⟨pl,⟨a1,a2⟩,rfl,⟨hz,hn⟩,fun b hb=>wN ?_⟩
  exact h _ (by rw [hb])
 exact h.elim):P:=h
def mq52 {P:Prop} (h:P:=by
 rw [dm,R.bind_err] at h;intro a9 d9;(conv=>whnf);exact h _ _):P:=h
def mq53 {P:Prop} (h:P:=by
 conv=>whnf
 (try (refine ⟨rfl,?_⟩;conv=>whnf))
 (try (refine ⟨rfl,?_⟩;conv=>whnf))
 exact dl 3 (by rw [Xh,hn,hc,Tf i9,Tj rfl])):P:=h
theorem mq54 {P:Prop} (h:P:=by
 split at h
 ·unfold Zfg at h |-
  split at h
  ·split at h
   ·refine hM.call _ _ _ _ _ (fun e σ he=>?_) h
    cases e with
    | ret v=>simp only at he |-;rw [Z0] at he |-;simp_all
    | panic v=>exact he
   exact (hM.iter _ _ _ _ _ h).elim
  ·exact (hM.raw _ _ _ _ h).elim
  exact h
 ·exact h
 exact Zcw (fun v σ hv=>by rw [Z0] at hv |-;simp_all) h):P:=h
def mq55 {P:Prop} (h:P:=by
 cases hx
 simp only [ZF,ec] at h
 conv=>whnf
 refine Or.inl ⟨hn.inr,wN ?_⟩
 exact h _ _ oM hn):P:=h
def mq56 {P:Prop} (h:P:=by
 repeat (first | (refine ZGg (fun _=>?_) (fun g=>absurd hq g);conv=>whnf))
 exact h _ (by rw [show x.text=_ from hq];rfl) _ _ oM ho):P:=h
def mq57 {P:Prop} (h:P:=by
 refine XS ?_
 exact ⟨⟨_,M3,_,j2,2,b2,.mk c1 c2 c3 c4 c5,.mk d1 d2 d3 d4 d5,b4,b5,rfl,rfl,hP,hx,.inr (.inr ⟨rfl,hN1 _ e1⟩)⟩,by show (2 - ((1:Int)+1)).toNat<(2 - (1:Int)).toNat;decide⟩):P:=h
def mq58 {P:Prop} (h:P:=by
 refine XS ?_
 exact ⟨⟨_,M3,_,j2,1,b2,.mk c1 c2 c3 c4 c5,.mk d1 d2 d3 d4 d5,b4,b5,rfl,rfl,hP,hx,.inr (.inl ⟨rfl,hN1 _ e1⟩)⟩,by show (2 - ((0:Int)+1)).toNat<(2 - (0:Int)).toNat;decide⟩):P:=h
def mq59 {P:Prop} (h:P:=by
 exact mq180):P:=h
def mq60 {P:Prop} (h:P:=by
 refine ⟨fun r hr=>by (simp at hr;rcases hr with rfl | rfl | rfl <;> rfl),(show (rows.length+3) * 1<=2 ^ 47 by omega),(show rows.length+3<=2 ^ 47 by omega),?_⟩
 conv=>whnf
 exact g):P:=h
def mq61 {P:Prop} (h:P:=by
 exact mq185):P:=h
def mq62 {P:Prop} (h:P:=by
 simp only [twos,List.take,SA,List.any_nil,Si,Se,Sv,Sz] at hn du |-
 simp only [hn,du,and_self]):P:=h
theorem mq63 {P:Prop} (h:P:=by
 refine ⟨v'::vs',tk2,as2,h2,Ub dm bo,fy,by simp [hl],fun i x y hx hy=>?_⟩
 cases i with
 | zero=>simp at hx hy;subst hx;subst hy;exact hv.ext bo
 | succ i=>grind):P:=h
def mq64 {P:Prop} (h:P:=by
 refine ⟨⟨rfl,e+(pk (s.drop e)).2,f,k1,k2,rfl,k3,k4⟩,?_⟩
 exact (show ((s.length:Int) - ((e:Int)+((pk (s.drop e)).2:Int))).toNat<((s.length:Int) - (e:Int)).toNat by omega)):P:=h
def mq65 {P:Prop} (h:P:=by
 refine ⟨pl,p,r,v,b,rfl,hp,.mk x1 x2 x3 x4 x5,rfl,⟨dy,hm⟩,fun v' b' hg=>wN ?_⟩
 have:=kz v' b' hg
 refine Zi ?_
 exact ⟨⟨j+1,v',b',rfl,rfl,oM,this⟩,hμ⟩):P:=h
def mq66 {P:Prop} (h:P:=by
 exact mq188):P:=h
theorem mq67 {P:Prop} (h:P:=by
 by_cases ou:j<ops.size
 ·grind
 unfold anc
 have:(WM ops.toList []).length=ops.size:=by
  have:∀(l:List Oper) (acc:List Nat),(WM l acc).length=acc.length+l.length:=by
   intro l
   induction l with
   | nil=>intro acc;rfl
   | cons o l ih=>intro acc;rw [WM,ih];grind
  simp_all
 simp_all):P:=h
def mq68 {P:Prop} (h:P:=by
 induction m with
 | nil=>by_cases h:s=t <;> simp [Z2,lkM,h]
 | cons x m ih =>
 obtain ⟨y,v⟩:=x
 simp only [Z2]
 by_cases hy:t=y
 ·subst hy
  by_cases h:s=t <;> simp [lkM,h]
 rw [decide_eq_false hy]
 simp only [lkM,ih]
 by_cases h:s=t
 ·subst h;simp [hy]
 simp [h]):P:=h
def mq69 {P:Prop} (h:P:=by
 split at h;· cases h;rename_i h;subst h;exact .inl ⟨dM,rfl⟩
 split at h;· cases h;rename_i h;subst h;exact .inr (.inl ⟨dM,rfl⟩)
 split at h;· cases h;rename_i h;subst h;exact .inr (.inr (.inl ⟨dM,rfl⟩))
 split at h;· cases h;rename_i h;subst h;exact .inr (.inr (.inr ⟨dM,rfl⟩))
 cases h):P:=h
def mq70 {P:Prop} (h:P:=by
 refine Zi ?_
 exact ⟨⟨j+1,rfl,by rw [e1,gf];rfl,oM⟩,by show ((p.types.length:Int) - ((j:Int)+1)).toNat<((p.types.length:Int) - (j:Int)).toNat;omega⟩):P:=h
def mq71 {P:Prop} (h:P:=by
 rw [Lib.decodeL_N]
 have k0:=(r.getD 0 0).toNat_lt
 rcases Lib.decodeN_shape r.length (r.getD 0 0).toNat (r.getD 1 0).toNat (r.getD 2 0).toNat (r.getD 3 0).toNat with ⟨c,e⟩ | ⟨c1,c2,c3,cv,e⟩ | ⟨c1,c2,c3,c4,cv,cs,e⟩ | ⟨c1,c2,c3,c4,c5,cv,cw,e⟩ | e
 all_goals (rw [e];dsimp only;omega)):P:=h
def mq72 {P:Prop} (h:P:=by
 refine Zi ?_
 refine ⟨⟨1,rfl,(by rw [cq];simp only [T6,TJ,Zh,TW];rfl),oM⟩,?_⟩
 exact lzM oM):P:=h
def mq73 {P:Prop} (h:P:=by
 refine Go.Lib.run_unsafeString_row w.drew (ρ.t 127) (ρ.t 3) (ρ.t 9) (ρ.t 5) L.t127 X.cellsByte g cur.size (by have po:w.drew.heap[g]?=some (.cells cur (ρ.t 5) fz):=hg;simp [World.shape?,po]) l h0 hn dj ?_
 intro j x hx
 have:=ax j x hx
 rw [Yb,Sk];exact this):P:=h
def mq74 {P:Prop} (h:P:=by
 have ez:e4.length<=j:=by have hc:¬(j:Int)<((Ze pl e4).length:Nat):=hc;omega
 rw [Tp ez] at h1
 have h1:=h1 rfl
 conv=>whnf
 exact h1):P:=h
def mq75 {P:Prop} (h:P:=by
 rw [hm,Tj ⟨hb,hc⟩] at h
 refine ⟨L,ts1,rfl,ah,wN ?_⟩
 exact h _ _):P:=h
def mq76 {P:Prop} (h:P:=by
 refine Zi ?_
 refine ⟨⟨i+1,rfl,(by rw [cq];simp only [Tn];rfl),oM⟩,?_⟩
 exact lzM oM):P:=h
def mq77 {P:Prop} (h:P:=by
 unfold Zbn at h
 split at h
 ·rename_i w t0 t rows a en dp
  obtain ⟨L,ts,rfl,ho,h1,h2⟩:=h
  refine pwv [] 2 false ?_
  refine ⟨L,ts,rfl,ho,[w],rfl,sM,fun hw af=>wN ?_,fun hw=>wN ?_⟩
  ·exact h1 hw af
  exact h2 hw
 exact h.elim):P:=h
def mq78 {P:Prop} (h:P:=by
 unfold Zf4 at h
 split at h
 ·obtain ⟨pl,p,l,rfl,rfl,hc,h⟩:=h
  refine pwv [] 6 false ?_
  refine ⟨pl,p,l,rfl,rfl,hc,fun i hi=>wN ?_⟩
  exact h _ (by rw [Bool.eq_iff_iff,decide_eq_true_iff,<- hi];exact (Zd4 l 0).symm)
 exact h.elim):P:=h
def mq79 {P:Prop} (h:P:=by
 refine ⟨L,ts,rfl,ho,wN ?_⟩
 exact h _ _):P:=h
def mq80 {P:Prop} (h:P:=by
 split
 ·exact h
 rename_i g
 refine ⟨List.nodup_append.2 ⟨h.1,sM,fun a ha b hb=>?_⟩,fun x hx=>?_⟩
 ·simp at hb;subst hb;exact fun e=>g (e ▸ ha)
 rcases TE.1 hx with hx | hx
 ·exact h.2 x hx
 simp at hx;subst hx;exact ht):P:=h
theorem mq81 {P:Prop} (h:P:=by
 by_cases vu:k=i
 ·subst vu
  have sy:k<listed.size:=oM
  have:(listed.setIfInBounds k true).getD k false=true:=by simp_all
  grind
 have:(listed.setIfInBounds i true).getD k false=listed.getD k false:=getD_set_ne false (Ne.symm vu)
 grind):P:=h
def mq82 {P:Prop} (h:P:=by
 rw [ZlB hE] at gl
 subst gl
 have g1:WO (s.drop a)=.err (1+i - 1):=by rw [<- fu];simp [Z7,ai,hE]
 conv=>whnf
 refine Zi ?_
 have g2:=dl _ g1
 rw [show ((a+(1+i - 1):Nat):Int)=(a:Int)+1+(i:Int) - 1 by omega] at g2
 exact g2):P:=h
def mq83 {P:Prop} (h:P:=by
 unfold U4 at h
 split at h
 ·obtain ⟨pl,⟨a1,a2,a3,a4,a5,a6⟩,rfl,⟨rfl,hz,hn⟩,h⟩:=h
  refine pwv [] 1 false ?_
  refine ⟨pl,⟨a1,a2,a3,a4,a5,a6⟩,rfl,⟨hz,hn⟩,fun b hb=>wN ?_⟩
  exact h _ (by rw [hb])
 exact h.elim):P:=h
def mq84 {P:Prop} (h:P:=by
 refine Zi ?_
 refine ⟨⟨rfl,e+1,rfl,oM,oM,bc (by have ey:Zo ((s.getD e 0).toNat:Int)=true:=h3;simp only [XZ,ey,Bool.true_or])⟩,?_⟩
 exact (show ((s.length:Int) - ((e:Int)+1)).toNat<((s.length:Int) - (e:Int)).toNat by omega)):P:=h
def mq85 {P:Prop} (h:P:=by
 have gc:(pk (u.drop i)).1<32:=by rw [n5,wb] at h5;exact h5
 have g1:WO (s.drop a)=.err (1+i):=by rw [<- fu];simp [Z7,ai,ey,ju,gc]
 have g2:=dl _ g1
 rw [show ((a+(1+i):Nat):Int)=(a:Int)+1+(i:Int) by omega] at g2
 exact g2):P:=h
def mq86 {P:Prop} (h:P:=by
 unfold U4 at h
 split at h
 ·obtain ⟨pl,⟨a1,a2,a3,a4,a5⟩,rfl,⟨rfl,hz,hn⟩,h⟩:=h
  refine pwv [] 1 false ?_
  refine ⟨pl,(.mk a1 a2 a3 a4 a5),rfl,⟨hz,hn⟩,fun b hb=>wN ?_⟩
  exact h _ (by rw [hb])
 exact h.elim):P:=h
def mq87 {P:Prop} (h:P:=by
 unfold Xi at h
 split at h
 ·rename_i s
  refine pwu [] 0 false ?_
  repeat' ((conv=>whnf);refine ZGg (fun hc=>?_) (fun hc=>?_))
  all_goals (conv=>whnf)
  all_goals exact h _ (by simp [ZR, *])
 exact h.elim):P:=h
def mq88 {P:Prop} (h:P:=by
 rcases x with ⟨v1,ts1⟩ | ⟨r1,e1⟩
 rotate_left
 ·rw [dm] at h;intro a9 d9;(conv=>whnf);exact h _ _
 rw [dm] at h
 intro a1 ek ah
 have bv:=ah.hi
 obtain ⟨v1a,v1b,v1c,v1d,v1e⟩:=v1
 conv=>whnf
 exact h _ oM ah):P:=h
def mq89 {P:Prop} (h:P:=by
 unfold wpOpIn
 rw [ho]
 dsimp only
 split at bc
 ·rename_i hw
  rw [Tj hw]
  exact Oper.wpIn_mono (fun a w h=>next a w (hK a w h)) bc
 rename_i hw
 rw [Tf hw]
 exact ⟨fun _ _=>trivial,next _ _ (hK _ _ bc)⟩):P:=h
def mq90 {P:Prop} (h:P:=by
 unfold U4 at h
 split at h
 ·obtain ⟨pl,⟨a1,a2,a3,a4⟩,rfl,⟨rfl,hz,hn⟩,h⟩:=h
  refine pwv [] 1 false ?_
  refine ⟨pl,⟨a1,a2,a3,a4⟩,rfl,⟨hz,hn⟩,fun b hb=>wN ?_⟩
  exact h _ (by rw [hb])
 exact h.elim):P:=h
def mq91 {P:Prop} (h:P:=by
 have e:=Option.some.inj (congrArg (fun t:List PV=>t[3]?) bq)
 injection e with e
 injection e with _ e
 exact e.symm):P:=h
def mq92 {P:Prop} (h:P:=by
 cases v7 with
 | ptr _ _ _ =>
 refine Calls.mono (Ziz (e.β 0) w (by simp [World.cell?,dv,i7])) fun en w' ⟨h1,h2⟩=>?_
 rw [h2]
 exact ⟨h1,.tuple [] #[] rfl (fun i x u hx=>by simp at hx),hS,Later.refl _ _ _⟩):P:=h
def mq93 {P:Prop} (h:P:=by
 refine ⟨oM,pl,p,r,v,b,rfl,hp,.mk x1 x2 x3 x4 x5,rfl,⟨oM,oM⟩,fun v' b' hg=>wN ?_⟩
 rw [hg] at ha
 (repeat (refine ⟨rfl,?_⟩;conv=>whnf))
 refine Zi ?_
 exact ⟨⟨j+1,v',b',rfl,rfl,oM,ha⟩,hμ⟩):P:=h
def mq94 {P:Prop} (h:P:=by
 cases hy
 obtain ⟨q1,q2⟩:=h3 0 p u rfl hu
 refine ⟨?_,q2⟩
 rcases hp with rfl | rfl
 ·cases q1 with
  | d _ _ hd=>exact .d _ _ (hd.later hL)
 cases q1 with
 | ptr b o hb=>exact .ptr 0 0 sM):P:=h
def mq95 {P:Prop} (h:P:=by
 induction m with
 | nil=>simp [Z2,lkM]
 | cons x m ih =>
 obtain ⟨y,v⟩:=x
 simp only [Z2,lkM]
 by_cases hy:t=y
 ·subst hy;simp
 simp only [hy,decide_false,Te,ih]
 split <;> omega):P:=h
def mq96 {P:Prop} (h:P:=by
 split at h
 ·rename_i ht
  exact ⟨_,_,as++[some t],by simpa using h,⟨[some t],rfl⟩,hI.add ((Yq _ _).1 ht),.sl t el rows _ sM⟩
 exact ⟨_,tk,as,h,⟨[],sM⟩,hI,.cl (.sl t el rows) rfl⟩):P:=h
def mq97 {P:Prop} (h:P:=by
 simp only [Ta,Te,Tg];omega):P:=h
theorem mq98 {P:Prop} (h:P:=by
 cases r with
 | tmp t=>simp only [pres,Z6] at h |-;grind
 | cell a t =>
 simp only [pres] at h |-
 obtain ⟨v,h1,h2⟩:=ZgB h
 refine h2 _ ?_
 rw [Z6] at h1 |-
 grind):P:=h
theorem mq99 {P:Prop} (h:P:=by
 rename_i t m x v ho
 obtain ⟨σ1,w1,hK,aj,hst,gt⟩:=Zc2 hT hS (hρ m) (hρ x) (hρ v) h
 refine ⟨_,_,Go.undef,w1,e,hK,.inr ⟨?_,rfl⟩,hst,gt,.undef _⟩
 unfold execOp
 simp_all):P:=h
def mq100 {P:Prop} (h:P:=by
 exact ⟨pv,_,hK,hr,YK hd cn l7 g1 q2⟩):P:=h
def mq101 {P:Prop} (h:P:=by
 rcases h.ex with ⟨a,ha,h⟩ | ⟨ha,h⟩
 ·exact ⟨_,h,fun K' h'=>by simp only [YD,hk,hz,hb];exact .yes ha h'⟩
 exact ⟨_,h,fun K' h'=>by simp only [YD,hk,hz,hb];exact .no ha h'⟩):P:=h
def mq102 {P:Prop} (h:P:=by
 show LeavesIn _ _ _ _ _ _ _ _ _
 rw [fc]
 refine go _ sM ((hd.ret _ _ _ hq _ _ _ _ h1 yo).mono fun en u2 w2 hh=>?_)
 obtain ⟨rfl,⟨r,rfl⟩,σ2,e2,hK,jt,il⟩:=hh
 exact after jt il hK):P:=h
def mq103 {P:Prop} (h:P:=by
 rw [me,R.bind_err] at h;intro a9 d9;(conv=>whnf);exact h _ _):P:=h
def mq104 {P:Prop} (h:P:=by
 rw [hl] at h
 refine ⟨_,_,h,.mkint,?_⟩
 simp only [ho,resolve,invoke,builtin,Sem.run_bind,Sem.run_pure,Result.andThen,Builtin.len_,n5,ld,Za hd,getObj,Sem.run,g1]
 rfl):P:=h
def mq105 {P:Prop} (h:P:=by
 refine ZGg (fun h1=>?_) (fun h1=>?_)
 ·refine ZbW h ?_
  simp only [Zo,decide_eq_decide];omega
 refine ZbW h ?_
 simp only [Zo,decide_eq_false_iff_not];omega):P:=h
def mq106 {P:Prop} (h:P:=by
 refine ⟨⟨false,_,_,f,_,rfl,?_,.inr rfl,⟨g3,oM,?_⟩,g1.symm⟩,?_⟩
 ·rw [W9];rfl
 ·rw [Ta];omega
 exact mq189):P:=h
def mq107 {P:Prop} (h:P:=by
 have b3:=Ur (n:=n) (k:=34) oM oM h3
 have b4:=Ur (n:=n) (k:=92) oM oM h4
 simp only [List.contains_cons,List.contains_nil,Si,Se,beq_eq_false_iff_ne]
 exact ⟨b1,b2,b3,b4⟩):P:=h
def mq108 {P:Prop} (h:P:=by
 (try (refine ⟨rfl,?_⟩;conv=>whnf))
 (try (refine ⟨rfl,?_⟩;conv=>whnf))
 have g2:=d7 _ _ g1
 rw [show ((a+(1+i+1):Nat):Int)=(a:Int)+1+(i:Int)+1 by omega] at g2
 exact g2):P:=h
theorem mq109 {P:Prop} (h:P:=by
 obtain ⟨pvs,r,hlv,hr,hvr⟩:=XY (C:=C) (by rw [hC.T];exact hT) h1 h2 (by rw [hC.T];exact hl)
 obtain ⟨pv',σ2,e2,hK,_,jt,mt⟩:=Wh h1 h3 hk hvr hlv
 grind):P:=h
def mq110 {P:Prop} (h:P:=by
 rw [fd,R.bind_ok] at h
 intro a3 gg ak
 have ge:=ak.hi
 conv=>whnf
 exact h _ oM ak):P:=h
def mq111 {P:Prop} (h:P:=by
 have u7:b3.length<=i:=by have d0:¬(i:Int)<((Ze pl b3).length:Nat):=d0;omega
 rw [Tp u7] at ff
 conv=>whnf
 refine Zi ?_
 exact ⟨⟨j2+1,rfl,rfl,oM,ff⟩,hμ⟩):P:=h
def mq112 {P:Prop} (h:P:=by
 rw [Zc] at hr
 simp only [Tz,TJ,Tu,Sr,or_false] at hr
 rcases hr with rfl | rfl <;> rfl):P:=h
def mq113 {P:Prop} (h:P:=by
 simp only [RtK]
 conv=>whnf
 refine ⟨Tc rfl,wN ?_⟩
 exact h):P:=h
theorem mq114 {P:Prop} (h:P:=by
 subst og
 refine ⟨?_,⟨.normal,f,e,σ,h,rfl,hS,hF,hL,hN,ba,hZ⟩⟩
 rw [List.eq_nil_iff_forall_not_mem]
 intro i hi
 obtain ⟨h1,o,ho,_⟩:=mem_ready.1 hi
 grind):P:=h
def mq115 {P:Prop} (h:P:=by
 repeat' ((conv=>whnf);refine ZGg (fun hc=>?_) (fun hc=>?_))
 all_goals (conv=>whnf)
 all_goals exact h _ _ (by rw [Zci,Tf hn];simp [*]) (by rw [Zci,Tf hn];simp [*])):P:=h
def mq116 {P:Prop} (h:P:=by
 intro b off u hu
 by_cases hbg:b=g
 ·subst hbg
  simp only [World.cell?,qf,g6] at hu |-
  exact hu
 simpa [World.cell?,VD w g l.length b hbg] using hu):P:=h
def mq117 {P:Prop} (h:P:=by
 rw [List.take_add_one,Tb aa,Option.toList_some,TS,Tz,TJ]
 unfold YX
 rw [VK,show (((0:Nat):Int)+(((l.take j).map (·.name)).length:Int))=j by simp;omega]):P:=h
def mq118 {P:Prop} (h:P:=by
 refine ⟨_,ρ' x,h,hx,?_⟩
 cases hv:ρ' x <;> rw [hv] at hx <;> cases hx
 simp [ho,hv]):P:=h
def mq119 {P:Prop} (h:P:=by
 exact h _ (by simp [Yo,l4])):P:=h
def mq120 {P:Prop} (h:P:=by
 rw [Ti,TF]
 cases hu:es[i]? with
 | none=>exact (Sp (by have:=Array.getElem?_eq_none_iff.1 hu;omega)).symm
 | some u=>exact (h4 i u hu).1.symm):P:=h
def mq121 {P:Prop} (h:P:=by
 unfold UT at h
 split at h
 ·obtain ⟨pl,⟨x1,x2,x3,x4,x5,x6⟩,rfl,h⟩:=h
  refine pwv [] 0 false ?_
  exact h
 exact h.elim):P:=h
def mq122 {P:Prop} (h:P:=by
 (repeat (refine ⟨rfl,?_⟩;conv=>whnf))
 cases more with
 | true=>(conv=>whnf);exact yes true sM
 | false=>(conv=>whnf);exact yes _ sM):P:=h
def mq123 {P:Prop} (h:P:=by
 repeat (refine ⟨rfl,?_⟩;conv=>whnf)
 refine Zi ?_
 exact h _ oM we):P:=h
def mq124 {P:Prop} (h:P:=by
 intro a4 dp4 ei bz
 conv=>whnf
 exact h _ _ oM bz):P:=h
def mq125 {P:Prop} (h:P:=by
 refine Zi ?_
 refine ⟨⟨i+1,_,_,rfl,by rw [i5];rfl,oM,oM,ik⟩,?_⟩
 show (6 - ((i:Int)+1)).toNat<(6 - (i:Int)).toNat
 omega):P:=h
def mq126 {P:Prop} (h:P:=by
 subst h3
 exact ⟨.ret .undef,σ,e,hK,⟨_,rfl,.undef _⟩,hS.grow (ZGm h4),((ZGm h4).stepped e σ).toLater⟩):P:=h
def mq127 {P:Prop} (h:P:=by
 have du:¬i<l.length:=fun g=>h2 (by simpa using g)
 have lx:i=l.length:=oM
 rw [lx,T7] at hNN
 rw [hNN] at mn
 exact mn oM):P:=h
def mq128 {P:Prop} (h:P:=by
 simp only [Z2]
 by_cases h:k=x
 ·subst h;simp
 rw [decide_eq_false h]
 simp only [Tz,Tu,h,false_or,ih]
 split <;> rfl):P:=h
def mq129 {P:Prop} (h:P:=by
 rw [m7,R.bind_err,R.bind_err] at h;intro a9 d9;(conv=>whnf);exact h _ _):P:=h
def mq130 {P:Prop} (h:P:=by
 conv=>whnf
 refine Zi ?_
 exact ⟨⟨rfl,e+1,rfl,q1,q2⟩,hμ⟩):P:=h
def mq131 {P:Prop} (h:P:=by
 unfold execOp
 simp only [ho,resolve,hv,Deferred.ofValue,Sem.run_bind,Sem.run_pure,Result.andThen,invoke]
 exact f5 _ _):P:=h
def mq132 {P:Prop} (h:P:=by
 rw [Tf (by rw [gh];simp)] at h
 exact h _ oM cx):P:=h
def mq133 {P:Prop} (h:P:=by
 rw [List.drop_nil] at ha
 cases hd:eargs.drop j with
 | nil=>rw [hd] at ha;exact ha
 | cons x l=>rw [hd] at ha;exact ha):P:=h
def mq134 {P:Prop} (h:P:=by
 injection e with e
 injection e with _ e
 omega):P:=h
theorem mq135 {P:Prop} (h:P:=by
 rename_i h1 h2
 obtain ⟨v,g1,g2⟩:=Vw h
 exact ⟨_,g1,fun K' h'=>by simp only [YJ,h1,h2];simp_all⟩):P:=h
def mq136 {P:Prop} (h:P:=by
 rcases Tu.1 jo with rfl | jo
 ·omega
 exact fun e=>(List.rel_of_pairwise_cons hp jo).2.1 ed (TV.1 mq) hb e.symm):P:=h
theorem mq137 {P:Prop} (h:P:=by
 have ny:G.P.info? f.type=some j:=by simp_all
 have:j.size≠0:=oM
 simp [fieldPlace,Zt ny,this,Yb,cx]):P:=h
def mq138 {P:Prop} (h:P:=by
 unfold execOp
 simp only [ho,Instr.makeMap,Sem.run_bind,Result.andThen,Sem.run_pure,run_newObj,Option.map_none]
 rfl):P:=h
def mq139 {P:Prop} (h:P:=by
 rw [fd,R.bind_ok] at h
 intro a3 gg ak
 have ge:=ak.hi
 conv=>whnf
 rw [<- Zc]
 exact h _ oM ak):P:=h
def mq140 {P:Prop} (h:P:=by
 rw [Tf sM] at h
 conv=>whnf
 exact h _ oM cx):P:=h
theorem mq141 {P:Prop} (h:P:=by
 simp only [Instr.storeAt,Instr.sureAddr,storeVar,Sem.run_bind,Sem.run_pure,Result.andThen,Zt hi]
 simp_all):P:=h
def mq142 {P:Prop} (h:P:=by
 refine Zi ?_
 exact ⟨⟨j+1,rfl,by rw [ht];rfl,oM⟩,hμ⟩):P:=h
def mq143 {P:Prop} (h:P:=by
 simp only [Array.size_extract,se]
 by_cases og:l.length=0
 ·omega
 have:=(hb (l.length - 1) oM).1;omega):P:=h
def mq144 {P:Prop} (h:P:=by
 rename_i f hf;rw [hf] at h;exact h):P:=h
theorem mq145 {P:Prop} (h:P:=by
 exact Zab (fun v hv=>by rw [Z0] at hv |-;simp_all) h):P:=h
def mq146 {P:Prop} (h:P:=by
 obtain ⟨k,h1,h2⟩:=Zf0 h
 rw [Ti] at h2
 obtain ⟨t,h3,h4⟩:=TB.1 h2
 exact ⟨k,t,h1,h3,h4⟩):P:=h
def mq147 {P:Prop} (h:P:=by
 (repeat (refine ⟨rfl,?_⟩;conv=>whnf))
 exact h _ _ oM ak):P:=h
def mq148 {P:Prop} (h:P:=by
 (conv=>whnf);exact h _ (by simp [Yf,l0,h4])):P:=h
def mq149 {P:Prop} (h:P:=by
 unfold World.freeze;split <;> rfl):P:=h
def mq150 {P:Prop} (h:P:=by
 rcases TE.1 hx with hx | hx
 ·exact (oj.2.2 x hx (i,o') sM).1
 exact fun e=>(f6.1 x hx).1 e.symm):P:=h
def mq151 {P:Prop} (h:P:=by
 rcases x with ⟨v6,ts6⟩ | ⟨r6,e6⟩
 rotate_left
 ·rw [qi,R.bind_err] at h;intro a9 d9;(conv=>whnf);exact h _ _
 rw [qi,R.bind_ok] at h
 intro a6 yq et
 have hb6:=et.hi
 conv=>whnf
 refine ⟨_,fun _ _ h=>h,Tc rfl,wN ?_⟩
 refine ⟨L,ts6,rfl,et,[[123]],rfl,sM,fun b mf=>?_⟩
 cases b with
 | false =>
  rw [Zp,Tf (by rw [mf];simp),R.bind_err] at h
  conv=>whnf
  refine ⟨L,ts6,rfl,et,fun x hx=>?_⟩
  rw [ZP,Tf (by rw [mf];simp)] at hx
  subst hx
  intro a9 d9
  conv=>whnf
  exact h _ _
 | true =>
 rw [Zp,Tj mf] at h
 conv=>whnf
 refine ZGg (fun hc=>wN ?_) (fun hc=>wN ?_)
 ·rw [Tj oM,R.bind_err] at h
  refine ⟨L,ts6,rfl,et,wN ?_⟩
  exact h _ _
 rw [Tf oM] at h
 refine ⟨L,ts6,rfl,et,fun x hx=>?_⟩
 rw [ZP,Tj mf] at hx
 subst hx
 intro a7 y5 ik
 have hb7:=ik.hi
 conv=>whnf
 refine Zi ?_
 refine ⟨_,fun _ _ h=>h,Tc rfl,wN ?_⟩
 refine ⟨L,ts6.tail,rfl,ik,⟨oM,oM,oM⟩,fun x wg=>?_⟩
 rcases x with ⟨v8,ts8⟩ | ⟨r8,e8⟩
 rotate_left
 ·rw [wg,R.bind_err] at h;intro a9 d9;(conv=>whnf);exact h _ _
 rw [wg,R.bind_ok] at h
 intro a8 adz ir
 have hb8:=ir.hi
 conv=>whnf
 rw [Tf sM] at h
 refine ⟨L,ts8,rfl,ir,fun x zw=>?_⟩
 rcases x with ⟨v9,ts9⟩ | ⟨r9,e9⟩
 rotate_left
 ·rw [zw,R.bind_err,R.bind_err] at h;intro a9 d9;(conv=>whnf);exact h _ _
 rw [zw,R.bind_ok,R.bind_ok] at h
 intro a9 ad0 fe
 have rm:=fe.hi
 conv=>whnf
 refine Zi ?_
 rw [TQ]
 rw [<- Zq]
 exact h _ oM fe):P:=h
def mq152 {P:Prop} (h:P:=by
 refine ⟨pl,a3,Zc _ _,⟨rfl,oM,oM⟩,fun b hb=>?_⟩
 cases b with
 | false =>
  conv=>whnf
  exact h _ (by simp [YI,Zw,hb])
 | true =>
 conv=>whnf
 refine ⟨oM,pl,a4,Zq _ _,⟨rfl,oM,oM⟩,fun b dq=>wN ?_⟩
 exact h _ (by simp [YI,Zw,Xk,j5,hb,dq])):P:=h
def mq153 {P:Prop} (h:P:=by
 refine ⟨fun _=>0,a2,rfl,⟨by simp only [wBs];omega,oM⟩,fun b dr=>?_⟩
 cases b with
 | false =>
  have j5:YY a1 a2 a3.length a4.length=false:=by simp [YY,dx,dr]
  conv=>whnf
  conv=>whnf
  exact mq59
 | true =>
 conv=>whnf
 refine ZGi (fun hB=>wN ?_) (fun hB=>wN ?_)
 ·have hB:¬0<a4.length:=fun g=>hB (ru.2 g)
  have j5:YY a1 a2 a3.length a4.length=true:=by simp only [YY,dx,dr,decide_eq_false hB];simp
  exact mq8
 have hB:=ru.1 hB
 have j5:YY a1 a2 a3.length a4.length=false:=by simp [YY,dx,hB]
 exact mq59):P:=h
def mq154 {P:Prop} (h:P:=by
 have g5:Z1 (s.drop a)=none:=by
  unfold Z1
  simp only [ic,if_true,Tv,if_false]
  rcases gc with g | g
  ·rw [Tj g]
  by_cases g0:Zd (s.drop a)=[]
  ·rw [Tj g0]
  rw [Tf g0,Tj g]
 conv=>whnf
 refine ⟨⟨oM,oM⟩,wN ?_⟩
 (try (refine ⟨rfl,?_⟩;conv=>whnf))
 (try (refine ⟨rfl,?_⟩;conv=>whnf))
 exact dl g5):P:=h
def mq155 {P:Prop} (h:P:=by
 refine ZGg (fun h3=>wN ?_) (fun h3=>wN ?_)
 ·exact h _ (by simp [Yf,l0])
 refine ZGg (fun h5=>?_) (fun h5=>?_)
 rotate_left
 ·have h5:¬a1=3:=by omega
  (conv=>whnf);exact h _ (by simp [Yf,h3,h5])
 have h5:a1=3:=oM
 have jz:(decide (a3=0) || decide (a1=3))=true:=by simp [h5]
 conv=>whnf
 exact h _ (by simp [Yf,l0])):P:=h
def mq156 {P:Prop} (h:P:=by
 refine ⟨⟨0,rfl,rfl,oM,rfl⟩,?_⟩
 rintro vs σ1 ⟨j,rfl,rfl,hj,ha⟩
 rw [ha] at h
 obtain ⟨h1,h2⟩:=h
 conv=>whnf
 refine ZGg (fun hc=>?_) (fun hc=>?_)
 rotate_left
 ·exact mq74
 have aa:j<e4.length:=by have hc:(j:Int)<((Ze pl e4).length:Nat):=hc;omega
 have hd:=ZbC (m:=M) aa
 exact mq14):P:=h
def mq157 {P:Prop} (h:P:=by
 refine ⟨fun r hr=>by (simp at hr;rcases hr with rfl <;> rfl),(show (rows.length+1) * 1<=2 ^ 47 by omega),(show rows.length+1<=2 ^ 47 by omega),?_⟩
 exact mq47):P:=h
def mq158 {P:Prop} (h:P:=by
 have h5:¬a1=3:=by omega
 (conv=>whnf);exact h _ (by simp [Yf,h3,h5])):P:=h
def mq159 {P:Prop} (h:P:=by
 show ((L.length:Int) - a3).toNat<((L.length:Int) - a').toNat
 omega):P:=h
def mq160 {P:Prop} (h:P:=by
 refine ⟨fun _=>0,a2,rfl,⟨by simp only [wBs];omega,oM⟩,fun b dr=>?_⟩
 cases b with
 | false =>
  have l0:V0 a1 a2=false:=by simp [V0,dx,dr]
  conv=>whnf
  exact mq6
 | true =>
 have l0:V0 a1 a2=true:=by simp [V0,dx,dr]
 conv=>whnf
 exact mq4):P:=h
def mq161 {P:Prop} (h:P:=by
 rcases x with ⟨v2,ts2⟩ | ⟨r2,e2⟩
 rotate_left
 ·exact mq44
 rw [bo,R.bind_ok] at h
 intro a2 gd af
 have dq:=af.hi
 conv=>whnf
 refine ⟨L,ts2,rfl,af,fun x fd=>?_⟩
 rcases x with ⟨v3,ts3⟩ | ⟨r3,e3⟩
 rotate_left
 ·exact mq18
 exact mq110):P:=h
def mq162 {P:Prop} (h:P:=by
 have h6:¬(a4.length:Int)=a:=fun g=>h6 (by show ((Ze pl a4).length:Int)=a;rw [ei];exact g)
 (conv=>whnf);exact h _ (by simp [Yf,ha,h2,h6])):P:=h
def mq163 {P:Prop} (h:P:=by
 obtain ⟨a,e⟩:=ae
 simp only [orF] at ha
 subst ha
 simp only [RtK] at h |-
 exact mq47):P:=h
def mq164 {P:Prop} (h:P:=by
 rw [show Zh1 O (Yj O M' (l.take j)) _=Yj O M' (l.take j) from rfl] at hb
 conv=>whnf
 refine ⟨_,oM,hr,wN ?_⟩
 exact mq34):P:=h
def mq165 {P:Prop} (h:P:=by
 show ((L.length:Int) - (a2+1)).toNat<((L.length:Int) - a1).toNat
 omega):P:=h
def mq166 {P:Prop} (h:P:=by
 rw [fd,R.bind_err] at h;intro a9 d9;(conv=>whnf);exact h _ _):P:=h
def mq167 {P:Prop} (h:P:=by
 rw [step,R.bind_err] at h
 intro a2 dp2
 conv=>whnf
 exact h _ _):P:=h
def mq168 {P:Prop} (h:P:=by
 subst hx
 intro a9 d9
 conv=>whnf
 exact h _ _):P:=h
def mq169 {P:Prop} (h:P:=by
 rw [Tj (by rw [Td] at g;omega)] at h
 exact h _ _):P:=h
def mq170 {P:Prop} (h:P:=by
 have ab:i=xs.length:=lzE ca oM ab
 subst ab
 rw [T7]
 exact mq47):P:=h
def mq171 {P:Prop} (h:P:=by
 rw [Tf sM] at h
 refine ⟨L,ts2,rfl,af,fun x fd=>?_⟩
 exact mq13):P:=h
def mq172 {P:Prop} (h:P:=by
 obtain ⟨a,e⟩:=ae
 simp only [orF] at hX
 subst hX
 simp only [FlK] at h |-
 exact mq47):P:=h
def mq173 {P:Prop} (h:P:=by
 refine XS ?_
 refine ⟨B.1,B.2,wN ?_⟩
 refine ⟨dM,dM,wN ?_⟩
 refine ⟨dM,dM,wN ?_⟩
 refine ⟨?_,?_,?_,?_⟩
 rotate_left 3
 ·exact mq47
 ·rfl
 rfl):P:=h
def mq174 {P:Prop} (h:P:=by
 rw [<- vq];exact ⟨by have h6':Zm (pk (s.drop ((e:Int)).toNat)).1=false:=h6;rw [h6'];simp,by have h7':Zo (pk (s.drop ((e:Int)).toNat)).1=false:=h7;rw [h7'];simp⟩):P:=h
def mq175 {P:Prop} (h:P:=by
 rw [Zp,Tf (by rw [cz];simp)] at h
 exact mq26):P:=h
def mq176 {P:Prop} (h:P:=by
 exact (show ((l.length:Int) - ((i:Int)+1)).toNat<((l.length:Int) - (i:Int)).toNat by omega)):P:=h
def mq177 {P:Prop} (h:P:=by
 rw [jv,R.bind_err] at h;intro a9 d9;(conv=>whnf);exact h _ _):P:=h
def mq178 {P:Prop} (h:P:=by
 (try (refine ⟨rfl,?_⟩;conv=>whnf))
 (try (refine ⟨rfl,?_⟩;conv=>whnf))
 exact dl (by rw [g6,Tj (.inr (.inl (by rw [<- vq];exact h7)))])):P:=h
def mq179 {P:Prop} (h:P:=by
 (try (refine ⟨rfl,?_⟩;conv=>whnf))
 (try (refine ⟨rfl,?_⟩;conv=>whnf))
 exact dl (by rw [g6,Tj (.inl (by rw [<- vq];exact h6))])):P:=h
def mq180 {P:Prop} (h:P:=by
 exact h _ (by simp [YI,j5])):P:=h
def mq181 {P:Prop} (h:P:=by
 conv=>whnf
 refine ⟨oM,pl,a4,Zc _ _,⟨rfl,oM,oM⟩,fun b hb=>wN ?_⟩
 exact h _ (by simp [Yf,Zw,ha,l0,hb,h1,h6,jz])):P:=h
def mq182 {P:Prop} (h:P:=by
 conv=>whnf
 refine ⟨oM,pl,a4,Zc _ _,⟨rfl,oM,oM⟩,fun b hb=>wN ?_⟩
 exact h _ (by simp [Yf,Zw,ha,l0,hb,h1,h2,jz])):P:=h
def mq183 {P:Prop} (h:P:=by
 refine Zi ?_
 exact ⟨⟨j+1,rfl,rfl,oM,ha⟩,by show ((l.length:Int) - ((j:Int)+1)).toNat<((l.length:Int) - (j:Int)).toNat;omega⟩):P:=h
def mq184 {P:Prop} (h:P:=by
 refine ⟨dM,wN ?_⟩
 refine Or.inr (wN ?_)
 refine ⟨dM,wN ?_⟩
 refine Or.inr (wN ?_)
 refine Or.inr (wN ?_)
 exact mq60):P:=h
def mq185 {P:Prop} (h:P:=by
 refine Or.inr (wN ?_)
 refine ZGg (fun h8=>wN ?_) (fun h8=>?_)
 ·exact rj oM
 exfalso;exact h8 (by rw [hw];omega)):P:=h
def mq186 {P:Prop} (h:P:=by
 refine ⟨oM,pl,a4,Zc _ _,⟨rfl,oM,oM⟩,fun b hb=>wN ?_⟩
 exact h _ (by simp [Yf,Zw,ha,l0,hb,h1,h6,h3])):P:=h
def mq187 {P:Prop} (h:P:=by
 refine ⟨oM,pl,a4,Zc _ _,⟨rfl,oM,oM⟩,fun b hb=>wN ?_⟩
 exact h _ (by simp [Yf,Zw,ha,l0,hb,h1,h2,h3])):P:=h
def mq188 {P:Prop} (h:P:=by
 simp only [IntKind.wrap,show IntKind.u64.bits=64 from rfl,show IntKind.u64.signed=false from rfl,TP,Tv,if_false]
 omega):P:=h
def mq189 {P:Prop} (h:P:=by
 exact (show u.length - (i+(decodeL u i).2)<u.length - i by omega)):P:=h
def mq190 {P:Prop} (h:P:=by
 have h1:¬-2<a:=h1;(conv=>whnf);exact h _ (by simp [Yf,ha,h1])):P:=h
def mq191 {P:Prop} (h:P:=by
 conv=>whnf
 refine ⟨_,oM,hr,wN ?_⟩
 refine ⟨pl,p,_,rfl,rfl,⟨hp,ud⟩,fun b hb=>?_⟩
 exact mq36):P:=h
def mq192 {P:Prop} (h:P:=by
 rw [bo,R.bind_err] at h;intro a9 d9;(conv=>whnf);exact h _ _):P:=h
def mq193 {P:Prop} (h:P:=by
 show (((Ze pl b3).length:Int) - ((i:Int)+1)).toNat<(((Ze pl b3).length:Int) - (i:Int)).toNat
 omega):P:=h
def mq194 {P:Prop} (h:P:=by
 have j5:YY a1 a2 a3.length a4.length=false:=by simp only [YY,jx,o8,zu,uv,if_false]
 exact mq180):P:=h
def mq195 {P:Prop} (h:P:=by
 conv=>whnf
 refine ⟨L,ts,rfl,ho,fun x hx=>?_⟩
 rw [ZP,Tf (by rw [cz];simp)] at hx
 exact mq168):P:=h
end

section
namespace Go.PM
def wN {P Q:Prop} (k:Q) (h:Q->P:=by intro k;(conv=>whnf);exact k):P:=h k
def oM {P:Prop} (h:P:=by omega):P:=h
def sM {P:Prop} (h:P:=by simp):P:=h
def dM {P:Prop} (h:P:=by decide):P:=h
def iM {P:Prop} (h:P:=by first | exact .inl rfl | exact .inr rfl):P:=h
def sO {P:Prop} (h:P:=by simp;omega):P:=h
def hD {P:Prop} (h:P:=by rw [Tx];omega):P:=h
def tN {P:Prop} (h:P:=by simp only [Th];omega):P:=h
def oP {P:Prop} (h:P:=by simp [Op.operands]):P:=h
def zN {P:Prop} (h:P:=by simp only [T6,TJ,List.flatten_nil,TW];rfl):P:=h
inductive D where
 | bool (b:Bool) | int (k:IntKind) (n:Int) | str (s:List UInt8) | sl (rows:List (List D)) | nilp | nilf | nili
 deriving Inhabited
inductive PV where
 | d (x:D) | undef | ptr (b off:Nat) | elem (r:List D) (off:Nat) | sl (tok e:Nat) (rows:List (List D)) | nils (e:Nat) | asl (b off n:Nat)
 | func (f:FuncId) (first caps:List PV) | iface (t:TypeId) (v:PV) | agg (cs:List PV) | tuple (vs:List PV) | raw (v:Value) | mp (b:Nat) | nilm
 deriving Inhabited
inductive MV where
 | one (x:D) | agg (l:List D)
 deriving Inhabited
def MV.pv:MV->PV | .one x=>.d x | .agg l=>.agg (l.map .d)
inductive Box where
 | dmap (m:List (List UInt8×MV)) | smap (el:Nat) (m:List (List UInt8×List (List D))) (fo:Option (List UInt8×PV)) | cells (t:TypeId) (cs:List PV) | iter (s:List UInt8) (pos:Nat) | loop (st:LoopState) (pd:Option Code) (r:Loop) | map (cs:List PV) (bn:List Nat) (ck:Nat)
 deriving Inhabited
structure St where
 bx:List Box
 tk:List Nat
 nx:Nat
inductive TK where
 | other | int (k:IntKind) | bool | string | ptr (e:Nat) | slice (e:Nat) | array (n e:Nat) | struct (fs:List (Nat×Nat)) | func | iface | map (k e:Nat)
structure TI where
 size:Nat
 bytes:Nat
 kind:TK
 zero:List PV
 eqok:Bool
def TI.no:TI:=⟨0,0,.other,[],false⟩
inductive Tab where
 | leaf | node (l:Tab) (k:Nat) (v:TI) (r:Tab)
def Tab.get:Tab->Nat->TI
 | .leaf,_=>TI.no
 | .node l k v r,n=>match Nat.beq n k with
  | true=>v
  | false=>match Nat.ble n k with
   | true=>l.get n
   | false=>r.get n
def TK.isAgg:TK->Bool | .array _ _ | .struct _=>true | _=>false
abbrev Frame:=Nat->PV
def Vn (f:Frame) (i:Nat) (v:PV):Frame:=fun n=>match Nat.beq i n with
 | true=>v
 | false=>f n
def Zcs:Value->PV
 | .bool b=>.d (.bool b)
 | .int k n=>.d (.int k n)
 | .string s=>.d (.str s.data.toList)
 | .pointer none=>.d .nilp
 | .slice none 0 0=>.nils 0
 | .nilFunc=>.d .nilf
 | .nilIface=>.d .nili
 | .map none=>.nilm
 | v=>.raw v
def ZER:Value->Bool
 | .agg _=>false
 | .tuple _=>false
 | _=>true
def ZjK:Value->PV
 | .agg cs=>match cs.toList.all ZER with | true=>.agg (cs.toList.map Zcs) | false=>.raw (.agg cs)
 | v=>Zcs v
def ev (f:Frame):Operand->PV
 | .tmp t=>f t
 | .const v=>ZjK v
 | .global _=>.undef
 | .func g=>.func g [] []
def CondP:Bool->Prop->Prop->Prop
 | true,X,_=>X
 | false,_,Y=>Y
def Yl:Nat->(Nat->Prop)->Prop
 | 0,K=>K 0
 | n+1,K=>Yl n fun m=>K (m+1)
def Zow (v:PV) (K:PV->Prop):Prop:=match v with
 | .d x=>K (.d x) | .undef=>K .undef | .ptr b off=>Yl b fun b=>Yl off fun off=>K (.ptr b off) | .elem r off=>Yl off fun off=>K (.elem r off) | .sl t z r=>Yl t fun t=>K (.sl t z r) | .nils z=>K (.nils z)
 | .asl b off n=>Yl b fun b=>Yl off fun off=>K (.asl b off n) | .func f a c=>K (.func f a c) | .iface t v=>K (.iface t v) | .agg cs=>K (.agg cs) | .tuple vs=>K (.tuple vs) | .raw v=>K (.raw v) | .mp b=>Yl b fun b=>K (.mp b) | .nilm=>K .nilm
def Vo:List PV->(List PV->Prop)->Prop
 | [],K=>K []
 | v::l,K=>Zow v fun v=>Vo l fun l=>K (v::l)
def Zlh (v:PV) (K:PV->Prop):Prop:=match v with
 | .d x=>K (.d x) | .undef=>K .undef | .ptr b off=>Yl b fun b=>Yl off fun off=>K (.ptr b off) | .elem r off=>Yl off fun off=>K (.elem r off) | .sl t z r=>Yl t fun t=>K (.sl t z r) | .nils z=>K (.nils z)
 | .asl b off n=>Yl b fun b=>Yl off fun off=>K (.asl b off n) | .raw v=>K (.raw v) | .mp b=>Yl b fun b=>K (.mp b) | .nilm=>K .nilm
 | .func f a c=>Vo a fun a=>Vo c fun c=>K (.func f a c) | .iface t v=>K (.iface t v) | .agg cs=>Vo cs fun cs=>K (.agg cs) | .tuple vs=>K (.tuple vs)
def Zgt:List PV->(List PV->Prop)->Prop
 | [],K=>K []
 | v::l,K=>Zlh v fun v=>Zgt l fun l=>K (v::l)
def U1 (v:PV) (K:PV->Prop):Prop:=match v with
 | .d x=>K (.d x) | .undef=>K .undef | .ptr b off=>Yl b fun b=>Yl off fun off=>K (.ptr b off) | .elem r off=>Yl off fun off=>K (.elem r off) | .sl t z r=>Yl t fun t=>K (.sl t z r) | .nils z=>K (.nils z)
 | .asl b off n=>Yl b fun b=>Yl off fun off=>K (.asl b off n) | .raw v=>K (.raw v) | .mp b=>Yl b fun b=>K (.mp b) | .nilm=>K .nilm
 | .func f a c=>Vo a fun a=>Vo c fun c=>K (.func f a c) | .iface t v=>Zlh v fun v=>K (.iface t v) | .agg cs=>Vo cs fun cs=>K (.agg cs) | .tuple vs=>Zgt vs fun vs=>K (.tuple vs)
def ZjD (f:Frame) (d:Option Nat) (v:PV) (K:Frame->Prop):Prop:=match d with
 | some i=>U1 v fun v=>K (Vn f i v)
 | none=>K f
def ZGj {t:Bool} {X Y:Prop} (h1:t=true->X) (h2:t=false->Y):CondP t X Y:=by cases t;exact h2 rfl;exact h1 rfl
def U2 {α:Type}:Nat->List α->Option (List α)
 | 0,_=>some []
 | n+1,x::l=>match U2 n l with | some r=>some (x::r) | none=>none
 | _+1,[]=>none
def Yk {α:Type}:List α->Nat->List α->List α
 | l,_,[]=>l
 | [],_,_=>[]
 | _::l,0,v::vs=>v::Yk l 0 vs
 | x::l,n+1,vs=>x::Yk l n vs
def ZhZ (t:Nat):List Nat->Bool
 | []=>false
 | x::l=>match Nat.beq x t with | true=>true | false=>ZhZ t l
def Js (t:Nat):List Nat->List Nat
 | []=>[]
 | x::l=>match Nat.beq x t with | true=>Js t l | false=>x::Js t l
def PV.cells:PV->Option (List PV)
 | .agg cs=>some cs | .undef=>none | .tuple _=>none | .raw (.func f a c)=>some [.raw (.func f a c)] | .raw _=>none | v=>some [v]
def toD:PV->Option D | .d x=>some x | .sl _ _ rows=>some (.sl rows) | .nils _=>some (.sl []) | _=>none
def Zox:List PV->Option (List D)
 | []=>some []
 | v::l=>match toD v with | some x=>(match Zox l with | some r=>some (x::r) | none=>none) | none=>none
def keq:IntKind->IntKind->Bool
 | .i8,.i8 | .i16,.i16 | .i32,.i32 | .i64,.i64 | .u8,.u8 | .u16,.u16 | .u32,.u32 | .u64,.u64=>true
 | _,_=>false
def ZcS (op:BinOp) (k:IntKind) (a b:Int):Int:=match (Op.intBits op k a b:Sem Value) with | .pure (.int _ n)=>n | _=>0
def Zj:BinOp->IntKind->Int->Int->Int:=Classical.choose (⟨ZcS,rfl⟩:∃f,f=ZcS)
def Yw:Zj=ZcS:=Classical.choose_spec (⟨ZcS,rfl⟩:∃f,f=ZcS)
def InR (k:IntKind) (n:Int):Prop:=k.wrap n=n
def ZcT (k:IntKind) (n:Int) (K:PV->Prop):Prop:=(InR k n/\K (.d (.int k n)))\/K (.d (.int k (k.wrap n)))
def ZAs (op:BinOp) (k:IntKind) (a b:Int) (K:PV->Prop):Prop:=match op with
 | .add=>ZcT k (a+b) K | .sub=>ZcT k (a - b) K | .mul=>ZcT k (a * b) K
 | .quo=>b≠0/\ZcT k (a.tdiv b) K | .rem=>b≠0/\K (.d (.int k (a.tmod b)))
 | .and=>K (.d (.int k (Zj .and k a b))) | .or=>K (.d (.int k (Zj .or k a b))) | .xor=>K (.d (.int k (Zj .xor k a b))) | .andNot=>K (.d (.int k (Zj .andNot k a b)))
 | .eql=>K (.d (.bool (decide (a=b)))) | .neq=>K (.d (.bool (!decide (a=b)))) | .lss=>K (.d (.bool (decide (a<b)))) | .leq=>K (.d (.bool (decide (a<=b))))
 | .gtr=>K (.d (.bool (decide (b<a)))) | .geq=>K (.d (.bool (decide (b<=a))))
 | _=>False
def Zvb:Operand->Bool | .const _=>true | _=>false
def YJ (T:Tab):Nat->List (Nat×Nat)->List PV->List PV->(Bool->Prop)->Prop
 | _,[],[],[],K=>K true
 | i,(o,t)::fs,x::xs,y::ys,K=>match Nat.beq o i,(T.get t).kind,x,y with
  | true,.int _,.d (.int k a),.d (.int k' b)=>(match keq k k' with | true=>YJ T (i+1) fs xs ys fun r=>K (decide (a=b) && r) | false=>False)
  | true,.string,.d (.str a),.d (.str b)=>YJ T (i+1) fs xs ys fun r=>K (decide (a=b) && r)
  | true,.bool,.d (.bool a),.d (.bool b)=>YJ T (i+1) fs xs ys fun r=>K (decide (a=b) && r)
  | _,_,_,_=>False
 | _,_,_,_,_=>False
def peq (T:Tab) (t:TypeId) (x y:Operand) (px py:PV) (K:Bool->Prop):Prop:=match (T.get t).kind with
 | .bool=>match px,py with
  | .d (.bool a),.d (.bool b)=>K (decide (a=b))
  | _,_=>False
 | .ptr _=>match px,py with
  | .d .nilp,.d .nilp=>K true
  | .d .nilp,.ptr _ _=>K false
  | .d .nilp,.elem _ _=>K false
  | .ptr _ _,.d .nilp=>K false
  | .elem _ _,.d .nilp=>K false
  | _,_=>False
 | .func=>match px,py with
  | .d .nilf,.d .nilf=>K true
  | .d .nilf,.func _ _ _=>K false
  | .func _ _ _,.d .nilf=>K false
  | _,_=>False
 | .iface=>match px,py with
  | .d .nili,.d .nili=>match Zvb x || Zvb y with | true=>K true | false=>False
  | .d .nili,.iface _ _=>K false
  | .iface _ _,.d .nili=>K false
  | .iface t (.d (.int k a)),.iface t' (.d (.int k' b))=>match Nat.beq t t',(T.get t).kind,(T.get t).eqok with
   | true,.int _,true=>(match keq k k' with | true=>K (decide (a=b)) | false=>False)
   | false,_,_=>K false
   | _,_,_=>False
  | _,_=>False
 | .map _ _=>match px,py with
  | .nilm,.nilm=>K true
  | .mp _,.nilm=>K false
  | .nilm,.mp _=>K false
  | _,_=>False
 | .slice _=>match px,py with
  | .nils _,.nils _=>K true
  | .d (.sl (_::_)),.nils _=>K false
  | .sl _ _ (_::_),.nils _=>K false
  | _,_=>False
 | .struct fs=>match (T.get t).eqok with
  | true=>match px,py with
   | .agg xs,.agg ys=>YJ T 0 fs xs ys K
   | _,_=>False
  | false=>False
 | _=>False
def Zvc (T:Tab) (op:BinOp) (t:TypeId) (x y:Operand) (px py:PV) (K:PV->Prop):Prop :=
 match px,py with
 | .d (.int k a),.d (.int k' b)=>match op with
  | .shl=>0<=b/\ZcT k (a * 2 ^ (min b.toNat k.bits)) K
  | .shr=>0<=b/\K (.d (.int k (a.fdiv (2 ^ (min b.toNat k.bits)))))
  | op=>match keq k k' with | true=>ZAs op k a b K | false=>False
 | .d (.str a),.d (.str b)=>match op with
  | .add=>a.length+b.length<2 ^ 62/\K (.d (.str (a++b))) | .eql=>K (.d (.bool (decide (a=b)))) | .neq=>K (.d (.bool (!decide (a=b))))
  | .lss=>K (.d (.bool (Op.bytesLess a b))) | .geq=>K (.d (.bool (!Op.bytesLess a b)))
  | .leq=>K (.d (.bool (Op.bytesLess a b || decide (a=b)))) | .gtr=>K (.d (.bool (!(Op.bytesLess a b || decide (a=b)))))
  | _=>False
 | px,py=>match op with
  | .eql=>peq T t x y px py fun b=>K (.d (.bool b))
  | .neq=>peq T t x y px py fun b=>K (.d (.bool (!b)))
  | _=>False
def decodeL (s:List UInt8) (pos:Nat):Nat×Nat:=Utf8.decode ⟨s.toArray⟩ pos
def Yx (T:Tab) (fs:List (Nat×Nat)) (ρ:Operand->PV):List (Nat×Operand)->List PV->(List PV->Prop)->Prop
 | [],cs,K=>K cs
 | (i,x)::ps,cs,K=>match fs[i]?,(ρ x).cells with
  | some (o,t),some l=>match Nat.beq l.length (T.get t).size,Nat.ble (o+l.length) cs.length,(T.get t).kind with
   | _,_,.other=>False
   | true,true,_=>Yx T fs ρ ps (Yk cs o l) K
   | _,_,_=>False
  | _,_=>False
def ZvY (s e:Nat):Nat->Nat->List (Nat×Nat)
 | 0,_=>[]
 | n+1,i=>(i * s,e)::ZvY s e n (i+1)
def Vp (lo hi:Option PV) (len:Nat) (K:Nat->Nat->Prop):Prop :=
 match lo,hi with
 | none,none=>K 0 len
 | some x,none=>match x with
  | .d (.int _ n)=>0<=n/\n<=len/\K n.toNat len
  | _=>False
 | none,some y=>match y with
  | .d (.int _ m)=>0<=m/\m<=len/\K 0 m.toNat
  | _=>False
 | some x,some y=>match x,y with
  | .d (.int _ n),.d (.int _ m)=>0<=n/\n<=m/\m<=len/\K n.toNat m.toNat
  | _,_=>False
def cut {α:Type} (l:List α) (a b:Nat):List α:=(l.take b).drop a
def Ja (T:Tab) (t:TypeId) (x:PV) (lo hi:Option PV) (K:PV->Prop):Prop:=match (T.get t).kind with
 | .string=>match x with
  | .d (.str s)=>Vp lo hi s.length fun a b=>K (.d (.str (cut s a b)))
  | _=>False
 | .slice e=>match (T.get e).kind with
  | .other=>False
  | _=>match toD x with
   | some (.sl rows)=>(∀r∈rows,r.length=(T.get e).size)/\Vp lo hi rows.length fun a b=>K (.d (.sl (cut rows a b)))
   | _=>False
 | .array n e=>match (T.get e).kind with
  | .other=>False
  | _=>match x,lo,hi with
   | .ptr b off,none,none=>K (.asl b off n)
   | .ptr b off,some (.d (.int _ a)),none=>0<=a/\a<n/\K (.asl b (off+a.toNat * (T.get e).size) (n - a.toNat))
   | _,_,_=>False
 | _=>False
def ZaZ (T:Tab) (t:TypeId) (x:PV) (bx:List Box) (K:PV->Prop):Prop:=match x with
 | .ptr b off=>match bx[b]? with
  | some (.cells _ cs)=>match (T.get t).kind.isAgg with
   | true=>match U2 (T.get t).size (cs.drop off) with | some l=>K (.agg l) | none=>False
   | false=>match (T.get t).kind with | .other=>False | _=>match cs[off]? with | some v=>K v | none=>False
  | _=>False
 | .elem r off=>match (T.get t).kind.isAgg with
   | true=>match U2 (T.get t).size (r.drop off) with | some l=>K (.agg (l.map .d)) | none=>False
   | false=>match (T.get t).kind with | .other=>False | _=>match r[off]? with | some v=>K (.d v) | none=>False
 | _=>False
def Zoy (v:TI):Option PV:=match v.kind.isAgg,v.zero with | true,z=>some (.agg z) | false,[z]=>some z | _,_=>none
def findM (key:List UInt8):List PV->Option PV
 | .d (.str k)::v::l=>match decide (key=k) with | true=>some v | false=>findM key l
 | _=>none
def optK {α:Type} (o:Option α) (A:α->Prop) (B:Prop):Prop:=match o with | some a=>A a | none=>B
def optK.yes {α:Type} {o:Option α} {A:α->Prop} {B:Prop} {a:α} (h:o=some a) (k:A a):optK o A B:=by subst h;exact k
def optK.no {α:Type} {o:Option α} {A:α->Prop} {B:Prop} (h:o=none) (k:B):optK o A B:=by subst h;exact k
def ZGp {α:Type} {o:Option α} {A:α->Prop} {B:Prop} (h1:∀a,o=some a->A a) (h2:o=none->B):optK o A B:=by cases o with | some a=>exact h1 a rfl | none=>exact h2 rfl
def lkM {α:Type} (k:List UInt8):List (List UInt8×α)->Option α
 | []=>none
 | (x,v)::l=>match decide (k=x) with | true=>some v | false=>lkM k l
def Z2 {α:Type} (k:List UInt8) (v:α):List (List UInt8×α)->List (List UInt8×α)
 | []=>[(k,v)]
 | (x,u)::l=>match decide (k=x) with | true=>(x,v)::l | false=>(x,u)::Z2 k v l
def Zh3 (k:List UInt8) (rows:List (List D)):Option (List UInt8×PV)->PV
 | none=>.d (.sl rows)
 | some (k',v)=>match decide (k=k') with | true=>v | false=>.d (.sl rows)
def V6:List (List UInt8×List (List D))->Option (List UInt8×PV)->List PV
 | [],_=>[]
 | (k,rows)::l,fo=>.d (.str k)::Zh3 k rows fo::V6 l fo
def ZDe (m:List (List UInt8×List (List D))) (fo:Option (List UInt8×PV)):List PV :=
 (match fo with | none=>.nilm | some (k,v)=>.tuple [.d (.str k),v])::m.map fun x=>.tuple [.d (.str x.1),.d (.sl x.2)]
def J6:List (List UInt8×MV)->List PV
 | []=>[]
 | (k,v)::l=>.d (.str k)::v.pv::J6 l
def ZDz:PV->Option MV
 | .agg cs=>match Zox cs with | some l=>some (.agg l) | none=>none
 | v=>match toD v with | some x=>some (.one x) | none=>none
def YD (T:Tab) (t:TypeId) (m key:PV) (ok:Bool) (bx:List Box) (K:PV->Prop):Prop:=match (T.get t).kind with
 | .map _ e=>match (T.get e).kind with
  | .other=>False
  | _=>match key with
   | .d (.str k) =>
    match Zoy (T.get e) with
    | some z=>match m with
     | .nilm=>K (match ok with | true=>.tuple [z,.d (.bool false)] | false=>z)
     | .mp b=>match bx[b]? with
      | some (.map cs _ _)=>match findM k cs with
       | some v=>K (match ok with | true=>.tuple [v,.d (.bool true)] | false=>v)
       | none=>K (match ok with | true=>.tuple [z,.d (.bool false)] | false=>z)
      | some (.dmap l)=>optK (lkM k l) (fun v=>K (match ok with | true=>.tuple [v.pv,.d (.bool true)] | false=>v.pv)) (K (match ok with | true=>.tuple [z,.d (.bool false)] | false=>z))
      | some (.smap _ l fo)=>match fo with
       | none=>optK (lkM k l) (fun v=>K (match ok with | true=>.tuple [.d (.sl v),.d (.bool true)] | false=>.d (.sl v))) (K (match ok with | true=>.tuple [z,.d (.bool false)] | false=>z))
       | some (k',v)=>match ok,z with | false,.nils _=>k=k'/\K v | _,_=>False
      | _=>False
     | _=>False
    | none=>False
   | _=>False
 | _=>False
def qop (T:Tab) (o:Op) (ty:TypeId) (ρ:Operand->PV) (bx:List Box) (K:PV->Prop):Prop :=
 match o with
 | .move x | .assign x=>match ρ x with
  | .nils _=>match (T.get ty).kind with | .slice e=>K (.nils e) | _=>K (.nils 0)
  | v=>K v
 | .pick c a b=>match ρ c with | .d (.bool t)=>CondP t (K (ρ a)) (K (ρ b)) | _=>False
 | .build t ps=>match (T.get t).kind with
  | .struct fs=>Yx T fs ρ ps.toList (T.get t).zero fun cs=>K (.agg cs)
  | .array n e=>match (T.get e).kind with
   | .other=>False
   | _=>match Nat.ble 1 (T.get e).size with
    | true=>Yx T (ZvY (T.get e).size e n 0) ρ ps.toList (T.get t).zero fun cs=>K (.agg cs)
    | false=>False
  | _=>False
 | .load t a=>ZaZ T t (ρ a) bx K
 | .lookup t m x ok=>YD T t (ρ m) (ρ x) ok bx K
 | .nilCheck x=>match ρ x with
  | .ptr b off=>K (.ptr b off)
  | .elem r off=>K (.elem r off)
  | .func g a c=>K (.func g a c)
  | _=>False
 | .binOp op t x y _=>Zvc T op t x y (ρ x) (ρ y) K
 | .unOp op _ x=>match op,ρ x with
  | .not,.d (.bool b)=>K (.d (.bool (!b)))
  | .neg,.d (.int k a)=>ZcT k (0 - a) K
  | .xor,.d (.int k a)=>K (.d (.int k (Zj .xor k (if k.signed then -1 else k.max) a)))
  | _,_=>False
 | .convert s d x=>match (T.get s).kind with
  | .other=>False
  | .slice e=>match (T.get d).kind with
   | .string=>match (T.get e).kind with
    | .int .u8=>match toD (ρ x) with
     | some (.sl rows)=>∃l:List UInt8,rows=l.map (fun b=>[.int .u8 b.toNat])/\K (.d (.str l))
     | _=>False
    | _=>False
   | _=>False
  | _=>match (T.get d).kind with
   | .int k=>match ρ x with | .d (.int _ n)=>ZcT k n K | _=>False
   | .string=>match ρ x with | .d (.str s)=>K (.d (.str s)) | .d (.int _ n)=>K (.d (.str (Utf8.encode n).data.toList)) | _=>False
   | _=>False
 | .fieldAddr s x i=>match (T.get s).kind with
  | .struct fs=>match fs[i]? with
   | some (o,_)=>match ρ x with
    | .ptr b off=>K (.ptr b (off+o))
    | .elem r off=>K (.elem r (off+o))
    | _=>False
   | none=>False
  | _=>False
 | .field s x i=>match (T.get s).kind with
  | .struct fs=>match fs[i]? with
   | some (o,t)=>match ρ x with
    | .agg cs=>match (T.get t).kind.isAgg with
     | true=>match U2 (T.get t).size (cs.drop o) with | some l=>K (.agg l) | none=>False
     | false=>match (T.get t).kind with | .other=>False | _=>match cs[o]? with | some v=>K v | none=>False
    | _=>False
   | none=>False
  | _=>False
 | .index t x i=>match ρ i with
  | .d (.int _ n)=>match (T.get t).kind with
   | .string=>match ρ x with
    | .d (.str s)=>0<=n/\n<s.length/\K (.d (.int .u8 (s.getD n.toNat 0).toNat))
    | _=>False
   | .array m e=>match ρ x with
    | .agg cs=>match (T.get e).kind.isAgg with
     | true=>match U2 (T.get e).size (cs.drop (n.toNat * (T.get e).size)) with
      | some l=>0<=n/\n<m/\K (.agg l)
      | none=>False
     | false=>match (T.get e).kind with
      | .other=>False
      | _=>match Nat.beq (T.get e).size 1 with
       | true=>match cs[n.toNat]? with | some v=>0<=n/\n<m/\K v | none=>False
       | false=>False
    | _=>False
   | _=>False
  | _=>False
 | .indexAddr t x i=>match ρ i with
  | .d (.int _ n)=>match (T.get t).kind with
   | .slice e=>match (T.get e).kind with
    | .other=>False
    | _=>match ρ x with
     | .asl b off m=>0<=n/\n<m/\K (.ptr b (off+n.toNat * (T.get e).size))
     | px=>match toD px with
      | some (.sl rows)=>∃r,0<=n/\rows[n.toNat]?=some r/\(match Nat.beq r.length (T.get e).size with | true=>K (.elem r 0) | false=>False)
      | _=>False
   | .array m e=>match (T.get e).kind with
    | .other=>False
    | _=>match ρ x with
     | .ptr b off=>0<=n/\n<m/\K (.ptr b (off+n.toNat * (T.get e).size))
     | _=>False
   | _=>False
  | _=>False
 | .slice t x lo hi none=>Ja T t (ρ x) (lo.map ρ) (hi.map ρ) K
 | .extract x i=>match ρ x with
  | .tuple vs=>match vs[i]? with | some v=>K v | none=>False
  | _=>False
 | .makeFunc (.func g) a c=>K (.func g (a.toList.map ρ) (c.toList.map ρ))
 | .makeInterface t x=>match (T.get t).kind with
  | .iface=>False
  | .other=>False
  | _=>K (.iface t (ρ x))
 | .typeAssert x _ t true=>match (T.get t).kind with
  | .iface=>False
  | .other=>False
  | _=>match ρ x with
   | .iface t' v=>match Nat.beq t' t with
    | true=>K (.tuple [v,.d (.bool true)])
    | false=>False
   | _=>False
 | .call { callee:=.builtin b,args,argTypes }=>match b,argTypes.toList,args.toList.map ρ with
  | .len,t::_,[v]=>match (T.get t).kind with
   | .string=>match v with | .d (.str s)=>K (.d (.int .i64 s.length)) | _=>False
   | .slice _=>match v with
    | .asl _ _ n=>K (.d (.int .i64 n))
    | v=>match toD v with | some (.sl rows)=>K (.d (.int .i64 rows.length)) | _=>False
   | .map _ _=>match v with
    | .nilm=>K (.d (.int .i64 (0:Nat)))
    | .mp b=>match bx[b]? with | some (.map cs _ _)=>K (.d (.int .i64 (cs.length / 2:Nat))) | some (.dmap l)=>K (.d (.int .i64 l.length)) | _=>False
    | _=>False
   | _=>False
  | .min,_,[.d (.int k a),.d (.int k' b)]=>match keq k k' with | true=>K (.d (.int k (min a b))) | false=>False
  | .max,_,[.d (.int k a),.d (.int k' b)]=>match keq k k' with | true=>K (.d (.int k (max a b))) | false=>False
  | _,_,_=>False
 | _=>False
def ZmT (T:Tab) (o:Op):Option Operand:=match o with
 | .convert s d x=>match (T.get s).kind with
  | .string=>match (T.get d).kind with
   | .slice e=>match (T.get e).kind with
    | .int .u8=>some x
    | _=>none
   | _=>none
  | _=>none
 | _=>none
def ZjL (v:PV):Option (List D):=match v.cells with | some l=>Zox l | none=>none
def XV (w:Nat) (ρ:Operand->PV):List (Nat×Operand)->List (List D)->Option (List (List D))
 | [],rows=>some rows
 | (i,x)::ps,rows=>match ZjL (ρ x) with
  | some r=>(match Nat.beq r.length w,Nat.ble (i+1) rows.length with | true,true=>XV w ρ ps (rows.set i r) | _,_=>none)
  | none=>none
def ZcU (zero:List D) (ρ:Operand->PV) (n:Nat) (ps:List (Nat×Operand)):Option (List (List D)):=XV zero.length ρ ps (List.replicate n zero)
def Zh4 (T:Tab) (o:Op) (ty:TypeId) (ρ:Operand->PV) (bx:List Box) (K:PV->Prop):Prop:=match ZmT T o with
 | some x=>match ρ x with
  | .d (.str s)=>K (.d (.sl (s.map fun b=>[.int .u8 b.toNat])))
  | _=>False
 | none=>match o with
  | .buildSlice t n ps=>match (T.get t).kind with
   | .slice e=>match (T.get e).kind with
    | .other=>False
    | _=>match Zox (T.get e).zero with
     | some zero=>match Nat.ble 1 zero.length,Nat.ble (n * zero.length) 16777216,ZcU zero ρ n ps.toList with
      | true,true,some rows=>K (.d (.sl rows))
      | _,_,_=>False
     | none=>False
   | _=>False
  | .makeSlice t l c=>match (T.get t).kind with
   | .slice e=>match (T.get e).kind with
    | .other=>False
    | _=>match Zox (T.get e).zero,ρ l,ρ c with
     | some zero,.d (.int .i64 (.ofNat n)),.d (.int .i64 (.ofNat m))=>n=m/\1<=zero.length/\n * zero.length<=16777216/\n * (T.get e).bytes<=16777216/\K (.d (.sl (List.replicate n zero)))
     | _,_,_=>False
   | _=>False
  | o=>qop T o ty ρ bx K
def St.set (σ:St) (b:Nat) (x:Box):St:={ σ with bx:=σ.bx.set b x }
def St.new (σ:St) (x:Box):St:={ σ with bx:=σ.bx++[x] }
def Vq (T:Tab) (tx el:Nat) (x:PV):Option (List (List D)):=match (T.get tx).kind with
 | .string=>match (T.get el).kind with
  | .int .u8=>match x with
   | .d (.str s)=>some (s.map fun b=>[.int .u8 b.toNat])
   | _=>none
  | _=>none
 | .slice _=>match toD x with
  | some (.sl rows)=>some rows
  | _=>none
 | _=>none
def ZmU (key:List UInt8) (v:PV):List PV->Option (List PV)
 | .d (.str k)::u::l=>match decide (key=k) with
  | true=>some (.d (.str k)::v::l)
  | false=>match ZmU key v l with | some l=>some (.d (.str k)::u::l) | none=>none
 | _=>none
def ZcV (T:Tab) (t:TypeId) (m key v:PV) (σ:St) (K:PV->St->Prop):Prop:=match (T.get t).kind with
 | .map _ _=>match key,m with
  | .d (.str k),.mp b=>match σ.bx[b]? with
   | some (.map cs bn ck)=>match ZmU k v cs with
    | some cs=>K .undef (σ.set b (.map cs bn ck))
    | none=>K .undef (σ.set b (.map (cs++[.d (.str k),v]) (bn++[ck]) (ck+1)))
   | some (.dmap l)=>match ZDz v with
    | some x=>K .undef (σ.set b (.dmap (Z2 k x l)))
    | none=>False
   | some (.smap el l (some (k',_)))=>k=k'/\K .undef (σ.set b (.smap el (Z2 k [] l) (some (k,v))))
   | _=>False
  | _,_=>False
 | _=>False
def asT (T:Tab) (t:TypeId) (v:PV):PV:=match v with
 | .nils e=>match (T.get t).kind with | .slice el=>.nils el | _=>.nils e
 | v=>v
def eop (T:Tab) (o:Op) (ρ:Operand->PV) (σ:St) (K:PV->St->Prop):Prop :=
 match o with
 | .alloc e=>match (T.get e).kind with | .other=>False | _=>K (.ptr σ.bx.length 0) (σ.new (.cells e (T.get e).zero))
 | .box e x=>match (ρ x).cells with | some l=>K (.ptr σ.bx.length 0) (σ.new (.cells e l)) | none=>False
 | .store t a x=>match ρ a with
  | .ptr b off=>match σ.bx[b]? with
   | some (.cells ty cs)=>match (asT T t (ρ x)).cells with
    | some l=>match Nat.beq l.length (T.get t).size,Nat.ble (off+l.length) cs.length,(T.get t).kind with
     | _,_,.other=>False
     | true,true,_=>K .undef (σ.set b (.cells ty (Yk cs off l)))
     | _,_,_=>False
    | none=>False
   | _=>False
  | _=>False
 | .range t x=>match (T.get t).kind with
  | .string=>match ρ x with
   | .d (.str s)=>K (.ptr σ.bx.length 0) (σ.new (.iter s 0))
   | _=>False
  | _=>False
 | .makeMap t none=>match (T.get t).kind with
  | .map _ e=>match (T.get e).kind with
   | .slice _=>K (.mp σ.bx.length) (σ.new (.map [] [] 0))
   | .map _ _=>K (.mp σ.bx.length) (σ.new (.map [] [] 0))
   | _=>K (.mp σ.bx.length) (σ.new (.dmap []))
  | _=>False
 | .mapUpdate t m x v=>ZcV T t (ρ m) (ρ x) (ρ v) σ K
 | .insert t m x v=>ZcV T t (ρ m) (ρ x) (ρ v) σ K
 | .next x true=>match ρ x with
  | .ptr b 0=>match σ.bx[b]? with
   | some (.iter s pos)=>CondP (decide (pos<s.length)) (K (.tuple [.d (.bool true),.d (.int .i64 pos),.d (.int .i32 (decodeL s pos).1)]) (σ.set b (.iter s (pos+(decodeL s pos).2)))) (K (.tuple [.d (.bool false)]) σ)
   | _=>False
  | _=>False
 | .call { callee:=.builtin .append,args,argTypes }=>match argTypes.toList,args.toList.map ρ with
  | [t,tx],[s,x]=>match (T.get t).kind with
   | .slice el=>match (T.get el).kind with
    | .other=>False
    | _=>match Nat.ble 1 (T.get el).size,Vq T tx el x with
     | true,some more=>match s with
      | .nils _=>(∀r∈more,r.length=(T.get el).size)/\more.length * (T.get el).bytes<=2 ^ 47/\more.length<=2 ^ 47/\K (.sl σ.nx el more) { σ with tk:=σ.nx::σ.tk,nx:=σ.nx+1 }
      | .sl tok e2 rows=>match ZhZ tok σ.tk,Nat.beq e2 el with
       | true,true=>(∀r∈more,r.length=(T.get el).size)/\(rows.length+more.length) * (T.get el).bytes<=2 ^ 47/\rows.length+more.length<=2 ^ 47 /\
         K (.sl σ.nx el (rows++more)) { σ with tk:=σ.nx::Js tok σ.tk,nx:=σ.nx+1 }
       | _,_=>False
      | _=>False
     | _,_=>False
   | _=>False
  | _,_=>False
 | _=>False
def Y4:Op->Bool
 | .alloc _ | .box _ _ | .store _ _ _ | .range _ _ | .next _ _ | .makeMap _ _ | .mapUpdate _ _ _ _ | .insert _ _ _ _=>true
 | .call { callee:=.builtin .append,.. }=>true
 | .call { callee:=.builtin _,.. }=>false
 | .call _=>true
 | .panic _=>true
 | _=>false
mutual
def bnd (n:Nat):PV->Bool
 | .ptr b _=>Nat.ble (b+1) n
 | .asl b _ _=>Nat.ble (b+1) n
 | .mp b=>Nat.ble (b+1) n
 | .func _ a c=>Zsi n a && Zsi n c
 | .iface _ v=>bnd n v
 | .agg cs=>Zsi n cs
 | .tuple vs=>Zsi n vs
 | _=>true
def Zsi (n:Nat):List PV->Bool
 | []=>true
 | v::l=>bnd n v && Zsi n l
end
mutual
def clean:PV->PV
 | .sl _ _ rows=>.d (.sl rows)
 | .nils _=>.d (.sl [])
 | .func f a c=>.func f (XB a) (XB c)
 | .iface t v=>.iface t (clean v)
 | .agg cs=>.agg (XB cs)
 | .tuple vs=>.tuple (XB vs)
 | .d x=>.d x
 | .undef=>.undef
 | .ptr b o=>.ptr b o
 | .elem r o=>.elem r o
 | .asl b o n=>.asl b o n
 | .raw v=>.raw v
 | .mp b=>.mp b
 | .nilm=>.nilm
def XB:List PV->List PV
 | []=>[]
 | v::l=>clean v::XB l
end
def VQ (f:Frame):Frame:=fun i=>clean (f i)
mutual
def cleanN:PV->PV
 | .sl _ _ rows=>.d (.sl rows)
 | .nils e=>.nils e
 | .func f a c=>.func f (XB a) (XB c)
 | .iface t v=>.iface t (clean v)
 | .agg cs=>.agg (cleanNL cs)
 | .tuple vs=>.tuple (XB vs)
 | .d x=>.d x
 | .undef=>.undef
 | .ptr b o=>.ptr b o
 | .elem r o=>.elem r o
 | .asl b o n=>.asl b o n
 | .raw v=>.raw v
 | .mp b=>.mp b
 | .nilm=>.nilm
def cleanNL:List PV->List PV
 | []=>[]
 | v::l=>cleanN v::cleanNL l
end
inductive PEnd where | ret (v:PV) | panic (v:PV)
inductive PExit where | normal | exit (id:Nat) | goto (l:Nat) | ret | panic (v:PV)
abbrev PQ:=PExit->Frame->St->Prop
structure LoopAnn where
 live:List Nat
 keep:List Nat
 I:List PV->St->Prop
 μ:List PV->St->Nat
structure Cx where
 T:Tab
 call:FuncId->List PV->St->(PEnd->St->Prop)->Prop
 raw:Value->List PV->St->(PEnd->St->Prop)->Prop
 iter:FuncId->List PV->(Value->List PV->St->(PEnd->St->Prop)->Prop)->St->(PEnd->St->Prop)->Prop
 loop:Nat->LoopAnn
 unr:Nat->Nat:=fun _=>0
 tie:Nat->Bool:=fun _=>false
 bsl:Nat->Bool:=fun _=>false
 pk:Bool:=true
 cut:Nat->Option (List Nat×(List PV->St->Prop)):=fun _=>none
 ag:Nat->Bool:=fun _=>false
 foc:Nat->Bool:=fun _=>false
def LoopAnn.tied (A:LoopAnn) (f:Frame):LoopAnn:=⟨A.live,A.keep,fun vs σ=>A.I (A.keep.map (fun i=>clean (f i))++vs) σ,fun vs σ=>A.μ (A.keep.map (fun i=>clean (f i))++vs) σ⟩
def Cx.inner (C:Cx):Cx:={ C with iter:=fun _ _ _ _ _=>False }
def Cx.calm (C:Cx):Cx:={ C with raw:=fun _ _ _ _=>False,iter:=fun _ _ _ _ _=>False,pk:=false }
def Cx.pf (C:Cx) (f:Frame):Frame:=match C.pk with | true=>VQ f | false=>fun _=>.undef
def Zh5:List PV->(List PV->Prop)->Prop
 | [],K=>K []
 | v::l,K=>U1 v fun v=>Zh5 l fun l=>K (v::l)
def ZcW:List Nat->(List Nat->Prop)->Prop
 | [],K=>K []
 | t::l,K=>Yl t fun t=>ZcW l fun l=>K (t::l)
def XQ:List Box->(List Box->Prop)->Prop
 | [],K=>K []
 | .cells t cs::l,K=>Zh5 cs fun cs=>XQ l fun l=>K (.cells t cs::l)
 | .iter s p::l,K=>XQ l fun l=>K (.iter s p::l)
 | .loop st pd r::l,K=>XQ l fun l=>K (.loop st pd r::l)
 | .dmap m::l,K=>XQ l fun l=>K (.dmap m::l)
 | .smap el m none::l,K=>XQ l fun l=>K (.smap el m none::l)
 | .smap el m (some (k,v))::l,K=>U1 v fun v=>XQ l fun l=>K (.smap el m (some (k,v))::l)
 | .map cs bn ck::l,K=>Zh5 cs fun cs=>ZcW bn fun bn=>Yl ck fun ck=>XQ l fun l=>K (.map cs bn ck::l)
def Xs (σ:St) (K:St->Prop):Prop:=XQ σ.bx fun bx=>ZcW σ.tk fun tk=>Yl σ.nx fun nx=>K ⟨bx,tk,nx⟩
def Zvd:List PV->Bool
 | []=>false
 | .raw (.func (.yield _) _ _)::_=>true
 | _::l=>Zvd l
def Zfg (C:Cx) (fv:PV) (args:List PV) (f:Frame) (σ:St) (K:PEnd->Frame->St->Prop):Prop:=match fv with
 | .func g first caps=>match Zvd args with
  | false=>C.call g (first++args++caps) σ fun e σ=>K e f σ
  | true=>C.iter g (first++args++caps) C.raw σ fun e σ=>K e (VQ f) σ
 | .raw v=>C.raw v args σ fun e σ=>K e (VQ f) σ
 | _=>False
def Wa (C:Cx) (o:Oper) (f:Frame) (σ:St) (Q:PQ) (K:Frame->St->Prop):Prop :=
 match Y4 o.op with
 | false=>Zh4 C.T o.op o.type (ev f) σ.bx fun v=>ZjD f o.dst v fun f=>K f σ
 | true=>match o.op with
  | .call { callee:=.value x,args,.. }=>Zfg C (ev f x) (args.toList.map (ev f)) f σ fun e f σ'=>match e with
    | .ret v=>Xs σ' fun σ'=>ZjD f o.dst v fun f=>K f σ'
    | .panic v=>Xs σ' fun σ'=>U1 v fun v=>Q (.panic v) (C.pf f) σ'
  | .panic x=>match ev f x with
    | .iface t v=>Q (.panic (.iface t v)) (C.pf f) σ
    | _=>False
  | op=>eop C.T op (ev f) σ fun v σ'=>Xs σ' fun σ'=>ZjD f o.dst v fun f=>K f σ'
def WV (all:List Oper) (j:Nat):Option Nat:=match all[j]? with | some o=>o.dst | none=>none
def VX (C:Cx) (all:List Oper) (Q:PQ) (o:Oper) (f:Frame) (σ:St) (K:Frame->St->Prop):Prop :=
 match o.guard with
 | none=>Wa C o f σ Q K
 | some (j,want)=>match WV all j with
  | some s=>match f s with
   | .d (.bool t)=>CondP t
     (match want with | true=>Wa C o (Vn f s (.d (.bool true))) σ Q K | false=>ZjD (Vn f s (.d (.bool true))) o.dst (.raw Go.undef) fun f=>K f σ)
     (match want with | false=>Wa C o (Vn f s (.d (.bool false))) σ Q K | true=>ZjD (Vn f s (.d (.bool false))) o.dst (.raw Go.undef) fun f=>K f σ)
   | .raw (.tuple _)=>ZjD f o.dst (.raw Go.undef) fun f=>K f σ
   | _=>False
  | none=>False
def Zli (C:Cx) (o:Oper):Bool:=match o.dst with
 | some d=>match o.guard with | none=>C.bsl d | _=>false
 | none=>false
def ZAt (T:Tab) (o:Op) (ρ:Operand->PV) (σ:St) (K:PV->St->Prop):Prop:=match o with
 | .buildSlice t n ps=>match (T.get t).kind with
   | .slice e=>match (T.get e).kind with
    | .other=>False
    | _=>match Zox (T.get e).zero with
     | some zero=>match Nat.ble 1 zero.length,Nat.ble (n * zero.length) 16777216,Nat.ble 1 n,ZcU zero ρ n ps.toList with
      | true,true,true,some rows=>K (.sl σ.nx e rows) { σ with tk:=σ.nx::σ.tk,nx:=σ.nx+1 }
      | _,_,_,_=>False
     | none=>False
   | _=>False
 | .convert s d x=>match (T.get s).kind with
   | .slice e=>match (T.get d).kind,(T.get e).kind,ρ x with
    | .string,.int .u8,.asl b off n=>match σ.bx[b]? with
     | some (.cells _ cs)=>∃l:List UInt8,l.length=n/\U2 n (cs.drop off)=some (l.map fun b=>.d (.int .u8 b.toNat))/\K (.d (.str l)) σ
     | _=>False
    | _,_,_=>False
   | _=>False
 | .makeMap t none=>match (T.get t).kind with
  | .map _ e=>match (T.get e).kind with
   | .slice el=>K (.mp σ.bx.length) (σ.new (.smap el [] none))
   | _=>False
  | _=>False
 | _=>False
def Zlj (C:Cx) (all:List Oper) (Q:PQ) (o:Oper) (f:Frame) (σ:St) (K:Frame->St->Prop):Prop:=match Zli C o with
 | true=>ZAt C.T o.op (ev f) σ fun v σ'=>Xs σ' fun σ'=>ZjD f o.dst v fun f=>K f σ'
 | false=>VX C all Q o f σ K
def Zsj (C:Cx) (all:List Oper) (Q:PQ):List Oper->Frame->St->Prop
 | [],f,σ=>Q .normal f σ
 | o::rest,f,σ=>Zlj C all Q o f σ (Zsj C all Q rest)
structure Ld where
 i:Nat
 b:Nat
 off:Nat
 n:Nat
def Z8 (bx:List Box) (b off n:Nat):Option (Nat×List PV×List (List UInt8×MV)):=match bx[b]? with
 | some (.cells _ cs)=>some (0,(cs.drop off).take n,[])
 | some (.map cs _ _)=>some (1,cs,[])
 | some (.dmap m)=>some (2,[],m)
 | some (.smap _ m fo)=>some (3,ZDe m fo,[])
 | _=>none
def Jb (acc:List Nat):List Edge->Nat->Nat
 | [],s=>s
 | e::l,s=>match Region.binds .any e with
  | true=>Jb acc l (s ||| 2 ^ e.on ||| acc.getD e.on 0)
  | false=>Jb acc l s
def WM:List Oper->List Nat->List Nat
 | [],acc=>acc
 | o::l,acc=>WM l (acc++[Jb acc o.after.toList 0])
def anc (ms:List Nat) (i j:Nat):Bool:=(ms.getD j 0).testBit i
def WX (o:Oper) (left:List (Nat×Oper)):Bool:=match left with
 | []=>false
 | (i,_)::l=>(o.after.toList.any fun e=>Region.binds .any e && Nat.beq e.on i) || WX o l
def Zgu:List (Nat×Oper)->List (Nat×Oper)->Option (Nat×Oper)
 | _,[]=>none
 | left,(i,o)::l=>match Y4 o.op,WX o left with
  | false,false=>some (i,o)
  | _,_=>Zgu left l
def Yp (i:Nat):List (Nat×Oper)->List (Nat×Oper)
 | []=>[]
 | (j,o)::l=>match Nat.beq i j with | true=>l | false=>(j,o)::Yp i l
def VR:Nat->List (Nat×Oper)->List (Nat×Oper)
 | 0,l=>l
 | _+1,[]=>[]
 | n+1,x::l=>match Zgu (x::l) (x::l) with
  | some (i,o)=>(i,o)::VR n (Yp i (x::l))
  | none=>x::VR n l
def ZJ:Nat->List Oper->List (Nat×Oper)
 | _,[]=>[]
 | i,o::l=>(i,o)::ZJ (i+1) l
def Zh6 (ops:List Oper):List (Nat×Oper):=VR ops.length (ZJ 0 ops)
def Zso (ms:List Nat) (j:Nat) (pre post:List Box):List Ld->Prop->Prop
 | [],X=>X
 | ⟨i,b,off,n⟩::l,X=>match anc ms i j with
  | true=>Zso ms j pre post l X
  | false=>Z8 pre b off n=Z8 post b off n/\Zso ms j pre post l X
def Zsk (T:Tab) (o:Op) (ρ:Operand->PV):Option (Nat×Nat×Nat):=match o with
 | .load t a=>match ρ a with
  | .ptr b off=>some (b,off,(T.get t).size)
  | _=>none
 | .lookup _ x _ _=>match ρ x with
  | .mp b=>some (b,0,0)
  | _=>none
 | .call { callee:=.builtin .len,args,.. }=>match args.toList.map ρ with
  | [.mp b]=>some (b,0,0)
  | _=>none
 | _=>none
def V7 (T:Tab) (o:Oper) (i:Nat) (f:Frame) (ctx:List Ld):List Ld:=match Zsk T o.op (ev f) with
 | some (b,off,n)=>⟨i,b,off,n⟩::ctx
 | none=>ctx
def Wb (C:Cx) (all:List Oper) (ms:List Nat) (Q:PQ) (i:Nat) (o:Oper) (ctx:List Ld) (f:Frame) (σ:St) (K:List Ld->Frame->St->Prop):Prop :=
 VX C all Q o f σ fun f' σ'=>match Y4 o.op with
  | true=>Zso ms i σ.bx σ'.bx ctx (K ctx f' σ')
  | false=>K (V7 C.T o i f ctx) f' σ'
def Wx (C:Cx) (all:List Oper) (ms:List Nat) (Q:PQ):List (Nat×Oper)->List Ld->Frame->St->Prop
 | [],_,f,σ=>Q .normal f σ
 | (i,o)::rest,ctx,f,σ=>Wb C all ms Q i o ctx f σ (Wx C all ms Q rest)
def ZmV (left:List (Nat×Oper)):List (Nat×Oper)->(Nat->Oper->Prop)->Prop
 | [],_=>True
 | (i,o)::l,X=>match WX o left with
  | true=>ZmV left l X
  | false=>X i o/\ZmV left l X
def Wc (C:Cx) (all:List Oper) (ms:List Nat) (Q:PQ):Nat->List (Nat×Oper)->List Ld->Frame->St->Prop
 | _,[],_,f,σ=>Q .normal f σ
 | 0,_::_,_,_,_=>False
 | n+1,x::l,ctx,f,σ=>match Zgu (x::l) (x::l) with
  | some (i,o)=>Wb C all ms Q i o ctx f σ (Wc C all ms Q n (Yp i (x::l)))
  | none=>ZmV (x::l) (x::l) fun i o=>Wb C all ms Q i o ctx f σ (Wc C all ms Q n (Yp i (x::l)))
def Zh7 (ms:List Nat):Option Nat->List (Nat×Oper)->Bool
 | _,[]=>true
 | prev,(i,o)::l=>match Y4 o.op with
  | false=>Zh7 ms prev l
  | true=>(match prev with | none=>true | some j=>anc ms j i) && Zh7 ms (some i) l
def toks:Nat->List Nat
 | 0=>[]
 | k+1=>k::toks k
def ZvZ (n:Nat) (tk:List Nat) (k:Nat) (v:PV) (K:PV->List Nat->Nat->Prop):Prop:=match v with
 | .sl t e rows=>match ZhZ t tk with
  | true=>K (.sl k e rows) (Js t tk) (k+1)
  | false=>K (.d (.sl rows)) tk k
 | .nils e=>K (.sl k e []) tk (k+1)
 | v=>match bnd n v with
  | true=>U1 (clean v) fun v=>K v tk k
  | false=>K .undef tk k
def Zve (n:Nat):List PV->List Nat->Nat->(List PV->List Nat->Nat->Prop)->Prop
 | [],tk,k,K=>K [] tk k
 | v::l,tk,k,K=>ZvZ n tk k v fun v tk k=>Zve n l tk k fun l tk k=>K (v::l) tk k
def Zgv (n:Nat) (tk:List Nat) (k:Nat) (v:PV) (K:PV->List Nat->Nat->Prop):Prop:=match v with
 | .sl t e rows=>match ZhZ t tk with
  | true=>K (.sl k e rows) (Js t tk) (k+1)
  | false=>K (.d (.sl rows)) tk k
 | .nils e=>K (.sl k e []) tk (k+1)
 | v=>match bnd n v with
  | true=>U1 (cleanN v) fun v=>K v tk k
  | false=>K .undef tk k
def ZmW (n:Nat):List PV->List Nat->Nat->(List PV->List Nat->Nat->Prop)->Prop
 | [],tk,k,K=>K [] tk k
 | v::l,tk,k,K=>Zgv n tk k v fun v tk k=>ZmW n l tk k fun l tk k=>K (v::l) tk k
def ZmX (n:Nat) (tk:List Nat) (k:Nat) (v:PV) (K:PV->List Nat->Nat->Prop):Prop:=match v with
 | .agg cs=>ZmW n cs tk k fun cs tk k=>K (.agg cs) tk k
 | v=>Zgv n tk k v K
def ZmY (n:Nat):List PV->List Nat->Nat->(List PV->List Nat->Nat->Prop)->Prop
 | [],tk,k,K=>K [] tk k
 | v::l,tk,k,K=>ZmX n tk k v fun v tk k=>ZmY n l tk k fun l tk k=>K (v::l) tk k
def Zsp (md n:Nat) (vs:List PV) (tk:List Nat) (k:Nat) (K:List PV->List Nat->Nat->Prop):Prop:=match md with
 | 0=>Zve n vs tk k K
 | 1=>ZmW n vs tk k K
 | _=>ZmY n vs tk k K
def Zfh (n:Nat):Nat->List Box->List Nat->Nat->(List Box->List Nat->Nat->Prop)->Prop
 | 0,_,tk,k,K=>K [] tk k
 | _+1,[],_,_,_=>False
 | m+1,.cells t cs::l,tk,k,K=>Zve n cs tk k fun cs tk k=>Zfh n m l tk k fun l tk k=>K (.cells t cs::l) tk k
 | m+1,.iter s p::l,tk,k,K=>Zfh n m l tk k fun l tk k=>K (.iter s p::l) tk k
 | m+1,.loop st pd r::l,tk,k,K=>Zfh n m l tk k fun l tk k=>K (.loop st pd r::l) tk k
 | m+1,.dmap c::l,tk,k,K=>Zfh n m l tk k fun l tk k=>K (.dmap c::l) tk k
 | m+1,.smap el c none::l,tk,k,K=>Zfh n m l tk k fun l tk k=>K (.smap el c none::l) tk k
 | _+1,.smap _ _ (some _)::_,_,_,_=>False
 | m+1,.map cs bn ck::l,tk,k,K=>Zve n cs tk k fun cs tk k=>Zfh n m l tk k fun l tk k=>K (.map cs bn ck::l) tk k
def Zoz (n:Nat) (vs:List PV) (σ:St) (K:List PV->St->Prop):Prop :=
 Zve n vs σ.tk 0 fun vs tk k=>Zfh n n σ.bx tk k fun bs _ k=>K vs ⟨bs,toks k,k⟩
def Jc (ag:Bool) (n:Nat) (vs:List PV) (σ:St) (K:List PV->St->Prop):Prop:=match ag with
 | true=>ZmY n vs σ.tk 0 fun vs tk k=>Zfh n n σ.bx tk k fun bs _ k=>K vs ⟨bs,toks k,k⟩
 | false=>Zoz n vs σ K
def Zgw (f:Frame):List Nat->List PV->Frame
 | i::is,v::vs=>Vn (Zgw f is vs) i v
 | _,_=>f
def ZjM (f:Frame):List Nat->Frame
 | []=>fun _=>.undef
 | i::is=>Vn (ZjM f is) i (clean (f i))
def YZ:List Oper->List Nat->Bool
 | [],_=>true
 | o::l,ks=>(match o.dst with | some d=>!(ZhZ d ks) | none=>true) && YZ l ks
def Ye (ks:List Nat):Code->Bool
 | .region _ ops _=>YZ ops.toList ks
 | .seq a b=>Ye ks a && Ye ks b
 | .cond _ a b=>Ye ks a && Ye ks b
 | .block _ b=>Ye ks b
 | .loop b=>Ye ks b
 | .rangeFunc ..=>true
 | .scope b=>Ye ks b
 | _=>true
def keyOf:Code->Nat
 | .region id _ _=>id
 | .seq a _=>keyOf a
 | .cond _ a _=>keyOf a
 | .block _ b=>keyOf b
 | .loop b=>keyOf b
 | .scope b=>keyOf b
 | _=>0
def ZoA:Frame->List Nat->List PV->Frame
 | f,i::is,v::vs=>ZoA (Vn f i v) is vs
 | f,_,_=>f
def ZAG (i:Nat) (r:Loop) (st:LoopState) (pd:Option Code) (b:Bool) (σ:St) (K:PEnd->St->Prop):Prop :=
 σ.bx[i]?=some (.loop .busy none r)/\K (.ret (.d (.bool b))) (σ.set i (.loop st pd r))
def Zv0 (i l:Nat) (r:Loop) (ps:List Nat) (WA WB:PQ->Frame->St->Prop) (f:Frame) (v:Value) (args:List PV) (σ:St) (K:PEnd->St->Prop):Prop :=
 v=.func (.yield l) #[] #[]/\σ.bx[i]?=some (.loop .ready none r)/\args.length=ps.length /\
  WA (fun e f1 σ1=>match e with
   | .normal=>σ1.bx[i]?=some (.loop .ready none r)/\WB (fun e _ σ2=>match e with
     | .normal=>ZAG i r .ready none true σ2 K
     | .ret=>ZAG i r .done (some .ret) false σ2 K
     | .exit id=>ZAG i r .done (some (.exit id)) false σ2 K
     | .goto t=>ZAG i r .done (some (.goto t)) false σ2 K
     | .panic _=>False) f1 (σ1.set i (.loop .busy none r))
   | _=>False) (ZoA f ps args) σ
def ZoB (i:Nat) (r:Loop) (f:Frame) (Q:PQ) (σ:St):Option Code->Prop
 | none=>Q .normal f (σ.set i (.loop .exhausted none r))
 | some .ret=>Q .ret f (σ.set i (.loop .exhausted (some .ret) r))
 | some (.exit id)=>Q (.exit id) f (σ.set i (.loop .exhausted (some (.exit id)) r))
 | some (.goto t)=>Q (.goto t) f (σ.set i (.loop .exhausted (some (.goto t)) r))
 | _=>False
def Zgx (i:Nat):List Oper->Bool
 | []=>false
 | o::l=>match o.dst with
  | some d=>(match Nat.beq d i with | true=>true | false=>Zgx i l)
  | none=>Zgx i l
def Cx.pd (C:Cx) (ops:List Oper) (f:Frame):Frame:=match C.pk with
 | true=>fun i=>match Zgx i ops with | true=>.undef | false=>clean (f i)
 | false=>fun _=>.undef
def ZjN (C:Cx) (ops:List Oper) (f0:Frame) (Q:PQ):PQ:=fun e f σ=>match e with
 | .panic v=>Q (.panic v) (C.pd ops f0) σ
 | e=>Q e f σ
structure Hole where
 pre:List Oper
 A:Oper
 I:Oper
 S:Oper
 F:Oper
 H:Oper
def Zfi (ops:List Oper):Option Hole:=match ops.reverse with
 | H::F::S::I::A::pre=>match A.op,I.op,S.op,F.op,H.op with
  | .call { callee:=.builtin .append,.. },.indexAddr _ _ _,.store _ _ _,.fieldAddr _ _ _,.store _ _ _=>some ⟨pre.reverse,A,I,S,F,H⟩
  | _,_,_,_,_=>none
 | _=>none
def ZmZ (T:Tab) (h:Hole) (f:Frame) (σ:St) (K:Frame->St->Prop):Prop:=match h.A.op,h.I.op,h.S.op with
 | .call { callee:=.builtin .append,args,argTypes },.indexAddr _ _ ix,.store ts _ x=>match argTypes.toList,args.toList,h.A.dst,h.I.dst with
  | [t,tx],[s,z],some da,some di=>match (T.get t).kind with
   | .slice el=>match (T.get el).kind with
    | .other=>False
    | _=>match Nat.ble 1 (T.get el).size,Nat.beq ts el,Vq T tx el (ev f z),ZjL (ev f x),ev f ix with
     | true,true,some [zr],some row,.d (.int _ n)=>match Nat.beq zr.length (T.get el).size,Nat.beq row.length (T.get el).size with
      | true,true=>match ev f s with
       | .nils _=>n=0/\1 * (T.get el).bytes<=2 ^ 47/\Xs ⟨σ.bx,(σ.nx+1)::σ.tk,σ.nx+2⟩ fun σ'=>ZjD f (some da) (.sl (σ.nx+1) el [row]) fun f=>ZjD f (some di) .undef fun f=>K f σ'
       | .sl tok e2 rows=>match ZhZ tok σ.tk,Nat.beq e2 el with
        | true,true=>n=rows.length/\(rows.length+1) * (T.get el).bytes<=2 ^ 47/\rows.length+1<=2 ^ 47 /\
          Xs ⟨σ.bx,(σ.nx+1)::Js tok σ.tk,σ.nx+2⟩ fun σ'=>ZjD f (some da) (.sl (σ.nx+1) el (rows++[row])) fun f=>ZjD f (some di) .undef fun f=>K f σ'
        | _,_=>False
       | _=>False
      | _,_=>False
     | _,_,_,_,_=>False
   | _=>False
  | _,_,_,_=>False
 | _,_,_=>False
def ZoC (C:Cx) (all:List Oper) (h:Hole) (Q:PQ):PQ:=fun e f σ=>match e with
 | .normal=>ZmZ C.T h f σ fun f σ=>VX C all Q h.F f σ fun f σ=>VX C all Q h.H f σ fun f σ=>Q .normal f σ
 | e=>Q e f σ
def Zlk (i:Nat) (f:Frame) (Q:PQ) (e:PEnd) (σ:St):Prop:=match e with
 | .ret _=>match σ.bx[i]? with
  | some (.loop st pd r)=>match st with
   | .busy=>False
   | _=>ZoB i r f Q σ pd
  | _=>False
 | .panic v=>Q (.panic v) (fun _=>.undef) σ
def Zfj (S:PQ->Frame->St->Prop) (Q:PQ):Nat->Frame->St->Prop
 | 0,_,_=>False
 | n+1,f,σ=>S (fun e f σ=>match e with | .normal=>Zfj S Q n f σ | e=>Q e f σ) f σ
def Zfk (b:Nat) (k:List UInt8) (σ:St) (K:St->Prop):Prop:=match σ.bx[b]? with
 | some (.smap el m none)=>optK (lkM k m) (fun rows=>K { σ.set b (.smap el m (some (k,.sl σ.nx el rows))) with tk:=σ.nx::σ.tk,nx:=σ.nx+1 }) (K (σ.set b (.smap el m (some (k,.nils el)))))
 | _=>False
def UE (b:Nat) (σ:St) (K:St->Prop):Prop:=match σ.bx[b]? with
 | some (.smap el m (some (k,.sl t e2 rows)))=>match ZhZ t σ.tk,Nat.beq e2 el with
  | true,true=>K { σ.set b (.smap el (Z2 k rows m) none) with tk:=Js t σ.tk }
  | _,_=>False
 | _=>False
def ZFs (b:Nat) (Q:PQ):PQ:=fun e f σ=>match e with
 | .normal=>UE b σ fun σ=>Xs σ fun σ=>Q .normal f σ
 | _=>False
def WR (C:Cx) (ops:List Oper) (draw:Bool) (Q:PQ) (f:Frame) (σ:St):Prop:=match draw with
  | false=>Zsj C ops Q ops f σ
  | true=>match Zfi ops with
   | none=>match Zh7 (WM ops []) none (ZJ 0 ops) with
    | true=>Wx C.calm ops (WM ops []) (ZjN C ops f Q) (Zh6 ops) [] f σ
    | false=>Wc C.calm ops (WM ops []) (ZjN C ops f Q) ops.length (ZJ 0 ops) [] f σ
   | some h=>Wx C.calm ops (WM ops []) (ZoC C.calm ops h (ZjN C ops f Q)) (VR h.pre.length (ZJ 0 h.pre)) [] f σ
def W:Cx->Code->PQ->Frame->St->Prop
 | _,.skip,Q,f,σ=>Q .normal f σ
 | C,.region id ops draw,Q,f,σ=>match C.foc id with
  | false=>WR C ops.toList draw Q f σ
  | true=>∃b k,Zfk b k σ fun σ=>Xs σ fun σ=>WR C ops.toList draw (ZFs b Q) f σ
 | C,.seq a b,Q,f,σ=>match C.cut (keyOf b) with
  | none=>W C a (fun e f σ=>match e with | .normal=>W C b Q f σ | e=>Q e f σ) f σ
  | some (live,I)=>W C a (fun e f σ=>match e with | .normal=>Zoz σ.bx.length (live.map f) σ I | e=>Q e f σ) f σ/\∀vs σ1,I vs σ1->W C b Q (Zgw (fun _=>.undef) live vs) σ1
 | C,.cond c x y,Q,f,σ=>match ev f c with | .d (.bool t)=>CondP t (W C x Q f σ) (W C y Q f σ) | _=>False
 | C,.block id b,Q,f,σ=>W C b (fun e f σ=>match e with | .exit i=>(match Nat.beq i id with | true=>Q .normal f σ | false=>Q (.exit i) f σ) | e=>Q e f σ) f σ
 | C,.scope b,Q,f,σ=>W C b (fun e f σ=>match e with | .goto _=>False | e=>Q e f σ) f σ
 | _,.exit id,Q,f,σ=>Q (.exit id) f σ
 | _,.goto l,Q,f,σ=>Q (.goto l) f σ
 | _,.label _,Q,f,σ=>Q .normal f σ
 | _,.ret,Q,f,σ=>Q .ret f σ
 | C,.loop b,Q,f,σ=>match C.unr (keyOf b) with
  | n+1=>Zfj (fun Q f σ=>W C b Q f σ) Q (n+1) f σ
  | 0=>match Ye (C.loop (keyOf b)).keep b with
   | true=>match C.tie (keyOf b) with
    | false => Jc (C.ag (keyOf b)) σ.bx.length ((C.loop (keyOf b)).live.map f) σ fun vs σ0 => (C.loop (keyOf b)).I vs σ0 /\
       ∀vs σ1,(C.loop (keyOf b)).I vs σ1->W C b (fun e f' σ'=>match e with
        | .normal=>Jc (C.ag (keyOf b)) σ1.bx.length ((C.loop (keyOf b)).live.map f') σ' fun vs' σ''=>(C.loop (keyOf b)).I vs' σ''/\(C.loop (keyOf b)).μ vs' σ''<(C.loop (keyOf b)).μ vs σ1
        | e=>Q e f' σ') (Zgw (ZjM f (C.loop (keyOf b)).keep) (C.loop (keyOf b)).live vs) σ1
    | true => Jc (C.ag (keyOf b)) σ.bx.length (((C.loop (keyOf b)).tied f).live.map f) σ fun vs σ0 => ((C.loop (keyOf b)).tied f).I vs σ0 /\
       ∀vs σ1,((C.loop (keyOf b)).tied f).I vs σ1->W C b (fun e f' σ'=>match e with
        | .normal=>Jc (C.ag (keyOf b)) σ1.bx.length (((C.loop (keyOf b)).tied f).live.map f') σ' fun vs' σ''=>((C.loop (keyOf b)).tied f).I vs' σ''/\((C.loop (keyOf b)).tied f).μ vs' σ''<((C.loop (keyOf b)).tied f).μ vs σ1
        | e=>Q e f' σ') (Zgw (ZjM f ((C.loop (keyOf b)).tied f).keep) ((C.loop (keyOf b)).tied f).live vs) σ1
   | false=>False
 | C,.rangeFunc g ps asg body,Q,f,σ=>match ev f g with
  | .func gid first caps=>∀(l:Nat) (r:Loop),
    C.iter gid (first++.raw (.func (.yield l) #[] #[])::caps) (Zv0 σ.bx.length l r ps.toList (fun Q f σ=>W C.inner asg Q f σ) (fun Q f σ=>W C.inner body Q f σ) (VQ f)) (σ.new (.loop .ready none r))
     (Zlk σ.bx.length (VQ f) Q)
  | _=>False
 | _,_,_,_,_=>False
def pres (T:Tab) (f:Frame) (bx:List Box):List ResultVar->(List PV->Prop)->Prop
 | [],K=>K []
 | .tmp t::l,K=>U1 (f t) fun v=>pres T f bx l fun vs=>K (v::vs)
 | .cell a t::l,K=>ZaZ T t (f a) bx fun v=>U1 v fun v=>pres T f bx l fun vs=>K (v::vs)
def Jt:List PV->PV
 | [v]=>v
 | vs=>.tuple vs
def Zfl (ag:Bool) (keep:Nat) (own:Bool) (v:PV) (σ:St) (K:PV->St->Prop):Prop :=
 match bnd keep v with
 | true=>match own with
  | true=>Jc ag keep [v] σ fun vs σ'=>match vs with | [v]=>K v σ' | _=>False
  | false=>Zfh keep keep σ.bx [] 0 fun bs _ k=>K (clean v) ⟨bs,toks k,k⟩
 | false=>False
abbrev Zh8 (keep:Nat) (own:Bool) (v:PV) (σ:St) (K:PV->St->Prop):Prop:=Zfl false keep own v σ K
def Zvf (ag:Bool) (T:Tab) (fn:Func) (keep:Nat) (own:Bool) (R:PEnd->St->Prop):PQ:=fun e f σ=>match e with
 | .normal | .ret=>pres T f σ.bx fn.results.toList fun vs=>Zfl ag keep own (Jt vs) σ fun v σ'=>R (.ret v) σ'
 | .panic v=>Zfl ag keep own v σ fun v σ'=>R (.panic v) σ'
 | _=>False
abbrev ZAH (T:Tab) (fn:Func) (keep:Nat) (own:Bool) (R:PEnd->St->Prop):PQ:=Zvf false T fn keep own R
def Zct:Nat->List PV->Frame
 | _,[]=>fun _=>.undef
 | i,v::vs=>Vn (Zct (i+1) vs) i v
def Xd (fn : Func) : Code := match fn.body with | some c => c | none => .refuse ""
def WFG (ag:Bool) (C:Cx) (fn:Func) (keep:Nat) (own:Bool) (args:List PV) (σ:St) (R:PEnd->St->Prop):Prop :=
 W C (Xd fn) (Zvf ag C.T fn keep own R) (Zct 0 args) σ
abbrev WF (C:Cx) (fn:Func) (keep:Nat) (own:Bool) (args:List PV) (σ:St) (R:PEnd->St->Prop):Prop:=WFG false C fn keep own args σ R
end Go.PM
end
