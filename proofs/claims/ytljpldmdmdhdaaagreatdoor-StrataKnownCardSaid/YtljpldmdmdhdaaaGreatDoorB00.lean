/- A part of the proof: plain logic, contracts and laws over the given program. -/
import GoSem.Core.Program
import GoSem.Core.Utf8
import GoSem.Op.IntBits
import Derived.CallsIn
set_option linter.unusedVariables false
set_option linter.unusedSimpArgs false
set_option linter.all false
set_option maxRecDepth 100000
set_option maxHeartbeats 16000000
noncomputable section
section
def Ta.{u}:type_of% @List.getElem?_eq_getElem.{u}:=@List.getElem?_eq_getElem
def Tb:type_of% @Nat.le_of_ble_eq_true:=@Nat.le_of_ble_eq_true
def Tc.{u}:type_of% @List.length_append.{u}:=@List.length_append
def Td.{u,v}:type_of% @List.length_map.{u,v}:=@List.length_map
def Te.{u}:type_of% @if_neg.{u}:=@if_neg
def Tf.{u}:type_of% @List.length_cons.{u}:=@List.length_cons
def Tg:type_of% @Int.toNat_natCast:=@Int.toNat_natCast
def Th.{u,v}:type_of% @List.getElem?_map.{u,v}:=@List.getElem?_map
def Ti.{u}:type_of% @if_pos.{u}:=@if_pos
def Tj.{u}:type_of% @List.length_nil.{u}:=@List.length_nil
def Tk.{u}:type_of% @List.drop_eq_getElem_cons.{u}:=@List.drop_eq_getElem_cons
def Tl:type_of% @Bool.and_eq_true:=@Bool.and_eq_true
def Tm.{u}:type_of% @List.drop_eq_nil_of_le.{u}:=@List.drop_eq_nil_of_le
def Tn.{u}:type_of% @List.all_eq_true.{u}:=@List.all_eq_true
def To.{u}:type_of% @List.getElem?_eq_some_iff.{u}:=@List.getElem?_eq_some_iff
def Tp.{u}:type_of% @List.append_assoc.{u}:=@List.append_assoc
def Tq.{u}:type_of% @List.forall_mem_singleton.{u}:=@List.forall_mem_singleton
def Tr.{u}:type_of% @List.mem_cons.{u}:=@List.mem_cons
def Tt:type_of% @Nat.le_refl:=@Nat.le_refl
def Tu:type_of% @Nat.eq_of_beq_eq_true:=@Nat.eq_of_beq_eq_true
def Tv.{u}:type_of% @Array.getElem?_eq_some_iff.{u}:=@Array.getElem?_eq_some_iff
def Tw.{u}:type_of% @List.mem_append.{u}:=@List.mem_append
def Tx.{u,v}:type_of% @List.map_cons.{u,v}:=@List.map_cons
def Tz.{u}:type_of% @List.length_drop.{u}:=@List.length_drop
def TA.{u}:type_of% @List.getElem_mem.{u}:=@List.getElem_mem
def TB:type_of% @Bool.false_eq_true:=@Bool.false_eq_true
def TC:type_of% @Nat.lt_of_lt_of_le:=@Nat.lt_of_lt_of_le
def TD.{u,v}:type_of% @Option.map_eq_some_iff.{u,v}:=@Option.map_eq_some_iff
def TE.{u}:type_of% @List.length_singleton.{u}:=@List.length_singleton
def TF.{u}:type_of% @List.mem_cons_of_mem.{u}:=@List.mem_cons_of_mem
def TG.{u}:type_of% @Array.getElem?_toList.{u}:=@Array.getElem?_toList
def TH:type_of% @decide_eq_true_eq:=@decide_eq_true_eq
def TJ.{u}:type_of% @List.drop_drop.{u}:=@List.drop_drop
def TL.{u}:type_of% @Array.getElem?_eq_getElem.{u}:=@Array.getElem?_eq_getElem
def TM.{u,v}:type_of% @List.map_append.{u,v}:=@List.map_append
def TN.{u,v}:type_of% @List.map_nil.{u,v}:=@List.map_nil
def TP:type_of% @Nat.le_trans:=@Nat.le_trans
def TQ:type_of% @Int.add_sub_cancel:=@Int.add_sub_cancel
def TS.{u}:type_of% @Array.mem_def.{u}:=@Array.mem_def
def TT.{u}:type_of% @List.not_mem_nil.{u}:=@List.not_mem_nil
def TU.{u}:type_of% @List.append_nil.{u}:=@List.append_nil
def TV:type_of% @Bool.not_eq_true':=@Bool.not_eq_true'
def TW.{u}:type_of% @List.mem_of_getElem?.{u}:=@List.mem_of_getElem?
def TX.{u,v}:type_of% @Option.map_some.{u,v}:=@Option.map_some
def TY:type_of% @decide_eq_true:=@decide_eq_true
def TZ.{u}:type_of% @List.getElem?_cons_succ.{u}:=@List.getElem?_cons_succ
def T4.{u}:type_of% @List.getElem?_append_left.{u}:=@List.getElem?_append_left
def T5.{u}:type_of% @List.getElem_of_mem.{u}:=@List.getElem_of_mem
def T6:type_of% @Nat.zero_le:=@Nat.zero_le
def T7.{u,v}:type_of% @List.foldl_append.{u,v}:=@List.foldl_append
def T8.{u}:type_of% @List.getD_eq_getElem?_getD.{u}:=@List.getD_eq_getElem?_getD
def T9.{u}:type_of% @List.takeWhile_cons.{u}:=@List.takeWhile_cons
def Sa:type_of% @Bool.false_and:=@Bool.false_and
def Sb.{u}:type_of% @List.take_zero.{u}:=@List.take_zero
def Sc.{u}:type_of% @Array.mem_of_getElem?.{u}:=@Array.mem_of_getElem?
def Sd.{u}:type_of% @List.take_append_drop.{u}:=@List.take_append_drop
def Se.{u}:type_of% @List.getElem?_append_right.{u}:=@List.getElem?_append_right
def Sf:type_of% @Bool.true_and:=@Bool.true_and
def Sg.{u}:type_of% @List.eq_nil_of_length_eq_zero.{u}:=@List.eq_nil_of_length_eq_zero
def Sh:type_of% @Bool.or_eq_false_iff:=@Bool.or_eq_false_iff
def Si:type_of% @Nat.mul_le_mul_right:=@Nat.mul_le_mul_right
def Sj.{u,v,w}:type_of% @List.map_map.{u,v,w}:=@List.map_map
def Sk:type_of% @Bool.or_eq_true:=@Bool.or_eq_true
def Sl.{u}:type_of% @List.cons_append.{u}:=@List.cons_append
def Sm:type_of% @Bool.or_false:=@Bool.or_false
def Sn.{u}:type_of% @List.take_length.{u}:=@List.take_length
def So.{u}:type_of% @List.flatten_append.{u}:=@List.flatten_append
def Sp.{u}:type_of% @List.length_eq_zero_iff.{u}:=@List.length_eq_zero_iff
def Sq.{u}:type_of% @List.drop_zero.{u}:=@List.drop_zero
def Sr.{u,v}:type_of% @List.mem_map.{u,v}:=@List.mem_map
def Ss.{u}:type_of% @Option.getD_some.{u}:=@Option.getD_some
def Su.{u,v}:type_of% @List.map_congr_left.{u,v}:=@List.map_congr_left
def Sv.{u}:type_of% @List.getElem?_eq_none.{u}:=@List.getElem?_eq_none
def Sw.{u}:type_of% @Option.isSome_iff_exists.{u}:=@Option.isSome_iff_exists
def Sx:type_of% @Nat.zero_add:=@Nat.zero_add
def Sy.{u}:type_of% @List.mem_singleton.{u}:=@List.mem_singleton
def Sz.{u}:type_of% @List.getElem?_replicate.{u}:=@List.getElem?_replicate
def SA.{u}:type_of% @List.getD_cons_zero.{u}:=@List.getD_cons_zero
def SB.{u}:type_of% @Array.getElem_of_mem.{u}:=@Array.getElem_of_mem
def SC:type_of% @or_false:=@or_false
def SE:type_of% @of_decide_eq_true:=@of_decide_eq_true
def SF.{u}:type_of% @List.getD_cons_succ.{u}:=@List.getD_cons_succ
def SG.{u}:type_of% @List.drop_length.{u}:=@List.drop_length
def SH.{u}:type_of% @List.contains_cons.{u}:=@List.contains_cons
def SI.{u,v}:type_of% @List.foldl_cons.{u,v}:=@List.foldl_cons
def SJ.{u}:type_of% @List.any_cons.{u}:=@List.any_cons
def mq0 {P:Prop} (h:P:=by
 rw [ZlW] at h
 refine ⟨L,ts,rfl,ho,fp,fun x bo=>?_⟩
 rcases x with ⟨v2,ts2⟩ | ⟨r2,e2⟩
 rotate_left
 ·exact mq187
 rw [bo,R.bind_ok] at h
 intro a2 f7 ac
 have dj:=ac.hi
 obtain ⟨v2a,v2b,v2c,v2d,v2e⟩:=v2
 conv=>whnf
 refine ⟨L,ts2,relWords,rfl,ac,Or.inl ⟨rfl,rfl⟩,rfl,rfl,fun j hj am=>?_,fun hj=>wN ?_⟩
 ·have t7:=JH hj
  have ai6:j<6:=by simpa [relWords] using t7.2
  have ib:=am.hi
  clear t7
  rcases j with _ | j
  ·conv=>whnf
   refine WU ?_
   refine WU ?_
   refine ⟨L,ts2.tail,aggWords,rfl,am,Or.inr ⟨rfl,rfl⟩,rfl,rfl,fun m hm bz=>?_,fun hm=>wN ?_⟩
   ·rw [ZdK hj hm,R.bind_ok] at h
    have hml:=JH hm
    have ai7:m<4:=by simpa [aggWords] using hml.2
    have s6:=bz.hi
    clear hml
    rcases m with _ | m
    ·conv=>whnf
     refine WU ?_
     refine WU ?_
     rw [Ti rfl] at h
     rw [Wb,Ti oM] at h
     refine ⟨L,ts2.tail.tail,rfl,bz,fun x rt=>?_⟩
     exact mq146
    conv=>whnf
    refine WU ?_
    refine WU ?_
    refine ZGu (fun _=>wN ?_) (fun g=>absurd g oM)
    rw [Te oM] at h
    refine ⟨L,ts2.tail.tail,rfl,bz,fp,fun x j5=>?_⟩
    rcases x with ⟨v5,ts5⟩ | ⟨r5,e5⟩
    rotate_left
    ·exact mq173
    rw [j5,R.bind_ok] at h
    intro a5 mg cn
    have vw:=cn.hi
    obtain ⟨v5a,v5b,v5c,v5d,v5e⟩:=v5
    conv=>whnf
    refine ⟨rfl,rfl,Tb rfl,Tb rfl,wN ?_⟩
    repeat (refine ⟨rfl,?_⟩;conv=>whnf)
    refine ZGr (fun _=>wN ?_) (fun g=>absurd g oM)
    rw [Wb,Ti oM] at h
    refine ⟨L,ts5,rfl,cn,fun x rt=>?_⟩
    exact mq146
   rw [Zg9 hj hm,R.bind_ok] at h
   rw [Te oM] at h
   refine ⟨L,ts2.tail,rfl,am,fp,fun x j5=>?_⟩
   rcases x with ⟨v5,ts5⟩ | ⟨r5,e5⟩
   rotate_left
   ·exact mq173
   rw [j5,R.bind_ok] at h
   intro a5 mg cn
   have vw:=cn.hi
   obtain ⟨v5a,v5b,v5c,v5d,v5e⟩:=v5
   conv=>whnf
   refine ⟨rfl,rfl,Tb rfl,Tb rfl,wN ?_⟩
   repeat (refine ⟨rfl,?_⟩;conv=>whnf)
   rw [Wb,Te oM] at h
   exact h _ oM cn
  rw [ZdL hj,R.bind_ok] at h
  conv=>whnf
  refine WU ?_
  refine WU ?_
  refine ZGr (fun g=>absurd g oM) (fun _=>wN ?_)
  refine ZGu (fun _=>wN ?_) (fun g=>absurd g oM)
  rw [Te oM] at h
  refine ⟨L,ts2.tail,rfl,am,fp,fun x j5=>?_⟩
  rcases x with ⟨v5,ts5⟩ | ⟨r5,e5⟩
  rotate_left
  ·exact mq173
  rw [j5,R.bind_ok] at h
  intro a5 mg cn
  have vw:=cn.hi
  obtain ⟨v5a,v5b,v5c,v5d,v5e⟩:=v5
  conv=>whnf
  refine ⟨rfl,rfl,Tb rfl,Tb rfl,wN ?_⟩
  repeat (refine ⟨rfl,?_⟩;conv=>whnf)
  refine ZGr (fun g=>absurd g oM) (fun _=>wN ?_)
  rw [Wb,Te oM] at h
  exact h _ oM cn
 refine ⟨L,ts2,rfl,ac,wN ?_⟩
 rw [Zbg hj,R.bind_err] at h
 exact h _ _):P:=h
def mq1 {P:Prop} (h:P:=by
 conv=>whnf
 repeat (refine ⟨rfl,?_⟩;conv=>whnf)
 refine ⟨L,ts',rfl,cz,[[116,121,112,101]],rfl,sM,fun b wt=>?_⟩
 cases b with
 | true =>
  rw [Ti wt] at h
  have ac:=cz.tl (Yy wt)
  have dj:=ac.hi
  have gf:=ac.len
  conv=>whnf
  refine ⟨L,ts',rfl,cz,fun g=>wN ?_,fun g=>wN ?_⟩
  ·exact mq166
  have ai:¬tys.length=256:=by rw [Td] at g;omega
  rw [Te ai] at h
  refine ⟨L,ts'.tail,rfl,ac,fun x ff=>?_⟩
  rcases x with ⟨v3,ts3⟩ | ⟨r3,e3⟩
  rotate_left
  ·exact mq161
  rw [ff,R.bind_ok] at h
  intro a3 gq am
  have ib:=am.hi
  obtain ⟨v3a,v3b,v3c,v3d,v3e,v3f⟩:=v3
  conv=>whnf
  have jl:=am.len
  repeat (refine ⟨rfl,?_⟩;conv=>whnf)
  refine ⟨Tq.2 rfl,(show ((tys.map (Z6 (Zb L en))).length+1) * 96<=2 ^ 47 by rw [Td];omega),(show (tys.map (Z6 (Zb L en))).length+1<=2 ^ 47 by rw [Td];omega),wN ?_⟩
  repeat (refine ⟨rfl,?_⟩;conv=>whnf)
  refine ⟨⟨tys++[⟨v3a,v3b,v3c,v3d,v3e,v3f⟩],rels,rules,comps,inits,overs,a3,ts3,f,rfl,?_,am,oM,oM,?_,h⟩,?_⟩
  ·rw [<- Zv (Z6 (Zb L en)) tys];rfl
  ·simp only [Tc,TE];omega
  exact mq154
 | false =>
 rw [Te (by rw [wt];simp)] at h
 conv=>whnf
 refine ⟨L,ts',rfl,cz,[[100,101,99,108]],rfl,sM,fun b wu=>?_⟩
 cases b with
 | true =>
  rw [Ti wu] at h
  have ac:=cz.tl (Yy wu)
  have dj:=ac.hi
  have gf:=ac.len
  conv=>whnf
  refine ⟨L,ts',rfl,cz,fun g=>wN ?_,fun g=>wN ?_⟩
  ·exact mq166
  have ai:¬rels.length=256:=by rw [Td] at g;omega
  rw [Te ai] at h
  refine ⟨L,ts'.tail,rfl,ac,fun x ff=>?_⟩
  rcases x with ⟨v3,ts3⟩ | ⟨r3,e3⟩
  rotate_left
  ·exact mq161
  rw [ff,R.bind_ok] at h
  intro a3 gq am
  have ib:=am.hi
  obtain ⟨v3a,v3b,v3c,v3d,v3e,v3f⟩:=v3
  conv=>whnf
  have jl:=am.len
  repeat (refine ⟨rfl,?_⟩;conv=>whnf)
  refine ⟨Tq.2 rfl,(show ((rels.map (Zu (Zb L en))).length+1) * 56<=2 ^ 47 by rw [Td];omega),(show (rels.map (Zu (Zb L en))).length+1<=2 ^ 47 by rw [Td];omega),wN ?_⟩
  repeat (refine ⟨rfl,?_⟩;conv=>whnf)
  refine ⟨⟨tys,rels++[⟨v3a,v3b,v3c,v3d,v3e,v3f⟩],rules,comps,inits,overs,a3,ts3,f,rfl,?_,am,oM,oM,?_,h⟩,?_⟩
  ·rw [<- Zv (Zu (Zb L en)) rels];rfl
  ·simp only [Tc,TE];omega
  exact mq154
 | false =>
 rw [Te (by rw [wu];simp)] at h
 conv=>whnf
 refine ⟨L,ts',rfl,cz,[[99,111,109,112]],rfl,sM,fun b wv=>?_⟩
 cases b with
 | true =>
  rw [Ti wv] at h
  have ac:=cz.tl (Yy wv)
  have dj:=ac.hi
  have gf:=ac.len
  conv=>whnf
  refine ⟨L,ts',rfl,cz,fun g=>wN ?_,fun g=>wN ?_⟩
  ·exact mq166
  have ai:¬comps.length=64:=by rw [Td] at g;omega
  rw [Te ai] at h
  refine ⟨L,ts'.tail,rfl,ac,fp,fun x ff=>?_⟩
  rcases x with ⟨v3,ts3⟩ | ⟨r3,e3⟩
  rotate_left
  ·exact mq161
  rw [ff,R.bind_ok] at h
  intro a3 gq am
  have ib:=am.hi
  obtain ⟨v3a,v3b,v3c,v3d,⟨v3g,v3h,v3i,v3j,v3k,v3l⟩,v3f⟩:=v3
  conv=>whnf
  have jl:=am.len
  repeat (refine ⟨rfl,?_⟩;conv=>whnf)
  refine ⟨Tq.2 rfl,(show ((comps.map (ZeW (Zb L en))).length+1) * 232<=2 ^ 47 by rw [Td];omega),(show (comps.map (ZeW (Zb L en))).length+1<=2 ^ 47 by rw [Td];omega),wN ?_⟩
  repeat (refine ⟨rfl,?_⟩;conv=>whnf)
  refine ⟨⟨tys,rels,rules,comps++[.mk v3a v3b v3c v3d (.mk v3g v3h v3i v3j v3k v3l) v3f],inits,overs,a3,ts3,f,rfl,?_,am,oM,oM,?_,h⟩,?_⟩
  ·rw [<- Zv (ZeW (Zb L en)) comps];rfl
  ·simp only [Tc,TE];omega
  exact mq154
 | false =>
 rw [Te (by rw [wv];simp)] at h
 conv=>whnf
 refine ⟨L,ts',rfl,cz,[[105,110,105,116]],rfl,sM,fun b ww=>?_⟩
 cases b with
 | true =>
  rw [Ti ww] at h
  have ac:=cz.tl (Yy ww)
  have dj:=ac.hi
  have gf:=ac.len
  conv=>whnf
  refine ⟨L,ts',rfl,cz,fun g=>wN ?_,fun g=>wN ?_⟩
  ·exact mq166
  have ai:¬inits.length=256:=by rw [Td] at g;omega
  rw [Te ai] at h
  refine ⟨L,ts'.tail,rfl,ac,wN ?_⟩
  rw [Zqa] at h
  refine ⟨L,ts'.tail,rfl,ac,fun x ff=>?_⟩
  rcases x with ⟨v3,ts3⟩ | ⟨r3,e3⟩
  rotate_left
  ·rw [ff,R.bind_err,R.bind_err] at h;intro a9 d9;(conv=>whnf);exact h _ _
  rw [ff,R.bind_ok] at h
  intro a3 gq am
  have ib:=am.hi
  conv=>whnf
  refine ⟨L,ts3,rfl,am,fun x mz=>?_⟩
  rcases x with ⟨v4,ts4⟩ | ⟨r4,e4⟩
  rotate_left
  ·rw [mz,R.bind_err,R.bind_err] at h;intro a9 d9;(conv=>whnf);exact h _ _
  rw [mz,R.bind_ok] at h
  intro a4 nr bz
  have s6:=bz.hi
  conv=>whnf
  refine ⟨L,ts4,rfl,bz,fun x j5=>?_⟩
  rcases x with ⟨v5,ts5⟩ | ⟨r5,e5⟩
  rotate_left
  ·rw [j5,R.bind_err,R.bind_err] at h;intro a9 d9;(conv=>whnf);exact h _ _
  rw [j5,R.bind_ok] at h
  intro a5 mg cn
  have vw:=cn.hi
  conv=>whnf
  refine ⟨L,ts5,rfl,cn,fun x rt=>?_⟩
  rcases x with ⟨v6,ts6⟩ | ⟨r6,e6⟩
  rotate_left
  ·rw [rt,R.bind_err,R.bind_err] at h;intro a9 d9;(conv=>whnf);exact h _ _
  rw [rt,R.bind_ok] at h
  intro a6 z8 eh
  have hb6:=eh.hi
  conv=>whnf
  rw [R.bind_ok] at h
  have agk:=eh.len
  refine ⟨Tq.2 rfl,(show ((inits.map (ZiM (Zb L en))).length+1) * 64<=2 ^ 47 by rw [Td];omega),(show (inits.map (ZiM (Zb L en))).length+1<=2 ^ 47 by rw [Td];omega),wN ?_⟩
  repeat (refine ⟨rfl,?_⟩;conv=>whnf)
  refine ⟨⟨tys,rels,rules,comps,inits++[⟨v3,v5,v6,ts'.tail.length⟩],overs,a6,ts6,f,rfl,?_,eh,oM,oM,?_,h⟩,?_⟩
  ·rw [<- Zv (ZiM (Zb L en)) inits];rfl
  ·simp only [Tc,TE];omega
  show ((L.length:Int) - a6).toNat<((L.length:Int) - a').toNat
  omega
 | false =>
 rw [Te (by rw [ww];simp)] at h
 conv=>whnf
 refine ⟨L,ts',rfl,cz,[[111,118,101,114,114,105,100,101]],rfl,sM,fun b wx=>?_⟩
 cases b with
 | true =>
  rw [Ti wx] at h
  have ac:=cz.tl (Yy wx)
  have dj:=ac.hi
  have gf:=ac.len
  conv=>whnf
  refine ⟨L,ts',rfl,cz,fun g=>wN ?_,fun g=>wN ?_⟩
  ·exact mq166
  have ai:¬overs.length=256:=by rw [Td] at g;omega
  rw [Te ai] at h
  refine ⟨L,ts'.tail,rfl,ac,wN ?_⟩
  rw [Zqb] at h
  refine ⟨L,ts'.tail,rfl,ac,fun x ff=>?_⟩
  rcases x with ⟨v3,ts3⟩ | ⟨r3,e3⟩
  rotate_left
  ·rw [ff,R.bind_err,R.bind_err] at h;intro a9 d9;(conv=>whnf);exact h _ _
  rw [ff,R.bind_ok,R.bind_ok] at h
  intro a3 gq am
  have ib:=am.hi
  have jl:=am.len
  conv=>whnf
  refine ⟨Tq.2 rfl,(show ((overs.map (ZiN (Zb L en))).length+1) * 24<=2 ^ 47 by rw [Td];omega),(show (overs.map (ZiN (Zb L en))).length+1<=2 ^ 47 by rw [Td];omega),wN ?_⟩
  repeat (refine ⟨rfl,?_⟩;conv=>whnf)
  refine ⟨⟨tys,rels,rules,comps,inits,overs++[⟨v3,ts'.tail.length⟩],a3,ts3,f,rfl,?_,am,oM,oM,?_,h⟩,?_⟩
  ·rw [<- Zv (ZiN (Zb L en)) overs];rfl
  ·simp only [Tc,TE];omega
  exact mq154
 | false =>
 rw [Te (by rw [wx];simp)] at h
 conv=>whnf
 refine ⟨L,ts',rfl,cz,fun b hn=>?_⟩
 cases b with
 | false =>
  rw [Te (by rw [hn];simp)] at h
  conv=>whnf
  refine ⟨L,ts',rfl,cz,wN ?_⟩
  exact h _ _
 | true =>
 rw [Ti hn] at h
 conv=>whnf
 refine ⟨L,ts',rfl,cz,fun g=>wN ?_,fun g=>wN ?_⟩
 ·exact mq166
 have ai:¬rules.length=1024:=by rw [Td] at g;omega
 rw [Te ai] at h
 refine Zk ?_
 rw [show a'+1 - 1=a' by omega]
 refine ⟨L,ts',rfl,cz,fp,fun x ff=>?_⟩
 rcases x with ⟨v3,ts3⟩ | ⟨r3,e3⟩
 rotate_left
 ·exact mq161
 rw [ff,R.bind_ok] at h
 intro a3 gq am
 have ib:=am.hi
 obtain ⟨v3a,v3b,v3c,v3d⟩:=v3
 conv=>whnf
 have jl:=am.len
 repeat (refine ⟨rfl,?_⟩;conv=>whnf)
 refine ⟨Tq.2 rfl,(show ((rules.map (Zs (Zb L en))).length+1) * 72<=2 ^ 47 by rw [Td];omega),(show (rules.map (Zs (Zb L en))).length+1<=2 ^ 47 by rw [Td];omega),wN ?_⟩
 repeat (refine ⟨rfl,?_⟩;conv=>whnf)
 refine ⟨⟨tys,rels,rules++[⟨v3a,v3b,v3c,v3d⟩],comps,inits,overs,a3,ts3,f,rfl,?_,am,oM,oM,?_,h⟩,?_⟩
 ·rw [<- Zv (Zs (Zb L en)) rules];rfl
 ·simp only [Tc,TE];omega
 exact mq154):P:=h
def mq2 {P:Prop} (h:P:=by
 refine ⟨oM,oM,oM,wN ?_⟩
 have gg:cut s (((a:Int)+2)).toNat ((e:Int)).toNat=Zd (s.drop a):=by rw [hst.2];congr 1 <;> omega
 refine ⟨true,⟨⟨?_,?_⟩,rfl,rfl⟩,fun h5 nn=>?_,fun h5=>?_⟩
 ·exact (congrArg (fun l:Bs=>l.all (XR true)=true) gg).mpr co
 ·exact (congrArg (fun l:Bs=>l.length<4294967281) gg).mpr (show _<_ by omega)
 ·have gh:Zd (s.drop a)=[]\/18446744073709551616<=Wf 16 (Zd (s.drop a)):=by rw [<- gg];exact h5
  exact mq149
 have gh:¬(Zd (s.drop a)=[]\/18446744073709551616<=Wf 16 (Zd (s.drop a))):=by rw [<- gg];exact h5
 simp only [not_or] at gh
 have vj:=Wn (s.drop (a+ZH (s.drop a)))
 have wy:=Wn (s.drop ((e:Int)).toNat)
 have xk:(pk (s.drop ((e:Int)).toNat)).1=(pk ((s.drop a).drop (ZH (s.drop a)))).1:=by rw [TJ,<- hst.1];rfl
 have g6:Z0 (s.drop a)=if Zl (pk ((s.drop a).drop (ZH (s.drop a)))).1=true\/Zo (pk ((s.drop a).drop (ZH (s.drop a)))).1=true\/(WV (s.drop a)=true/\16<(Zd (s.drop a)).length) then none else some (Wf 16 (Zd (s.drop a))):=by
  unfold Z0
  simp only [ig,if_true,TB,if_false]
  rw [Te gh.1,Te gh.2]
 conv=>whnf
 refine ⟨⟨oM,oM⟩,wN ?_⟩
 refine ⟨⟨wy.1,oM⟩,wN ?_⟩
 refine ZGt (fun h6=>wN ?_) (fun h6=>wN ?_)
 ·exact mq175
 refine ZGt (fun h7=>wN ?_) (fun h7=>wN ?_)
 ·exact mq174
 have g7:¬Zl (pk ((s.drop a).drop (ZH (s.drop a)))).1=true/\¬Zo (pk ((s.drop a).drop (ZH (s.drop a)))).1=true:=by
  exact mq170
 refine Zk ?_
 refine ZGr (fun h8=>wN ?_) (fun h8=>wN ?_)
 ·(try (refine ⟨rfl,?_⟩;conv=>whnf))
  (try (refine ⟨rfl,?_⟩;conv=>whnf))
  exact dq (by rw [g6,Ti (.inr (.inr ⟨ig,oM⟩))])
 have g9:=d7 _ (by rw [g6,Te (by simp only [not_or];exact ⟨g7.1,g7.2,oM⟩)])
 rw [<- hst.1,<- gg] at g9
 exact Or.inr g9):P:=h
def mq3 {P:Prop} (h:P:=by
 have qe:¬(3<=a1/\a1<=8):=oM
 refine ZGr (fun ae3=>wN ?_) (fun ae3=>wN ?_)
 ·have h9:a1=9:=by omega
  refine ZGr (fun hr=>?_) (fun hr=>?_)
  rotate_left
  ·have kg:YS a1 a2 a3.length a4.length=false:=by simp [YS,h9,hr]
   conv=>whnf
   exact mq176
  conv=>whnf
  refine ZGr (fun hA=>?_) (fun hA=>?_)
  rotate_left
  ·have hA:¬a3.length=1:=fun g=>hA (by show ((Ze pl a3).length:Int)=1;rw [ct,g];rfl)
   have kg:YS a1 a2 a3.length a4.length=false:=by simp [YS,h9,hA]
   conv=>whnf
   exact mq176
  have hA:a3.length=1:=by have hA:((Ze pl a3).length:Int)=1:=hA;rw [ct] at hA;omega
  conv=>whnf
  refine ZGr (fun hB=>wN ?_) (fun hB=>wN ?_)
  ·have hB:=ql.1 hB
   have kg:YS a1 a2 a3.length a4.length=true:=by simp [YS,h9,hr,hA,hB]
   exact mq147
  have hB:¬0<a4.length:=fun g=>hB (ql.2 g)
  have kg:YS a1 a2 a3.length a4.length=false:=by simp only [YS,h9,hr,hA,decide_eq_false hB];simp
  exact mq176
 have hn9:¬a1=9:=oM
 refine ZGr (fun hg9=>wN ?_) (fun hg9=>wN ?_)
 ·refine ZGr (fun ae4=>wN ?_) (fun ae4=>wN ?_)
  ·have wz:9<a1/\a1<=12:=by omega
   refine ZGr (fun hr=>?_) (fun hr=>?_)
   rotate_left
   ·have kg:YS a1 a2 a3.length a4.length=false:=by simp [YS,j7,qe,hn9,wz,hr]
    conv=>whnf
    exact mq176
   conv=>whnf
   refine ZGr (fun hA=>?_) (fun hA=>?_)
   rotate_left
   ·have hA:¬a3.length=2:=fun g=>hA (by show ((Ze pl a3).length:Int)=2;rw [ct,g];rfl)
    have kg:YS a1 a2 a3.length a4.length=false:=by simp [YS,j7,qe,hn9,wz,hA]
    conv=>whnf
    exact mq176
   have hA:a3.length=2:=by have hA:((Ze pl a3).length:Int)=2:=hA;rw [ct] at hA;omega
   conv=>whnf
   refine ZGr (fun hB=>wN ?_) (fun hB=>wN ?_)
   ·have hB:=ql.1 hB
    have kg:YS a1 a2 a3.length a4.length=true:=by simp [YS,j7,qe,hn9,wz,hr,hA,hB]
    exact mq147
   have hB:¬0<a4.length:=fun g=>hB (ql.2 g)
   have kg:YS a1 a2 a3.length a4.length=false:=by simp only [YS,j7,qe,hn9,wz,hr,hA,decide_eq_false hB];simp
   exact mq176
  have wz:¬(9<a1/\a1<=12):=by omega
  exact mq189
 have wz:¬(9<a1/\a1<=12):=oM
 exact mq189):P:=h
def mq4 {P:Prop} (h:P:=by
 refine ZGr (fun h1=>?_) (fun h1=>?_)
 rotate_left
 ·exact mq186
 conv=>whnf
 refine ZGr (fun h2=>wN ?_) (fun h2=>wN ?_)
 ·refine ZGr (fun h3=>wN ?_) (fun h3=>wN ?_)
  ·exact mq183
  refine ZGr (fun h5=>?_) (fun h5=>?_)
  rotate_left
  ·exact mq153
  have h5:a1=3:=oM
  have kc:(decide (a3=0) || decide (a1=3))=true:=by simp [h5]
  exact mq178
 refine ZGr (fun h6=>?_) (fun h6=>?_)
 rotate_left
 ·exact mq157
 have h6:(a4.length:Int)=a:=by rw [<- fc];exact h6
 conv=>whnf
 refine ZGr (fun h3=>wN ?_) (fun h3=>wN ?_)
 ·exact mq182
 refine ZGr (fun h5=>?_) (fun h5=>?_)
 rotate_left
 ·exact mq153
 have h5:a1=3:=oM
 have kc:(decide (a3=0) || decide (a1=3))=true:=by simp [h5]
 exact mq177):P:=h
def mq5 {P:Prop} (h:P:=by
 refine ⟨oM,oM,oM,wN ?_⟩
 have gg:cut s ((a:Int)).toNat ((e:Int)).toNat=Zd (s.drop a):=by rw [hst.2];congr 1 <;> omega
 refine ⟨false,⟨⟨?_,?_⟩,rfl,rfl⟩,fun h5 nn=>?_,fun h5=>?_⟩
 ·exact (congrArg (fun l:Bs=>l.all (XR false)=true) gg).mpr co
 ·exact (congrArg (fun l:Bs=>l.length<4294967281) gg).mpr (show _<_ by omega)
 ·have gh:Zd (s.drop a)=[]\/9223372036854775808<=Wf 10 (Zd (s.drop a)):=by rw [<- gg];exact h5
  exact mq149
 have gh:¬(Zd (s.drop a)=[]\/9223372036854775808<=Wf 10 (Zd (s.drop a))):=by rw [<- gg];exact h5
 simp only [not_or] at gh
 have vj:=Wn (s.drop (a+ZH (s.drop a)))
 have wy:=Wn (s.drop ((e:Int)).toNat)
 have xk:(pk (s.drop ((e:Int)).toNat)).1=(pk ((s.drop a).drop (ZH (s.drop a)))).1:=by rw [TJ,<- hst.1];rfl
 have g6:Z0 (s.drop a)=if Zl (pk ((s.drop a).drop (ZH (s.drop a)))).1=true\/Zo (pk ((s.drop a).drop (ZH (s.drop a)))).1=true\/(WV (s.drop a)=true/\16<(Zd (s.drop a)).length) then none else some (Wf 10 (Zd (s.drop a))):=by
  unfold Z0
  simp only [ig,if_true,TB,if_false]
  rw [Te gh.1,Te gh.2]
 conv=>whnf
 refine ⟨⟨oM,oM⟩,wN ?_⟩
 refine ⟨⟨wy.1,oM⟩,wN ?_⟩
 refine ZGt (fun h6=>wN ?_) (fun h6=>wN ?_)
 ·exact mq175
 refine ZGt (fun h7=>wN ?_) (fun h7=>wN ?_)
 ·exact mq174
 have g7:¬Zl (pk ((s.drop a).drop (ZH (s.drop a)))).1=true/\¬Zo (pk ((s.drop a).drop (ZH (s.drop a)))).1=true:=by
  exact mq170
 have g9:=d7 _ (by rw [g6,Te (by simp only [not_or];exact ⟨g7.1,g7.2,by rw [ig];simp⟩)])
 rw [<- hst.1,<- gg] at g9
 exact Or.inr g9):P:=h
def mq6 {P:Prop} (h:P:=by
 refine ZGr (fun h1=>?_) (fun h1=>?_)
 rotate_left
 ·exact mq186
 conv=>whnf
 refine ZGr (fun h2=>wN ?_) (fun h2=>wN ?_)
 ·exact mq150
 refine ZGr (fun h6=>?_) (fun h6=>?_)
 rotate_left
 ·exact mq157
 have h6:(a4.length:Int)=a:=by rw [<- fc];exact h6
 conv=>whnf
 exact mq150):P:=h
def mq7 {P:Prop} (h:P:=by
 exact mq147):P:=h
def mq8 {P:Prop} (h:P:=by
 have ej:j=j2:=by
  have e:=Option.some.inj (congrArg (fun t:List PV=>t[7]?) bh)
  injection e with e
  injection e with _ e
  omega
 have ei:i=i2:=by
  have e:=Option.some.inj (congrArg (fun t:List PV=>t[10]?) bh)
  injection e with e
  injection e with _ e
  omega
 have eb:=Option.some.inj (congrArg (fun t:List PV=>t[4]?) bh)
 injection eb with eb
 injection eb with eb
 subst ej ei eb
 obtain rfl:_=r':=Option.some.inj (be.symm.trans fu)
 obtain rfl:_=x':=Option.some.inj (oj.symm.trans wo)
 have bh:vs3=_:=congrArg (List.drop 13) bh
 subst bh
 clear fu wo
 conv=>whnf
 refine ZGr (fun hc=>?_) (fun hc=>wN ?_)
 ·have qp:n<b3.length:=by have hc:(n:Int)<((Ze pl b3).length:Nat):=hc;omega
  have hre:(Ze pl b3)[(n:Int).toNat]?=some (ZD pl b3[n]):=by rw [Tg,Zc,Th,Ta qp];rfl
  have hfe:=xn _ (TA qp)
  rw [show (Zci (.mk 1 b2 b3 b4 b5)).drop n=b3[n]::b3.drop (n+1) from Tk qp,SI] at yg
  have hμn:((b3.length:Int) - ((n:Int)+1)).toNat<((b3.length:Int) - (n:Int)).toNat:=oM
  generalize b3[n]=e at hre hfe yg
  obtain ⟨e1,e2,e3,e4,e5⟩:=e
  conv=>whnf
  refine ⟨_,oM,hre,wN ?_⟩
  refine ⟨pl,.mk e1 e2 e3 e4 e5,M3,_,rfl,rfl,hfe,rfl,wN ?_⟩
  refine Zk ?_
  exact ⟨⟨j,i,n+1,T3,⟨r1,r2,r3,r4⟩,.mk 1 b2 b3 b4 b5,_,_,rfl,rfl,by show n+1<=b3.length;omega,eu,hT3,be,oj,yg⟩,by rw [jn];exact hμn⟩
 have hc:¬(n:Int)<((Ze pl b3).length:Nat):=hc
 rw [show (Zci (.mk 1 b2 b3 b4 b5)).drop n=[] from Tm (by show b3.length<=n;omega)] at yg
 refine Zk ?_
 exact ⟨⟨j,i+1,T3,⟨r1,r2,r3,r4⟩,M3,_,rfl,rfl,by show i+1<=r3.length;omega,hT3,be,yg⟩,by rw [hl];exact hμi⟩):P:=h
def mq9 {P:Prop} (h:P:=by
 refine ⟨⟨0,n+1,_,rfl,rfl,oM,⟨hM1,by rw [Sq];omega⟩,hF⟩,?_⟩
 rintro w σ1 ⟨j,n1,M1,rfl,rfl,hj,⟨wg,kd⟩,ha⟩
 conv=>whnf
 refine ZGr (fun hc=>?_) (fun hc=>?_)
 rotate_left
 ·have hc:¬(j:Int)<((fs.map Zp).length:Int):=hc
  rw [Td] at hc
  rw [Tm oM] at ha
  have ha:M1=F:=ha
  subst ha
  conv=>whnf
  exact h
 have aa:j<fs.length:=by have hc:(j:Int)<((fs.map Zp).length:Int):=hc;rw [Td] at hc;omega
 have av:j<eargs.length:=oM
 rw [Tk aa,Tk av] at ha
 simp only [ZaP] at ha
 have hk:=rk j _ _ (Ta av) (Ta aa)
 have pu:(fs.map Zp)[(j:Int).toNat]?=some (Zp fs[j]):=by rw [Tg,Th,Ta aa];rfl
 have nw:(Ze pl eargs)[(j:Int).toNat]?=some (ZD pl eargs[j]):=by rw [Zc,Tg,Th,Ta av];rfl
 have dr:=ZQ szE eargs j av
 have i7:=ZcD (f:=szE) (Ta av)
 have hμ:((eargs.length:Int) - ((j:Int)+1)).toNat<((eargs.length:Int) - (j:Int)).toNat:=oM
 generalize fs[j]=f0 at ha hk pu
 generalize eargs[j]=x0 at ha hk nw dr i7
 obtain ⟨f1,f2⟩:=f0
 obtain ⟨x1,x2,x3,x4,x5⟩:=x0
 conv=>whnf
 refine ⟨_,oM,pu,wN ?_⟩
 refine ⟨_,oM,nw,wN ?_⟩
 refine ⟨oM,pl,p,r,vs,more,.mk x1 x2 x3 x4 x5,M1,n1,rfl,rfl,rfl,hp,⟨oM,oM⟩,hk,⟨wg,oM⟩,wN ?_⟩
 have hM3:=ZaB (wiE p (.mk x1 x2 x3 x4 x5) f2) wg
 have hwl:=Zht p (.mk x1 x2 x3 x4 x5) f2
 rw [We,T7] at ha
 (repeat (refine ⟨rfl,?_⟩;conv=>whnf))
 refine Zk ?_
 exact ⟨⟨j+1,n1+(wiE p (.mk x1 x2 x3 x4 x5) f2).length,_,rfl,rfl,oM,⟨hM3,oM⟩,ha⟩,hμ⟩):P:=h
def mq10 {P:Prop} (h:P:=by
 have qw:=ZiD hd oM
 conv=>whnf
 refine ZGr (fun g1=>wN ?_) (fun g1=>?_)
 ·refine ZGr (fun g2=>wN ?_) (fun g2=>?_)
  ·refine WU ?_
   refine WU ?_
   have hD:(ZgQ b:Int)=Zi .or .u8 (b.toNat:Int) 32 - 97+10:=oM
   refine WU ?_
   refine ZGr (fun h6=>?_) (fun h6=>wN ?_)
   ·omega
   refine ZGr (fun h7=>wN ?_) (fun h7=>wN ?_)
   ·exact s5 oM
   refine ZaN ?_
   refine ZaN ?_
   refine ZaN ?_
   by_cases dm:(N:Int) * 16+(Zi .or .u8 (b.toNat:Int) 32 - 97+10)<=18446744073709551615
   ·refine ZaN ?_
    refine ZGr (fun h8=>?_) (fun h8=>wN ?_)
    ·omega
    refine ZGr (fun h9=>wN ?_) (fun h9=>wN ?_)
    ·exact s5 oM
    refine Zk ?_
    refine ⟨⟨rfl,i+1,?_,oM,oM⟩,?_⟩
    ·have e:((Wf 16 (l.take (i+1)):Nat):Int)=(N:Int) * 16+(Zi .or .u8 (b.toNat:Int) 32 - 97+10):=by omega
     rw [e];rfl
    exact mq172
   have hw:IntKind.u64.wrap ((N:Int) * 16+(Zi .or .u8 (b.toNat:Int) 32 - 97+10))=(N:Int) * 16+(Zi .or .u8 (b.toNat:Int) 32 - 97+10) - 18446744073709551616:=by
    exact mq184
   exact mq181
  omega
 omega):P:=h
def mq11 {P:Prop} (h:P:=by
 refine ⟨⟨0,rfl,rfl,oM,hX⟩,?_⟩
 rintro w σ1 ⟨j,rfl,rfl,hj,ha⟩
 conv=>whnf
 refine ZGr (fun hc=>?_) (fun hc=>?_)
 rotate_left
 ·have hc:¬(j:Int)<((fs.map Zp).length:Int):=hc
  rw [Td] at hc
  rw [Tm oM] at ha
  have ha:none=X:=ha
  subst ha
  conv=>whnf
  exact h
 have aa:j<fs.length:=by have hc:(j:Int)<((fs.map Zp).length:Int):=hc;rw [Td] at hc;omega
 have av:j<eargs.length:=oM
 rw [Tk aa,Tk av] at ha
 simp only [ZaP] at ha
 have hk:=rk j _ _ (Ta av) (Ta aa)
 have pu:(fs.map Zp)[(j:Int).toNat]?=some (Zp fs[j]):=by rw [Tg,Th,Ta aa];rfl
 have nw:(Ze pl eargs)[(j:Int).toNat]?=some (ZD pl eargs[j]):=by rw [Zc,Tg,Th,Ta av];rfl
 have dr:=ZQ szE eargs j av
 have hμ:((eargs.length:Int) - ((j:Int)+1)).toNat<((eargs.length:Int) - (j:Int)).toNat:=oM
 generalize fs[j]=f0 at ha hk pu
 generalize eargs[j]=x0 at ha hk nw dr
 obtain ⟨f1,f2⟩:=f0
 obtain ⟨x1,x2,x3,x4,x5⟩:=x0
 conv=>whnf
 refine ⟨_,oM,pu,wN ?_⟩
 refine ⟨_,oM,nw,wN ?_⟩
 refine ⟨oM,pl,p,r,vs,more,.mk x1 x2 x3 x4 x5,M,kn,rfl,rfl,rfl,hp,⟨oM,oM⟩,hk,l4,fun y hy=>?_⟩
 rw [Wp,hy] at ha
 cases y with
 | some ae =>
  obtain ⟨a,e⟩:=ae
  simp only [orF] at ha
  subst ha
  simp only [FlK] at h |-
  conv=>whnf
  exact h
 | none =>
 simp only [FlK,orF] at ha |-
 conv=>whnf
 (repeat (refine ⟨rfl,?_⟩;conv=>whnf))
 refine Zk ?_
 exact ⟨⟨j+1,rfl,rfl,oM,ha⟩,hμ⟩):P:=h
def mq12 {P:Prop} (h:P:=by
 rcases x with ⟨v3,ts3⟩ | ⟨r3,e3⟩
 rotate_left
 ·exact mq161
 rw [ff,R.bind_ok] at h
 intro a3 gq am
 have ib:=am.hi
 conv=>whnf
 refine Zk ?_
 rw [TQ]
 exact h _ oM am):P:=h
def mq13 {P:Prop} (h:P:=by
 have hr:(Ze pl e4)[(j:Int).toNat]?=some (ZD pl e4[j]):=by rw [Tg,Zc,Th,Ta aa];rfl
 have hg:=YB e4 j aa
 have hμ:((e4.length:Int) - ((j:Int)+1)).toNat<((e4.length:Int) - (j:Int)).toNat:=oM
 generalize e4[j]=x at hd hr hg
 rw [hd] at h1 h2 ha
 obtain ⟨b1,b2,b3,b4,b5⟩:=x
 conv=>whnf
 refine ⟨_,oM,hr,wN ?_⟩
 refine ⟨oM,pl,.mk b1 b2 b3 b4 b5,M,rfl,rfl,⟨oM,oM⟩,fun ho=>wN ?_,fun y ho=>wN ?_⟩
 ·rw [ho] at ha
  refine Zk ?_
  exact ⟨⟨j+1,rfl,rfl,oM,ha⟩,hμ⟩
 rw [ho] at h2
 have h2:=h2 _ rfl
 exact h2):P:=h
def mq14 {P:Prop} (h:P:=by
 cases b with
 | false =>
  rw [Zq,Te (by rw [cy];simp),R.bind_err] at h
  exact mq190
 | true =>
 rw [Zq,Ti cy] at h
 conv=>whnf
 refine ZGr (fun hc=>wN ?_) (fun hc=>wN ?_)
 ·rw [Ti oM,R.bind_err] at h
  refine ⟨L,ts,rfl,ho,wN ?_⟩
  exact h _ _
 rw [Te oM] at h
 refine ⟨L,ts,rfl,ho,fun x hx=>?_⟩
 rw [ZN,Ti cy] at hx
 subst hx
 intro a1 ef ah
 have bq:=ah.hi
 conv=>whnf
 refine Zk ?_
 refine ⟨_,fun _ _ h=>h,Tb rfl,wN ?_⟩
 refine ⟨L,ts.tail,rfl,ah,⟨oM,oM,oM⟩,fun x bo=>?_⟩
 rcases x with ⟨v2,ts2⟩ | ⟨r2,e2⟩
 rotate_left
 ·exact mq187
 rw [bo,R.bind_ok] at h
 intro a2 f7 ac
 have dj:=ac.hi
 obtain ⟨v2a,v2b,v2c,v2d,v2e⟩:=v2
 conv=>whnf
 repeat (refine ⟨rfl,?_⟩;conv=>whnf)
 rw [Ti rfl,R.bind_ok] at h
 refine Zk ?_
 rw [TQ]
 exact h _ oM ac):P:=h
def mq15 {P:Prop} (h:P:=by
 refine ⟨L,ts1,rfl,ah,fp,fun x hx=>?_⟩
 rw [hx] at step
 cases x with
 | err r e =>
  exact mq162
 | ok v ts2 =>
 rw [R.bind_ok] at step
 intro a2 aw ac
 have dg:=ac.len
 have sa:=ac.hi
 obtain ⟨v1,v2,v3,v4,v5⟩:=v
 conv=>whnf
 refine ⟨Tq.2 rfl,(show ((l.map (YC (Zb L en))).length+1) * 80<=2 ^ 47 by rw [Td];omega),(show (l.map (YC (Zb L en))).length+1<=2 ^ 47 by rw [Td];omega),wN ?_⟩
 refine ⟨L,ts2,rfl,ac,[[44]],rfl,sM,fun hw am=>wN ?_,fun hw=>wN ?_⟩
 ·rw [Ti hw] at step
  have ct:=am.len
  refine ⟨⟨_,a2+1,ts2.tail,f,congrArg (fun r=>[PV.sl 0 65 r]) (Zv (YC (Zb L en)) l (.mk v1 v2 v3 v4 v5)),rfl,am,by simp only [Tc,TE];omega,oM,step⟩,?_⟩
  exact mq160
 rw [Te (by rw [hw];simp)] at step
 rw [step] at h
 exact Zs0 (h a2 oM ac) (congrArg (fun r=>PEnd.ret (PV.d (D.sl r))) (Zv (YC (Zb L en)) l (.mk v1 v2 v3 v4 v5)).symm) rfl):P:=h
def mq16 {P:Prop} (h:P:=by
 refine ⟨L,ts1,rfl,ah,fp,fun x hx=>?_⟩
 rw [hx] at step
 cases x with
 | err r e =>
  exact mq162
 | ok v ts2 =>
 rw [R.bind_ok] at step
 intro a2 aw ac
 have dg:=ac.len
 have sa:=ac.hi
 obtain ⟨v1,v2,v3,v4,v5⟩:=v
 conv=>whnf
 refine ⟨Tq.2 rfl,(show ((l.map (ZD (Zb L en))).length+1) * 64<=2 ^ 47 by rw [Td];omega),(show (l.map (ZD (Zb L en))).length+1<=2 ^ 47 by rw [Td];omega),wN ?_⟩
 refine ⟨L,ts2,rfl,ac,[[44]],rfl,sM,fun hw am=>wN ?_,fun hw=>wN ?_⟩
 ·rw [Ti hw] at step
  have ct:=am.len
  refine ⟨⟨_,a2+1,ts2.tail,f,congrArg (fun r=>[PV.sl 0 67 r]) (Zv (ZD (Zb L en)) l (.mk v1 v2 v3 v4 v5)),rfl,am,by simp only [Tc,TE];omega,oM,step⟩,?_⟩
  exact mq160
 rw [Te (by rw [hw];simp)] at step
 rw [step] at h
 exact Zs0 (h a2 oM ac) (congrArg (fun r=>PEnd.ret (PV.d (D.sl r))) (Zv (ZD (Zb L en)) l (.mk v1 v2 v3 v4 v5)).symm) rfl):P:=h
def mq17 {P:Prop} (h:P:=by
 exact mq161):P:=h
def mq18 {P:Prop} (h:P:=by
 refine ⟨L,ts1,rfl,ah,fun x hx=>?_⟩
 rw [hx] at step
 cases x with
 | err r e =>
  exact mq162
 | ok v ts2 =>
 rw [R.bind_ok] at step
 intro a2 aw ac
 have dg:=ac.len
 have sa:=ac.hi
 obtain ⟨v1,v2⟩:=v
 conv=>whnf
 refine ⟨Tq.2 rfl,(show ((l.map (XF)).length+1) * 40<=2 ^ 47 by rw [Td];omega),(show (l.map (XF)).length+1<=2 ^ 47 by rw [Td];omega),wN ?_⟩
 refine ⟨L,ts2,rfl,ac,[[124]],rfl,sM,fun hw am=>wN ?_,fun hw=>wN ?_⟩
 ·rw [Ti hw] at step
  have ct:=am.len
  refine ⟨⟨_,a2+1,ts2.tail,f,congrArg (fun r=>[PV.sl 0 155 r]) (Zv (XF) l _),rfl,am,by simp only [Tc,TE];omega,oM,step⟩,?_⟩
  exact mq160
 rw [Te (by rw [hw];simp)] at step
 rw [step] at h
 exact Zs0 (h a2 oM ac) (congrArg (fun r=>PEnd.ret (PV.d (D.sl r))) (Zv (XF) l _).symm) rfl):P:=h
def mq19 {P:Prop} (h:P:=by
 refine ⟨L,ts1,rfl,ah,fun x hx=>?_⟩
 rw [hx] at step
 cases x with
 | err r e =>
  exact mq162
 | ok v ts2 =>
 rw [R.bind_ok] at step
 intro a2 aw ac
 have dg:=ac.len
 have sa:=ac.hi
 obtain ⟨v1,v2⟩:=v
 conv=>whnf
 refine ⟨Tq.2 rfl,(show ((l.map (Zp)).length+1) * 32<=2 ^ 47 by rw [Td];omega),(show (l.map (Zp)).length+1<=2 ^ 47 by rw [Td];omega),wN ?_⟩
 refine ⟨L,ts2,rfl,ac,[[44]],rfl,sM,fun hw am=>wN ?_,fun hw=>wN ?_⟩
 ·rw [Ti hw] at step
  have ct:=am.len
  refine ⟨⟨_,a2+1,ts2.tail,f,congrArg (fun r=>[PV.sl 0 188 r]) (Zv (Zp) l _),rfl,am,by simp only [Tc,TE];omega,oM,step⟩,?_⟩
  exact mq160
 rw [Te (by rw [hw];simp)] at step
 rw [step] at h
 exact Zs0 (h a2 oM ac) (congrArg (fun r=>PEnd.ret (PV.d (D.sl r))) (Zv (Zp) l _).symm) rfl):P:=h
def mq20 {P:Prop} (h:P:=by
 refine ⟨L,ts1,rfl,ah,fun x hx=>?_⟩
 rw [hx] at step
 cases x with
 | err r e =>
  exact mq162
 | ok v ts2 =>
 rw [R.bind_ok] at step
 intro a2 aw ac
 have dg:=ac.len
 have sa:=ac.hi
 skip
 conv=>whnf
 refine ⟨Tq.2 rfl,(show ((l.map (Xg)).length+1) * 16<=2 ^ 47 by rw [Td];omega),(show (l.map (Xg)).length+1<=2 ^ 47 by rw [Td];omega),wN ?_⟩
 refine ⟨L,ts2,rfl,ac,[[44]],rfl,sM,fun hw am=>wN ?_,fun hw=>wN ?_⟩
 ·rw [Ti hw] at step
  have ct:=am.len
  refine ⟨⟨_,a2+1,ts2.tail,f,congrArg (fun r=>[PV.sl 0 9 r]) (Zv (Xg) l _),rfl,am,by simp only [Tc,TE];omega,oM,step⟩,?_⟩
  exact mq160
 rw [Te (by rw [hw];simp)] at step
 rw [step] at h
 exact Zs0 (h a2 oM ac) (congrArg (fun r=>PEnd.ret (PV.d (D.sl r))) (Zv (Xg) l _).symm) rfl):P:=h
def mq21 {P:Prop} (h:P:=by
 refine ⟨⟨0,M,rfl,rfl,oM,rfl⟩,?_⟩
 rintro vs σ1 ⟨j,M',rfl,rfl,hj,ha⟩
 conv=>whnf
 refine ZGr (fun hc=>?_) (fun hc=>?_)
 rotate_left
 ·have ey:e4.length<=j:=by have hc:¬(j:Int)<((Ze pl e4).length:Nat):=hc;omega
  rw [Tm ey] at ha
  rw [<- ha] at h
  conv=>whnf
  exact h
 have aa:j<e4.length:=by have hc:(j:Int)<((Ze pl e4).length:Nat):=hc;omega
 rw [Zbr aa] at ha
 have hr:(Ze pl e4)[(j:Int).toNat]?=some (ZD pl e4[j]):=by rw [Tg,Zc,Th,Ta aa];rfl
 have hg:=YB e4 j aa
 have hμ:((e4.length:Int) - ((j:Int)+1)).toNat<((e4.length:Int) - (j:Int)).toNat:=oM
 generalize e4[j]=x at ha hr hg
 obtain ⟨b1,b2,b3,b4,b5⟩:=x
 conv=>whnf
 refine ⟨_,oM,hr,wN ?_⟩
 refine ⟨oM,pl,.mk b1 b2 b3 b4 b5,M',rfl,rfl,⟨oM,oM⟩,wN ?_⟩
 refine Zk ?_
 exact ⟨⟨j+1,_,rfl,rfl,oM,ha⟩,hμ⟩):P:=h
def mq22 {P:Prop} (h:P:=by
 unfold ZbY at h
 split at h
 ·obtain ⟨pl,l,rfl,⟨rfl,hz,hn⟩,h⟩:=h
  refine pwv [] 0 false ?_
  refine ⟨pl,l,rfl,⟨rfl,rfl,hz,hn⟩,fun b hb=>wN ?_⟩
  exact h _ (by rw [<- hb,Bool.not_not])
 exact h.elim):P:=h
def mq23 {P:Prop} (h:P:=by
 exact ⟨_,h,by rw [ZY,Op.equalIn];simp [Za fx],ZK rfl,rfl⟩):P:=h
def mq24 {P:Prop} (h:P:=by
 exact mq190):P:=h
def mq25 {P:Prop} (h:P:=by
 generalize l[j]=x at hs hr
 obtain ⟨x1,x2,x3,x4,x5,x6⟩:=x
 conv=>whnf
 refine ⟨_,oM,hr,wN ?_⟩
 refine ⟨pl,_,rfl,wN ?_⟩
 refine ZGz (fun v hv=>?_) (fun hv=>wN ?_)
 ·rw [ZJ] at hv
  obtain ⟨n,hn,rfl⟩:=TD.1 hv
  rw [Te (by rw [show lkM _ _=some n from hn];simp)] at hs
  conv=>whnf
  refine Zk ?_
  exact ⟨⟨j+1,rfl,by rw [hs];rfl,oM⟩,by show ((l.length:Int) - ((j:Int)+1)).toNat<((l.length:Int) - (j:Int)).toNat;omega⟩
 rw [ZJ,Option.map_eq_none_iff] at hv
 rw [Ti (by rw [show lkM _ _=none from hv];rfl)] at hs
 refine ⟨pl,_,rfl,wN ?_⟩
 refine Zk ?_
 exact ⟨⟨j+1,rfl,by rw [hs,<- WC];rfl,oM⟩,by show ((l.length:Int) - ((j:Int)+1)).toNat<((l.length:Int) - (j:Int)).toNat;omega⟩):P:=h
def mq26 {P:Prop} (h:P:=by
 intro j x hx
 have hj:=(To.1 hx).1
 have cj:(Zm l)[j]?=some [.int .u8 x.toNat]:=by simp [Zm,hx]
 generalize hrr:Zm l=rr at hd cj
 have hlen:rr.length=l.length:=by rw [<- hrr];simp [Zm]
 generalize hvv:Value.slice (some ⟨g,0,none⟩) l.length cap=vv at hd
 cases hd with
 | slnil=>simp at cj
 | slz=>simp at cj
 | sl _ _ _ _ sz u hcap hsz hc ho hu =>
 simp only [Value.slice.injEq,Option.some.injEq,Addr.mk.injEq] at hvv
 obtain ⟨⟨rfl,rfl,_⟩,_,rfl⟩:=hvv
 have ki:sz=1:=by
  have:=hsz _ (TW cj);simpa using this.symm
 subst ki
 have h1:=hc j 0 oM oM
 have h2:=hu j 0 (.int .u8 x.toNat) (by rw [cj];rfl)
 generalize huu:u j 0=uu at h1 h2;cases h2
 simpa using h1):P:=h
def mq27 {P:Prop} (h:P:=by
 have h:=h rfl
 conv=>whnf
 refine ⟨_,oM,hr,wN ?_⟩
 refine ZGu (fun hq=>wN ?_) (fun hq=>wN ?_)
 ·have hq:¬d2.length=eargs.length:=by have hq:¬((d2.map Zp).length:Int)=((Ze pl eargs).length:Int):=hq;rw [Td,aw] at hq;omega
  have h:=h _ rfl
  rw [Ti hq] at h
  exact h
 have hq:d2.length=eargs.length:=by have hq:((d2.map Zp).length:Int)=((Ze pl eargs).length:Int):=hq;rw [Td,aw] at hq;omega
 rw [Te (fun g=>g hq)] at h
 refine ⟨pl,p,r,vs,more,rfl,hp,eargs,rfl,rfl,⟨hz,hm⟩,fun x hx=>?_⟩
 have h:=h x hx
 cases x with
 | none=>simp only [RtK] at h |-;(conv=>whnf);exact h
 | some ae=>obtain ⟨a,e⟩:=ae;simp only [RtK] at h |-;(conv=>whnf);exact h):P:=h
def mq28 {P:Prop} (h:P:=by
 refine ⟨pl,p,r,vs,more,rfl,hp,.mk x1 x2 x3 x4 x5,rfl,⟨dr,hm⟩,fun f hg=>?_⟩
 cases f with
 | none =>
  have:=li hg
  simp only [RtK]
  conv=>whnf
  refine Zk ?_
  exact ⟨⟨j+1,rfl,rfl,oM,this⟩,hμ⟩
 | some ae =>
 obtain ⟨a,e⟩:=ae
 have:=dq _ hg
 subst this
 simp only [RtK] at h |-
 conv=>whnf
 exact h):P:=h
def mq29 {P:Prop} (h:P:=by
 have dj:b2∈abcN:=ac _ (Tw.2 (.inl (Sy.2 rfl)))
 rcases i with _ | _
 all_goals
  conv=>whnf
  refine ⟨_,oM,hr,wN ?_⟩
  refine ⟨⟨rfl,rfl,rfl,rfl,rfl⟩,pl,⟨r1,r2,r3,r4⟩,D,(T1,T2,T3),rfl,rfl,rfl,rfl,hT,⟨hd,dj⟩,fun c bw=>?_⟩
  rw [Zna] at ht
  replace ht:=ht.trans (show _=(c || ZhM D r1 (VI b4 true)) from congrArg (· || ZhM D r1 (VI b4 true)) bw)
  conv=>whnf
  refine ⟨oM,⟨rfl,rfl,rfl,rfl,rfl,rfl⟩,pl,p2,b4,⟨r1,r2,r3,r4⟩,D,(T1,T2,T3),rfl,rfl,rfl,rfl,rfl,hT,⟨oM,oM⟩,⟨hd,bz⟩,fun c2 hc4=>wN ?_⟩
  rw [show (c || ZhM D r1 (VI b4 true))=c2 from hc4] at ht
  refine Zk ?_
  exact ⟨⟨j+1,_,rfl,rfl,oM,ht⟩,hμ⟩):P:=h
def mq30 {P:Prop} (h:P:=by
 have hk:=(To.1 hx).1
 have ka:k<vs.size:=oM
 have:(vs++Array.replicate (fn.ntmps - vs.size) undef).getD (0+k) Go.undef=vs[k]:=by
  simp [Array.getD,Array.getElem_append,ka]
  omega
 rw [this]
 exact ab.2 k x _ hx (TL ka)):P:=h
def mq31 {P:Prop} (h:P:=by
 refine Zk ?_
 exact ⟨⟨_,M',j+1,rfl,by rw [hb];rfl,⟨hn,⟨k',gw⟩,qb⟩,oM⟩,hμ⟩):P:=h
def mq32 {P:Prop} (h:P:=by
 have e:Zm (Lib.encodeRune c)=[[D.int .u8 (Zi .or .u8 224 (IntKind.u8.wrap (c.fdiv (2 ^ min (Int.toNat 12) IntKind.i32.bits))))],[D.int .u8 (Zi .or .u8 128 (Zi .and .u8 (IntKind.u8.wrap (c.fdiv (2 ^ min (Int.toNat 6) IntKind.i32.bits))) 63))],[D.int .u8 (Zi .or .u8 128 (Zi .and .u8 (IntKind.u8.wrap (c)) 63))]]:=by
  rw [XV,Lib.encodeRuneZ_three oM]
  simp only [e6,e12,e18,wu8,Tx,TN]
  rw [ZFn oM oM,a63 oM oM,a63 oM oM,ZvY oM oM,ZvY oM oM,show c / 4096 % 256=c / 4096 by omega,show c / 64 % 256 % 64=c / 64 % 64 by omega,show c % 256 % 64=c % 64 by omega]
  all_goals (try omega)
  (try (congr 1 <;> omega))
 rw [e] at h;exact h):P:=h
theorem mq33 {P:Prop} (h:P:=by
 refine ⟨sM,fun r hr=>by simp_all,fun a b y u hb hy hu=>?_⟩
 by_cases ha:a<n
 ·have aa:a * zero.length+b<n * zero.length:=by
   grind
  have hm:(a * zero.length+b) % z.cells.size=b:=by rw [hzc,Nat.mul_comm,Nat.mul_add_mod,Nat.mod_eq_of_lt hb]
  rw [TG,Array.getElem?_map,Array.getElem?_range,Ti aa] at hu
  simp only [TX,hm,Option.some.injEq] at hu
  have hbz:b<z.cells.size:=oM
  rw [getElem!_pos z.cells b hbz] at hu
  have dc:b<(T.get el).zero.length:=oM
  have:=y6 b _ u (Ta dc) (by simp_all)
  rw [Sz,Ti ha] at hy
  simp only [Option.bind_some] at hy
  exact X0 (cg b _ y (Ta dc) hy) this.1
 simp_all):P:=h
def mq34 {P:Prop} (h:P:=by
 have vq:(Ze pl b3)[(i:Int).toNat]?=some (ZD pl b3[i]):=by rw [Tg,Zc,Th,Ta mc];rfl
 have tq:=YB b3 i mc
 generalize b3[i]=y at ow vq tq
 rw [ow] at h1 h2 iv
 obtain ⟨c1,c2,c3,c4,c5⟩:=y
 conv=>whnf
 refine ⟨_,oM,vq,wN ?_⟩
 refine ⟨pl,.mk c1 c2 c3 c4 c5,M,rfl,rfl,⟨oM,oM⟩,fun hy=>wN ?_,fun z hy=>wN ?_⟩
 ·rw [hy] at iv
  refine Zk ?_
  refine ⟨⟨j2,i+1,b2,b3,b4,b5,rfl,rfl,hx,oM,iv⟩,?_⟩
  exact mq188
 rw [hy] at h2
 have h2:=h2 z rfl
 exact h2):P:=h
def mq35 {P:Prop} (h:P:=by
 conv=>whnf
 exact h):P:=h
def mq36 {P:Prop} (h:P:=by
 have e:Yg (s.drop a.toNat)=2:=by
  have:twos.any (Lib.hasPrefix (s.drop a.toNat))=true:=by simp [twos,h2]
  simp [Yg,this]
 rw [e] at h
 exact h):P:=h
def mq37 {P:Prop} (h:P:=by
 rcases x with ⟨v8,ts8⟩ | ⟨r8,e8⟩
 rotate_left
 ·rw [x9,R.bind_err] at h;intro a9 d9;(conv=>whnf);exact h _ _
 rw [x9,R.bind_ok] at h
 intro a8 ae5 iz
 have hb8:=iz.hi
 obtain ⟨v8a,v8b,v8c,v8d,v8e,v8f⟩:=v8
 conv=>whnf
 rw [Te sM] at h
 refine ⟨L,ts8,rfl,iz,fun x rz=>?_⟩
 rcases x with ⟨v9,ts9⟩ | ⟨r9,e9⟩
 rotate_left
 ·rw [rz,R.bind_err,R.bind_err] at h;intro a9 d9;(conv=>whnf);exact h _ _
 rw [rz,R.bind_ok,R.bind_ok] at h
 intro a9 ae6 fg
 have s7:=fg.hi
 conv=>whnf
 refine Zk ?_
 rw [TQ]
 exact h _ oM fg):P:=h
def mq38 {P:Prop} (h:P:=by
 exact mq173):P:=h
def mq39 {P:Prop} (h:P:=by
 exact mq187):P:=h
def mq40 {P:Prop} (h:P:=by
 have fh:u.drop i=[]:=Tm oM
 have g1:Wx (s.drop a)=.err 0:=by rw [<- fy];simp [Z7,fh]
 (try (refine ⟨rfl,?_⟩;conv=>whnf))
 (try (refine ⟨rfl,?_⟩;conv=>whnf))
 exact dq _ g1):P:=h
def mq41 {P:Prop} (h:P:=by
 rcases i with _ | _
 all_goals
  conv=>whnf
  refine ⟨_,oM,hr,wN ?_⟩
  refine ⟨⟨rfl,rfl,rfl,rfl,rfl⟩,pl,⟨r1,r2,r3,r4⟩,(E1,E2,E3),_,rfl,rfl,rfl,rfl,hd,rfl,?_⟩
  change _=JT r1 (VI b4 true) (ZuX r1 b2 (E1,E2,E3)) at ht
  generalize ZuX (Ru.mk r1 r2 r3 r4).head b2 (E1,E2,E3)=F at ht
  obtain ⟨F1,F2,F3⟩:=F
  conv=>whnf
  refine ⟨oM,⟨rfl,rfl,rfl,rfl,rfl,rfl⟩,pl,p2,b4,⟨r1,r2,r3,r4⟩,(F1,F2,F3),_,rfl,rfl,rfl,rfl,rfl,⟨oM,oM⟩,hd,rfl,wN ?_⟩
  refine Zk ?_
  exact ⟨⟨j+1,_,rfl,rfl,oM,ht⟩,hμ⟩):P:=h
def mq42 {P:Prop} (h:P:=by
 rcases x with ⟨v11,ts11⟩ | ⟨r11,e11⟩
 rotate_left
 ·rw [j6,R.bind_err] at h;intro a9 d9;(conv=>whnf);exact h _ _
 rw [j6,R.bind_ok] at h
 intro a11 s9 lf
 have aab:=lf.hi
 conv=>whnf
 refine ⟨L,ts11,rfl,lf,⟨fp,sM⟩,fun x lg=>?_⟩
 rcases x with ⟨v12,ts12⟩ | ⟨r12,e12⟩
 rotate_left
 ·rw [lg,R.bind_err] at h;intro a9 d9;(conv=>whnf);exact h _ _
 rw [lg,R.bind_ok] at h
 intro a12 ta lh
 have aac:=lh.hi
 conv=>whnf
 rw [<- Zc]
 exact h _ oM lh):P:=h
def mq43 {P:Prop} (h:P:=by
 refine Zk ?_
 exact ⟨⟨j+1,rfl,rfl,oM,ha⟩,hμ⟩):P:=h
theorem mq44 {P:Prop} (h:P:=by
 obtain ⟨pe,σ',e',hK,xj,hS',hst⟩:=hA
 cases pe with
 | ret pv =>
  obtain ⟨u,rfl,hr⟩:=xj
  simp only at hK
  rw [ZZ] at hK
  exact ⟨_,e',σ',hK,hS',(hF.clean hst).put hr (by simp_all),hL.trans hst,by rw [Yr];exact hN,by rw [Y4];exact ba.later hst,Zgr hd hZ⟩
 | panic pv =>
 obtain ⟨u,rfl,hr⟩:=xj
 exact ⟨.panic pv,_,e',σ',hK,⟨u,rfl,hr⟩,hS',ZlG (hF.clean (Later.refl _ _ _)) hst,hL.trans hst,hN,ba.later hst,hZ⟩):P:=h
def mq45 {P:Prop} (h:P:=by
 refine ⟨_,_,h,.mkint,?_⟩
 simp only [ho,resolve,invoke,builtin,Sem.run_bind,Sem.run_pure,Result.andThen,Builtin.len_,ly,qo,Za hd]
 rfl):P:=h
def mq46 {P:Prop} (h:P:=by
 rw [du,R.bind_err] at h;intro a9 d9;(conv=>whnf);exact h _ _):P:=h
def mq47 {P:Prop} (h:P:=by
 conv=>whnf
 (try (refine ⟨rfl,?_⟩;conv=>whnf))
 (try (refine ⟨rfl,?_⟩;conv=>whnf))
 exact dq 3 (by rw [Xc,hn,hc,Te je,Ti rfl])):P:=h
theorem mq48 {P:Prop} (h:P:=by
 split at h
 ·unfold Zfc at h |-
  split at h
  ·split at h
   ·refine hM.call _ _ _ _ _ (fun e σ he=>?_) h
    cases e with
    | ret v=>simp only at he |-;rw [ZZ] at he |-;simp_all
    | panic v=>exact he
   exact (hM.iter _ _ _ _ _ h).elim
  ·exact (hM.raw _ _ _ _ h).elim
  exact h
 ·exact h
 exact Zcn (fun v σ hv=>by rw [ZZ] at hv |-;simp_all) h):P:=h
def mq49 {P:Prop} (h:P:=by
 cases hx
 simp only [ZD,eg] at h
 conv=>whnf
 refine Or.inl ⟨hn.inr,wN ?_⟩
 exact h _ _ oM hn):P:=h
def mq50 {P:Prop} (h:P:=by
 rw [hp,Sf] at hs
 conv=>whnf
 refine Zk ?_
 refine ⟨⟨i+1,rfl,rfl,oM,hs⟩,?_⟩
 exact lzM oM):P:=h
def mq51 {P:Prop} (h:P:=by
 repeat (first | (refine ZGr (fun _=>?_) (fun g=>absurd hq g);conv=>whnf))
 exact h _ (by rw [show x.text=_ from hq];rfl) _ _ oM ho):P:=h
def mq52 {P:Prop} (h:P:=by
 injection e with e
 injection e with _ e
 omega):P:=h
def mq53 {P:Prop} (h:P:=by
 refine Zk ?_
 exact ⟨⟨j+1,rfl,rfl,oM,ha⟩,by show ((l.length:Int) - ((j:Int)+1)).toNat<((l.length:Int) - (j:Int)).toNat;omega⟩):P:=h
def mq54 {P:Prop} (h:P:=by
 refine V4 ?_
 exact ⟨⟨_,M3,_,j2,2,b2,.mk c1 c2 c3 c4 c5,.mk d1 d2 d3 d4 d5,b4,b5,rfl,rfl,hP,hx,.inr (.inr ⟨rfl,hN1 _ e1⟩)⟩,by show (2 - ((1:Int)+1)).toNat<(2 - (1:Int)).toNat;decide⟩):P:=h
def mq55 {P:Prop} (h:P:=by
 refine V4 ?_
 exact ⟨⟨_,M3,_,j2,1,b2,.mk c1 c2 c3 c4 c5,.mk d1 d2 d3 d4 d5,b4,b5,rfl,rfl,hP,hx,.inr (.inl ⟨rfl,hN1 _ e1⟩)⟩,by show (2 - ((0:Int)+1)).toNat<(2 - (0:Int)).toNat;decide⟩):P:=h
def mq56 {P:Prop} (h:P:=by
 exact mq176):P:=h
def mq57 {P:Prop} (h:P:=by
 refine ⟨fun r hr=>by (simp at hr;rcases hr with rfl | rfl | rfl <;> rfl),(show (rows.length+3) * 1<=2 ^ 47 by omega),(show rows.length+3<=2 ^ 47 by omega),?_⟩
 conv=>whnf
 exact g):P:=h
def mq58 {P:Prop} (h:P:=by
 exact mq181):P:=h
def mq59 {P:Prop} (h:P:=by
 simp only [twos,List.take,SJ,List.any_nil,Sm,Sh,SA,SF] at hn dw |-
 simp only [hn,dw,and_self]):P:=h
theorem mq60 {P:Prop} (h:P:=by
 refine ⟨v'::vs',tk2,as2,h2,VX du bo,f8,by simp [hl],fun i x y hx hy=>?_⟩
 cases i with
 | zero=>simp at hx hy;subst hx;subst hy;exact hv.ext bo
 | succ i=>grind):P:=h
def mq61 {P:Prop} (h:P:=by
 refine ⟨⟨rfl,e+(pk (s.drop e)).2,f,k1,k2,rfl,k3,k4⟩,?_⟩
 exact (show ((s.length:Int) - ((e:Int)+((pk (s.drop e)).2:Int))).toNat<((s.length:Int) - (e:Int)).toNat by omega)):P:=h
def mq62 {P:Prop} (h:P:=by
 refine ⟨pl,p,r,v,b,rfl,hp,.mk x1 x2 x3 x4 x5,rfl,⟨dr,hm⟩,fun v' b' hg=>wN ?_⟩
 have:=li v' b' hg
 refine Zk ?_
 exact ⟨⟨j+1,v',b',rfl,rfl,oM,this⟩,hμ⟩):P:=h
def mq63 {P:Prop} (h:P:=by
 exact mq184):P:=h
def mq64 {P:Prop} (h:P:=by
 have af:l.length<=i:=lzG hlen af
 rw [ZdV _ af] at hs
 exact h _ (by rw [hs];simp)):P:=h
theorem mq65 {P:Prop} (h:P:=by
 by_cases pj:j<ops.size
 ·grind
 unfold anc
 have:(Wu ops.toList []).length=ops.size:=by
  have:∀(l:List Oper) (acc:List Nat),(Wu l acc).length=acc.length+l.length:=by
   intro l
   induction l with
   | nil=>intro acc;rfl
   | cons o l ih=>intro acc;rw [Wu,ih];grind
  simp_all
 simp_all):P:=h
def mq66 {P:Prop} (h:P:=by
 induction m with
 | nil=>by_cases h:s=t <;> simp [Z2,lkM,h]
 | cons x m ih =>
 obtain ⟨y,v⟩:=x
 simp only [Z2]
 by_cases hy:t=y
 ·subst hy
  by_cases h:s=t <;> simp [lkM,h]
 rw [decide_eq_false hy]
 simp only [lkM,ih]
 by_cases h:s=t
 ·subst h;simp [hy]
 simp [h]):P:=h
def mq67 {P:Prop} (h:P:=by
 split at h;· cases h;rename_i h;subst h;exact .inl ⟨dM,rfl⟩
 split at h;· cases h;rename_i h;subst h;exact .inr (.inl ⟨dM,rfl⟩)
 split at h;· cases h;rename_i h;subst h;exact .inr (.inr (.inl ⟨dM,rfl⟩))
 split at h;· cases h;rename_i h;subst h;exact .inr (.inr (.inr ⟨dM,rfl⟩))
 cases h):P:=h
def mq68 {P:Prop} (h:P:=by
 rw [Lib.decodeL_N]
 have k0:=(r.getD 0 0).toNat_lt
 rcases Lib.decodeN_shape r.length (r.getD 0 0).toNat (r.getD 1 0).toNat (r.getD 2 0).toNat (r.getD 3 0).toNat with ⟨c,e⟩ | ⟨c1,c2,c3,cv,e⟩ | ⟨c1,c2,c3,c4,cv,cs,e⟩ | ⟨c1,c2,c3,c4,c5,cv,cw,e⟩ | e
 all_goals (rw [e];dsimp only;omega)):P:=h
def mq69 {P:Prop} (h:P:=by
 refine Go.Lib.run_unsafeString_row w.drew (ρ.t 127) (ρ.t 3) (ρ.t 9) (ρ.t 5) L.t127 X.cellsByte g cur.size (by have qs:w.drew.heap[g]?=some (.cells cur (ρ.t 5) fz):=hg;simp [World.shape?,qs]) l h0 hn dm ?_
 intro j x hx
 have:=az j x hx
 rw [Yb,Sx];exact this):P:=h
def mq70 {P:Prop} (h:P:=by
 have ey:e4.length<=j:=by have hc:¬(j:Int)<((Ze pl e4).length:Nat):=hc;omega
 rw [Tm ey] at h1
 have h1:=h1 rfl
 conv=>whnf
 exact h1):P:=h
def mq71 {P:Prop} (h:P:=by
 rw [hm,Ti ⟨hb,hc⟩] at h
 refine ⟨L,ts1,rfl,ah,wN ?_⟩
 exact h _ _):P:=h
def mq72 {P:Prop} (h:P:=by
 unfold Zbf at h
 split at h
 ·rename_i w t0 t rows a en dp
  obtain ⟨L,ts,rfl,ho,h1,h2⟩:=h
  refine pwv [] 2 false ?_
  refine ⟨L,ts,rfl,ho,[w],rfl,sM,fun hw ac=>wN ?_,fun hw=>wN ?_⟩
  ·exact h1 hw ac
  exact h2 hw
 exact h.elim):P:=h
def mq73 {P:Prop} (h:P:=by
 refine ⟨L,ts,rfl,ho,wN ?_⟩
 exact h _ _):P:=h
def mq74 {P:Prop} (h:P:=by
 split
 ·exact h
 rename_i g
 refine ⟨List.nodup_append.2 ⟨h.1,sM,fun a ha b hb=>?_⟩,fun x hx=>?_⟩
 ·simp at hb;subst hb;exact fun e=>g (e ▸ ha)
 rcases Tw.1 hx with hx | hx
 ·exact h.2 x hx
 simp at hx;subst hx;exact ht):P:=h
theorem mq75 {P:Prop} (h:P:=by
 by_cases xr:k=i
 ·subst xr
  have ur:k<listed.size:=oM
  have:(listed.setIfInBounds k true).getD k false=true:=by simp_all
  grind
 have:(listed.setIfInBounds i true).getD k false=listed.getD k false:=getD_set_ne false (Ne.symm xr)
 grind):P:=h
def mq76 {P:Prop} (h:P:=by
 rw [ZlU hE] at gw
 subst gw
 have g1:Wx (s.drop a)=.err (1+i - 1):=by rw [<- fy];simp [Z7,ai,hE]
 conv=>whnf
 refine Zk ?_
 have g2:=dq _ g1
 rw [show ((a+(1+i - 1):Nat):Int)=(a:Int)+1+(i:Int) - 1 by omega] at g2
 exact g2):P:=h
def mq77 {P:Prop} (h:P:=by
 refine Zk ?_
 refine ⟨⟨rfl,e+1,rfl,oM,oM,bc (by have ew:Zo ((s.getD e 0).toNat:Int)=true:=h3;simp only [XR,ew,Bool.true_or])⟩,?_⟩
 exact (show ((s.length:Int) - ((e:Int)+1)).toNat<((s.length:Int) - (e:Int)).toNat by omega)):P:=h
def mq78 {P:Prop} (h:P:=by
 have gh:(pk (u.drop i)).1<32:=by rw [ly,xz] at h5;exact h5
 have g1:Wx (s.drop a)=.err (1+i):=by rw [<- fy];simp [Z7,ai,ew,jz,gh]
 have g2:=dq _ g1
 rw [show ((a+(1+i):Nat):Int)=(a:Int)+1+(i:Int) by omega] at g2
 exact g2):P:=h
def mq79 {P:Prop} (h:P:=by
 unfold ZkL at h
 split at h
 ·obtain ⟨pl,⟨a1,a2,a3,a4,a5⟩,rfl,⟨rfl,hz,hn⟩,h⟩:=h
  refine pwv [] 1 false ?_
  refine ⟨pl,(.mk a1 a2 a3 a4 a5),rfl,⟨hz,hn⟩,fun b hb=>wN ?_⟩
  exact h _ (by rw [hb])
 exact h.elim):P:=h
def mq80 {P:Prop} (h:P:=by
 unfold Xd at h
 split at h
 ·rename_i s
  refine pwu [] 0 false ?_
  repeat' ((conv=>whnf);refine ZGr (fun hc=>?_) (fun hc=>?_))
  all_goals (conv=>whnf)
  all_goals exact h _ (by simp [ZO, *])
 exact h.elim):P:=h
def mq81 {P:Prop} (h:P:=by
 rcases x with ⟨v1,ts1⟩ | ⟨r1,e1⟩
 rotate_left
 ·rw [du] at h;intro a9 d9;(conv=>whnf);exact h _ _
 rw [du] at h
 intro a1 ef ah
 have bq:=ah.hi
 obtain ⟨v1a,v1b,v1c,v1d,v1e⟩:=v1
 conv=>whnf
 exact h _ oM ah):P:=h
def mq82 {P:Prop} (h:P:=by
 rw [hp,Sa] at hs
 conv=>whnf
 exact h _ (by rw [hs];simp;try omega)):P:=h
def mq83 {P:Prop} (h:P:=by
 unfold wpOpIn
 rw [ho]
 dsimp only
 split at bc
 ·rename_i hw
  rw [Ti hw]
  exact Oper.wpIn_mono (fun a w h=>next a w (hK a w h)) bc
 rename_i hw
 rw [Te hw]
 exact ⟨fun _ _=>trivial,next _ _ (hK _ _ bc)⟩):P:=h
def mq84 {P:Prop} (h:P:=by
 have e:=Option.some.inj (congrArg (fun t:List PV=>t[3]?) bh)
 injection e with e
 injection e with _ e
 exact e.symm):P:=h
def mq85 {P:Prop} (h:P:=by
 cases xw with
 | ptr _ _ _ =>
 refine Calls.mono (Ziz (e.β 0) w (by simp [World.cell?,dv,jd])) fun en w' ⟨h1,h2⟩=>?_
 rw [h2]
 exact ⟨h1,.tuple [] #[] rfl (fun i x u hx=>by simp at hx),hS,Later.refl _ _ _⟩):P:=h
def mq86 {P:Prop} (h:P:=by
 refine ⟨oM,pl,p,r,v,b,rfl,hp,.mk x1 x2 x3 x4 x5,rfl,⟨oM,oM⟩,fun v' b' hg=>wN ?_⟩
 rw [hg] at ha
 (repeat (refine ⟨rfl,?_⟩;conv=>whnf))
 refine Zk ?_
 exact ⟨⟨j+1,v',b',rfl,rfl,oM,ha⟩,hμ⟩):P:=h
def mq87 {P:Prop} (h:P:=by
 cases hy
 obtain ⟨q1,q2⟩:=h3 0 p u rfl hu
 refine ⟨?_,q2⟩
 rcases hp with rfl | rfl
 ·cases q1 with
  | d _ _ hd=>exact .d _ _ (hd.later hL)
 cases q1 with
 | ptr b o hb=>exact .ptr 0 0 sM):P:=h
def mq88 {P:Prop} (h:P:=by
 induction m with
 | nil=>simp [Z2,lkM]
 | cons x m ih =>
 obtain ⟨y,v⟩:=x
 simp only [Z2,lkM]
 by_cases hy:t=y
 ·subst hy;simp
 simp only [hy,decide_false,Tf,ih]
 split <;> omega):P:=h
def mq89 {P:Prop} (h:P:=by
 split at h
 ·rename_i ht
  exact ⟨_,_,as++[some t],by simpa using h,⟨[some t],rfl⟩,hI.add ((Yq _ _).1 ht),.sl t el rows _ sM⟩
 exact ⟨_,tk,as,h,⟨[],sM⟩,hI,.cl (.sl t el rows) rfl⟩):P:=h
def mq90 {P:Prop} (h:P:=by
 simp only [Tc,Tf,Tj];omega):P:=h
def mq91 {P:Prop} (h:P:=by
 refine Zk ?_
 refine ⟨⟨1,rfl,(by rw [cd];simp only [Sb,TN,Zj,TU];rfl),oM⟩,?_⟩
 exact lzM oM):P:=h
theorem mq92 {P:Prop} (h:P:=by
 cases r with
 | tmp t=>simp only [pres,Z5] at h |-;grind
 | cell a t =>
 simp only [pres] at h |-
 obtain ⟨v,h1,h2⟩:=Zgt h
 refine h2 _ ?_
 rw [Z5] at h1 |-
 grind):P:=h
theorem mq93 {P:Prop} (h:P:=by
 rename_i t m x v ho
 obtain ⟨σ1,w1,hK,aj,hst,fi⟩:=Zc2 hT hS (hρ m) (hρ x) (hρ v) h
 refine ⟨_,_,Go.undef,w1,e,hK,.inr ⟨?_,rfl⟩,hst,fi,.undef _⟩
 unfold execOp
 simp_all):P:=h
def mq94 {P:Prop} (h:P:=by
 exact ⟨pv,_,hK,hr,Yl hd cp ml g1 q2⟩):P:=h
def mq95 {P:Prop} (h:P:=by
 rcases h.ex with ⟨a,ha,h⟩ | ⟨ha,h⟩
 ·exact ⟨_,h,fun K' h'=>by simp only [YD,hk,hz,hb];exact .yes ha h'⟩
 exact ⟨_,h,fun K' h'=>by simp only [YD,hk,hz,hb];exact .no ha h'⟩):P:=h
def mq96 {P:Prop} (h:P:=by
 show LeavesIn _ _ _ _ _ _ _ _ _
 rw [fe]
 refine go _ sM ((hd.ret _ _ _ hq _ _ _ _ h1 z7).mono fun en u2 w2 hh=>?_)
 obtain ⟨rfl,⟨r,rfl⟩,σ2,e2,hK,i9,ip⟩:=hh
 exact after i9 ip hK):P:=h
def mq97 {P:Prop} (h:P:=by
 rw [mz,R.bind_err] at h;intro a9 d9;(conv=>whnf);exact h _ _):P:=h
def mq98 {P:Prop} (h:P:=by
 rw [hl] at h
 refine ⟨_,_,h,.mkint,?_⟩
 simp only [ho,resolve,invoke,builtin,Sem.run_bind,Sem.run_pure,Result.andThen,Builtin.len_,ly,qo,Za hd,getObj,Sem.run,g1]
 rfl):P:=h
def mq99 {P:Prop} (h:P:=by
 refine ZGr (fun h1=>?_) (fun h1=>?_)
 ·refine ZbN h ?_
  simp only [Zo,decide_eq_decide];omega
 refine ZbN h ?_
 simp only [Zo,decide_eq_false_iff_not];omega):P:=h
def mq100 {P:Prop} (h:P:=by
 rw [Y3,ZJ] at q1
 cases hl:lkM s M with
 | none=>rw [hl] at q1;cases q1
 | some c =>
 rw [hl] at q1
 cases q1
 cases q3 with
 | d _ _ hd=>cases hd;exact hr _ q2):P:=h
def mq101 {P:Prop} (h:P:=by
 refine ⟨⟨false,_,_,f,_,rfl,?_,.inr rfl,⟨g3,oM,?_⟩,g1.symm⟩,?_⟩
 ·rw [WX];rfl
 ·rw [Tc];omega
 exact mq185):P:=h
def mq102 {P:Prop} (h:P:=by
 (try (refine ⟨rfl,?_⟩;conv=>whnf))
 (try (refine ⟨rfl,?_⟩;conv=>whnf))
 have g2:=d7 _ _ g1
 rw [show ((a+(1+i+1):Nat):Int)=(a:Int)+1+(i:Int)+1 by omega] at g2
 exact g2):P:=h
def mq103 {P:Prop} (h:P:=by
 refine Zk ?_
 refine ⟨⟨i+1,rfl,(by rw [cd];simp only [Tp];rfl),oM⟩,?_⟩
 exact lzM oM):P:=h
theorem mq104 {P:Prop} (h:P:=by
 obtain ⟨pvs,r,hlv,hr,hvr⟩:=XQ (C:=C) (by rw [hC.T];exact hT) h1 h2 (by rw [hC.T];exact hl)
 obtain ⟨pv',σ2,e2,hK,_,i9,lv⟩:=X4 h1 h3 hk hvr hlv
 grind):P:=h
def mq105 {P:Prop} (h:P:=by
 rw [ff,R.bind_ok] at h
 intro a3 gq am
 have ib:=am.hi
 conv=>whnf
 exact h _ oM am):P:=h
def mq106 {P:Prop} (h:P:=by
 have w9:b3.length<=i:=by have d0:¬(i:Int)<((Ze pl b3).length:Nat):=d0;omega
 rw [Tm w9] at iv
 conv=>whnf
 refine Zk ?_
 exact ⟨⟨j2+1,rfl,rfl,oM,iv⟩,hμ⟩):P:=h
def mq107 {P:Prop} (h:P:=by
 simp only [RtK]
 conv=>whnf
 refine ⟨Tb rfl,wN ?_⟩
 exact h):P:=h
theorem mq108 {P:Prop} (h:P:=by
 subst l9
 refine ⟨?_,⟨.normal,f,e,σ,h,rfl,hS,hF,hL,hN,ba,hZ⟩⟩
 rw [List.eq_nil_iff_forall_not_mem]
 intro i hi
 obtain ⟨h1,o,ho,_⟩:=mem_ready.1 hi
 grind):P:=h
def mq109 {P:Prop} (h:P:=by
 repeat' ((conv=>whnf);refine ZGr (fun hc=>?_) (fun hc=>?_))
 all_goals (conv=>whnf)
 all_goals exact h _ _ (by rw [Zb9,Te hn];simp [*]) (by rw [Zb9,Te hn];simp [*])):P:=h
def mq110 {P:Prop} (h:P:=by
 intro b off u hu
 by_cases sw:b=g
 ·subst sw
  simp only [World.cell?,rn,g6] at hu |-
  exact hu
 simpa [World.cell?,Vp w g l.length b sw] using hu):P:=h
def mq111 {P:Prop} (h:P:=by
 rw [List.take_add_one,Ta aa,Option.toList_some,TM,Tx,TN]
 unfold YR
 rw [Vx,show (((0:Nat):Int)+(((l.take j).map (·.name)).length:Int))=j by simp;omega]):P:=h
def mq112 {P:Prop} (h:P:=by
 have b3:=Ue (n:=n) (k:=34) oM oM h3
 have b4:=Ue (n:=n) (k:=92) oM oM h4
 simp only [SH,List.contains_nil,Sm,Sh,beq_eq_false_iff_ne]
 exact ⟨b1,b2,b3,b4⟩):P:=h
def mq113 {P:Prop} (h:P:=by
 refine ⟨_,ρ' x,h,hx,?_⟩
 cases hv:ρ' x <;> rw [hv] at hx <;> cases hx
 simp [ho,hv]):P:=h
def mq114 {P:Prop} (h:P:=by
 rw [Zc] at hr
 simp only [Tx,TN,Tr,TT,SC] at hr
 rcases hr with rfl | rfl <;> rfl):P:=h
def mq115 {P:Prop} (h:P:=by
 have ey:l.length<=j:=by have hc:¬(j:Int)<((Ze pl l).length:Nat):=hc;omega
 rw [Tm ey] at ha
 conv=>whnf
 exact h (.int .i64 (-1)) (by rw [<- ha];rfl)):P:=h
def mq116 {P:Prop} (h:P:=by
 refine hc.mono ?_
 rintro en w' ⟨rfl,hg⟩
 exact ⟨_,_,rfl,h _ rfl,⟨hg.os,hg.tape,hg.output,hg.size,fun b hb=>hg.block b hb sM⟩,.d _ _ (.bool _)⟩):P:=h
def mq117 {P:Prop} (h:P:=by
 rw [Th,TG]
 cases hu:es[i]? with
 | none=>exact (Sv (by have:=Array.getElem?_eq_none_iff.1 hu;omega)).symm
 | some u=>exact (h4 i u hu).1.symm):P:=h
def mq118 {P:Prop} (h:P:=by
 unfold UL at h
 split at h
 ·obtain ⟨pl,⟨x1,x2,x3,x4,x5,x6⟩,rfl,h⟩:=h
  refine pwv [] 0 false ?_
  exact h
 exact h.elim):P:=h
def mq119 {P:Prop} (h:P:=by
 (repeat (refine ⟨rfl,?_⟩;conv=>whnf))
 cases more with
 | true=>(conv=>whnf);exact yes true sM
 | false=>(conv=>whnf);exact yes _ sM):P:=h
def mq120 {P:Prop} (h:P:=by
 repeat (refine ⟨rfl,?_⟩;conv=>whnf)
 refine Zk ?_
 exact h _ oM x8):P:=h
def mq121 {P:Prop} (h:P:=by
 intro a4 dp4 fc bz
 conv=>whnf
 exact h _ _ oM bz):P:=h
def mq122 {P:Prop} (h:P:=by
 refine Zk ?_
 refine ⟨⟨i+1,_,_,rfl,by rw [hrel];rfl,oM,oM,im⟩,?_⟩
 show (6 - ((i:Int)+1)).toNat<(6 - (i:Int)).toNat
 omega):P:=h
def mq123 {P:Prop} (h:P:=by
 subst h3
 exact ⟨.ret .undef,σ,e,hK,⟨_,rfl,.undef _⟩,hS.grow (ZGx h4),((ZGx h4).stepped e σ).toLater⟩):P:=h
def mq124 {P:Prop} (h:P:=by
 have dw:¬i<l.length:=fun g=>h2 (by simpa using g)
 have mc:i=l.length:=oM
 rw [mc,Sn] at hNN
 rw [hNN] at ni
 exact ni oM):P:=h
def mq125 {P:Prop} (h:P:=by
 simp only [Z2]
 by_cases h:k=x
 ·subst h;simp
 rw [decide_eq_false h]
 simp only [Tx,Tr,h,false_or,ih]
 split <;> rfl):P:=h
def mq126 {P:Prop} (h:P:=by
 rw [nu,R.bind_err,R.bind_err] at h;intro a9 d9;(conv=>whnf);exact h _ _):P:=h
def mq127 {P:Prop} (h:P:=by
 conv=>whnf
 refine Zk ?_
 exact ⟨⟨rfl,e+1,rfl,q1,q2⟩,hμ⟩):P:=h
def mq128 {P:Prop} (h:P:=by
 unfold execOp
 simp only [ho,resolve,hv,Deferred.ofValue,Sem.run_bind,Sem.run_pure,Result.andThen,invoke]
 exact ga _ _):P:=h
def mq129 {P:Prop} (h:P:=by
 rw [Te (by rw [gt];simp)] at h
 exact h _ oM cz):P:=h
def mq130 {P:Prop} (h:P:=by
 rw [List.drop_nil] at ha
 cases hd:eargs.drop j with
 | nil=>rw [hd] at ha;exact ha
 | cons x l=>rw [hd] at ha;exact ha):P:=h
theorem mq131 {P:Prop} (h:P:=by
 rename_i h1 h2
 obtain ⟨v,g1,g2⟩:=Vi h
 exact ⟨_,g1,fun K' h'=>by simp only [YI,h1,h2];simp_all⟩):P:=h
def mq132 {P:Prop} (h:P:=by
 rcases Tr.1 ju with rfl | ju
 ·omega
 exact fun e=>(List.rel_of_pairwise_cons hp ju).2.1 ed (TS.1 nj) hb e.symm):P:=h
theorem mq133 {P:Prop} (h:P:=by
 have ov:G.P.info? f.type=some j:=by simp_all
 have:j.size≠0:=oM
 simp [fieldPlace,Zt ov,this,Yb,cz]):P:=h
def mq134 {P:Prop} (h:P:=by
 unfold execOp
 simp only [ho,Instr.makeMap,Sem.run_bind,Result.andThen,Sem.run_pure,run_newObj,Option.map_none]
 rfl):P:=h
def mq135 {P:Prop} (h:P:=by
 rw [ff,R.bind_ok] at h
 intro a3 gq am
 have ib:=am.hi
 conv=>whnf
 rw [<- Zc]
 exact h _ oM am):P:=h
def mq136 {P:Prop} (h:P:=by
 rw [Te sM] at h
 conv=>whnf
 exact h _ oM cz):P:=h
theorem mq137 {P:Prop} (h:P:=by
 simp only [Instr.storeAt,Instr.sureAddr,storeVar,Sem.run_bind,Sem.run_pure,Result.andThen,Zt hi]
 simp_all):P:=h
def mq138 {P:Prop} (h:P:=by
 simp only [Array.size_extract,uc]
 by_cases l9:l.length=0
 ·omega
 have:=(hb (l.length - 1) oM).1;omega):P:=h
def mq139 {P:Prop} (h:P:=by
 rw [Y3,ZJ] at q1
 cases hl:lkM s M with
 | some c=>rw [hl] at q1;cases q1
 | none=>exact hr _ q2):P:=h
theorem mq140 {P:Prop} (h:P:=by
 exact J6 (fun v hv=>by rw [ZZ] at hv |-;simp_all) h):P:=h
def mq141 {P:Prop} (h:P:=by
 obtain ⟨k,h1,h2⟩:=ZfV h
 rw [Th] at h2
 obtain ⟨t,h3,h4⟩:=TD.1 h2
 exact ⟨k,t,h1,h3,h4⟩):P:=h
def mq142 {P:Prop} (h:P:=by
 (repeat (refine ⟨rfl,?_⟩;conv=>whnf))
 exact h _ _ oM am):P:=h
def mq143 {P:Prop} (h:P:=by
 (conv=>whnf);exact h _ (by simp [Yf,mh,h4])):P:=h
def mq144 {P:Prop} (h:P:=by
 unfold World.freeze;split <;> rfl):P:=h
def mq145 {P:Prop} (h:P:=by
 rcases Tw.1 hx with hx | hx
 ·exact (pa.2.2 x hx (i,o') sM).1
 exact fun e=>(gc.1 x hx).1 e.symm):P:=h
def mq146 {P:Prop} (h:P:=by
 rcases x with ⟨v6,ts6⟩ | ⟨r6,e6⟩
 rotate_left
 ·rw [rt,R.bind_err] at h;intro a9 d9;(conv=>whnf);exact h _ _
 rw [rt,R.bind_ok] at h
 intro a6 z8 eh
 have hb6:=eh.hi
 conv=>whnf
 refine ⟨_,fun _ _ h=>h,Tb rfl,wN ?_⟩
 refine ⟨L,ts6,rfl,eh,[[123]],rfl,sM,fun b m7=>?_⟩
 cases b with
 | false =>
  rw [Zq,Te (by rw [m7];simp),R.bind_err] at h
  conv=>whnf
  refine ⟨L,ts6,rfl,eh,fun x hx=>?_⟩
  rw [ZN,Te (by rw [m7];simp)] at hx
  subst hx
  intro a9 d9
  conv=>whnf
  exact h _ _
 | true =>
 rw [Zq,Ti m7] at h
 conv=>whnf
 refine ZGr (fun hc=>wN ?_) (fun hc=>wN ?_)
 ·rw [Ti oM,R.bind_err] at h
  refine ⟨L,ts6,rfl,eh,wN ?_⟩
  exact h _ _
 rw [Te oM] at h
 refine ⟨L,ts6,rfl,eh,fun x hx=>?_⟩
 rw [ZN,Ti m7] at hx
 subst hx
 intro a7 aai im
 have hb7:=im.hi
 conv=>whnf
 refine Zk ?_
 refine ⟨_,fun _ _ h=>h,Tb rfl,wN ?_⟩
 refine ⟨L,ts6.tail,rfl,im,⟨oM,oM,oM⟩,fun x x9=>?_⟩
 rcases x with ⟨v8,ts8⟩ | ⟨r8,e8⟩
 rotate_left
 ·rw [x9,R.bind_err] at h;intro a9 d9;(conv=>whnf);exact h _ _
 rw [x9,R.bind_ok] at h
 intro a8 ae5 iz
 have hb8:=iz.hi
 conv=>whnf
 rw [Te sM] at h
 refine ⟨L,ts8,rfl,iz,fun x rz=>?_⟩
 rcases x with ⟨v9,ts9⟩ | ⟨r9,e9⟩
 rotate_left
 ·rw [rz,R.bind_err,R.bind_err] at h;intro a9 d9;(conv=>whnf);exact h _ _
 rw [rz,R.bind_ok,R.bind_ok] at h
 intro a9 ae6 fg
 have s7:=fg.hi
 conv=>whnf
 refine Zk ?_
 rw [TQ]
 rw [<- Zn]
 exact h _ oM fg):P:=h
def mq147 {P:Prop} (h:P:=by
 refine ⟨pl,a3,Zc _ _,⟨rfl,oM,oM⟩,fun b hb=>?_⟩
 cases b with
 | false =>
  conv=>whnf
  exact h _ (by simp [YH,Zw,hb])
 | true =>
 conv=>whnf
 refine ⟨oM,pl,a4,Zn _ _,⟨rfl,oM,oM⟩,fun b dj=>wN ?_⟩
 exact h _ (by simp [YH,Zw,Xe,kg,hb,dj])):P:=h
def mq148 {P:Prop} (h:P:=by
 refine ⟨fun _=>0,a2,rfl,⟨by simp only [wBs];omega,oM⟩,fun b jp=>?_⟩
 cases b with
 | false =>
  have kg:YS a1 a2 a3.length a4.length=false:=by simp [YS,dx,jp]
  conv=>whnf
  conv=>whnf
  exact mq56
 | true =>
 conv=>whnf
 refine ZGu (fun hB=>wN ?_) (fun hB=>wN ?_)
 ·have hB:¬0<a4.length:=fun g=>hB (ql.2 g)
  have kg:YS a1 a2 a3.length a4.length=true:=by simp only [YS,dx,jp,decide_eq_false hB];simp
  exact mq7
 have hB:=ql.1 hB
 have kg:YS a1 a2 a3.length a4.length=false:=by simp [YS,dx,hB]
 exact mq56):P:=h
def mq149 {P:Prop} (h:P:=by
 have g5:Z0 (s.drop a)=none:=by
  unfold Z0
  simp only [ig,if_true,TB,if_false]
  rcases gh with g | g
  ·rw [Ti g]
  by_cases g0:Zd (s.drop a)=[]
  ·rw [Ti g0]
  rw [Te g0,Ti g]
 conv=>whnf
 refine ⟨⟨oM,oM⟩,wN ?_⟩
 (try (refine ⟨rfl,?_⟩;conv=>whnf))
 (try (refine ⟨rfl,?_⟩;conv=>whnf))
 exact dq g5):P:=h
def mq150 {P:Prop} (h:P:=by
 refine ZGr (fun h3=>wN ?_) (fun h3=>wN ?_)
 ·exact h _ (by simp [Yf,mh])
 refine ZGr (fun h5=>?_) (fun h5=>?_)
 rotate_left
 ·have h5:¬a1=3:=by omega
  (conv=>whnf);exact h _ (by simp [Yf,h3,h5])
 have h5:a1=3:=oM
 have kc:(decide (a3=0) || decide (a1=3))=true:=by simp [h5]
 conv=>whnf
 exact h _ (by simp [Yf,mh])):P:=h
def mq151 {P:Prop} (h:P:=by
 refine ⟨⟨0,rfl,rfl,oM,rfl⟩,?_⟩
 rintro vs σ1 ⟨j,rfl,rfl,hj,ha⟩
 rw [ha] at h
 obtain ⟨h1,h2⟩:=h
 conv=>whnf
 refine ZGr (fun hc=>?_) (fun hc=>?_)
 rotate_left
 ·exact mq70
 have aa:j<e4.length:=by have hc:(j:Int)<((Ze pl e4).length:Nat):=hc;omega
 have hd:=Zbs (m:=M) aa
 exact mq13):P:=h
def mq152 {P:Prop} (h:P:=by
 refine ⟨fun r hr=>by (simp at hr;rcases hr with rfl <;> rfl),(show (rows.length+1) * 1<=2 ^ 47 by omega),(show rows.length+1<=2 ^ 47 by omega),?_⟩
 exact mq35):P:=h
def mq153 {P:Prop} (h:P:=by
 have h5:¬a1=3:=by omega
 (conv=>whnf);exact h _ (by simp [Yf,h3,h5])):P:=h
def mq154 {P:Prop} (h:P:=by
 show ((L.length:Int) - a3).toNat<((L.length:Int) - a').toNat
 omega):P:=h
def mq155 {P:Prop} (h:P:=by
 refine ⟨fun _=>0,a2,rfl,⟨by simp only [wBs];omega,oM⟩,fun b jp=>?_⟩
 cases b with
 | false =>
  have mh:VM a1 a2=false:=by simp [VM,dx,jp]
  conv=>whnf
  exact mq6
 | true =>
 have mh:VM a1 a2=true:=by simp [VM,dx,jp]
 conv=>whnf
 exact mq4):P:=h
def mq156 {P:Prop} (h:P:=by
 rcases x with ⟨v2,ts2⟩ | ⟨r2,e2⟩
 rotate_left
 ·exact mq39
 rw [bo,R.bind_ok] at h
 intro a2 f7 ac
 have dj:=ac.hi
 conv=>whnf
 refine ⟨L,ts2,rfl,ac,fun x ff=>?_⟩
 rcases x with ⟨v3,ts3⟩ | ⟨r3,e3⟩
 rotate_left
 ·exact mq17
 exact mq105):P:=h
def mq157 {P:Prop} (h:P:=by
 have h6:¬(a4.length:Int)=a:=fun g=>h6 (by show ((Ze pl a4).length:Int)=a;rw [fc];exact g)
 (conv=>whnf);exact h _ (by simp [Yf,ha,h2,h6])):P:=h
def mq158 {P:Prop} (h:P:=by
 obtain ⟨a,e⟩:=ae
 simp only [orF] at ha
 subst ha
 simp only [RtK] at h |-
 exact mq35):P:=h
def mq159 {P:Prop} (h:P:=by
 rw [show Zh1 O (Yh O M' (l.take j)) _=Yh O M' (l.take j) from rfl] at hb
 conv=>whnf
 refine ⟨_,oM,hr,wN ?_⟩
 exact mq31):P:=h
def mq160 {P:Prop} (h:P:=by
 show ((L.length:Int) - (a2+1)).toNat<((L.length:Int) - a1).toNat
 omega):P:=h
def mq161 {P:Prop} (h:P:=by
 rw [ff,R.bind_err] at h;intro a9 d9;(conv=>whnf);exact h _ _):P:=h
def mq162 {P:Prop} (h:P:=by
 rw [step,R.bind_err] at h
 intro a2 dp2
 conv=>whnf
 exact h _ _):P:=h
def mq163 {P:Prop} (h:P:=by
 simp only [ZfX] at ha
 cases b with
 | true =>
  rw [Ti hb] at ha
  conv=>whnf
  exact h _ (by rw [<- ha])
 | false =>
 rw [Te (fun g=>Bool.noConfusion (hb.symm.trans g))] at ha
 conv=>whnf
 exact mq53):P:=h
def mq164 {P:Prop} (h:P:=by
 simp only [ZfX] at ha
 cases b with
 | true =>
  conv=>whnf
  rw [Ti hb] at ha
  exact h j ha.symm
 | false =>
 conv=>whnf
 rw [Te (fun g=>Bool.noConfusion (hb.symm.trans g))] at ha
 exact mq53):P:=h
def mq165 {P:Prop} (h:P:=by
 subst hx
 intro a9 d9
 conv=>whnf
 exact h _ _):P:=h
def mq166 {P:Prop} (h:P:=by
 rw [Ti (by rw [Td] at g;omega)] at h
 exact h _ _):P:=h
def mq167 {P:Prop} (h:P:=by
 rw [Te sM] at h
 refine ⟨L,ts2,rfl,ac,fun x ff=>?_⟩
 exact mq12):P:=h
def mq168 {P:Prop} (h:P:=by
 obtain ⟨a,e⟩:=ae
 simp only [orF] at hX
 subst hX
 simp only [FlK] at h |-
 exact mq35):P:=h
def mq169 {P:Prop} (h:P:=by
 refine V4 ?_
 refine ⟨B.1,B.2,wN ?_⟩
 refine ⟨dM,dM,wN ?_⟩
 refine ⟨dM,dM,wN ?_⟩
 refine ⟨?_,?_,?_,?_⟩
 rotate_left 3
 ·exact mq35
 ·rfl
 rfl):P:=h
def mq170 {P:Prop} (h:P:=by
 rw [<- xk];exact ⟨by have h6':Zl (pk (s.drop ((e:Int)).toNat)).1=false:=h6;rw [h6'];simp,by have h7':Zo (pk (s.drop ((e:Int)).toNat)).1=false:=h7;rw [h7'];simp⟩):P:=h
def mq171 {P:Prop} (h:P:=by
 rw [Zq,Te (by rw [cy];simp)] at h
 exact mq24):P:=h
def mq172 {P:Prop} (h:P:=by
 exact (show ((l.length:Int) - ((i:Int)+1)).toNat<((l.length:Int) - (i:Int)).toNat by omega)):P:=h
def mq173 {P:Prop} (h:P:=by
 rw [j5,R.bind_err] at h;intro a9 d9;(conv=>whnf);exact h _ _):P:=h
def mq174 {P:Prop} (h:P:=by
 (try (refine ⟨rfl,?_⟩;conv=>whnf))
 (try (refine ⟨rfl,?_⟩;conv=>whnf))
 exact dq (by rw [g6,Ti (.inr (.inl (by rw [<- xk];exact h7)))])):P:=h
def mq175 {P:Prop} (h:P:=by
 (try (refine ⟨rfl,?_⟩;conv=>whnf))
 (try (refine ⟨rfl,?_⟩;conv=>whnf))
 exact dq (by rw [g6,Ti (.inl (by rw [<- xk];exact h6))])):P:=h
def mq176 {P:Prop} (h:P:=by
 exact h _ (by simp [YH,kg])):P:=h
def mq177 {P:Prop} (h:P:=by
 conv=>whnf
 refine ⟨oM,pl,a4,Zc _ _,⟨rfl,oM,oM⟩,fun b hb=>wN ?_⟩
 exact h _ (by simp [Yf,Zw,ha,mh,hb,h1,h6,kc])):P:=h
def mq178 {P:Prop} (h:P:=by
 conv=>whnf
 refine ⟨oM,pl,a4,Zc _ _,⟨rfl,oM,oM⟩,fun b hb=>wN ?_⟩
 exact h _ (by simp [Yf,Zw,ha,mh,hb,h1,h2,kc])):P:=h
def mq179 {P:Prop} (h:P:=by
 refine ⟨dM,wN ?_⟩
 refine Or.inr (wN ?_)
 refine ⟨dM,wN ?_⟩
 refine Or.inr (wN ?_)
 refine Or.inr (wN ?_)
 exact mq57):P:=h
def mq180 {P:Prop} (h:P:=by
 have af:i=xs.length:=lzE cf oM af
 subst af
 rw [Sn]
 exact mq35):P:=h
def mq181 {P:Prop} (h:P:=by
 refine Or.inr (wN ?_)
 refine ZGr (fun h8=>wN ?_) (fun h8=>?_)
 ·exact s5 oM
 exfalso;exact h8 (by rw [hw];omega)):P:=h
def mq182 {P:Prop} (h:P:=by
 refine ⟨oM,pl,a4,Zc _ _,⟨rfl,oM,oM⟩,fun b hb=>wN ?_⟩
 exact h _ (by simp [Yf,Zw,ha,mh,hb,h1,h6,h3])):P:=h
def mq183 {P:Prop} (h:P:=by
 refine ⟨oM,pl,a4,Zc _ _,⟨rfl,oM,oM⟩,fun b hb=>wN ?_⟩
 exact h _ (by simp [Yf,Zw,ha,mh,hb,h1,h2,h3])):P:=h
def mq184 {P:Prop} (h:P:=by
 simp only [IntKind.wrap,show IntKind.u64.bits=64 from rfl,show IntKind.u64.signed=false from rfl,Sa,TB,if_false]
 omega):P:=h
def mq185 {P:Prop} (h:P:=by
 exact (show u.length - (i+(decodeL u i).2)<u.length - i by omega)):P:=h
def mq186 {P:Prop} (h:P:=by
 have h1:¬-2<a:=h1;(conv=>whnf);exact h _ (by simp [Yf,ha,h1])):P:=h
def mq187 {P:Prop} (h:P:=by
 rw [bo,R.bind_err] at h;intro a9 d9;(conv=>whnf);exact h _ _):P:=h
def mq188 {P:Prop} (h:P:=by
 show (((Ze pl b3).length:Int) - ((i:Int)+1)).toNat<(((Ze pl b3).length:Int) - (i:Int)).toNat
 omega):P:=h
def mq189 {P:Prop} (h:P:=by
 have kg:YS a1 a2 a3.length a4.length=false:=by simp only [YS,j7,qe,hn9,wz,if_false]
 exact mq176):P:=h
def mq190 {P:Prop} (h:P:=by
 conv=>whnf
 refine ⟨L,ts,rfl,ho,fun x hx=>?_⟩
 rw [ZN,Te (by rw [cy];simp)] at hx
 exact mq165):P:=h
end

section
namespace Go.PM
def wN {P Q:Prop} (k:Q) (h:Q->P:=by intro k;(conv=>whnf);exact k):P:=h k
def oM {P:Prop} (h:P:=by omega):P:=h
def sM {P:Prop} (h:P:=by simp):P:=h
def dM {P:Prop} (h:P:=by decide):P:=h
def iM {P:Prop} (h:P:=by first | exact .inl rfl | exact .inr rfl):P:=h
def sO {P:Prop} (h:P:=by simp;omega):P:=h
def hD {P:Prop} (h:P:=by rw [Tz];omega):P:=h
def tN {P:Prop} (h:P:=by simp only [Tg];omega):P:=h
def oP {P:Prop} (h:P:=by simp [Op.operands]):P:=h
def zN {P:Prop} (h:P:=by simp only [Sb,TN,List.flatten_nil,TU];rfl):P:=h
inductive D where
 | bool (b:Bool) | int (k:IntKind) (n:Int) | str (s:List UInt8) | sl (rows:List (List D)) | nilp | nilf | nili
 deriving Inhabited
inductive PV where
 | d (x:D) | undef | ptr (b off:Nat) | elem (r:List D) (off:Nat) | sl (tok e:Nat) (rows:List (List D)) | nils (e:Nat) | asl (b off n:Nat)
 | func (f:FuncId) (first caps:List PV) | iface (t:TypeId) (v:PV) | agg (cs:List PV) | tuple (vs:List PV) | raw (v:Value) | mp (b:Nat) | nilm
 deriving Inhabited
inductive MV where
 | one (x:D) | agg (l:List D)
 deriving Inhabited
def MV.pv:MV->PV | .one x=>.d x | .agg l=>.agg (l.map .d)
inductive Box where
 | dmap (m:List (List UInt8×MV)) | smap (el:Nat) (m:List (List UInt8×List (List D))) (fo:Option (List UInt8×PV)) | cells (t:TypeId) (cs:List PV) | iter (s:List UInt8) (pos:Nat) | loop (st:LoopState) (pd:Option Code) (r:Loop) | map (cs:List PV) (bn:List Nat) (ck:Nat)
 deriving Inhabited
structure St where
 bx:List Box
 tk:List Nat
 nx:Nat
inductive TK where
 | other | int (k:IntKind) | bool | string | ptr (e:Nat) | slice (e:Nat) | array (n e:Nat) | struct (fs:List (Nat×Nat)) | func | iface | map (k e:Nat)
structure TI where
 size:Nat
 bytes:Nat
 kind:TK
 zero:List PV
 eqok:Bool
def TI.no:TI:=⟨0,0,.other,[],false⟩
inductive Tab where
 | leaf | node (l:Tab) (k:Nat) (v:TI) (r:Tab)
def Tab.get:Tab->Nat->TI
 | .leaf,_=>TI.no
 | .node l k v r,n=>match Nat.beq n k with
  | true=>v
  | false=>match Nat.ble n k with
   | true=>l.get n
   | false=>r.get n
def TK.isAgg:TK->Bool | .array _ _ | .struct _=>true | _=>false
abbrev Frame:=Nat->PV
def Va (f:Frame) (i:Nat) (v:PV):Frame:=fun n=>match Nat.beq i n with
 | true=>v
 | false=>f n
def Zcj:Value->PV
 | .bool b=>.d (.bool b)
 | .int k n=>.d (.int k n)
 | .string s=>.d (.str s.data.toList)
 | .pointer none=>.d .nilp
 | .slice none 0 0=>.nils 0
 | .nilFunc=>.d .nilf
 | .nilIface=>.d .nili
 | .map none=>.nilm
 | v=>.raw v
def ZFj:Value->Bool
 | .agg _=>false
 | .tuple _=>false
 | _=>true
def ZjS:Value->PV
 | .agg cs=>match cs.toList.all ZFj with | true=>.agg (cs.toList.map Zcj) | false=>.raw (.agg cs)
 | v=>Zcj v
def ev (f:Frame):Operand->PV
 | .tmp t=>f t
 | .const v=>ZjS v
 | .global _=>.undef
 | .func g=>.func g [] []
def CondP:Bool->Prop->Prop->Prop
 | true,X,_=>X
 | false,_,Y=>Y
def Yj:Nat->(Nat->Prop)->Prop
 | 0,K=>K 0
 | n+1,K=>Yj n fun m=>K (m+1)
def Zo0 (v:PV) (K:PV->Prop):Prop:=match v with
 | .d x=>K (.d x) | .undef=>K .undef | .ptr b off=>Yj b fun b=>Yj off fun off=>K (.ptr b off) | .elem r off=>Yj off fun off=>K (.elem r off) | .sl t z r=>Yj t fun t=>K (.sl t z r) | .nils z=>K (.nils z)
 | .asl b off n=>Yj b fun b=>Yj off fun off=>K (.asl b off n) | .func f a c=>K (.func f a c) | .iface t v=>K (.iface t v) | .agg cs=>K (.agg cs) | .tuple vs=>K (.tuple vs) | .raw v=>K (.raw v) | .mp b=>Yj b fun b=>K (.mp b) | .nilm=>K .nilm
def Vc:List PV->(List PV->Prop)->Prop
 | [],K=>K []
 | v::l,K=>Zo0 v fun v=>Vc l fun l=>K (v::l)
def ZlA (v:PV) (K:PV->Prop):Prop:=match v with
 | .d x=>K (.d x) | .undef=>K .undef | .ptr b off=>Yj b fun b=>Yj off fun off=>K (.ptr b off) | .elem r off=>Yj off fun off=>K (.elem r off) | .sl t z r=>Yj t fun t=>K (.sl t z r) | .nils z=>K (.nils z)
 | .asl b off n=>Yj b fun b=>Yj off fun off=>K (.asl b off n) | .raw v=>K (.raw v) | .mp b=>Yj b fun b=>K (.mp b) | .nilm=>K .nilm
 | .func f a c=>Vc a fun a=>Vc c fun c=>K (.func f a c) | .iface t v=>K (.iface t v) | .agg cs=>Vc cs fun cs=>K (.agg cs) | .tuple vs=>K (.tuple vs)
def Zgl:List PV->(List PV->Prop)->Prop
 | [],K=>K []
 | v::l,K=>ZlA v fun v=>Zgl l fun l=>K (v::l)
def UU (v:PV) (K:PV->Prop):Prop:=match v with
 | .d x=>K (.d x) | .undef=>K .undef | .ptr b off=>Yj b fun b=>Yj off fun off=>K (.ptr b off) | .elem r off=>Yj off fun off=>K (.elem r off) | .sl t z r=>Yj t fun t=>K (.sl t z r) | .nils z=>K (.nils z)
 | .asl b off n=>Yj b fun b=>Yj off fun off=>K (.asl b off n) | .raw v=>K (.raw v) | .mp b=>Yj b fun b=>K (.mp b) | .nilm=>K .nilm
 | .func f a c=>Vc a fun a=>Vc c fun c=>K (.func f a c) | .iface t v=>ZlA v fun v=>K (.iface t v) | .agg cs=>Vc cs fun cs=>K (.agg cs) | .tuple vs=>Zgl vs fun vs=>K (.tuple vs)
def ZjM (f:Frame) (d:Option Nat) (v:PV) (K:Frame->Prop):Prop:=match d with
 | some i=>UU v fun v=>K (Va f i v)
 | none=>K f
def ZGt {t:Bool} {X Y:Prop} (h1:t=true->X) (h2:t=false->Y):CondP t X Y:=by cases t;exact h2 rfl;exact h1 rfl
def UV {α:Type}:Nat->List α->Option (List α)
 | 0,_=>some []
 | n+1,x::l=>match UV n l with | some r=>some (x::r) | none=>none
 | _+1,[]=>none
def Yi {α:Type}:List α->Nat->List α->List α
 | l,_,[]=>l
 | [],_,_=>[]
 | _::l,0,v::vs=>v::Yi l 0 vs
 | x::l,n+1,vs=>x::Yi l n vs
def ZhY (t:Nat):List Nat->Bool
 | []=>false
 | x::l=>match Nat.beq x t with | true=>true | false=>ZhY t l
def Jk (t:Nat):List Nat->List Nat
 | []=>[]
 | x::l=>match Nat.beq x t with | true=>Jk t l | false=>x::Jk t l
def PV.cells:PV->Option (List PV)
 | .agg cs=>some cs | .undef=>none | .tuple _=>none | .raw (.func f a c)=>some [.raw (.func f a c)] | .raw _=>none | v=>some [v]
def toD:PV->Option D | .d x=>some x | .sl _ _ rows=>some (.sl rows) | .nils _=>some (.sl []) | _=>none
def Zo1:List PV->Option (List D)
 | []=>some []
 | v::l=>match toD v with | some x=>(match Zo1 l with | some r=>some (x::r) | none=>none) | none=>none
def keq:IntKind->IntKind->Bool
 | .i8,.i8 | .i16,.i16 | .i32,.i32 | .i64,.i64 | .u8,.u8 | .u16,.u16 | .u32,.u32 | .u64,.u64=>true
 | _,_=>false
def ZcR (op:BinOp) (k:IntKind) (a b:Int):Int:=match (Op.intBits op k a b:Sem Value) with | .pure (.int _ n)=>n | _=>0
def Zi:BinOp->IntKind->Int->Int->Int:=Classical.choose (⟨ZcR,rfl⟩:∃f,f=ZcR)
def Yu:Zi=ZcR:=Classical.choose_spec (⟨ZcR,rfl⟩:∃f,f=ZcR)
def InR (k:IntKind) (n:Int):Prop:=k.wrap n=n
def ZcS (k:IntKind) (n:Int) (K:PV->Prop):Prop:=(InR k n/\K (.d (.int k n)))\/K (.d (.int k (k.wrap n)))
def ZAH (op:BinOp) (k:IntKind) (a b:Int) (K:PV->Prop):Prop:=match op with
 | .add=>ZcS k (a+b) K | .sub=>ZcS k (a - b) K | .mul=>ZcS k (a * b) K
 | .quo=>b≠0/\ZcS k (a.tdiv b) K | .rem=>b≠0/\K (.d (.int k (a.tmod b)))
 | .and=>K (.d (.int k (Zi .and k a b))) | .or=>K (.d (.int k (Zi .or k a b))) | .xor=>K (.d (.int k (Zi .xor k a b))) | .andNot=>K (.d (.int k (Zi .andNot k a b)))
 | .eql=>K (.d (.bool (decide (a=b)))) | .neq=>K (.d (.bool (!decide (a=b)))) | .lss=>K (.d (.bool (decide (a<b)))) | .leq=>K (.d (.bool (decide (a<=b))))
 | .gtr=>K (.d (.bool (decide (b<a)))) | .geq=>K (.d (.bool (decide (b<=a))))
 | _=>False
def ZvP:Operand->Bool | .const _=>true | _=>false
def YI (T:Tab):Nat->List (Nat×Nat)->List PV->List PV->(Bool->Prop)->Prop
 | _,[],[],[],K=>K true
 | i,(o,t)::fs,x::xs,y::ys,K=>match Nat.beq o i,(T.get t).kind,x,y with
  | true,.int _,.d (.int k a),.d (.int k' b)=>(match keq k k' with | true=>YI T (i+1) fs xs ys fun r=>K (decide (a=b) && r) | false=>False)
  | true,.string,.d (.str a),.d (.str b)=>YI T (i+1) fs xs ys fun r=>K (decide (a=b) && r)
  | true,.bool,.d (.bool a),.d (.bool b)=>YI T (i+1) fs xs ys fun r=>K (decide (a=b) && r)
  | _,_,_,_=>False
 | _,_,_,_,_=>False
def peq (T:Tab) (t:TypeId) (x y:Operand) (px py:PV) (K:Bool->Prop):Prop:=match (T.get t).kind with
 | .bool=>match px,py with
  | .d (.bool a),.d (.bool b)=>K (decide (a=b))
  | _,_=>False
 | .ptr _=>match px,py with
  | .d .nilp,.d .nilp=>K true
  | .d .nilp,.ptr _ _=>K false
  | .d .nilp,.elem _ _=>K false
  | .ptr _ _,.d .nilp=>K false
  | .elem _ _,.d .nilp=>K false
  | _,_=>False
 | .func=>match px,py with
  | .d .nilf,.d .nilf=>K true
  | .d .nilf,.func _ _ _=>K false
  | .func _ _ _,.d .nilf=>K false
  | _,_=>False
 | .iface=>match px,py with
  | .d .nili,.d .nili=>match ZvP x || ZvP y with | true=>K true | false=>False
  | .d .nili,.iface _ _=>K false
  | .iface _ _,.d .nili=>K false
  | .iface t (.d (.int k a)),.iface t' (.d (.int k' b))=>match Nat.beq t t',(T.get t).kind,(T.get t).eqok with
   | true,.int _,true=>(match keq k k' with | true=>K (decide (a=b)) | false=>False)
   | false,_,_=>K false
   | _,_,_=>False
  | _,_=>False
 | .map _ _=>match px,py with
  | .nilm,.nilm=>K true
  | .mp _,.nilm=>K false
  | .nilm,.mp _=>K false
  | _,_=>False
 | .slice _=>match px,py with
  | .nils _,.nils _=>K true
  | .d (.sl (_::_)),.nils _=>K false
  | .sl _ _ (_::_),.nils _=>K false
  | _,_=>False
 | .struct fs=>match (T.get t).eqok with
  | true=>match px,py with
   | .agg xs,.agg ys=>YI T 0 fs xs ys K
   | _,_=>False
  | false=>False
 | _=>False
def ZvQ (T:Tab) (op:BinOp) (t:TypeId) (x y:Operand) (px py:PV) (K:PV->Prop):Prop :=
 match px,py with
 | .d (.int k a),.d (.int k' b)=>match op with
  | .shl=>0<=b/\ZcS k (a * 2 ^ (min b.toNat k.bits)) K
  | .shr=>0<=b/\K (.d (.int k (a.fdiv (2 ^ (min b.toNat k.bits)))))
  | op=>match keq k k' with | true=>ZAH op k a b K | false=>False
 | .d (.str a),.d (.str b)=>match op with
  | .add=>a.length+b.length<2 ^ 62/\K (.d (.str (a++b))) | .eql=>K (.d (.bool (decide (a=b)))) | .neq=>K (.d (.bool (!decide (a=b))))
  | .lss=>K (.d (.bool (Op.bytesLess a b))) | .geq=>K (.d (.bool (!Op.bytesLess a b)))
  | .leq=>K (.d (.bool (Op.bytesLess a b || decide (a=b)))) | .gtr=>K (.d (.bool (!(Op.bytesLess a b || decide (a=b)))))
  | _=>False
 | px,py=>match op with
  | .eql=>peq T t x y px py fun b=>K (.d (.bool b))
  | .neq=>peq T t x y px py fun b=>K (.d (.bool (!b)))
  | _=>False
def decodeL (s:List UInt8) (pos:Nat):Nat×Nat:=Utf8.decode ⟨s.toArray⟩ pos
def Yv (T:Tab) (fs:List (Nat×Nat)) (ρ:Operand->PV):List (Nat×Operand)->List PV->(List PV->Prop)->Prop
 | [],cs,K=>K cs
 | (i,x)::ps,cs,K=>match fs[i]?,(ρ x).cells with
  | some (o,t),some l=>match Nat.beq l.length (T.get t).size,Nat.ble (o+l.length) cs.length,(T.get t).kind with
   | _,_,.other=>False
   | true,true,_=>Yv T fs ρ ps (Yi cs o l) K
   | _,_,_=>False
  | _,_=>False
def ZwJ (s e:Nat):Nat->Nat->List (Nat×Nat)
 | 0,_=>[]
 | n+1,i=>(i * s,e)::ZwJ s e n (i+1)
def Vd (lo hi:Option PV) (len:Nat) (K:Nat->Nat->Prop):Prop :=
 match lo,hi with
 | none,none=>K 0 len
 | some x,none=>match x with
  | .d (.int _ n)=>0<=n/\n<=len/\K n.toNat len
  | _=>False
 | none,some y=>match y with
  | .d (.int _ m)=>0<=m/\m<=len/\K 0 m.toNat
  | _=>False
 | some x,some y=>match x,y with
  | .d (.int _ n),.d (.int _ m)=>0<=n/\n<=m/\m<=len/\K n.toNat m.toNat
  | _,_=>False
def cut {α:Type} (l:List α) (a b:Nat):List α:=(l.take b).drop a
def U1 (T:Tab) (t:TypeId) (x:PV) (lo hi:Option PV) (K:PV->Prop):Prop:=match (T.get t).kind with
 | .string=>match x with
  | .d (.str s)=>Vd lo hi s.length fun a b=>K (.d (.str (cut s a b)))
  | _=>False
 | .slice e=>match (T.get e).kind with
  | .other=>False
  | _=>match toD x with
   | some (.sl rows)=>(∀r∈rows,r.length=(T.get e).size)/\Vd lo hi rows.length fun a b=>K (.d (.sl (cut rows a b)))
   | _=>False
 | .array n e=>match (T.get e).kind with
  | .other=>False
  | _=>match x,lo,hi with
   | .ptr b off,none,none=>K (.asl b off n)
   | .ptr b off,some (.d (.int _ a)),none=>0<=a/\a<n/\K (.asl b (off+a.toNat * (T.get e).size) (n - a.toNat))
   | _,_,_=>False
 | _=>False
def ZaS (T:Tab) (t:TypeId) (x:PV) (bx:List Box) (K:PV->Prop):Prop:=match x with
 | .ptr b off=>match bx[b]? with
  | some (.cells _ cs)=>match (T.get t).kind.isAgg with
   | true=>match UV (T.get t).size (cs.drop off) with | some l=>K (.agg l) | none=>False
   | false=>match (T.get t).kind with | .other=>False | _=>match cs[off]? with | some v=>K v | none=>False
  | _=>False
 | .elem r off=>match (T.get t).kind.isAgg with
   | true=>match UV (T.get t).size (r.drop off) with | some l=>K (.agg (l.map .d)) | none=>False
   | false=>match (T.get t).kind with | .other=>False | _=>match r[off]? with | some v=>K (.d v) | none=>False
 | _=>False
def Zo2 (v:TI):Option PV:=match v.kind.isAgg,v.zero with | true,z=>some (.agg z) | false,[z]=>some z | _,_=>none
def findM (key:List UInt8):List PV->Option PV
 | .d (.str k)::v::l=>match decide (key=k) with | true=>some v | false=>findM key l
 | _=>none
def optK {α:Type} (o:Option α) (A:α->Prop) (B:Prop):Prop:=match o with | some a=>A a | none=>B
def optK.yes {α:Type} {o:Option α} {A:α->Prop} {B:Prop} {a:α} (h:o=some a) (k:A a):optK o A B:=by subst h;exact k
def optK.no {α:Type} {o:Option α} {A:α->Prop} {B:Prop} (h:o=none) (k:B):optK o A B:=by subst h;exact k
def ZGz {α:Type} {o:Option α} {A:α->Prop} {B:Prop} (h1:∀a,o=some a->A a) (h2:o=none->B):optK o A B:=by cases o with | some a=>exact h1 a rfl | none=>exact h2 rfl
def lkM {α:Type} (k:List UInt8):List (List UInt8×α)->Option α
 | []=>none
 | (x,v)::l=>match decide (k=x) with | true=>some v | false=>lkM k l
def Z2 {α:Type} (k:List UInt8) (v:α):List (List UInt8×α)->List (List UInt8×α)
 | []=>[(k,v)]
 | (x,u)::l=>match decide (k=x) with | true=>(x,v)::l | false=>(x,u)::Z2 k v l
def Zh3 (k:List UInt8) (rows:List (List D)):Option (List UInt8×PV)->PV
 | none=>.d (.sl rows)
 | some (k',v)=>match decide (k=k') with | true=>v | false=>.d (.sl rows)
def VR:List (List UInt8×List (List D))->Option (List UInt8×PV)->List PV
 | [],_=>[]
 | (k,rows)::l,fo=>.d (.str k)::Zh3 k rows fo::VR l fo
def ZDC (m:List (List UInt8×List (List D))) (fo:Option (List UInt8×PV)):List PV :=
 (match fo with | none=>.nilm | some (k,v)=>.tuple [.d (.str k),v])::m.map fun x=>.tuple [.d (.str x.1),.d (.sl x.2)]
def J1:List (List UInt8×MV)->List PV
 | []=>[]
 | (k,v)::l=>.d (.str k)::v.pv::J1 l
def ZDV:PV->Option MV
 | .agg cs=>match Zo1 cs with | some l=>some (.agg l) | none=>none
 | v=>match toD v with | some x=>some (.one x) | none=>none
def YD (T:Tab) (t:TypeId) (m key:PV) (ok:Bool) (bx:List Box) (K:PV->Prop):Prop:=match (T.get t).kind with
 | .map _ e=>match (T.get e).kind with
  | .other=>False
  | _=>match key with
   | .d (.str k) =>
    match Zo2 (T.get e) with
    | some z=>match m with
     | .nilm=>K (match ok with | true=>.tuple [z,.d (.bool false)] | false=>z)
     | .mp b=>match bx[b]? with
      | some (.map cs _ _)=>match findM k cs with
       | some v=>K (match ok with | true=>.tuple [v,.d (.bool true)] | false=>v)
       | none=>K (match ok with | true=>.tuple [z,.d (.bool false)] | false=>z)
      | some (.dmap l)=>optK (lkM k l) (fun v=>K (match ok with | true=>.tuple [v.pv,.d (.bool true)] | false=>v.pv)) (K (match ok with | true=>.tuple [z,.d (.bool false)] | false=>z))
      | some (.smap _ l fo)=>match fo with
       | none=>optK (lkM k l) (fun v=>K (match ok with | true=>.tuple [.d (.sl v),.d (.bool true)] | false=>.d (.sl v))) (K (match ok with | true=>.tuple [z,.d (.bool false)] | false=>z))
       | some (k',v)=>match ok,z with | false,.nils _=>k=k'/\K v | _,_=>False
      | _=>False
     | _=>False
    | none=>False
   | _=>False
 | _=>False
def qop (T:Tab) (o:Op) (ty:TypeId) (ρ:Operand->PV) (bx:List Box) (K:PV->Prop):Prop :=
 match o with
 | .move x | .assign x=>match ρ x with
  | .nils _=>match (T.get ty).kind with | .slice e=>K (.nils e) | _=>K (.nils 0)
  | v=>K v
 | .pick c a b=>match ρ c with | .d (.bool t)=>CondP t (K (ρ a)) (K (ρ b)) | _=>False
 | .build t ps=>match (T.get t).kind with
  | .struct fs=>Yv T fs ρ ps.toList (T.get t).zero fun cs=>K (.agg cs)
  | .array n e=>match (T.get e).kind with
   | .other=>False
   | _=>match Nat.ble 1 (T.get e).size with
    | true=>Yv T (ZwJ (T.get e).size e n 0) ρ ps.toList (T.get t).zero fun cs=>K (.agg cs)
    | false=>False
  | _=>False
 | .load t a=>ZaS T t (ρ a) bx K
 | .lookup t m x ok=>YD T t (ρ m) (ρ x) ok bx K
 | .nilCheck x=>match ρ x with
  | .ptr b off=>K (.ptr b off)
  | .elem r off=>K (.elem r off)
  | .func g a c=>K (.func g a c)
  | _=>False
 | .binOp op t x y _=>ZvQ T op t x y (ρ x) (ρ y) K
 | .unOp op _ x=>match op,ρ x with
  | .not,.d (.bool b)=>K (.d (.bool (!b)))
  | .neg,.d (.int k a)=>ZcS k (0 - a) K
  | .xor,.d (.int k a)=>K (.d (.int k (Zi .xor k (if k.signed then -1 else k.max) a)))
  | _,_=>False
 | .convert s d x=>match (T.get s).kind with
  | .other=>False
  | .slice e=>match (T.get d).kind with
   | .string=>match (T.get e).kind with
    | .int .u8=>match toD (ρ x) with
     | some (.sl rows)=>∃l:List UInt8,rows=l.map (fun b=>[.int .u8 b.toNat])/\K (.d (.str l))
     | _=>False
    | _=>False
   | _=>False
  | _=>match (T.get d).kind with
   | .int k=>match ρ x with | .d (.int _ n)=>ZcS k n K | _=>False
   | .string=>match ρ x with | .d (.str s)=>K (.d (.str s)) | .d (.int _ n)=>K (.d (.str (Utf8.encode n).data.toList)) | _=>False
   | _=>False
 | .fieldAddr s x i=>match (T.get s).kind with
  | .struct fs=>match fs[i]? with
   | some (o,_)=>match ρ x with
    | .ptr b off=>K (.ptr b (off+o))
    | .elem r off=>K (.elem r (off+o))
    | _=>False
   | none=>False
  | _=>False
 | .field s x i=>match (T.get s).kind with
  | .struct fs=>match fs[i]? with
   | some (o,t)=>match ρ x with
    | .agg cs=>match (T.get t).kind.isAgg with
     | true=>match UV (T.get t).size (cs.drop o) with | some l=>K (.agg l) | none=>False
     | false=>match (T.get t).kind with | .other=>False | _=>match cs[o]? with | some v=>K v | none=>False
    | _=>False
   | none=>False
  | _=>False
 | .index t x i=>match ρ i with
  | .d (.int _ n)=>match (T.get t).kind with
   | .string=>match ρ x with
    | .d (.str s)=>0<=n/\n<s.length/\K (.d (.int .u8 (s.getD n.toNat 0).toNat))
    | _=>False
   | .array m e=>match ρ x with
    | .agg cs=>match (T.get e).kind.isAgg with
     | true=>match UV (T.get e).size (cs.drop (n.toNat * (T.get e).size)) with
      | some l=>0<=n/\n<m/\K (.agg l)
      | none=>False
     | false=>match (T.get e).kind with
      | .other=>False
      | _=>match Nat.beq (T.get e).size 1 with
       | true=>match cs[n.toNat]? with | some v=>0<=n/\n<m/\K v | none=>False
       | false=>False
    | _=>False
   | _=>False
  | _=>False
 | .indexAddr t x i=>match ρ i with
  | .d (.int _ n)=>match (T.get t).kind with
   | .slice e=>match (T.get e).kind with
    | .other=>False
    | _=>match ρ x with
     | .asl b off m=>0<=n/\n<m/\K (.ptr b (off+n.toNat * (T.get e).size))
     | px=>match toD px with
      | some (.sl rows)=>∃r,0<=n/\rows[n.toNat]?=some r/\(match Nat.beq r.length (T.get e).size with | true=>K (.elem r 0) | false=>False)
      | _=>False
   | .array m e=>match (T.get e).kind with
    | .other=>False
    | _=>match ρ x with
     | .ptr b off=>0<=n/\n<m/\K (.ptr b (off+n.toNat * (T.get e).size))
     | _=>False
   | _=>False
  | _=>False
 | .slice t x lo hi none=>U1 T t (ρ x) (lo.map ρ) (hi.map ρ) K
 | .extract x i=>match ρ x with
  | .tuple vs=>match vs[i]? with | some v=>K v | none=>False
  | _=>False
 | .makeFunc (.func g) a c=>K (.func g (a.toList.map ρ) (c.toList.map ρ))
 | .makeInterface t x=>match (T.get t).kind with
  | .iface=>False
  | .other=>False
  | _=>K (.iface t (ρ x))
 | .typeAssert x _ t true=>match (T.get t).kind with
  | .iface=>False
  | .other=>False
  | _=>match ρ x with
   | .iface t' v=>match Nat.beq t' t with
    | true=>K (.tuple [v,.d (.bool true)])
    | false=>False
   | _=>False
 | .call { callee:=.builtin b,args,argTypes }=>match b,argTypes.toList,args.toList.map ρ with
  | .len,t::_,[v]=>match (T.get t).kind with
   | .string=>match v with | .d (.str s)=>K (.d (.int .i64 s.length)) | _=>False
   | .slice _=>match v with
    | .asl _ _ n=>K (.d (.int .i64 n))
    | v=>match toD v with | some (.sl rows)=>K (.d (.int .i64 rows.length)) | _=>False
   | .map _ _=>match v with
    | .nilm=>K (.d (.int .i64 (0:Nat)))
    | .mp b=>match bx[b]? with | some (.map cs _ _)=>K (.d (.int .i64 (cs.length / 2:Nat))) | some (.dmap l)=>K (.d (.int .i64 l.length)) | _=>False
    | _=>False
   | _=>False
  | .min,_,[.d (.int k a),.d (.int k' b)]=>match keq k k' with | true=>K (.d (.int k (min a b))) | false=>False
  | .max,_,[.d (.int k a),.d (.int k' b)]=>match keq k k' with | true=>K (.d (.int k (max a b))) | false=>False
  | _,_,_=>False
 | _=>False
def Zni (T:Tab) (o:Op):Option Operand:=match o with
 | .convert s d x=>match (T.get s).kind with
  | .string=>match (T.get d).kind with
   | .slice e=>match (T.get e).kind with
    | .int .u8=>some x
    | _=>none
   | _=>none
  | _=>none
 | _=>none
def ZjT (v:PV):Option (List D):=match v.cells with | some l=>Zo1 l | none=>none
def XN (w:Nat) (ρ:Operand->PV):List (Nat×Operand)->List (List D)->Option (List (List D))
 | [],rows=>some rows
 | (i,x)::ps,rows=>match ZjT (ρ x) with
  | some r=>(match Nat.beq r.length w,Nat.ble (i+1) rows.length with | true,true=>XN w ρ ps (rows.set i r) | _,_=>none)
  | none=>none
def ZcT (zero:List D) (ρ:Operand->PV) (n:Nat) (ps:List (Nat×Operand)):Option (List (List D)):=XN zero.length ρ ps (List.replicate n zero)
def Zh4 (T:Tab) (o:Op) (ty:TypeId) (ρ:Operand->PV) (bx:List Box) (K:PV->Prop):Prop:=match Zni T o with
 | some x=>match ρ x with
  | .d (.str s)=>K (.d (.sl (s.map fun b=>[.int .u8 b.toNat])))
  | _=>False
 | none=>match o with
  | .buildSlice t n ps=>match (T.get t).kind with
   | .slice e=>match (T.get e).kind with
    | .other=>False
    | _=>match Zo1 (T.get e).zero with
     | some zero=>match Nat.ble 1 zero.length,Nat.ble (n * zero.length) 16777216,ZcT zero ρ n ps.toList with
      | true,true,some rows=>K (.d (.sl rows))
      | _,_,_=>False
     | none=>False
   | _=>False
  | .makeSlice t l c=>match (T.get t).kind with
   | .slice e=>match (T.get e).kind with
    | .other=>False
    | _=>match Zo1 (T.get e).zero,ρ l,ρ c with
     | some zero,.d (.int .i64 (.ofNat n)),.d (.int .i64 (.ofNat m))=>n=m/\1<=zero.length/\n * zero.length<=16777216/\n * (T.get e).bytes<=16777216/\K (.d (.sl (List.replicate n zero)))
     | _,_,_=>False
   | _=>False
  | o=>qop T o ty ρ bx K
def St.set (σ:St) (b:Nat) (x:Box):St:={ σ with bx:=σ.bx.set b x }
def St.new (σ:St) (x:Box):St:={ σ with bx:=σ.bx++[x] }
def Ve (T:Tab) (tx el:Nat) (x:PV):Option (List (List D)):=match (T.get tx).kind with
 | .string=>match (T.get el).kind with
  | .int .u8=>match x with
   | .d (.str s)=>some (s.map fun b=>[.int .u8 b.toNat])
   | _=>none
  | _=>none
 | .slice _=>match toD x with
  | some (.sl rows)=>some rows
  | _=>none
 | _=>none
def Znj (key:List UInt8) (v:PV):List PV->Option (List PV)
 | .d (.str k)::u::l=>match decide (key=k) with
  | true=>some (.d (.str k)::v::l)
  | false=>match Znj key v l with | some l=>some (.d (.str k)::u::l) | none=>none
 | _=>none
def ZcU (T:Tab) (t:TypeId) (m key v:PV) (σ:St) (K:PV->St->Prop):Prop:=match (T.get t).kind with
 | .map _ _=>match key,m with
  | .d (.str k),.mp b=>match σ.bx[b]? with
   | some (.map cs bn ck)=>match Znj k v cs with
    | some cs=>K .undef (σ.set b (.map cs bn ck))
    | none=>K .undef (σ.set b (.map (cs++[.d (.str k),v]) (bn++[ck]) (ck+1)))
   | some (.dmap l)=>match ZDV v with
    | some x=>K .undef (σ.set b (.dmap (Z2 k x l)))
    | none=>False
   | some (.smap el l (some (k',_)))=>k=k'/\K .undef (σ.set b (.smap el (Z2 k [] l) (some (k,v))))
   | _=>False
  | _,_=>False
 | _=>False
def asT (T:Tab) (t:TypeId) (v:PV):PV:=match v with
 | .nils e=>match (T.get t).kind with | .slice el=>.nils el | _=>.nils e
 | v=>v
def eop (T:Tab) (o:Op) (ρ:Operand->PV) (σ:St) (K:PV->St->Prop):Prop :=
 match o with
 | .alloc e=>match (T.get e).kind with | .other=>False | _=>K (.ptr σ.bx.length 0) (σ.new (.cells e (T.get e).zero))
 | .box e x=>match (ρ x).cells with | some l=>K (.ptr σ.bx.length 0) (σ.new (.cells e l)) | none=>False
 | .store t a x=>match ρ a with
  | .ptr b off=>match σ.bx[b]? with
   | some (.cells ty cs)=>match (asT T t (ρ x)).cells with
    | some l=>match Nat.beq l.length (T.get t).size,Nat.ble (off+l.length) cs.length,(T.get t).kind with
     | _,_,.other=>False
     | true,true,_=>K .undef (σ.set b (.cells ty (Yi cs off l)))
     | _,_,_=>False
    | none=>False
   | _=>False
  | _=>False
 | .range t x=>match (T.get t).kind with
  | .string=>match ρ x with
   | .d (.str s)=>K (.ptr σ.bx.length 0) (σ.new (.iter s 0))
   | _=>False
  | _=>False
 | .makeMap t none=>match (T.get t).kind with
  | .map _ e=>match (T.get e).kind with
   | .slice _=>K (.mp σ.bx.length) (σ.new (.map [] [] 0))
   | .map _ _=>K (.mp σ.bx.length) (σ.new (.map [] [] 0))
   | _=>K (.mp σ.bx.length) (σ.new (.dmap []))
  | _=>False
 | .mapUpdate t m x v=>ZcU T t (ρ m) (ρ x) (ρ v) σ K
 | .insert t m x v=>ZcU T t (ρ m) (ρ x) (ρ v) σ K
 | .next x true=>match ρ x with
  | .ptr b 0=>match σ.bx[b]? with
   | some (.iter s pos)=>CondP (decide (pos<s.length)) (K (.tuple [.d (.bool true),.d (.int .i64 pos),.d (.int .i32 (decodeL s pos).1)]) (σ.set b (.iter s (pos+(decodeL s pos).2)))) (K (.tuple [.d (.bool false)]) σ)
   | _=>False
  | _=>False
 | .call { callee:=.builtin .append,args,argTypes }=>match argTypes.toList,args.toList.map ρ with
  | [t,tx],[s,x]=>match (T.get t).kind with
   | .slice el=>match (T.get el).kind with
    | .other=>False
    | _=>match Nat.ble 1 (T.get el).size,Ve T tx el x with
     | true,some more=>match s with
      | .nils _=>(∀r∈more,r.length=(T.get el).size)/\more.length * (T.get el).bytes<=2 ^ 47/\more.length<=2 ^ 47/\K (.sl σ.nx el more) { σ with tk:=σ.nx::σ.tk,nx:=σ.nx+1 }
      | .sl tok e2 rows=>match ZhY tok σ.tk,Nat.beq e2 el with
       | true,true=>(∀r∈more,r.length=(T.get el).size)/\(rows.length+more.length) * (T.get el).bytes<=2 ^ 47/\rows.length+more.length<=2 ^ 47 /\
         K (.sl σ.nx el (rows++more)) { σ with tk:=σ.nx::Jk tok σ.tk,nx:=σ.nx+1 }
       | _,_=>False
      | _=>False
     | _,_=>False
   | _=>False
  | _,_=>False
 | _=>False
def YX:Op->Bool
 | .alloc _ | .box _ _ | .store _ _ _ | .range _ _ | .next _ _ | .makeMap _ _ | .mapUpdate _ _ _ _ | .insert _ _ _ _=>true
 | .call { callee:=.builtin .append,.. }=>true
 | .call { callee:=.builtin _,.. }=>false
 | .call _=>true
 | .panic _=>true
 | _=>false
mutual
def bnd (n:Nat):PV->Bool
 | .ptr b _=>Nat.ble (b+1) n
 | .asl b _ _=>Nat.ble (b+1) n
 | .mp b=>Nat.ble (b+1) n
 | .func _ a c=>ZsX n a && ZsX n c
 | .iface _ v=>bnd n v
 | .agg cs=>ZsX n cs
 | .tuple vs=>ZsX n vs
 | _=>true
def ZsX (n:Nat):List PV->Bool
 | []=>true
 | v::l=>bnd n v && ZsX n l
end
mutual
def clean:PV->PV
 | .sl _ _ rows=>.d (.sl rows)
 | .nils _=>.d (.sl [])
 | .func f a c=>.func f (Xu a) (Xu c)
 | .iface t v=>.iface t (clean v)
 | .agg cs=>.agg (Xu cs)
 | .tuple vs=>.tuple (Xu vs)
 | .d x=>.d x
 | .undef=>.undef
 | .ptr b o=>.ptr b o
 | .elem r o=>.elem r o
 | .asl b o n=>.asl b o n
 | .raw v=>.raw v
 | .mp b=>.mp b
 | .nilm=>.nilm
def Xu:List PV->List PV
 | []=>[]
 | v::l=>clean v::Xu l
end
def VB (f:Frame):Frame:=fun i=>clean (f i)
mutual
def cleanN:PV->PV
 | .sl _ _ rows=>.d (.sl rows)
 | .nils e=>.nils e
 | .func f a c=>.func f (Xu a) (Xu c)
 | .iface t v=>.iface t (clean v)
 | .agg cs=>.agg (cleanNL cs)
 | .tuple vs=>.tuple (Xu vs)
 | .d x=>.d x
 | .undef=>.undef
 | .ptr b o=>.ptr b o
 | .elem r o=>.elem r o
 | .asl b o n=>.asl b o n
 | .raw v=>.raw v
 | .mp b=>.mp b
 | .nilm=>.nilm
def cleanNL:List PV->List PV
 | []=>[]
 | v::l=>cleanN v::cleanNL l
end
inductive PEnd where | ret (v:PV) | panic (v:PV)
inductive PExit where | normal | exit (id:Nat) | goto (l:Nat) | ret | panic (v:PV)
abbrev PQ:=PExit->Frame->St->Prop
structure LoopAnn where
 live:List Nat
 keep:List Nat
 I:List PV->St->Prop
 μ:List PV->St->Nat
structure Cx where
 T:Tab
 call:FuncId->List PV->St->(PEnd->St->Prop)->Prop
 raw:Value->List PV->St->(PEnd->St->Prop)->Prop
 iter:FuncId->List PV->(Value->List PV->St->(PEnd->St->Prop)->Prop)->St->(PEnd->St->Prop)->Prop
 loop:Nat->LoopAnn
 unr:Nat->Nat:=fun _=>0
 tie:Nat->Bool:=fun _=>false
 bsl:Nat->Bool:=fun _=>false
 pk:Bool:=true
 cut:Nat->Option (List Nat×(List PV->St->Prop)):=fun _=>none
 ag:Nat->Bool:=fun _=>false
 foc:Nat->Bool:=fun _=>false
def LoopAnn.tied (A:LoopAnn) (f:Frame):LoopAnn:=⟨A.live,A.keep,fun vs σ=>A.I (A.keep.map (fun i=>clean (f i))++vs) σ,fun vs σ=>A.μ (A.keep.map (fun i=>clean (f i))++vs) σ⟩
def Cx.inner (C:Cx):Cx:={ C with iter:=fun _ _ _ _ _=>False }
def Cx.calm (C:Cx):Cx:={ C with raw:=fun _ _ _ _=>False,iter:=fun _ _ _ _ _=>False,pk:=false }
def Cx.pf (C:Cx) (f:Frame):Frame:=match C.pk with | true=>VB f | false=>fun _=>.undef
def Zh5:List PV->(List PV->Prop)->Prop
 | [],K=>K []
 | v::l,K=>UU v fun v=>Zh5 l fun l=>K (v::l)
def ZcV:List Nat->(List Nat->Prop)->Prop
 | [],K=>K []
 | t::l,K=>Yj t fun t=>ZcV l fun l=>K (t::l)
def XJ:List Box->(List Box->Prop)->Prop
 | [],K=>K []
 | .cells t cs::l,K=>Zh5 cs fun cs=>XJ l fun l=>K (.cells t cs::l)
 | .iter s p::l,K=>XJ l fun l=>K (.iter s p::l)
 | .loop st pd r::l,K=>XJ l fun l=>K (.loop st pd r::l)
 | .dmap m::l,K=>XJ l fun l=>K (.dmap m::l)
 | .smap el m none::l,K=>XJ l fun l=>K (.smap el m none::l)
 | .smap el m (some (k,v))::l,K=>UU v fun v=>XJ l fun l=>K (.smap el m (some (k,v))::l)
 | .map cs bn ck::l,K=>Zh5 cs fun cs=>ZcV bn fun bn=>Yj ck fun ck=>XJ l fun l=>K (.map cs bn ck::l)
def Xl (σ:St) (K:St->Prop):Prop:=XJ σ.bx fun bx=>ZcV σ.tk fun tk=>Yj σ.nx fun nx=>K ⟨bx,tk,nx⟩
def ZvR:List PV->Bool
 | []=>false
 | .raw (.func (.yield _) _ _)::_=>true
 | _::l=>ZvR l
def Zfc (C:Cx) (fv:PV) (args:List PV) (f:Frame) (σ:St) (K:PEnd->Frame->St->Prop):Prop:=match fv with
 | .func g first caps=>match ZvR args with
  | false=>C.call g (first++args++caps) σ fun e σ=>K e f σ
  | true=>C.iter g (first++args++caps) C.raw σ fun e σ=>K e (VB f) σ
 | .raw v=>C.raw v args σ fun e σ=>K e (VB f) σ
 | _=>False
def XX (C:Cx) (o:Oper) (f:Frame) (σ:St) (Q:PQ) (K:Frame->St->Prop):Prop :=
 match YX o.op with
 | false=>Zh4 C.T o.op o.type (ev f) σ.bx fun v=>ZjM f o.dst v fun f=>K f σ
 | true=>match o.op with
  | .call { callee:=.value x,args,.. }=>Zfc C (ev f x) (args.toList.map (ev f)) f σ fun e f σ'=>match e with
    | .ret v=>Xl σ' fun σ'=>ZjM f o.dst v fun f=>K f σ'
    | .panic v=>Xl σ' fun σ'=>UU v fun v=>Q (.panic v) (C.pf f) σ'
  | .panic x=>match ev f x with
    | .iface t v=>Q (.panic (.iface t v)) (C.pf f) σ
    | _=>False
  | op=>eop C.T op (ev f) σ fun v σ'=>Xl σ' fun σ'=>ZjM f o.dst v fun f=>K f σ'
def WH (all:List Oper) (j:Nat):Option Nat:=match all[j]? with | some o=>o.dst | none=>none
def VJ (C:Cx) (all:List Oper) (Q:PQ) (o:Oper) (f:Frame) (σ:St) (K:Frame->St->Prop):Prop :=
 match o.guard with
 | none=>XX C o f σ Q K
 | some (j,want)=>match WH all j with
  | some s=>match f s with
   | .d (.bool t)=>CondP t
     (match want with | true=>XX C o (Va f s (.d (.bool true))) σ Q K | false=>ZjM (Va f s (.d (.bool true))) o.dst (.raw Go.undef) fun f=>K f σ)
     (match want with | false=>XX C o (Va f s (.d (.bool false))) σ Q K | true=>ZjM (Va f s (.d (.bool false))) o.dst (.raw Go.undef) fun f=>K f σ)
   | .raw (.tuple _)=>ZjM f o.dst (.raw Go.undef) fun f=>K f σ
   | _=>False
  | none=>False
def ZlB (C:Cx) (o:Oper):Bool:=match o.dst with
 | some d=>match o.guard with | none=>C.bsl d | _=>false
 | none=>false
def ZAI (T:Tab) (o:Op) (ρ:Operand->PV) (σ:St) (K:PV->St->Prop):Prop:=match o with
 | .buildSlice t n ps=>match (T.get t).kind with
   | .slice e=>match (T.get e).kind with
    | .other=>False
    | _=>match Zo1 (T.get e).zero with
     | some zero=>match Nat.ble 1 zero.length,Nat.ble (n * zero.length) 16777216,Nat.ble 1 n,ZcT zero ρ n ps.toList with
      | true,true,true,some rows=>K (.sl σ.nx e rows) { σ with tk:=σ.nx::σ.tk,nx:=σ.nx+1 }
      | _,_,_,_=>False
     | none=>False
   | _=>False
 | .convert s d x=>match (T.get s).kind with
   | .slice e=>match (T.get d).kind,(T.get e).kind,ρ x with
    | .string,.int .u8,.asl b off n=>match σ.bx[b]? with
     | some (.cells _ cs)=>∃l:List UInt8,l.length=n/\UV n (cs.drop off)=some (l.map fun b=>.d (.int .u8 b.toNat))/\K (.d (.str l)) σ
     | _=>False
    | _,_,_=>False
   | _=>False
 | .makeMap t none=>match (T.get t).kind with
  | .map _ e=>match (T.get e).kind with
   | .slice el=>K (.mp σ.bx.length) (σ.new (.smap el [] none))
   | _=>False
  | _=>False
 | _=>False
def ZlC (C:Cx) (all:List Oper) (Q:PQ) (o:Oper) (f:Frame) (σ:St) (K:Frame->St->Prop):Prop:=match ZlB C o with
 | true=>ZAI C.T o.op (ev f) σ fun v σ'=>Xl σ' fun σ'=>ZjM f o.dst v fun f=>K f σ'
 | false=>VJ C all Q o f σ K
def ZsY (C:Cx) (all:List Oper) (Q:PQ):List Oper->Frame->St->Prop
 | [],f,σ=>Q .normal f σ
 | o::rest,f,σ=>ZlC C all Q o f σ (ZsY C all Q rest)
structure Ld where
 i:Nat
 b:Nat
 off:Nat
 n:Nat
def Z8 (bx:List Box) (b off n:Nat):Option (Nat×List PV×List (List UInt8×MV)):=match bx[b]? with
 | some (.cells _ cs)=>some (0,(cs.drop off).take n,[])
 | some (.map cs _ _)=>some (1,cs,[])
 | some (.dmap m)=>some (2,[],m)
 | some (.smap _ m fo)=>some (3,ZDC m fo,[])
 | _=>none
def U2 (acc:List Nat):List Edge->Nat->Nat
 | [],s=>s
 | e::l,s=>match Region.binds .any e with
  | true=>U2 acc l (s ||| 2 ^ e.on ||| acc.getD e.on 0)
  | false=>U2 acc l s
def Wu:List Oper->List Nat->List Nat
 | [],acc=>acc
 | o::l,acc=>Wu l (acc++[U2 acc o.after.toList 0])
def anc (ms:List Nat) (i j:Nat):Bool:=(ms.getD j 0).testBit i
def WI (o:Oper) (left:List (Nat×Oper)):Bool:=match left with
 | []=>false
 | (i,_)::l=>(o.after.toList.any fun e=>Region.binds .any e && Nat.beq e.on i) || WI o l
def Zgm:List (Nat×Oper)->List (Nat×Oper)->Option (Nat×Oper)
 | _,[]=>none
 | left,(i,o)::l=>match YX o.op,WI o left with
  | false,false=>some (i,o)
  | _,_=>Zgm left l
def Yp (i:Nat):List (Nat×Oper)->List (Nat×Oper)
 | []=>[]
 | (j,o)::l=>match Nat.beq i j with | true=>l | false=>(j,o)::Yp i l
def VC:Nat->List (Nat×Oper)->List (Nat×Oper)
 | 0,l=>l
 | _+1,[]=>[]
 | n+1,x::l=>match Zgm (x::l) (x::l) with
  | some (i,o)=>(i,o)::VC n (Yp i (x::l))
  | none=>x::VC n l
def ZI:Nat->List Oper->List (Nat×Oper)
 | _,[]=>[]
 | i,o::l=>(i,o)::ZI (i+1) l
def Zh6 (ops:List Oper):List (Nat×Oper):=VC ops.length (ZI 0 ops)
def Zs5 (ms:List Nat) (j:Nat) (pre post:List Box):List Ld->Prop->Prop
 | [],X=>X
 | ⟨i,b,off,n⟩::l,X=>match anc ms i j with
  | true=>Zs5 ms j pre post l X
  | false=>Z8 pre b off n=Z8 post b off n/\Zs5 ms j pre post l X
def ZsZ (T:Tab) (o:Op) (ρ:Operand->PV):Option (Nat×Nat×Nat):=match o with
 | .load t a=>match ρ a with
  | .ptr b off=>some (b,off,(T.get t).size)
  | _=>none
 | .lookup _ x _ _=>match ρ x with
  | .mp b=>some (b,0,0)
  | _=>none
 | .call { callee:=.builtin .len,args,.. }=>match args.toList.map ρ with
  | [.mp b]=>some (b,0,0)
  | _=>none
 | _=>none
def VT (T:Tab) (o:Oper) (i:Nat) (f:Frame) (ctx:List Ld):List Ld:=match ZsZ T o.op (ev f) with
 | some (b,off,n)=>⟨i,b,off,n⟩::ctx
 | none=>ctx
def XY (C:Cx) (all:List Oper) (ms:List Nat) (Q:PQ) (i:Nat) (o:Oper) (ctx:List Ld) (f:Frame) (σ:St) (K:List Ld->Frame->St->Prop):Prop :=
 VJ C all Q o f σ fun f' σ'=>match YX o.op with
  | true=>Zs5 ms i σ.bx σ'.bx ctx (K ctx f' σ')
  | false=>K (VT C.T o i f ctx) f' σ'
def Wg (C:Cx) (all:List Oper) (ms:List Nat) (Q:PQ):List (Nat×Oper)->List Ld->Frame->St->Prop
 | [],_,f,σ=>Q .normal f σ
 | (i,o)::rest,ctx,f,σ=>XY C all ms Q i o ctx f σ (Wg C all ms Q rest)
def Znk (left:List (Nat×Oper)):List (Nat×Oper)->(Nat->Oper->Prop)->Prop
 | [],_=>True
 | (i,o)::l,X=>match WI o left with
  | true=>Znk left l X
  | false=>X i o/\Znk left l X
def XZ (C:Cx) (all:List Oper) (ms:List Nat) (Q:PQ):Nat->List (Nat×Oper)->List Ld->Frame->St->Prop
 | _,[],_,f,σ=>Q .normal f σ
 | 0,_::_,_,_,_=>False
 | n+1,x::l,ctx,f,σ=>match Zgm (x::l) (x::l) with
  | some (i,o)=>XY C all ms Q i o ctx f σ (XZ C all ms Q n (Yp i (x::l)))
  | none=>Znk (x::l) (x::l) fun i o=>XY C all ms Q i o ctx f σ (XZ C all ms Q n (Yp i (x::l)))
def Zh7 (ms:List Nat):Option Nat->List (Nat×Oper)->Bool
 | _,[]=>true
 | prev,(i,o)::l=>match YX o.op with
  | false=>Zh7 ms prev l
  | true=>(match prev with | none=>true | some j=>anc ms j i) && Zh7 ms (some i) l
def toks:Nat->List Nat
 | 0=>[]
 | k+1=>k::toks k
def ZwK (n:Nat) (tk:List Nat) (k:Nat) (v:PV) (K:PV->List Nat->Nat->Prop):Prop:=match v with
 | .sl t e rows=>match ZhY t tk with
  | true=>K (.sl k e rows) (Jk t tk) (k+1)
  | false=>K (.d (.sl rows)) tk k
 | .nils e=>K (.sl k e []) tk (k+1)
 | v=>match bnd n v with
  | true=>UU (clean v) fun v=>K v tk k
  | false=>K .undef tk k
def ZvS (n:Nat):List PV->List Nat->Nat->(List PV->List Nat->Nat->Prop)->Prop
 | [],tk,k,K=>K [] tk k
 | v::l,tk,k,K=>ZwK n tk k v fun v tk k=>ZvS n l tk k fun l tk k=>K (v::l) tk k
def Zgn (n:Nat) (tk:List Nat) (k:Nat) (v:PV) (K:PV->List Nat->Nat->Prop):Prop:=match v with
 | .sl t e rows=>match ZhY t tk with
  | true=>K (.sl k e rows) (Jk t tk) (k+1)
  | false=>K (.d (.sl rows)) tk k
 | .nils e=>K (.sl k e []) tk (k+1)
 | v=>match bnd n v with
  | true=>UU (cleanN v) fun v=>K v tk k
  | false=>K .undef tk k
def Znl (n:Nat):List PV->List Nat->Nat->(List PV->List Nat->Nat->Prop)->Prop
 | [],tk,k,K=>K [] tk k
 | v::l,tk,k,K=>Zgn n tk k v fun v tk k=>Znl n l tk k fun l tk k=>K (v::l) tk k
def Znm (n:Nat) (tk:List Nat) (k:Nat) (v:PV) (K:PV->List Nat->Nat->Prop):Prop:=match v with
 | .agg cs=>Znl n cs tk k fun cs tk k=>K (.agg cs) tk k
 | v=>Zgn n tk k v K
def Znn (n:Nat):List PV->List Nat->Nat->(List PV->List Nat->Nat->Prop)->Prop
 | [],tk,k,K=>K [] tk k
 | v::l,tk,k,K=>Znm n tk k v fun v tk k=>Znn n l tk k fun l tk k=>K (v::l) tk k
def Zs6 (md n:Nat) (vs:List PV) (tk:List Nat) (k:Nat) (K:List PV->List Nat->Nat->Prop):Prop:=match md with
 | 0=>ZvS n vs tk k K
 | 1=>Znl n vs tk k K
 | _=>Znn n vs tk k K
def Zfd (n:Nat):Nat->List Box->List Nat->Nat->(List Box->List Nat->Nat->Prop)->Prop
 | 0,_,tk,k,K=>K [] tk k
 | _+1,[],_,_,_=>False
 | m+1,.cells t cs::l,tk,k,K=>ZvS n cs tk k fun cs tk k=>Zfd n m l tk k fun l tk k=>K (.cells t cs::l) tk k
 | m+1,.iter s p::l,tk,k,K=>Zfd n m l tk k fun l tk k=>K (.iter s p::l) tk k
 | m+1,.loop st pd r::l,tk,k,K=>Zfd n m l tk k fun l tk k=>K (.loop st pd r::l) tk k
 | m+1,.dmap c::l,tk,k,K=>Zfd n m l tk k fun l tk k=>K (.dmap c::l) tk k
 | m+1,.smap el c none::l,tk,k,K=>Zfd n m l tk k fun l tk k=>K (.smap el c none::l) tk k
 | _+1,.smap _ _ (some _)::_,_,_,_=>False
 | m+1,.map cs bn ck::l,tk,k,K=>ZvS n cs tk k fun cs tk k=>Zfd n m l tk k fun l tk k=>K (.map cs bn ck::l) tk k
def Zo3 (n:Nat) (vs:List PV) (σ:St) (K:List PV->St->Prop):Prop :=
 ZvS n vs σ.tk 0 fun vs tk k=>Zfd n n σ.bx tk k fun bs _ k=>K vs ⟨bs,toks k,k⟩
def U4 (ag:Bool) (n:Nat) (vs:List PV) (σ:St) (K:List PV->St->Prop):Prop:=match ag with
 | true=>Znn n vs σ.tk 0 fun vs tk k=>Zfd n n σ.bx tk k fun bs _ k=>K vs ⟨bs,toks k,k⟩
 | false=>Zo3 n vs σ K
def Zgo (f:Frame):List Nat->List PV->Frame
 | i::is,v::vs=>Va (Zgo f is vs) i v
 | _,_=>f
def ZjU (f:Frame):List Nat->Frame
 | []=>fun _=>.undef
 | i::is=>Va (ZjU f is) i (clean (f i))
def YT:List Oper->List Nat->Bool
 | [],_=>true
 | o::l,ks=>(match o.dst with | some d=>!(ZhY d ks) | none=>true) && YT l ks
def Ye (ks:List Nat):Code->Bool
 | .region _ ops _=>YT ops.toList ks
 | .seq a b=>Ye ks a && Ye ks b
 | .cond _ a b=>Ye ks a && Ye ks b
 | .block _ b=>Ye ks b
 | .loop b=>Ye ks b
 | .rangeFunc ..=>true
 | .scope b=>Ye ks b
 | _=>true
def keyOf:Code->Nat
 | .region id _ _=>id
 | .seq a _=>keyOf a
 | .cond _ a _=>keyOf a
 | .block _ b=>keyOf b
 | .loop b=>keyOf b
 | .scope b=>keyOf b
 | _=>0
def Zo4:Frame->List Nat->List PV->Frame
 | f,i::is,v::vs=>Zo4 (Va f i v) is vs
 | f,_,_=>f
def endR (i:Nat) (r:Loop) (st:LoopState) (pd:Option Code) (b:Bool) (σ:St) (K:PEnd->St->Prop):Prop :=
 σ.bx[i]?=some (.loop .busy none r)/\K (.ret (.d (.bool b))) (σ.set i (.loop st pd r))
def ZwL (i l:Nat) (r:Loop) (ps:List Nat) (WA WB:PQ->Frame->St->Prop) (f:Frame) (v:Value) (args:List PV) (σ:St) (K:PEnd->St->Prop):Prop :=
 v=.func (.yield l) #[] #[]/\σ.bx[i]?=some (.loop .ready none r)/\args.length=ps.length /\
  WA (fun e f1 σ1=>match e with
   | .normal=>σ1.bx[i]?=some (.loop .ready none r)/\WB (fun e _ σ2=>match e with
     | .normal=>endR i r .ready none true σ2 K
     | .ret=>endR i r .done (some .ret) false σ2 K
     | .exit id=>endR i r .done (some (.exit id)) false σ2 K
     | .goto t=>endR i r .done (some (.goto t)) false σ2 K
     | .panic _=>False) f1 (σ1.set i (.loop .busy none r))
   | _=>False) (Zo4 f ps args) σ
def Zo5 (i:Nat) (r:Loop) (f:Frame) (Q:PQ) (σ:St):Option Code->Prop
 | none=>Q .normal f (σ.set i (.loop .exhausted none r))
 | some .ret=>Q .ret f (σ.set i (.loop .exhausted (some .ret) r))
 | some (.exit id)=>Q (.exit id) f (σ.set i (.loop .exhausted (some (.exit id)) r))
 | some (.goto t)=>Q (.goto t) f (σ.set i (.loop .exhausted (some (.goto t)) r))
 | _=>False
def Zgp (i:Nat):List Oper->Bool
 | []=>false
 | o::l=>match o.dst with
  | some d=>(match Nat.beq d i with | true=>true | false=>Zgp i l)
  | none=>Zgp i l
def Cx.pd (C:Cx) (ops:List Oper) (f:Frame):Frame:=match C.pk with
 | true=>fun i=>match Zgp i ops with | true=>.undef | false=>clean (f i)
 | false=>fun _=>.undef
def ZjV (C:Cx) (ops:List Oper) (f0:Frame) (Q:PQ):PQ:=fun e f σ=>match e with
 | .panic v=>Q (.panic v) (C.pd ops f0) σ
 | e=>Q e f σ
structure Hole where
 pre:List Oper
 A:Oper
 I:Oper
 S:Oper
 F:Oper
 H:Oper
def Zfe (ops:List Oper):Option Hole:=match ops.reverse with
 | H::F::S::I::A::pre=>match A.op,I.op,S.op,F.op,H.op with
  | .call { callee:=.builtin .append,.. },.indexAddr _ _ _,.store _ _ _,.fieldAddr _ _ _,.store _ _ _=>some ⟨pre.reverse,A,I,S,F,H⟩
  | _,_,_,_,_=>none
 | _=>none
def Zno (T:Tab) (h:Hole) (f:Frame) (σ:St) (K:Frame->St->Prop):Prop:=match h.A.op,h.I.op,h.S.op with
 | .call { callee:=.builtin .append,args,argTypes },.indexAddr _ _ ix,.store ts _ x=>match argTypes.toList,args.toList,h.A.dst,h.I.dst with
  | [t,tx],[s,z],some da,some di=>match (T.get t).kind with
   | .slice el=>match (T.get el).kind with
    | .other=>False
    | _=>match Nat.ble 1 (T.get el).size,Nat.beq ts el,Ve T tx el (ev f z),ZjT (ev f x),ev f ix with
     | true,true,some [zr],some row,.d (.int _ n)=>match Nat.beq zr.length (T.get el).size,Nat.beq row.length (T.get el).size with
      | true,true=>match ev f s with
       | .nils _=>n=0/\1 * (T.get el).bytes<=2 ^ 47/\Xl ⟨σ.bx,(σ.nx+1)::σ.tk,σ.nx+2⟩ fun σ'=>ZjM f (some da) (.sl (σ.nx+1) el [row]) fun f=>ZjM f (some di) .undef fun f=>K f σ'
       | .sl tok e2 rows=>match ZhY tok σ.tk,Nat.beq e2 el with
        | true,true=>n=rows.length/\(rows.length+1) * (T.get el).bytes<=2 ^ 47/\rows.length+1<=2 ^ 47 /\
          Xl ⟨σ.bx,(σ.nx+1)::Jk tok σ.tk,σ.nx+2⟩ fun σ'=>ZjM f (some da) (.sl (σ.nx+1) el (rows++[row])) fun f=>ZjM f (some di) .undef fun f=>K f σ'
        | _,_=>False
       | _=>False
      | _,_=>False
     | _,_,_,_,_=>False
   | _=>False
  | _,_,_,_=>False
 | _,_,_=>False
def Zo6 (C:Cx) (all:List Oper) (h:Hole) (Q:PQ):PQ:=fun e f σ=>match e with
 | .normal=>Zno C.T h f σ fun f σ=>VJ C all Q h.F f σ fun f σ=>VJ C all Q h.H f σ fun f σ=>Q .normal f σ
 | e=>Q e f σ
def ZlD (i:Nat) (f:Frame) (Q:PQ) (e:PEnd) (σ:St):Prop:=match e with
 | .ret _=>match σ.bx[i]? with
  | some (.loop st pd r)=>match st with
   | .busy=>False
   | _=>Zo5 i r f Q σ pd
  | _=>False
 | .panic v=>Q (.panic v) (fun _=>.undef) σ
def Zff (S:PQ->Frame->St->Prop) (Q:PQ):Nat->Frame->St->Prop
 | 0,_,_=>False
 | n+1,f,σ=>S (fun e f σ=>match e with | .normal=>Zff S Q n f σ | e=>Q e f σ) f σ
def Zfg (b:Nat) (k:List UInt8) (σ:St) (K:St->Prop):Prop:=match σ.bx[b]? with
 | some (.smap el m none)=>optK (lkM k m) (fun rows=>K { σ.set b (.smap el m (some (k,.sl σ.nx el rows))) with tk:=σ.nx::σ.tk,nx:=σ.nx+1 }) (K (σ.set b (.smap el m (some (k,.nils el)))))
 | _=>False
def Uu (b:Nat) (σ:St) (K:St->Prop):Prop:=match σ.bx[b]? with
 | some (.smap el m (some (k,.sl t e2 rows)))=>match ZhY t σ.tk,Nat.beq e2 el with
  | true,true=>K { σ.set b (.smap el (Z2 k rows m) none) with tk:=Jk t σ.tk }
  | _,_=>False
 | _=>False
def ZFR (b:Nat) (Q:PQ):PQ:=fun e f σ=>match e with
 | .normal=>Uu b σ fun σ=>Xl σ fun σ=>Q .normal f σ
 | _=>False
def WR (C:Cx) (ops:List Oper) (draw:Bool) (Q:PQ) (f:Frame) (σ:St):Prop:=match draw with
  | false=>ZsY C ops Q ops f σ
  | true=>match Zfe ops with
   | none=>match Zh7 (Wu ops []) none (ZI 0 ops) with
    | true=>Wg C.calm ops (Wu ops []) (ZjV C ops f Q) (Zh6 ops) [] f σ
    | false=>XZ C.calm ops (Wu ops []) (ZjV C ops f Q) ops.length (ZI 0 ops) [] f σ
   | some h=>Wg C.calm ops (Wu ops []) (Zo6 C.calm ops h (ZjV C ops f Q)) (VC h.pre.length (ZI 0 h.pre)) [] f σ
def W:Cx->Code->PQ->Frame->St->Prop
 | _,.skip,Q,f,σ=>Q .normal f σ
 | C,.region id ops draw,Q,f,σ=>match C.foc id with
  | false=>WR C ops.toList draw Q f σ
  | true=>∃b k,Zfg b k σ fun σ=>Xl σ fun σ=>WR C ops.toList draw (ZFR b Q) f σ
 | C,.seq a b,Q,f,σ=>match C.cut (keyOf b) with
  | none=>W C a (fun e f σ=>match e with | .normal=>W C b Q f σ | e=>Q e f σ) f σ
  | some (live,I)=>W C a (fun e f σ=>match e with | .normal=>Zo3 σ.bx.length (live.map f) σ I | e=>Q e f σ) f σ/\∀vs σ1,I vs σ1->W C b Q (Zgo (fun _=>.undef) live vs) σ1
 | C,.cond c x y,Q,f,σ=>match ev f c with | .d (.bool t)=>CondP t (W C x Q f σ) (W C y Q f σ) | _=>False
 | C,.block id b,Q,f,σ=>W C b (fun e f σ=>match e with | .exit i=>(match Nat.beq i id with | true=>Q .normal f σ | false=>Q (.exit i) f σ) | e=>Q e f σ) f σ
 | C,.scope b,Q,f,σ=>W C b (fun e f σ=>match e with | .goto _=>False | e=>Q e f σ) f σ
 | _,.exit id,Q,f,σ=>Q (.exit id) f σ
 | _,.goto l,Q,f,σ=>Q (.goto l) f σ
 | _,.label _,Q,f,σ=>Q .normal f σ
 | _,.ret,Q,f,σ=>Q .ret f σ
 | C,.loop b,Q,f,σ=>match C.unr (keyOf b) with
  | n+1=>Zff (fun Q f σ=>W C b Q f σ) Q (n+1) f σ
  | 0=>match Ye (C.loop (keyOf b)).keep b with
   | true=>match C.tie (keyOf b) with
    | false => U4 (C.ag (keyOf b)) σ.bx.length ((C.loop (keyOf b)).live.map f) σ fun vs σ0 => (C.loop (keyOf b)).I vs σ0 /\
       ∀vs σ1,(C.loop (keyOf b)).I vs σ1->W C b (fun e f' σ'=>match e with
        | .normal=>U4 (C.ag (keyOf b)) σ1.bx.length ((C.loop (keyOf b)).live.map f') σ' fun vs' σ''=>(C.loop (keyOf b)).I vs' σ''/\(C.loop (keyOf b)).μ vs' σ''<(C.loop (keyOf b)).μ vs σ1
        | e=>Q e f' σ') (Zgo (ZjU f (C.loop (keyOf b)).keep) (C.loop (keyOf b)).live vs) σ1
    | true => U4 (C.ag (keyOf b)) σ.bx.length (((C.loop (keyOf b)).tied f).live.map f) σ fun vs σ0 => ((C.loop (keyOf b)).tied f).I vs σ0 /\
       ∀vs σ1,((C.loop (keyOf b)).tied f).I vs σ1->W C b (fun e f' σ'=>match e with
        | .normal=>U4 (C.ag (keyOf b)) σ1.bx.length (((C.loop (keyOf b)).tied f).live.map f') σ' fun vs' σ''=>((C.loop (keyOf b)).tied f).I vs' σ''/\((C.loop (keyOf b)).tied f).μ vs' σ''<((C.loop (keyOf b)).tied f).μ vs σ1
        | e=>Q e f' σ') (Zgo (ZjU f ((C.loop (keyOf b)).tied f).keep) ((C.loop (keyOf b)).tied f).live vs) σ1
   | false=>False
 | C,.rangeFunc g ps asg body,Q,f,σ=>match ev f g with
  | .func gid first caps=>∀(l:Nat) (r:Loop),
    C.iter gid (first++.raw (.func (.yield l) #[] #[])::caps) (ZwL σ.bx.length l r ps.toList (fun Q f σ=>W C.inner asg Q f σ) (fun Q f σ=>W C.inner body Q f σ) (VB f)) (σ.new (.loop .ready none r))
     (ZlD σ.bx.length (VB f) Q)
  | _=>False
 | _,_,_,_,_=>False
def pres (T:Tab) (f:Frame) (bx:List Box):List ResultVar->(List PV->Prop)->Prop
 | [],K=>K []
 | .tmp t::l,K=>UU (f t) fun v=>pres T f bx l fun vs=>K (v::vs)
 | .cell a t::l,K=>ZaS T t (f a) bx fun v=>UU v fun v=>pres T f bx l fun vs=>K (v::vs)
def Jl:List PV->PV
 | [v]=>v
 | vs=>.tuple vs
def Zfh (ag:Bool) (keep:Nat) (own:Bool) (v:PV) (σ:St) (K:PV->St->Prop):Prop :=
 match bnd keep v with
 | true=>match own with
  | true=>U4 ag keep [v] σ fun vs σ'=>match vs with | [v]=>K v σ' | _=>False
  | false=>Zfd keep keep σ.bx [] 0 fun bs _ k=>K (clean v) ⟨bs,toks k,k⟩
 | false=>False
abbrev Zh8 (keep:Nat) (own:Bool) (v:PV) (σ:St) (K:PV->St->Prop):Prop:=Zfh false keep own v σ K
def ZvT (ag:Bool) (T:Tab) (fn:Func) (keep:Nat) (own:Bool) (R:PEnd->St->Prop):PQ:=fun e f σ=>match e with
 | .normal | .ret=>pres T f σ.bx fn.results.toList fun vs=>Zfh ag keep own (Jl vs) σ fun v σ'=>R (.ret v) σ'
 | .panic v=>Zfh ag keep own v σ fun v σ'=>R (.panic v) σ'
 | _=>False
abbrev ZAX (T:Tab) (fn:Func) (keep:Nat) (own:Bool) (R:PEnd->St->Prop):PQ:=ZvT false T fn keep own R
def Zck:Nat->List PV->Frame
 | _,[]=>fun _=>.undef
 | i,v::vs=>Va (Zck (i+1) vs) i v
def Y8 (fn : Func) : Code := match fn.body with | some c => c | none => .refuse ""
def WFG (ag:Bool) (C:Cx) (fn:Func) (keep:Nat) (own:Bool) (args:List PV) (σ:St) (R:PEnd->St->Prop):Prop :=
 W C (Y8 fn) (ZvT ag C.T fn keep own R) (Zck 0 args) σ
abbrev WF (C:Cx) (fn:Func) (keep:Nat) (own:Bool) (args:List PV) (σ:St) (R:PEnd->St->Prop):Prop:=WFG false C fn keep own args σ R
end Go.PM
end
