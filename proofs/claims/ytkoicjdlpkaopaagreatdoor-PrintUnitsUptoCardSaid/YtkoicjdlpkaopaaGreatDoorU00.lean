/- A part of the proof: plain logic, contracts and laws over the given program. -/
import GoSem.Core.Program
import GoSem.Core.Utf8
import GoSem.Op.IntBits
import Derived.CallsIn
set_option linter.unusedVariables false
set_option linter.unusedSimpArgs false
set_option linter.all false
set_option maxRecDepth 100000
set_option maxHeartbeats 16000000
section
theorem Ta:type_of% @Nat.le_of_ble_eq_true:=@Nat.le_of_ble_eq_true
theorem Tb.{u}:type_of% @List.length_append.{u}:=@List.length_append
theorem Tc.{u}:type_of% @if_neg.{u}:=@if_neg
theorem Td.{u}:type_of% @List.length_cons.{u}:=@List.length_cons
theorem Te.{u,v}:type_of% @List.length_map.{u,v}:=@List.length_map
theorem Tf.{u}:type_of% @List.length_nil.{u}:=@List.length_nil
theorem Tg.{u}:type_of% @if_pos.{u}:=@if_pos
theorem Th.{u}:type_of% @List.append_assoc.{u}:=@List.append_assoc
theorem Ti.{u}:type_of% @List.getElem?_eq_getElem.{u}:=@List.getElem?_eq_getElem
theorem Tj.{u}:type_of% @List.getElem?_eq_some_iff.{u}:=@List.getElem?_eq_some_iff
theorem Tk:type_of% @Bool.and_eq_true:=@Bool.and_eq_true
theorem Tl.{u}:type_of% @List.forall_mem_singleton.{u}:=@List.forall_mem_singleton
theorem Tm.{u}:type_of% @List.all_eq_true.{u}:=@List.all_eq_true
theorem Tn:type_of% @Nat.eq_of_beq_eq_true:=@Nat.eq_of_beq_eq_true
theorem To:type_of% @Bool.false_eq_true:=@Bool.false_eq_true
theorem Tp.{u}:type_of% @List.length_drop.{u}:=@List.length_drop
theorem Tq.{u}:type_of% @Array.getElem?_eq_some_iff.{u}:=@Array.getElem?_eq_some_iff
theorem Tr:type_of% @Nat.le_refl:=@Nat.le_refl
theorem Tt:type_of% @Bool.true_and:=@Bool.true_and
theorem Tu:type_of% @Int.toNat_natCast:=@Int.toNat_natCast
theorem Tv.{u}:type_of% @List.mem_cons.{u}:=@List.mem_cons
theorem Tw.{u}:type_of% @List.drop_drop.{u}:=@List.drop_drop
theorem Tx.{u}:type_of% @List.mem_cons_of_mem.{u}:=@List.mem_cons_of_mem
theorem Tz.{u}:type_of% @List.drop_eq_nil_of_le.{u}:=@List.drop_eq_nil_of_le
theorem TA.{u}:type_of% @Array.getElem?_toList.{u}:=@Array.getElem?_toList
theorem TB.{u}:type_of% @List.eq_nil_of_length_eq_zero.{u}:=@List.eq_nil_of_length_eq_zero
theorem TC:type_of% @decide_eq_true:=@decide_eq_true
theorem TD.{u}:type_of% @List.getElem_mem.{u}:=@List.getElem_mem
theorem TE.{u}:type_of% @List.length_singleton.{u}:=@List.length_singleton
theorem TF.{u}:type_of% @Array.getElem?_eq_getElem.{u}:=@Array.getElem?_eq_getElem
theorem TG:type_of% @decide_eq_true_eq:=@decide_eq_true_eq
theorem TH:type_of% @Nat.lt_of_lt_of_le:=@Nat.lt_of_lt_of_le
theorem TJ.{u}:type_of% @List.take_length.{u}:=@List.take_length
theorem TL.{u,v}:type_of% @List.getElem?_map.{u,v}:=@List.getElem?_map
theorem TM.{u}:type_of% @List.getElem?_append_left.{u}:=@List.getElem?_append_left
theorem TN.{u,v}:type_of% @List.map_cons.{u,v}:=@List.map_cons
theorem TP.{u}:type_of% @Array.mem_def.{u}:=@Array.mem_def
theorem TQ.{u,v}:type_of% @List.map_nil.{u,v}:=@List.map_nil
theorem TS.{u}:type_of% @List.drop_eq_getElem_cons.{u}:=@List.drop_eq_getElem_cons
theorem TT.{u}:type_of% @List.append_nil.{u}:=@List.append_nil
theorem TU:type_of% @Bool.false_and:=@Bool.false_and
theorem TV:type_of% @Bool.not_eq_true':=@Bool.not_eq_true'
theorem TW:type_of% @Nat.le_trans:=@Nat.le_trans
theorem TX.{u}:type_of% @List.getElem?_append_right.{u}:=@List.getElem?_append_right
theorem TY.{u}:type_of% @List.getD_eq_getElem?_getD.{u}:=@List.getD_eq_getElem?_getD
theorem TZ.{u}:type_of% @List.mem_append.{u}:=@List.mem_append
theorem T1:type_of% @Int.add_sub_cancel:=@Int.add_sub_cancel
theorem T2.{u}:type_of% @List.take_zero.{u}:=@List.take_zero
theorem T3.{u}:type_of% @List.nil_append.{u}:=@List.nil_append
theorem T4:type_of% @Nat.mul_le_mul_right:=@Nat.mul_le_mul_right
theorem T5.{u}:type_of% @Array.getElem?_setIfInBounds.{u}:=@Array.getElem?_setIfInBounds
theorem T6.{u}:type_of% @List.getElem?_cons_succ.{u}:=@List.getElem?_cons_succ
theorem T7:type_of% @Nat.zero_le:=@Nat.zero_le
theorem T8:type_of% @Bool.or_false:=@Bool.or_false
theorem T9:type_of% @Bool.or_eq_false_iff:=@Bool.or_eq_false_iff
theorem Sa.{u}:type_of% @List.drop_length.{u}:=@List.drop_length
theorem Sb:type_of% @Bool.or_eq_true:=@Bool.or_eq_true
theorem Sc.{u}:type_of% @Array.mem_of_getElem?.{u}:=@Array.mem_of_getElem?
theorem Sd.{u}:type_of% @List.getElem_of_mem.{u}:=@List.getElem_of_mem
theorem Se:type_of% @Nat.add_zero:=@Nat.add_zero
theorem Sf:type_of% @Nat.zero_add:=@Nat.zero_add
theorem Sg:type_of% @Nat.add_assoc:=@Nat.add_assoc
theorem Sh.{u}:type_of% @List.mem_of_getElem?.{u}:=@List.mem_of_getElem?
theorem Si:type_of% @Nat.add_mul:=@Nat.add_mul
theorem Sj.{u}:type_of% @List.getD_cons_zero.{u}:=@List.getD_cons_zero
theorem Sk.{u}:type_of% @List.getElem?_eq_none.{u}:=@List.getElem?_eq_none
theorem Sl.{u}:type_of% @List.drop_zero.{u}:=@List.drop_zero
theorem Sm.{u}:type_of% @List.contains_cons.{u}:=@List.contains_cons
theorem Sn.{u}:type_of% @List.length_take.{u}:=@List.length_take
theorem So.{u}:type_of% @List.takeWhile_cons.{u}:=@List.takeWhile_cons
theorem Sp.{u}:type_of% @Array.length_toList.{u}:=@Array.length_toList
theorem Sq.{u}:type_of% @List.not_mem_nil.{u}:=@List.not_mem_nil
theorem Sr:type_of% @Int.fdiv_eq_ediv_of_nonneg:=@Int.fdiv_eq_ediv_of_nonneg
theorem Ss.{u}:type_of% @List.contains_nil.{u}:=@List.contains_nil
theorem Su.{u,v}:type_of% @List.map_congr_left.{u,v}:=@List.map_congr_left
theorem Sv.{u}:type_of% @List.getD_cons_succ.{u}:=@List.getD_cons_succ
theorem Sw.{u,v}:type_of% @Option.map_some.{u,v}:=@Option.map_some
theorem Sx.{u}:type_of% @List.length_set.{u}:=@List.length_set
theorem Sy.{u}:type_of% @List.getElem?_drop.{u}:=@List.getElem?_drop
theorem Sz:type_of% @Bool.not_not:=@Bool.not_not
theorem SA.{u}:type_of% @List.length_eq_zero_iff.{u}:=@List.length_eq_zero_iff
theorem SB.{u}:type_of% @List.length_pos_iff.{u}:=@List.length_pos_iff
theorem SC.{u,v}:type_of% @List.mem_map.{u,v}:=@List.mem_map
theorem SD:type_of% @Nat.mul_comm:=@Nat.mul_comm
theorem SE:type_of% @Bool.false_or:=@Bool.false_or
theorem SF.{u}:type_of% @List.cons_append.{u}:=@List.cons_append
theorem SG.{u,v}:type_of% @List.map_append.{u,v}:=@List.map_append
theorem SH.{u}:type_of% @List.any_cons.{u}:=@List.any_cons
theorem m0 {P:Prop} (h:P:=by
 rw [ZeI] at h
 refine ⟨L,ts,rfl,ho,d7,fun x dt=>?_⟩
 rcases x with ⟨v2,ts2⟩ | ⟨r2,e2⟩
 rotate_left
 ·exact m250
 rw [dt,R.bind_ok] at h
 intro a2 fx ac
 have bp:=ac.hi
 obtain ⟨v2a,v2b,v2c,v2d,v2e⟩:=v2
 conv=>whnf
 refine ⟨L,ts2,relWords,rfl,ac,Or.inl ⟨rfl,rfl⟩,rfl,rfl,fun j hj ai=>?_,fun hj=>wN ?_⟩
 ·have hjl:=Zam hj
  have aia:j<6:=by simpa [relWords] using hjl.2
  have f6:=ai.hi
  clear hjl
  rcases j with _ | j
  ·conv=>whnf
   refine Or.inl ⟨InR.u8 oM oM,wN ?_⟩
   refine Or.inl ⟨InR.u8 oM oM,wN ?_⟩
   refine ⟨L,ts2.tail,aggWords,rfl,ai,Or.inr ⟨rfl,rfl⟩,rfl,rfl,fun m hm av=>?_,fun hm=>wN ?_⟩
   ·rw [ZdK hj hm,R.bind_ok] at h
    have hml:=Zam hm
    have aib:m<4:=by simpa [aggWords] using hml.2
    have qq:=av.hi
    clear hml
    rcases m with _ | m
    ·conv=>whnf
     refine Or.inl ⟨InR.u8 oM oM,wN ?_⟩
     refine Or.inl ⟨InR.u8 oM oM,wN ?_⟩
     rw [Tg rfl] at h
     rw [XF,Tg oM] at h
     refine ⟨L,ts2.tail.tail,rfl,av,fun x rq=>?_⟩
     exact m191
    conv=>whnf
    refine Or.inl ⟨InR.u8 oM oM,wN ?_⟩
    refine Or.inl ⟨InR.u8 oM oM,wN ?_⟩
    refine ZBE (fun _=>wN ?_) (fun g=>absurd g oM)
    rw [Tc oM] at h
    refine ⟨L,ts2.tail.tail,rfl,av,d7,fun x lw=>?_⟩
    rcases x with ⟨v5,ts5⟩ | ⟨r5,e5⟩
    rotate_left
    ·exact m233
    rw [lw,R.bind_ok] at h
    intro a5 mo cy
    have vr:=cy.hi
    obtain ⟨v5a,v5b,v5c,v5d,v5e⟩:=v5
    conv=>whnf
    refine ⟨rfl,rfl,Ta rfl,Ta rfl,wN ?_⟩
    repeat (refine ⟨rfl,?_⟩;conv=>whnf)
    refine ZBC (fun _=>wN ?_) (fun g=>absurd g oM)
    rw [XF,Tg oM] at h
    refine ⟨L,ts5,rfl,cy,fun x rq=>?_⟩
    exact m191
   rw [Zf0 hj hm,R.bind_ok] at h
   rw [Tc oM] at h
   refine ⟨L,ts2.tail,rfl,ai,d7,fun x lw=>?_⟩
   rcases x with ⟨v5,ts5⟩ | ⟨r5,e5⟩
   rotate_left
   ·exact m233
   rw [lw,R.bind_ok] at h
   intro a5 mo cy
   have vr:=cy.hi
   obtain ⟨v5a,v5b,v5c,v5d,v5e⟩:=v5
   conv=>whnf
   refine ⟨rfl,rfl,Ta rfl,Ta rfl,wN ?_⟩
   repeat (refine ⟨rfl,?_⟩;conv=>whnf)
   rw [XF,Tc oM] at h
   exact h _ oM cy
  rw [ZdL hj,R.bind_ok] at h
  conv=>whnf
  refine Or.inl ⟨InR.u8 oM oM,wN ?_⟩
  refine Or.inl ⟨InR.u8 oM oM,wN ?_⟩
  refine ZBC (fun g=>absurd g oM) (fun _=>wN ?_)
  refine ZBE (fun _=>wN ?_) (fun g=>absurd g oM)
  rw [Tc oM] at h
  refine ⟨L,ts2.tail,rfl,ai,d7,fun x lw=>?_⟩
  rcases x with ⟨v5,ts5⟩ | ⟨r5,e5⟩
  rotate_left
  ·exact m233
  rw [lw,R.bind_ok] at h
  intro a5 mo cy
  have vr:=cy.hi
  obtain ⟨v5a,v5b,v5c,v5d,v5e⟩:=v5
  conv=>whnf
  refine ⟨rfl,rfl,Ta rfl,Ta rfl,wN ?_⟩
  repeat (refine ⟨rfl,?_⟩;conv=>whnf)
  refine ZBC (fun g=>absurd g oM) (fun _=>wN ?_)
  rw [XF,Tc oM] at h
  exact h _ oM cy
 refine ⟨L,ts2,rfl,ac,wN ?_⟩
 rw [ZbO hj,R.bind_err] at h
 exact h _ _):P:=h
theorem m1 {P:Prop} (h:P:=by
 conv=>whnf
 repeat (refine ⟨rfl,?_⟩;conv=>whnf)
 refine ⟨L,ts',rfl,dw,[[116,121,112,101]],rfl,sM,fun b wo=>?_⟩
 cases b with
 | true =>
  rw [Tg wo] at h
  have ac:=dw.tl (ZS wo)
  have bp:=ac.hi
  have ig:=ac.len
  conv=>whnf
  refine ⟨L,ts',rfl,dw,fun g=>wN ?_,fun g=>wN ?_⟩
  ·exact m224
  have an:¬tys.length=256:=by rw [Te] at g;omega
  rw [Tc an] at h
  refine ⟨L,ts'.tail,rfl,ac,fun x gf=>?_⟩
  rcases x with ⟨v3,ts3⟩ | ⟨r3,e3⟩
  rotate_left
  ·exact m219
  rw [gf,R.bind_ok] at h
  intro a3 i9 ai
  have f6:=ai.hi
  obtain ⟨v3a,v3b,v3c,v3d,v3e,v3f⟩:=v3
  conv=>whnf
  have fe:=ai.len
  repeat (refine ⟨rfl,?_⟩;conv=>whnf)
  refine ⟨Tl.2 rfl,(show ((tys.map (Z1 (Zg L en))).length+1) * 96<=2 ^ 47 by rw [Te];omega),(show (tys.map (Z1 (Zg L en))).length+1<=2 ^ 47 by rw [Te];omega),wN ?_⟩
  repeat (refine ⟨rfl,?_⟩;conv=>whnf)
  refine ⟨⟨tys++[⟨v3a,v3b,v3c,v3d,v3e,v3f⟩],rels,rules,comps,inits,overs,a3,ts3,f,rfl,?_,ai,oM,oM,?_,h⟩,?_⟩
  ·rw [<- ZH (Z1 (Zg L en)) tys];rfl
  ·simp only [Tb,TE];omega
  exact m209
 | false =>
 rw [Tc (by rw [wo];simp)] at h
 conv=>whnf
 refine ⟨L,ts',rfl,dw,[[100,101,99,108]],rfl,sM,fun b wp=>?_⟩
 cases b with
 | true =>
  rw [Tg wp] at h
  have ac:=dw.tl (ZS wp)
  have bp:=ac.hi
  have ig:=ac.len
  conv=>whnf
  refine ⟨L,ts',rfl,dw,fun g=>wN ?_,fun g=>wN ?_⟩
  ·exact m224
  have an:¬rels.length=256:=by rw [Te] at g;omega
  rw [Tc an] at h
  refine ⟨L,ts'.tail,rfl,ac,fun x gf=>?_⟩
  rcases x with ⟨v3,ts3⟩ | ⟨r3,e3⟩
  rotate_left
  ·exact m219
  rw [gf,R.bind_ok] at h
  intro a3 i9 ai
  have f6:=ai.hi
  obtain ⟨v3a,v3b,v3c,v3d,v3e,v3f⟩:=v3
  conv=>whnf
  have fe:=ai.len
  repeat (refine ⟨rfl,?_⟩;conv=>whnf)
  refine ⟨Tl.2 rfl,(show ((rels.map (Z3 (Zg L en))).length+1) * 56<=2 ^ 47 by rw [Te];omega),(show (rels.map (Z3 (Zg L en))).length+1<=2 ^ 47 by rw [Te];omega),wN ?_⟩
  repeat (refine ⟨rfl,?_⟩;conv=>whnf)
  refine ⟨⟨tys,rels++[⟨v3a,v3b,v3c,v3d,v3e,v3f⟩],rules,comps,inits,overs,a3,ts3,f,rfl,?_,ai,oM,oM,?_,h⟩,?_⟩
  ·rw [<- ZH (Z3 (Zg L en)) rels];rfl
  ·simp only [Tb,TE];omega
  exact m209
 | false =>
 rw [Tc (by rw [wp];simp)] at h
 conv=>whnf
 refine ⟨L,ts',rfl,dw,[[99,111,109,112]],rfl,sM,fun b wq=>?_⟩
 cases b with
 | true =>
  rw [Tg wq] at h
  have ac:=dw.tl (ZS wq)
  have bp:=ac.hi
  have ig:=ac.len
  conv=>whnf
  refine ⟨L,ts',rfl,dw,fun g=>wN ?_,fun g=>wN ?_⟩
  ·exact m224
  have an:¬comps.length=64:=by rw [Te] at g;omega
  rw [Tc an] at h
  refine ⟨L,ts'.tail,rfl,ac,d7,fun x gf=>?_⟩
  rcases x with ⟨v3,ts3⟩ | ⟨r3,e3⟩
  rotate_left
  ·exact m219
  rw [gf,R.bind_ok] at h
  intro a3 i9 ai
  have f6:=ai.hi
  obtain ⟨v3a,v3b,v3c,v3d,⟨v3g,v3h,v3i,v3j,v3k,v3l⟩,v3f⟩:=v3
  conv=>whnf
  have fe:=ai.len
  repeat (refine ⟨rfl,?_⟩;conv=>whnf)
  refine ⟨Tl.2 rfl,(show ((comps.map (YG (Zg L en))).length+1) * 232<=2 ^ 47 by rw [Te];omega),(show (comps.map (YG (Zg L en))).length+1<=2 ^ 47 by rw [Te];omega),wN ?_⟩
  repeat (refine ⟨rfl,?_⟩;conv=>whnf)
  refine ⟨⟨tys,rels,rules,comps++[.mk v3a v3b v3c v3d (.mk v3g v3h v3i v3j v3k v3l) v3f],inits,overs,a3,ts3,f,rfl,?_,ai,oM,oM,?_,h⟩,?_⟩
  ·rw [<- ZH (YG (Zg L en)) comps];rfl
  ·simp only [Tb,TE];omega
  exact m209
 | false =>
 rw [Tc (by rw [wq];simp)] at h
 conv=>whnf
 refine ⟨L,ts',rfl,dw,[[105,110,105,116]],rfl,sM,fun b wr=>?_⟩
 cases b with
 | true =>
  rw [Tg wr] at h
  have ac:=dw.tl (ZS wr)
  have bp:=ac.hi
  have ig:=ac.len
  conv=>whnf
  refine ⟨L,ts',rfl,dw,fun g=>wN ?_,fun g=>wN ?_⟩
  ·exact m224
  have an:¬inits.length=256:=by rw [Te] at g;omega
  rw [Tc an] at h
  refine ⟨L,ts'.tail,rfl,ac,wN ?_⟩
  rw [ZcW] at h
  refine ⟨L,ts'.tail,rfl,ac,fun x gf=>?_⟩
  rcases x with ⟨v3,ts3⟩ | ⟨r3,e3⟩
  rotate_left
  ·rw [gf,R.bind_err,R.bind_err] at h;intro a9 d9;(conv=>whnf);exact h _ _
  rw [gf,R.bind_ok] at h
  intro a3 i9 ai
  have f6:=ai.hi
  conv=>whnf
  refine ⟨L,ts3,rfl,ai,fun x np=>?_⟩
  rcases x with ⟨v4,ts4⟩ | ⟨r4,e4⟩
  rotate_left
  ·rw [np,R.bind_err,R.bind_err] at h;intro a9 d9;(conv=>whnf);exact h _ _
  rw [np,R.bind_ok] at h
  intro a4 n7 av
  have qq:=av.hi
  conv=>whnf
  refine ⟨L,ts4,rfl,av,fun x lw=>?_⟩
  rcases x with ⟨v5,ts5⟩ | ⟨r5,e5⟩
  rotate_left
  ·rw [lw,R.bind_err,R.bind_err] at h;intro a9 d9;(conv=>whnf);exact h _ _
  rw [lw,R.bind_ok] at h
  intro a5 mo cy
  have vr:=cy.hi
  conv=>whnf
  refine ⟨L,ts5,rfl,cy,fun x rq=>?_⟩
  rcases x with ⟨v6,ts6⟩ | ⟨r6,e6⟩
  rotate_left
  ·rw [rq,R.bind_err,R.bind_err] at h;intro a9 d9;(conv=>whnf);exact h _ _
  rw [rq,R.bind_ok] at h
  intro a6 zp jm
  have fb:=jm.hi
  conv=>whnf
  rw [R.bind_ok] at h
  have afy:=jm.len
  refine ⟨Tl.2 rfl,(show ((inits.map (Yi (Zg L en))).length+1) * 64<=2 ^ 47 by rw [Te];omega),(show (inits.map (Yi (Zg L en))).length+1<=2 ^ 47 by rw [Te];omega),wN ?_⟩
  repeat (refine ⟨rfl,?_⟩;conv=>whnf)
  refine ⟨⟨tys,rels,rules,comps,inits++[⟨v3,v5,v6,ts'.tail.length⟩],overs,a6,ts6,f,rfl,?_,jm,oM,oM,?_,h⟩,?_⟩
  ·rw [<- ZH (Yi (Zg L en)) inits];rfl
  ·simp only [Tb,TE];omega
  show ((L.length:Int) - a6).toNat<((L.length:Int) - a').toNat
  omega
 | false =>
 rw [Tc (by rw [wr];simp)] at h
 conv=>whnf
 refine ⟨L,ts',rfl,dw,[[111,118,101,114,114,105,100,101]],rfl,sM,fun b wt=>?_⟩
 cases b with
 | true =>
  rw [Tg wt] at h
  have ac:=dw.tl (ZS wt)
  have bp:=ac.hi
  have ig:=ac.len
  conv=>whnf
  refine ⟨L,ts',rfl,dw,fun g=>wN ?_,fun g=>wN ?_⟩
  ·exact m224
  have an:¬overs.length=256:=by rw [Te] at g;omega
  rw [Tc an] at h
  refine ⟨L,ts'.tail,rfl,ac,wN ?_⟩
  rw [Zee] at h
  refine ⟨L,ts'.tail,rfl,ac,fun x gf=>?_⟩
  rcases x with ⟨v3,ts3⟩ | ⟨r3,e3⟩
  rotate_left
  ·rw [gf,R.bind_err,R.bind_err] at h;intro a9 d9;(conv=>whnf);exact h _ _
  rw [gf,R.bind_ok,R.bind_ok] at h
  intro a3 i9 ai
  have f6:=ai.hi
  have fe:=ai.len
  conv=>whnf
  refine ⟨Tl.2 rfl,(show ((overs.map (Ye (Zg L en))).length+1) * 24<=2 ^ 47 by rw [Te];omega),(show (overs.map (Ye (Zg L en))).length+1<=2 ^ 47 by rw [Te];omega),wN ?_⟩
  repeat (refine ⟨rfl,?_⟩;conv=>whnf)
  refine ⟨⟨tys,rels,rules,comps,inits,overs++[⟨v3,ts'.tail.length⟩],a3,ts3,f,rfl,?_,ai,oM,oM,?_,h⟩,?_⟩
  ·rw [<- ZH (Ye (Zg L en)) overs];rfl
  ·simp only [Tb,TE];omega
  exact m209
 | false =>
 rw [Tc (by rw [wt];simp)] at h
 conv=>whnf
 refine ⟨L,ts',rfl,dw,fun b hn=>?_⟩
 cases b with
 | false =>
  rw [Tc (by rw [hn];simp)] at h
  conv=>whnf
  refine ⟨L,ts',rfl,dw,wN ?_⟩
  exact h _ _
 | true =>
 rw [Tg hn] at h
 conv=>whnf
 refine ⟨L,ts',rfl,dw,fun g=>wN ?_,fun g=>wN ?_⟩
 ·exact m224
 have an:¬rules.length=1024:=by rw [Te] at g;omega
 rw [Tc an] at h
 refine Or.inl ⟨InR.i64 oM oM,wN ?_⟩
 rw [show a'+1 - 1=a' by omega]
 refine ⟨L,ts',rfl,dw,d7,fun x gf=>?_⟩
 rcases x with ⟨v3,ts3⟩ | ⟨r3,e3⟩
 rotate_left
 ·exact m219
 rw [gf,R.bind_ok] at h
 intro a3 i9 ai
 have f6:=ai.hi
 obtain ⟨v3a,v3b,v3c,v3d⟩:=v3
 conv=>whnf
 have fe:=ai.len
 repeat (refine ⟨rfl,?_⟩;conv=>whnf)
 refine ⟨Tl.2 rfl,(show ((rules.map (ZW (Zg L en))).length+1) * 72<=2 ^ 47 by rw [Te];omega),(show (rules.map (ZW (Zg L en))).length+1<=2 ^ 47 by rw [Te];omega),wN ?_⟩
 repeat (refine ⟨rfl,?_⟩;conv=>whnf)
 refine ⟨⟨tys,rels,rules++[⟨v3a,v3b,v3c,v3d⟩],comps,inits,overs,a3,ts3,f,rfl,?_,ai,oM,oM,?_,h⟩,?_⟩
 ·rw [<- ZH (ZW (Zg L en)) rules];rfl
 ·simp only [Tb,TE];omega
 exact m209):P:=h
theorem m2 {P:Prop} (h:P:=by
 refine ⟨oM,oM,oM,wN ?_⟩
 have ij:cut s (((a:Int)+2)).toNat ((e:Int)).toNat=Zf (s.drop a):=by rw [hst.2];congr 1 <;> omega
 refine ⟨true,⟨⟨?_,?_⟩,rfl,rfl⟩,fun h5 nn=>?_,fun h5=>?_⟩
 ·exact (congrArg (fun l:Bs=>l.all (Xz true)=true) ij).mpr cd
 ·exact (congrArg (fun l:Bs=>l.length<4294967281) ij).mpr (show _<_ by omega)
 ·have ga:Zf (s.drop a)=[]\/18446744073709551616<=XE 16 (Zf (s.drop a)):=by rw [<- ij];exact h5
  exact m200
 have ga:¬(Zf (s.drop a)=[]\/18446744073709551616<=XE 16 (Zf (s.drop a))):=by rw [<- ij];exact h5
 simp only [not_or] at ga
 have eg:=Ww (s.drop (a+Zz (s.drop a)))
 have wu:=Ww (s.drop ((e:Int)).toNat)
 have hee:(pk (s.drop ((e:Int)).toNat)).1=(pk ((s.drop a).drop (Zz (s.drop a)))).1:=by rw [Tw,<- hst.1];rfl
 have g6:ZP (s.drop a)=if Zi (pk ((s.drop a).drop (Zz (s.drop a)))).1=true\/Zl (pk ((s.drop a).drop (Zz (s.drop a)))).1=true\/(Xj (s.drop a)=true/\16<(Zf (s.drop a)).length) then none else some (XE 16 (Zf (s.drop a))):=by
  unfold ZP
  simp only [gy,if_true,To,if_false]
  rw [Tc ga.1,Tc ga.2]
 conv=>whnf
 refine ⟨⟨oM,oM⟩,wN ?_⟩
 refine ⟨⟨wu.1,oM⟩,wN ?_⟩
 refine ZBF (fun h6=>wN ?_) (fun h6=>wN ?_)
 ·exact m235
 refine ZBF (fun h7=>wN ?_) (fun h7=>wN ?_)
 ·exact m234
 have g7:¬Zi (pk ((s.drop a).drop (Zz (s.drop a)))).1=true/\¬Zl (pk ((s.drop a).drop (Zz (s.drop a)))).1=true:=by
  exact m228
 refine Or.inl ⟨InR.i64 oM oM,wN ?_⟩
 refine ZBC (fun h8=>wN ?_) (fun h8=>wN ?_)
 ·(try (refine ⟨rfl,?_⟩;conv=>whnf))
  (try (refine ⟨rfl,?_⟩;conv=>whnf))
  exact dk (by rw [g6,Tg (.inr (.inr ⟨gy,oM⟩))])
 have g9:=dj _ (by rw [g6,Tc (by simp only [not_or];exact ⟨g7.1,g7.2,oM⟩)])
 rw [<- hst.1,<- ij] at g9
 exact Or.inr g9):P:=h
theorem m3 {P:Prop} (h:P:=by
 conv=>whnf
 refine ⟨⟨0,_,rfl,rfl,oM,oM,oM⟩,?_⟩
 intro vs σ hI
 obtain ⟨i,nn,rfl,rfl,hi,ek,ik⟩:=hI
 conv=>whnf
 refine ZBC (fun aa=>?_) (fun aa=>?_)
 rotate_left
 ·conv=>whnf
  exact h _ oM oM
 have aa:i<p4.length:=lzI jv aa
 conv=>whnf
 refine ZBC (fun gc=>?_) (fun gc=>?_)
 rotate_left
 ·conv=>whnf
  exact h _ oM oM
 conv=>whnf
 obtain ⟨eA,hA⟩:∃e,p4[i]=e:=⟨_,rfl⟩
 have hg:=Zs ZgC p4 i aa
 obtain ⟨a1,a2,a3,a4,⟨u1,u2,u3,u4,u5,u6⟩,a6⟩:=eA
 rw [hA] at hg
 simp only [ZgC] at hg
 have ae:(YQ pl p4)[((i:Nat):Int).toNat]?=some (YG pl (.mk a1 a2 a3 a4 (.mk u1 u2 u3 u4 u5 u6) a6)):=by rw [ZN];simp [aa,hA]
 have zo:(a2.map ZB).length=a2.length:=Te ..
 have kj:(a4.map ZB).length=a4.length:=Te ..
 have hsa:=Zp (sz0 (α:=Bs)) a2
 have hsb:=Zp (sz0 (α:=Bs)) a4
 (repeat (first | (refine Or.inl ⟨InR.i64 oM oM,?_⟩;conv=>whnf) | (refine ⟨_,oM,ae,?_⟩;conv=>whnf)))
 refine ZBC (fun ak=>wN ?_) (fun ak=>wN ?_)
 ·(repeat (first | (refine Or.inl ⟨InR.i64 oM oM,?_⟩;conv=>whnf) | (refine ⟨_,oM,ae,?_⟩;conv=>whnf)))
  refine ⟨oM,pl,.mk u1 u2 u3 u4 u5 u6,B,rfl,⟨⟨oM,oM⟩,oM,oM,hB⟩,fun r ge kx=>wN ?_⟩
  unfold bdU at kx
  refine Or.inl ⟨InR.i64 oM oM,wN ?_⟩
  exact m229
 exact m229):P:=h
theorem m4 {P:Prop} (h:P:=by
 clear three no3
 refine ZBC (fun h6=>?_) (fun h6=>wN ?_)
 ·obtain rfl:op=1:=by omega
  conv=>whnf
  refine ⟨oM,fun b hb=>?_⟩
  have hT:Z7 1 tx=b:=by rw [Z7,Tg dM];exact hb
  exact m252
 refine ZBC (fun h7=>?_) (fun h7=>wN ?_)
 ·obtain rfl:op=7:=by omega
  conv=>whnf
  refine ⟨oM,fun b hb=>?_⟩
  have hT:Z7 7 tx=b:=by rw [Z7,Tg dM];exact hb
  exact m252
 refine ZBC (fun h8=>?_) (fun h8=>wN ?_)
 ·obtain rfl:op=4:=by omega
  have hT:Z7 4 tx=(WC tx).isSome:=by rw [Z7,Tc dM,Tg rfl]
  rw [hT] at h
  conv=>whnf
  refine ⟨oM,fun hq=>wN ?_,fun q hq=>wN ?_⟩
  ·rw [hq] at h
   exact h _ rfl
  rw [hq,Option.isSome_some,Tt] at h
  exact m221
 have hT:Z7 op tx=decide (tx=[]):=by rw [Z7,Tc oM,Tc oM]
 rw [hT] at h
 refine ZBC (fun ht=>wN ?_) (fun ht=>wN ?_)
 ·have e3:decide (tx=[])=true:=TC ht
  rw [e3,Tt] at h
  exact m221
 have e3:decide (tx=[])=false:=decide_eq_false ht
 rw [e3] at h
 exact h _ rfl):P:=h
theorem m5 {P:Prop} (h:P:=by
 rw [cg] at jt
 intro fo fs fm fr fp a3 dp3 w3 pl3 ai
 conv=>whnf
 refine ⟨⟨_,_,_,_,_,a3,dp3,w3,pl3,S3,rfl,rfl,ai,jt.le oM⟩,?_⟩
 show (if w3=0 then ((L.length:Int) - a3).toNat+1 else 0)<(if w1=0 then ((L.length:Int) - a1).toNat+1 else 0)
 rw [Tg ew]
 cases S3 with
 | bad e=>rw [Tc (by have:=ai.1;have:=ai.2.1;omega)];omega
 | ok d3 ts3 =>
 have l9:=jt.2.1
 have q9:=ai.2.1.len
 rw [Tg ai.1]
 omega):P:=h
theorem m6 {P:Prop} (h:P:=by
 refine ZBC (fun q1=>wN ?_) (fun q1=>wN ?_)
 ·refine ZBC (fun q2=>wN ?_) (fun q2=>wN ?_)
  ·have q2:ar.length=2:=by have q2:((Z0 pl ar).length:Int)=2:=q2;rw [j5] at q2;omega
   refine ZBE (fun q3=>wN ?_) (fun q3=>wN ?_)
   ·have q3:¬0<bo.length:=by have q3:¬((XQ pl bo).length:Int)>0:=q3;rw [lr] at q3;omega
    have hL:ZX op rel ar.length bo.length=false:=by unfold ZX;rw [Tc oM,Tc oM,Tc oM,Tg oM];rw [decide_eq_false (show ¬0<bo.length by omega)];simp
    exact no (by rw [ZY,hL];rfl)
   have q3:0<bo.length:=by have q3:((XQ pl bo).length:Int)>0:=q3;rw [lr] at q3;omega
   have hL:ZX op rel ar.length bo.length=true:=by unfold ZX;rw [Tc oM,Tc oM,Tc oM,Tg oM];rw [TC (show 0<bo.length by omega)];simp [q1,q2]
   exact m196
  have q2:¬ar.length=2:=by have q2:¬((Z0 pl ar).length:Int)=2:=q2;rw [j5] at q2;omega
  have hL:ZX op rel ar.length bo.length=false:=by unfold ZX;rw [Tc oM,Tc oM,Tc oM,Tg oM];simp [q2]
  exact no (by rw [ZY,hL];rfl)
 have hL:ZX op rel ar.length bo.length=false:=by unfold ZX;rw [Tc oM,Tc oM,Tc oM,Tg oM];simp [show ¬rel=[] from q1]
 exact no (by rw [ZY,hL];rfl)):P:=h
theorem m7 {P:Prop} (h:P:=by
 exact m196):P:=h
theorem m8 {P:Prop} (h:P:=by
 have qd:¬(3<=a1/\a1<=8):=oM
 refine ZBC (fun aej=>wN ?_) (fun aej=>wN ?_)
 ·have h9:a1=9:=by omega
  refine ZBC (fun hr=>?_) (fun hr=>?_)
  rotate_left
  ·have kj:ZX a1 a2 a3.length a4.length=false:=by simp [ZX,h9,hr]
   conv=>whnf
   exact m236
  conv=>whnf
  refine ZBC (fun hA=>?_) (fun hA=>?_)
  rotate_left
  ·have hA:¬a3.length=1:=fun g=>hA (by show ((Z0 pl a3).length:Int)=1;rw [l9,g];rfl)
   have kj:ZX a1 a2 a3.length a4.length=false:=by simp [ZX,h9,hA]
   conv=>whnf
   exact m236
  have hA:a3.length=1:=by have hA:((Z0 pl a3).length:Int)=1:=hA;rw [l9] at hA;omega
  conv=>whnf
  refine ZBC (fun hB=>wN ?_) (fun hB=>wN ?_)
  ·have hB:=tn.1 hB
   have kj:ZX a1 a2 a3.length a4.length=true:=by simp [ZX,h9,hr,hA,hB]
   exact m193
  have hB:¬0<a4.length:=fun g=>hB (tn.2 g)
  have kj:ZX a1 a2 a3.length a4.length=false:=by simp only [ZX,h9,hr,hA,decide_eq_false hB];simp
  exact m236
 have hn9:¬a1=9:=oM
 refine ZBC (fun hg9=>wN ?_) (fun hg9=>wN ?_)
 ·refine ZBC (fun aek=>wN ?_) (fun aek=>wN ?_)
  ·have wv:9<a1/\a1<=12:=by omega
   refine ZBC (fun hr=>?_) (fun hr=>?_)
   rotate_left
   ·have kj:ZX a1 a2 a3.length a4.length=false:=by simp [ZX,kv,qd,hn9,wv,hr]
    conv=>whnf
    exact m236
   conv=>whnf
   refine ZBC (fun hA=>?_) (fun hA=>?_)
   rotate_left
   ·have hA:¬a3.length=2:=fun g=>hA (by show ((Z0 pl a3).length:Int)=2;rw [l9,g];rfl)
    have kj:ZX a1 a2 a3.length a4.length=false:=by simp [ZX,kv,qd,hn9,wv,hA]
    conv=>whnf
    exact m236
   have hA:a3.length=2:=by have hA:((Z0 pl a3).length:Int)=2:=hA;rw [l9] at hA;omega
   conv=>whnf
   refine ZBC (fun hB=>wN ?_) (fun hB=>wN ?_)
   ·have hB:=tn.1 hB
    have kj:ZX a1 a2 a3.length a4.length=true:=by simp [ZX,kv,qd,hn9,wv,hr,hA,hB]
    exact m193
   have hB:¬0<a4.length:=fun g=>hB (tn.2 g)
   have kj:ZX a1 a2 a3.length a4.length=false:=by simp only [ZX,kv,qd,hn9,wv,hr,hA,decide_eq_false hB];simp
   exact m236
  have wv:¬(9<a1/\a1<=12):=by omega
  exact m254
 have wv:¬(9<a1/\a1<=12):=oM
 exact m254):P:=h
theorem m9 {P:Prop} (h:P:=by
 refine ZBC (fun h1=>?_) (fun h1=>?_)
 rotate_left
 ·exact m248
 conv=>whnf
 refine ZBC (fun h2=>wN ?_) (fun h2=>wN ?_)
 ·refine ZBC (fun h3=>wN ?_) (fun h3=>wN ?_)
  ·exact m245
  refine ZBC (fun h5=>?_) (fun h5=>?_)
  rotate_left
  ·exact m207
  have h5:a1=3:=oM
  have ke:(decide (a3=0) || decide (a1=3))=true:=by simp [h5]
  exact m238
 refine ZBC (fun h6=>?_) (fun h6=>?_)
 rotate_left
 ·exact m213
 have h6:(a4.length:Int)=a:=by rw [<- jv];exact h6
 conv=>whnf
 refine ZBC (fun h3=>wN ?_) (fun h3=>wN ?_)
 ·exact m244
 refine ZBC (fun h5=>?_) (fun h5=>?_)
 rotate_left
 ·exact m207
 have h5:a1=3:=oM
 have ke:(decide (a3=0) || decide (a1=3))=true:=by simp [h5]
 exact m237):P:=h
theorem m10 {P:Prop} (h:P:=by
 obtain ⟨ah,az⟩:=v7.step hi
 refine ZBC (fun h0=>wN ?_) (fun h0=>wN ?_)
 ·rw [Tg h0] at ah az
  refine ⟨L,S2,rfl,ac,fun S3 cg=>?_⟩
  rw [cg] at ah az
  intro a3 dp3 w3 pl3 ai
  conv=>whnf
  refine ⟨L,_,rfl,ai,0,rfl,oM,fun d ts hq=>Or.inl (ah d ts hq),fun S4 ef=>?_⟩
  exact m197
 rw [Tc h0] at ah az
 refine ⟨L,_,rfl,ac,0,rfl,oM,fun d ts hq=>Or.inl (ah d ts hq),fun S4 ef=>?_⟩
 exact m197):P:=h
theorem m11 {P:Prop} (h:P:=by
 refine ⟨oM,oM,oM,wN ?_⟩
 have ij:cut s ((a:Int)).toNat ((e:Int)).toNat=Zf (s.drop a):=by rw [hst.2];congr 1 <;> omega
 refine ⟨false,⟨⟨?_,?_⟩,rfl,rfl⟩,fun h5 nn=>?_,fun h5=>?_⟩
 ·exact (congrArg (fun l:Bs=>l.all (Xz false)=true) ij).mpr cd
 ·exact (congrArg (fun l:Bs=>l.length<4294967281) ij).mpr (show _<_ by omega)
 ·have ga:Zf (s.drop a)=[]\/9223372036854775808<=XE 10 (Zf (s.drop a)):=by rw [<- ij];exact h5
  exact m200
 have ga:¬(Zf (s.drop a)=[]\/9223372036854775808<=XE 10 (Zf (s.drop a))):=by rw [<- ij];exact h5
 simp only [not_or] at ga
 have eg:=Ww (s.drop (a+Zz (s.drop a)))
 have wu:=Ww (s.drop ((e:Int)).toNat)
 have hee:(pk (s.drop ((e:Int)).toNat)).1=(pk ((s.drop a).drop (Zz (s.drop a)))).1:=by rw [Tw,<- hst.1];rfl
 have g6:ZP (s.drop a)=if Zi (pk ((s.drop a).drop (Zz (s.drop a)))).1=true\/Zl (pk ((s.drop a).drop (Zz (s.drop a)))).1=true\/(Xj (s.drop a)=true/\16<(Zf (s.drop a)).length) then none else some (XE 10 (Zf (s.drop a))):=by
  unfold ZP
  simp only [gy,if_true,To,if_false]
  rw [Tc ga.1,Tc ga.2]
 conv=>whnf
 refine ⟨⟨oM,oM⟩,wN ?_⟩
 refine ⟨⟨wu.1,oM⟩,wN ?_⟩
 refine ZBF (fun h6=>wN ?_) (fun h6=>wN ?_)
 ·exact m235
 refine ZBF (fun h7=>wN ?_) (fun h7=>wN ?_)
 ·exact m234
 have g7:¬Zi (pk ((s.drop a).drop (Zz (s.drop a)))).1=true/\¬Zl (pk ((s.drop a).drop (Zz (s.drop a)))).1=true:=by
  exact m228
 have g9:=dj _ (by rw [g6,Tc (by simp only [not_or];exact ⟨g7.1,g7.2,by rw [gy];simp⟩)])
 rw [<- hst.1,<- ij] at g9
 exact Or.inr g9):P:=h
theorem m12 {P:Prop} (h:P:=by
 intro args σ K h
 unfold Wg at h
 split at h
 ·obtain ⟨pl,l,rfl,⟨rfl,hz,hn⟩,h⟩:=h
  refine ⟨Za [],0,false,sM,Ta rfl,wN ?_⟩
  refine ⟨pl,l,rfl,⟨rfl,rfl,hz,hn⟩,fun b hb=>wN ?_⟩
  exact h _ (by rw [<- hb,Sz])
 exact h.elim):P:=h
theorem m13 {P:Prop} (h:P:=by
 conv=>whnf
 have gg:=PRg.next oM Zea (fun d ts hs=>Zau hs) eg
 have hk:=ZBP oM eg
 refine ⟨L,_,rfl,cy,⟨PRg.lt eg,fun S6 qr=>?_⟩⟩
 rw [qr] at gg
 intro eo es ea eb ep a6 dp6 w6 pl6 jm
 conv=>whnf
 refine ⟨Tl.2 rfl,(show (rows.length+1) * 80<=2 ^ 47 by omega),(show rows.length+1<=2 ^ 47 by omega),wN ?_⟩
 refine ⟨L,_,rfl,jm,0,rfl,oM,fun b fb=>?_⟩
 intro a7 dp7 w7 pl7 fk
 cases b with
 | true =>
  have jt:=gg.more fb
  cases S6 with
  | bad e=>cases fb
  | ok d6 ts6 =>
  have fb:isW ts6 [[44]]=true:=fb
  obtain ⟨rfl,mb,j6,qs⟩:=fk
  have bw:=mb.tlq (ZS fb)
  have q1:=bw.lo
  have q2:=bw.hi
  have q3:=bw.len
  exact m199
 | false =>
 have hst:=gg.stop fb
 subst hst
 conv=>whnf
 exact h _ _ _ _ _ fk):P:=h
theorem m14 {P:Prop} (h:P:=by
 refine ZBC (fun h1=>?_) (fun h1=>?_)
 rotate_left
 ·exact m248
 conv=>whnf
 refine ZBC (fun h2=>wN ?_) (fun h2=>wN ?_)
 ·exact m203
 refine ZBC (fun h6=>?_) (fun h6=>?_)
 rotate_left
 ·exact m213
 have h6:(a4.length:Int)=a:=by rw [<- jv];exact h6
 conv=>whnf
 exact m203):P:=h
theorem m15 {P:Prop} (h:P:=by
 conv=>whnf
 refine ⟨⟨0,_,rfl,rfl,oM,oM,oM⟩,?_⟩
 intro vs σ hI
 obtain ⟨i,nn,rfl,rfl,hi,ek,ik⟩:=hI
 conv=>whnf
 refine ZBC (fun aa=>?_) (fun aa=>?_)
 rotate_left
 ·exact m201
 have aa:i<p2.length:=lzI iu aa
 conv=>whnf
 refine ZBC (fun gc=>?_) (fun gc=>?_)
 rotate_left
 ·exact m201
 conv=>whnf
 obtain ⟨eA,hA⟩:∃e,p2[i]=e:=⟨_,rfl⟩
 have hg:=Zs Zkx p2 i aa
 obtain ⟨b1,b2,b3,b4,b5,b6⟩:=eA
 rw [hA] at hg
 simp only [Zkx] at hg
 have ae:(p2.map (Z3 pl))[((i:Nat):Int).toNat]?=some (Z3 pl ⟨b1,b2,b3,b4,b5,b6⟩):=by simp [aa,hA]
 (repeat (first | (refine Or.inl ⟨InR.i64 oM oM,?_⟩;conv=>whnf) | (refine ⟨_,oM,ae,?_⟩;conv=>whnf)))
 refine ⟨pl,b2,B,rfl,⟨⟨oM,oM⟩,oM,oM,hB⟩,fun r ge kx=>wN ?_⟩
 unfold bd3 at kx
 (repeat (refine ⟨rfl,?_⟩;conv=>whnf))
 (repeat (first | (refine Or.inl ⟨InR.i64 oM oM,?_⟩;conv=>whnf) | (refine ⟨_,oM,ae,?_⟩;conv=>whnf)))
 refine ⟨⟨i+1,_,rfl,rfl,oM,oM,oM⟩,?_⟩
 show ((p2.length:Nat) - ((i:Int)+1)).toNat<((p2.length:Nat) - (i:Int)).toNat
 omega):P:=h
theorem m16 {P:Prop} (h:P:=by
 exact m193):P:=h
theorem m17 {P:Prop} (h:P:=by
 have lk:=Zhh hd oM
 conv=>whnf
 refine ZBC (fun g1=>wN ?_) (fun g1=>?_)
 ·refine ZBC (fun g2=>wN ?_) (fun g2=>?_)
  ·refine Or.inl ⟨InR.u8 oM oM,wN ?_⟩
   refine Or.inl ⟨InR.u8 oM oM,wN ?_⟩
   have hD:(Zax b:Int)=Zm .or .u8 (b.toNat:Int) 32 - 97+10:=oM
   refine Or.inl ⟨InR.u8 oM oM,wN ?_⟩
   refine ZBC (fun h6=>?_) (fun h6=>wN ?_)
   ·omega
   refine ZBC (fun h7=>wN ?_) (fun h7=>wN ?_)
   ·exact s8 oM
   refine Or.inl ⟨InR.u64 oM oM,wN ?_⟩
   refine Or.inl ⟨InR.u64 oM oM,wN ?_⟩
   refine Or.inl ⟨InR.u64 oM oM,wN ?_⟩
   by_cases et:(N:Int) * 16+(Zm .or .u8 (b.toNat:Int) 32 - 97+10)<=18446744073709551615
   ·refine Or.inl ⟨InR.u64 oM oM,wN ?_⟩
    refine ZBC (fun h8=>?_) (fun h8=>wN ?_)
    ·omega
    refine ZBC (fun h9=>wN ?_) (fun h9=>wN ?_)
    ·exact s8 oM
    refine Or.inl ⟨InR.i64 oM oM,wN ?_⟩
    refine ⟨⟨rfl,i+1,?_,oM,oM⟩,?_⟩
    ·have e:((XE 16 (l.take (i+1)):Nat):Int)=(N:Int) * 16+(Zm .or .u8 (b.toNat:Int) 32 - 97+10):=by omega
     rw [e];rfl
    exact m231
   have hw:IntKind.u64.wrap ((N:Int) * 16+(Zm .or .u8 (b.toNat:Int) 32 - 97+10))=(N:Int) * 16+(Zm .or .u8 (b.toNat:Int) 32 - 97+10) - 18446744073709551616:=by
    exact m246
   exact m241
  omega
 omega):P:=h
theorem m18 {P:Prop} (h:P:=by
 exact m253):P:=h
theorem m19 {P:Prop} (h:P:=by
 refine ⟨⟨0,_,b1,b2,b3,b4,b5,b6,rfl,rfl,⟨oM,oM⟩,oM,oM⟩,?_⟩
 intro vs' σ' wj
 obtain ⟨j,n2,c1,c2,c3,c4,c5,c6,rfl,rfl,⟨hj,wy⟩,wl,wm⟩:=wj
 conv=>whnf
 have xn:(c5.map ZZ).length=c5.length:=Te ..
 have hs5:=Zp Zkv c5
 refine ZBC (fun gh=>?_) (fun gh=>?_)
 rotate_left
 ·exact m226
 have gh:j<c5.length:=lzI xn gh
 conv=>whnf
 refine ZBC (fun qo=>?_) (fun qo=>?_)
 rotate_left
 ·exact m226
 conv=>whnf
 obtain ⟨eC,hC⟩:∃e,c5[j]=e:=⟨_,rfl⟩
 have hgc:=Zs Zkv c5 j gh
 obtain ⟨d1,d2⟩:=eC
 rw [hC] at hgc
 simp only [Zkv] at hgc
 have ae:(c5.map ZZ)[((j:Nat):Int).toNat]?=some (ZZ ⟨d1,d2⟩):=by simp [gh,hC]
 (repeat (first | (refine Or.inl ⟨InR.i64 oM oM,?_⟩;conv=>whnf) | (refine ⟨_,oM,ae,?_⟩;conv=>whnf)))
 refine ⟨pl,d2,B,rfl,⟨⟨oM,oM⟩,oM,oM,hB⟩,fun r ge kx=>wN ?_⟩
 unfold bd3 at kx
 (repeat (refine ⟨rfl,?_⟩;conv=>whnf))
 (repeat (first | (refine Or.inl ⟨InR.i64 oM oM,?_⟩;conv=>whnf) | (refine ⟨_,oM,ae,?_⟩;conv=>whnf)))
 refine ⟨⟨j+1,_,c1,c2,c3,c4,c5,c6,rfl,rfl,⟨oM,wy⟩,oM,oM⟩,?_⟩
 exact m243):P:=h
theorem m20 {P:Prop} (h:P:=by
 exact m199):P:=h
theorem m21 {P:Prop} (h:P:=by
 refine ⟨fun _=>0,a1,rfl,⟨by simp only [wBs];omega,oM⟩,fun b ek=>?_⟩
 cases b with
 | false =>
  conv=>whnf
  exact h _ (by simp [Yd,ek])
 | true =>
 conv=>whnf
 refine ⟨pl,a2,rfl,⟨rfl,oM,oM⟩,fun b jl=>?_⟩
 cases b with
 | false =>
  conv=>whnf
  exact h _ (by simp [Yd,ek,jl])
 | true =>
 conv=>whnf
 refine ⟨pl,a4,rfl,⟨rfl,oM,oM⟩,fun b mp=>?_⟩
 cases b with
 | false =>
  conv=>whnf
  exact h _ (by simp [Yd,ek,jl,mp])
 | true =>
 conv=>whnf
 refine ⟨pl,.mk u1 u2 u3 u4 u5 u6,rfl,⟨oM,oM⟩,fun b hu=>wN ?_⟩
 exact h _ (by simp only [Yd,l7,ek,jl,mp,hu,Tt])):P:=h
theorem m22 {P:Prop} (h:P:=by
 rcases x with ⟨v3,ts3⟩ | ⟨r3,e3⟩
 rotate_left
 ·exact m219
 rw [gf,R.bind_ok] at h
 intro a3 i9 ai
 have f6:=ai.hi
 conv=>whnf
 refine Or.inl ⟨InR.i64 oM oM,wN ?_⟩
 rw [T1]
 exact h _ oM ai):P:=h
theorem m23 {P:Prop} (h:P:=by
 rw [hp,Tt] at hs
 conv=>whnf
 refine Or.inl ⟨InR.i64 oM oM,wN ?_⟩
 refine ⟨⟨i+1,rfl,rfl,oM,hs⟩,?_⟩
 exact lzM oM):P:=h
theorem m24 {P:Prop} (h:P:=by
 cases b with
 | false =>
  rw [Zu,Tc (by rw [ew];simp),R.bind_err] at h
  exact m255
 | true =>
 rw [Zu,Tg ew] at h
 conv=>whnf
 refine ZBC (fun hc=>wN ?_) (fun hc=>wN ?_)
 ·rw [Tg oM,R.bind_err] at h
  refine ⟨L,ts,rfl,ho,wN ?_⟩
  exact h _ _
 rw [Tc oM] at h
 refine ⟨L,ts,rfl,ho,fun x hx=>?_⟩
 rw [ZT,Tg ew] at hx
 subst hx
 intro a1 fj af
 have aj:=af.hi
 conv=>whnf
 refine Or.inl ⟨InR.i64 oM oM,wN ?_⟩
 refine ⟨_,fun _ _ h=>h,Ta rfl,wN ?_⟩
 refine ⟨L,ts.tail,rfl,af,⟨oM,oM,oM⟩,fun x dt=>?_⟩
 rcases x with ⟨v2,ts2⟩ | ⟨r2,e2⟩
 rotate_left
 ·exact m250
 rw [dt,R.bind_ok] at h
 intro a2 fx ac
 have bp:=ac.hi
 obtain ⟨v2a,v2b,v2c,v2d,v2e⟩:=v2
 conv=>whnf
 repeat (refine ⟨rfl,?_⟩;conv=>whnf)
 rw [Tg rfl,R.bind_ok] at h
 refine Or.inl ⟨InR.i64 oM oM,wN ?_⟩
 rw [T1]
 exact h _ oM ac):P:=h
theorem m25 {P:Prop} (h:P:=by
 (repeat (first | (refine ⟨_,oM,ae,?_⟩;conv=>whnf) | (refine ⟨sO,?_⟩;conv=>whnf) | (refine ⟨rfl,?_⟩;conv=>whnf)))
 refine Or.inl ⟨InR.i64 oM oM,wN ?_⟩
 exact ⟨⟨i+1,by rw [bu];(try simp only [Th]);rfl,rfl,oM⟩,mu⟩):P:=h
theorem m26 {P:Prop} (h:P:=by
 refine Or.inl ⟨InR.i64 oM oM,wN ?_⟩
 exact m240):P:=h
theorem m27 {P:Prop} (h:P:=by
 refine ⟨L,ts1,rfl,af,d7,fun x hx=>?_⟩
 rw [hx] at step
 cases x with
 | err r e =>
  exact m220
 | ok v ts2 =>
 rw [R.bind_ok] at step
 intro a2 ak ac
 have iu:=ac.len
 have rz:=ac.hi
 obtain ⟨v1,v2,v3,v4,v5⟩:=v
 conv=>whnf
 refine ⟨Tl.2 rfl,(show ((l.map (XI (Zg L en))).length+1) * 80<=2 ^ 47 by rw [Te];omega),(show (l.map (XI (Zg L en))).length+1<=2 ^ 47 by rw [Te];omega),wN ?_⟩
 refine ⟨L,ts2,rfl,ac,[[44]],rfl,sM,fun hw ai=>wN ?_,fun hw=>wN ?_⟩
 ·rw [Tg hw] at step
  have l9:=ai.len
  refine ⟨⟨_,a2+1,ts2.tail,f,congrArg (fun r=>[PV.sl 0 151 r]) (ZH (XI (Zg L en)) l (.mk v1 v2 v3 v4 v5)),rfl,ai,by simp only [Tb,TE];omega,oM,step⟩,?_⟩
  exact m217
 rw [Tc (by rw [hw];simp)] at step
 rw [step] at h
 exact Zql (h a2 oM ac) (congrArg (fun r=>PEnd.ret (PV.d (D.sl r))) (ZH (XI (Zg L en)) l (.mk v1 v2 v3 v4 v5)).symm) rfl):P:=h
theorem m28 {P:Prop} (h:P:=by
 refine ⟨L,ts1,rfl,af,d7,fun x hx=>?_⟩
 rw [hx] at step
 cases x with
 | err r e =>
  exact m220
 | ok v ts2 =>
 rw [R.bind_ok] at step
 intro a2 ak ac
 have iu:=ac.len
 have rz:=ac.hi
 obtain ⟨v1,v2,v3,v4,v5⟩:=v
 conv=>whnf
 refine ⟨Tl.2 rfl,(show ((l.map (YE (Zg L en))).length+1) * 64<=2 ^ 47 by rw [Te];omega),(show (l.map (YE (Zg L en))).length+1<=2 ^ 47 by rw [Te];omega),wN ?_⟩
 refine ⟨L,ts2,rfl,ac,[[44]],rfl,sM,fun hw ai=>wN ?_,fun hw=>wN ?_⟩
 ·rw [Tg hw] at step
  have l9:=ai.len
  refine ⟨⟨_,a2+1,ts2.tail,f,congrArg (fun r=>[PV.sl 0 48 r]) (ZH (YE (Zg L en)) l (.mk v1 v2 v3 v4 v5)),rfl,ai,by simp only [Tb,TE];omega,oM,step⟩,?_⟩
  exact m217
 rw [Tc (by rw [hw];simp)] at step
 rw [step] at h
 exact Zql (h a2 oM ac) (congrArg (fun r=>PEnd.ret (PV.d (D.sl r))) (ZH (YE (Zg L en)) l (.mk v1 v2 v3 v4 v5)).symm) rfl):P:=h
theorem m29 {P:Prop} (h:P:=by
 exact m219):P:=h
theorem m30 {P:Prop} (h:P:=by
 have mu:((l.length:Int) - ((i:Int)+1)).toNat<((l.length:Int) - (i:Int)).toNat:=oM
 conv=>whnf
 refine ZBC (fun h0=>wN ?_) (fun h0=>?_)
 ·have h0:0<i:=by omega
  rw [Tc oM] at ao
  refine ⟨show S.length+2<2 ^ 62 by omega,wN ?_⟩
  refine ⟨_,oM,ae,wN ?_⟩
  refine ⟨pl,.mk a1 a2 a3 a4 a5,rfl,⟨fq,oM,hn⟩,fun t ht=>?_⟩
  obtain rfl:t=X:=ht.symm.trans hX
  conv=>whnf
  refine ⟨show (S++cmm).length+t.length<2 ^ 62 by rw [Tb,show cmm.length=2 from rfl];omega,wN ?_⟩
  refine Or.inl ⟨InR.i64 oM oM,wN ?_⟩
  exact ⟨⟨i+1,by rw [ao,<- Th];rfl,rfl,oM⟩,mu⟩
 obtain rfl:i=0:=by omega
 rw [Tg rfl] at ao
 have hS0:S=[]:=by rw [<- hS];rfl
 rw [hS0]
 conv=>whnf
 refine ⟨_,oM,ae,wN ?_⟩
 refine ⟨pl,.mk a1 a2 a3 a4 a5,rfl,⟨fq,oM,hn⟩,fun t ht=>?_⟩
 obtain rfl:t=X:=ht.symm.trans hX
 conv=>whnf
 refine ⟨show 0+t.length<2 ^ 62 by omega,wN ?_⟩
 refine Or.inl ⟨InR.i64 oM oM,wN ?_⟩
 exact ⟨⟨1,by rw [ao];rfl,rfl,oM⟩,mu⟩):P:=h
theorem m31 {P:Prop} (h:P:=by
 rw [Tg hl] at h
 obtain rfl:S2=.bad 3:=by rw [<- ce,Wi,Tg oM];rfl
 have hw:¬w1=0:=by have:=af.1;omega
 conv=>whnf
 refine ZBE (fun _=>wN ?_) (fun g=>absurd (by simpa using g) hw)
 exact h _ _ _ _ _ _ (fun ⟨_,_,g⟩=>by cases g) _ _ _ _ af):P:=h
theorem m32 {P:Prop} (h:P:=by
 refine ⟨L,ts1,rfl,af,fun x hx=>?_⟩
 rw [hx] at step
 cases x with
 | err r e =>
  exact m220
 | ok v ts2 =>
 rw [R.bind_ok] at step
 intro a2 ak ac
 have iu:=ac.len
 have rz:=ac.hi
 obtain ⟨v1,v2⟩:=v
 conv=>whnf
 refine ⟨Tl.2 rfl,(show ((l.map (ZJ)).length+1) * 32<=2 ^ 47 by rw [Te];omega),(show (l.map (ZJ)).length+1<=2 ^ 47 by rw [Te];omega),wN ?_⟩
 refine ⟨L,ts2,rfl,ac,[[44]],rfl,sM,fun hw ai=>wN ?_,fun hw=>wN ?_⟩
 ·rw [Tg hw] at step
  have l9:=ai.len
  refine ⟨⟨_,a2+1,ts2.tail,f,congrArg (fun r=>[PV.sl 0 100 r]) (ZH (ZJ) l _),rfl,ai,by simp only [Tb,TE];omega,oM,step⟩,?_⟩
  exact m217
 rw [Tc (by rw [hw];simp)] at step
 rw [step] at h
 exact Zql (h a2 oM ac) (congrArg (fun r=>PEnd.ret (PV.d (D.sl r))) (ZH (ZJ) l _).symm) rfl):P:=h
theorem m33 {P:Prop} (h:P:=by
 refine ⟨L,ts1,rfl,af,fun x hx=>?_⟩
 rw [hx] at step
 cases x with
 | err r e =>
  exact m220
 | ok v ts2 =>
 rw [R.bind_ok] at step
 intro a2 ak ac
 have iu:=ac.len
 have rz:=ac.hi
 obtain ⟨v1,v2⟩:=v
 conv=>whnf
 refine ⟨Tl.2 rfl,(show ((l.map (ZZ)).length+1) * 40<=2 ^ 47 by rw [Te];omega),(show (l.map (ZZ)).length+1<=2 ^ 47 by rw [Te];omega),wN ?_⟩
 refine ⟨L,ts2,rfl,ac,[[124]],rfl,sM,fun hw ai=>wN ?_,fun hw=>wN ?_⟩
 ·rw [Tg hw] at step
  have l9:=ai.len
  refine ⟨⟨_,a2+1,ts2.tail,f,congrArg (fun r=>[PV.sl 0 70 r]) (ZH (ZZ) l _),rfl,ai,by simp only [Tb,TE];omega,oM,step⟩,?_⟩
  exact m217
 rw [Tc (by rw [hw];simp)] at step
 rw [step] at h
 exact Zql (h a2 oM ac) (congrArg (fun r=>PEnd.ret (PV.d (D.sl r))) (ZH (ZZ) l _).symm) rfl):P:=h
theorem m34 {P:Prop} (h:P:=by
 conv=>whnf
 refine Or.inl ⟨InR.i64 oM oM,wN ?_⟩
 refine ⟨⟨i+1,_,rfl,(by rw [bu,hT];simp only [Th];rfl),.inr rfl,oM⟩,?_⟩
 exact lzM oM):P:=h
theorem m35 {P:Prop} (h:P:=by
 refine ⟨L,ts1,rfl,af,fun x hx=>?_⟩
 rw [hx] at step
 cases x with
 | err r e =>
  exact m220
 | ok v ts2 =>
 rw [R.bind_ok] at step
 intro a2 ak ac
 have iu:=ac.len
 have rz:=ac.hi
 skip
 conv=>whnf
 refine ⟨Tl.2 rfl,(show ((l.map (ZB)).length+1) * 16<=2 ^ 47 by rw [Te];omega),(show (l.map (ZB)).length+1<=2 ^ 47 by rw [Te];omega),wN ?_⟩
 refine ⟨L,ts2,rfl,ac,[[44]],rfl,sM,fun hw ai=>wN ?_,fun hw=>wN ?_⟩
 ·rw [Tg hw] at step
  have l9:=ai.len
  refine ⟨⟨_,a2+1,ts2.tail,f,congrArg (fun r=>[PV.sl 0 9 r]) (ZH (ZB) l _),rfl,ai,by simp only [Tb,TE];omega,oM,step⟩,?_⟩
  exact m217
 rw [Tc (by rw [hw];simp)] at step
 rw [step] at h
 exact Zql (h a2 oM ac) (congrArg (fun r=>PEnd.ret (PV.d (D.sl r))) (ZH (ZB) l _).symm) rfl):P:=h
theorem m36 {P:Prop} (h:P:=by
 refine ⟨fun _=>0,a2,rfl,⟨by simp only [wBs];omega,oM⟩,fun b ek=>?_⟩
 cases b with
 | false =>
  conv=>whnf
  exact h _ (by simp [Z6,mr,ek])
 | true =>
 conv=>whnf
 refine ⟨pl,a4,rfl,⟨rfl,oM,oM⟩,fun b jl=>?_⟩
 cases b with
 | false =>
  conv=>whnf
  exact h _ (by simp [Z6,mr,ek,jl])
 | true =>
 conv=>whnf
 refine ⟨pl,a5,rfl,⟨rfl,oM,oM⟩,fun b mp=>wN ?_⟩
 exact h _ (by simp only [Z6,mr,ek,jl,mp,Tt])):P:=h
theorem m37 {P:Prop} (h:P:=by
 exact m251):P:=h
theorem m38 {P:Prop} (h:P:=by
 refine ⟨sM,fun r hr=>by rw [(List.mem_replicate.1 hr).2],fun a b y u hb hy hu=>?_⟩
 by_cases ha:a<n
 ·have ah:a * zero.length+b<n * zero.length:=by
   calc a * zero.length+b<a * zero.length+zero.length:=by omega
    _=(a+1) * zero.length:=by rw [Si,Nat.one_mul]
    _<=n * zero.length:=T4 _ ha
  have hm:(a * zero.length+b) % z.cells.size=b:=by rw [wy,SD,Nat.mul_add_mod,Nat.mod_eq_of_lt hb]
  rw [TA,Array.getElem?_map,Array.getElem?_range,Tg ah] at hu
  simp only [Sw,hm,Option.some.injEq] at hu
  have hbz:b<z.cells.size:=oM
  rw [getElem!_pos z.cells b hbz] at hu
  have cu:b<(T.get el).zero.length:=oM
  have:=nv b _ u (Ti cu) (by rw [TA,TF hbz,hu])
  rw [List.getElem?_replicate,Tg ha] at hy
  simp only [Option.bind_some] at hy
  exact Up (bf b _ y (Ti cu) hy) this.1
 rw [List.getElem?_replicate,Tc ha] at hy;cases hy):P:=h
theorem m39 {P:Prop} (h:P:=by
 exact m255):P:=h
theorem m40 {P:Prop} (h:P:=by
 have aa:l.length<=i:=lzG ab aa
 rw [Vl _ aa] at hs
 exact h _ (by rw [hs];simp)):P:=h
theorem m41 {P:Prop} (h:P:=by
 intro j x hx
 have hj:=(Tj.1 hx).1
 have jr:(Zj l)[j]?=some [.int .u8 x.toNat]:=by simp [Zj,hx]
 generalize hrr:Zj l=rr at hd jr
 have ab:rr.length=l.length:=by rw [<- hrr];simp [Zj]
 generalize hvv:Value.slice (some ⟨g,0,none⟩) l.length cap=vv at hd
 cases hd with
 | slnil=>simp at jr
 | slz=>simp at jr
 | sl _ _ _ _ sz u hcap hsz hc ho hu =>
 simp only [Value.slice.injEq,Option.some.injEq,Addr.mk.injEq] at hvv
 obtain ⟨⟨rfl,rfl,_⟩,_,rfl⟩:=hvv
 have jy:sz=1:=by
  have:=hsz _ (Sh jr);simpa using this.symm
 subst jy
 have h1:=hc j 0 oM oM
 have h2:=hu j 0 (.int .u8 x.toNat) (by rw [jr];rfl)
 generalize huu:u j 0=uu at h1 h2;cases h2
 simpa using h1):P:=h
theorem m42 {P:Prop} (h:P:=by
 conv=>whnf
 obtain ⟨eC,hC⟩:∃e,ar[j]=e:=⟨_,rfl⟩
 have hgc:=Zs szE ar j gh
 obtain ⟨c1,c2,c3,c4,c5⟩:=eC
 rw [hC] at hgc
 have bi:(Z0 pl ar)[((j:Nat):Int).toNat]?=some (YE pl (.mk c1 c2 c3 c4 c5)):=by rw [Ze];simp [gh,hC]
 (repeat (first | (refine ⟨_,oM,ae,?_⟩;conv=>whnf) | (refine ⟨_,oM,bi,?_⟩;conv=>whnf) | (refine Or.inl ⟨InR.i64 oM oM,?_⟩;conv=>whnf)))
 refine ⟨pl,.mk c1 c2 c3 c4 c5,B,rfl,⟨⟨oM,oM⟩,oM,oM,hB⟩,fun r ge kx=>wN ?_⟩
 unfold bd2 at kx
 refine Or.inl ⟨InR.i64 oM oM,wN ?_⟩
 refine Or.inl ⟨InR.i64 oM oM,wN ?_⟩
 refine ⟨⟨j+1,_,rfl,rfl,oM,oM,oM⟩,?_⟩
 exact m243):P:=h
theorem m43 {P:Prop} (h:P:=by
 have hk:=(Tj.1 hx).1
 have hkv:k<vs.size:=oM
 have:(vs++Array.replicate (fn.ntmps - vs.size) undef).getD (0+k) Go.undef=vs[k]:=by
  simp [Array.getD,Array.getElem_append,hkv]
  intro h;omega
 rw [this]
 exact aq.2 k x _ hx (TF hkv)):P:=h
theorem m44 {P:Prop} (h:P:=by
 obtain ⟨fq,jh⟩:ZV x=true/\JV x=true:=⟨m5 x sM,bi x sM⟩
 simp only [szS] at hz
 have gx:∀w,(exW w x).length<=64 * wE x:=fun w=>ZcM x jh
 obtain ⟨x1,x2,x3,x4,x5⟩:=x
 conv=>whnf
 refine ⟨_,rfl,fun d hd=>?_⟩
 subst hd
 conv=>whnf
 refine ⟨_,dM,rfl,wN ?_⟩
 refine ⟨_,rfl,fun d hd=>?_⟩
 subst hd
 conv=>whnf
 (repeat (refine ⟨rfl,?_⟩;conv=>whnf))
 refine ⟨oM,pl,.mk x1 x2 x3 x4 x5,5,rfl,rfl,⟨⟨fq,jh⟩,oM,oM⟩,fun t1 fi=>wN ?_⟩
 have gx:=gx 5
 rw [fi] at gx
 (repeat (refine ⟨rfl,?_⟩;conv=>whnf))
 refine ⟨show 1+t1.length<2 ^ 62 by omega,wN ?_⟩
 exact h _ (by rw [<- fi,exT];rfl)):P:=h
theorem m45 {P:Prop} (h:P:=by
 refine ⟨⟨rfl,e+(pk (s.drop e)).2,f,k1,k2,rfl,k3,k4⟩,?_⟩
 exact (show ((s.length:Int) - ((e:Int)+((pk (s.drop e)).2:Int))).toNat<((s.length:Int) - (e:Int)).toNat by omega)):P:=h
theorem m46 {P:Prop} (h:P:=by
 have e:Zj (Lib.encodeRune c)=[[D.int .u8 (Zm .or .u8 224 (IntKind.u8.wrap (c.fdiv (2 ^ min (Int.toNat 12) IntKind.i32.bits))))],[D.int .u8 (Zm .or .u8 128 (Zm .and .u8 (IntKind.u8.wrap (c.fdiv (2 ^ min (Int.toNat 6) IntKind.i32.bits))) 63))],[D.int .u8 (Zm .or .u8 128 (Zm .and .u8 (IntKind.u8.wrap (c)) 63))]]:=by
  rw [W2,Lib.encodeRuneZ_three oM]
  simp only [e6,e12,e18,wu8,TN,TQ]
  rw [ZAA oM oM,a63 oM oM,a63 oM oM,ZsI oM oM,ZsI oM oM,show c / 4096 % 256=c / 4096 by omega,show c / 64 % 256 % 64=c / 64 % 64 by omega,show c % 256 % 64=c % 64 by omega]
  all_goals (try omega)
  (try (congr 1 <;> omega))
 rw [e] at h;exact h):P:=h
theorem m47 {P:Prop} (h:P:=by
 have j7:=ZcO (w:=[58]) eh
 have aam:=ZcO (w:=[58]) we
 rw [ce] at h j7 aam
 intro a2 dp2 w2 pl2 ac
 conv=>whnf
 refine ⟨L,S2,rfl,ac,fun S3 cg=>?_⟩
 have od:=Xd (fr:=[123]) j7
 have aan:=Xd (fr:=[123]) aam
 rw [cg] at h od aan
 intro a3 dp3 w3 pl3 ai
 conv=>whnf
 refine ⟨L,S3,rfl,ai,⟨od,fun S4 ef rows4=>?_⟩⟩
 have aao:=Yn (P:=VU) aan
 rw [ef] at h aao
 intro a4 dp4 w4 pl4 av
 conv=>whnf
 refine ⟨L,S4,rfl,av,⟨aao,fun S5 pz=>?_⟩⟩
 rw [pz] at h
 intro a5 dp5 w5 pl5 cy
 conv=>whnf
 exact h _ _ _ _ _ _ _ _ _ cy):P:=h
theorem m48 {P:Prop} (h:P:=by
 conv=>whnf
 refine ⟨fun _=>0,a1,rfl,⟨by simp only [wBs];omega,oM⟩,fun b ek=>?_⟩
 cases b with
 | false =>
  conv=>whnf
  exact h _ (by simp [Yd,ek])
 | true =>
 conv=>whnf
 refine ⟨pl,a2,rfl,⟨rfl,oM,oM⟩,fun b jl=>?_⟩
 cases b with
 | false =>
  conv=>whnf
  exact h _ (by simp [Yd,ek,jl])
 | true =>
 conv=>whnf
 refine ⟨pl,a4,rfl,⟨rfl,oM,oM⟩,fun b mp=>?_⟩
 cases b with
 | false =>
  conv=>whnf
  exact h _ (by simp [Yd,ek,jl,mp])
 | true =>
 conv=>whnf
 exact h _ (by simp only [Yd,l7,TU,Bool.and_false])):P:=h
theorem m49 {P:Prop} (h:P:=by
 exact ⟨_,h,by rw [YH,Op.equalIn];simp [Zc dg],Yj rfl,rfl⟩):P:=h
theorem m50 {P:Prop} (h:P:=by
 rcases x with ⟨v8,ts8⟩ | ⟨r8,e8⟩
 rotate_left
 ·rw [xm,R.bind_err] at h;intro a9 d9;(conv=>whnf);exact h _ _
 rw [xm,R.bind_ok] at h
 intro a8 ael mt
 have hb8:=mt.hi
 obtain ⟨v8a,v8b,v8c,v8d,v8e,v8f⟩:=v8
 conv=>whnf
 rw [Tc sM] at h
 refine ⟨L,ts8,rfl,mt,fun x hx9=>?_⟩
 rcases x with ⟨v9,ts9⟩ | ⟨r9,e9⟩
 rotate_left
 ·rw [hx9,R.bind_err,R.bind_err] at h;intro a9 d9;(conv=>whnf);exact h _ _
 rw [hx9,R.bind_ok,R.bind_ok] at h
 intro a9 aem iw
 have ta:=iw.hi
 conv=>whnf
 refine Or.inl ⟨InR.i64 oM oM,wN ?_⟩
 rw [T1]
 exact h _ oM iw):P:=h
theorem m51 {P:Prop} (h:P:=by
 have e:Yo (s.drop a.toNat)=2:=by
  have:twos.any (Lib.hasPrefix (s.drop a.toNat))=true:=by simp [twos,h2]
  simp [Yo,this]
 rw [e] at h
 exact h):P:=h
theorem m52 {P:Prop} (h:P:=by
 rw [hp,TU] at hs
 conv=>whnf
 exact h _ (by rw [hs];simp;try omega)):P:=h
theorem m53 {P:Prop} (h:P:=by
 exact m233):P:=h
theorem m54 {P:Prop} (h:P:=by
 exact m250):P:=h
theorem m55 {P:Prop} (h:P:=by
 have d8:u.drop i=[]:=Tz oM
 have g1:XL (s.drop a)=.err 0:=by rw [<- fh];simp [ZO,d8]
 (try (refine ⟨rfl,?_⟩;conv=>whnf))
 (try (refine ⟨rfl,?_⟩;conv=>whnf))
 exact dk _ g1):P:=h
theorem m56 {P:Prop} (h:P:=by
 rw [cx] at h eh je
 intro a4 dp4 w4 pl4 av
 conv=>whnf
 refine ⟨L,S1,rfl,av,5,rfl,oM,fun d ts hq=>Or.inl (eh d ts hq),fun S2 ce=>?_⟩
 have ce:ZM Zv S1=S2:=ce
 have gu:=Yn (P:=Zv) je
 rw [ce] at h gu
 intro eo es em er ep a5 dp5 w5 pl5 cy
 conv=>whnf
 cases S2 with
 | ok d5 ts5 =>
  have:=gu _ _ rfl
  obtain ⟨rfl,hr5,rfl,hd5⟩:=cy
  refine Or.inl ⟨InR.i64 oM oM,wN ?_⟩
  exact h _ _ _ _ _ _ _ _ _ (SOK.mk hr5 oM oM)
 | bad e =>
 refine Or.inr (wN ?_)
 exact h _ _ _ _ _ _ _ _ _ cy.stay):P:=h
theorem m57 {P:Prop} (h:P:=by
 have g3:=iv oM
 refine ⟨oM,oM,wN ?_⟩
 refine ⟨fun r hr=>by (simp at hr;rcases hr with rfl | rfl <;> rfl),(show ((Zj out).length+2) * 1<=2 ^ 47 by omega),(show (Zj out).length+2<=2 ^ 47 by omega),?_⟩
 conv=>whnf
 refine Or.inl ⟨InR.i64 tN tN,wN ?_⟩
 refine ⟨⟨out++[92,s.getD i 0],i+(pk (s.drop i)).2,f,?_,rfl,⟨g3,oM,by rw [Tb];simp;omega⟩,by rw [<- Tw];exact g1.symm.trans fh⟩,?_⟩
 ·rw [Yx];rfl
 exact m249):P:=h
theorem m58 {P:Prop} (h:P:=by
 rcases x with ⟨v11,ts11⟩ | ⟨r11,e11⟩
 rotate_left
 ·rw [ku,R.bind_err] at h;intro a9 d9;(conv=>whnf);exact h _ _
 rw [ku,R.bind_ok] at h
 intro a11 tf ly
 have zt:=ly.hi
 conv=>whnf
 refine ⟨L,ts11,rfl,ly,⟨d7,sM⟩,fun x lz=>?_⟩
 rcases x with ⟨v12,ts12⟩ | ⟨r12,e12⟩
 rotate_left
 ·rw [lz,R.bind_err] at h;intro a9 d9;(conv=>whnf);exact h _ _
 rw [lz,R.bind_ok] at h
 intro a12 tg l0
 have zu:=l0.hi
 conv=>whnf
 rw [<- Ze]
 exact h _ oM l0):P:=h
theorem m59 {P:Prop} (h:P:=by
 intro args σ K h
 unfold JE at h
 split at h
 ·obtain ⟨pl,⟨a1,a2⟩,rfl,⟨rfl,hz,hn⟩,h⟩:=h
  refine ⟨Za [],1,false,sM,Ta rfl,wN ?_⟩
  refine ⟨pl,⟨a1,a2⟩,rfl,⟨hz,hn⟩,fun b hb=>wN ?_⟩
  exact h _ (by rw [hb])
 exact h.elim):P:=h
theorem m60 {P:Prop} (h:P:=by
 exact m249):P:=h
theorem m61 {P:Prop} (h:P:=by
 refine Or.inl ⟨InR.i64 oM oM,wN ?_⟩
 exact ⟨⟨rfl,e+1,rfl,⟨g1,g2⟩,g3⟩,(show ((s.length:Int) - ((e:Int)+1)).toNat<((s.length:Int) - (e:Int)).toNat by omega)⟩):P:=h
theorem m62 {P:Prop} (h:P:=by
 subst hi
 obtain ⟨rfl,ah⟩:=v7.done
 conv=>whnf
 refine ⟨L,_,rfl,ac,ah,fun S5 pz=>?_⟩
 subst pz
 intro a5 dp5 w5 pl5 cy
 conv=>whnf
 (repeat (refine ⟨rfl,?_⟩;conv=>whnf))
 exact h _ _ _ _ _ _ _ _ _ cy):P:=h
theorem m63 {P:Prop} (h:P:=by
 refine ⟨v'::vs',tk2,as2,h2,ZaK fd dt,jk,by simp [hl],fun i x y hx hy=>?_⟩
 cases i with
 | zero=>simp at hx hy;subst hx;subst hy;exact hv.ext dt
 | succ i=>exact fg i x y (by simpa using hx) (by simpa using hy)):P:=h
theorem m64 {P:Prop} (h:P:=by
 (repeat (refine ⟨rfl,?_⟩;conv=>whnf))
 exact h _ _ _ _ _ _ (fun _=>by rw [Tb];rfl) _ _ _ _ ai):P:=h
theorem m65 {P:Prop} (h:P:=by
 rw [fd,R.bind_err] at h;intro a9 d9;(conv=>whnf);exact h _ _):P:=h
theorem m66 {P:Prop} (h:P:=by
 conv=>whnf
 obtain ⟨eA,hA⟩:∃e,p6[i]=e:=⟨_,rfl⟩
 obtain ⟨b1,b2⟩:=eA
 have ae:(p6.map (Ye pl))[((i:Nat):Int).toNat]?=some (Ye pl ⟨b1,b2⟩):=by simp [aa,hA]
 (repeat (first | (refine ⟨_,oM,ae,?_⟩;conv=>whnf) | (refine Or.inl ⟨InR.i64 oM oM,?_⟩;conv=>whnf)))
 refine ⟨⟨i+1,_,rfl,rfl,oM,oM,oM⟩,?_⟩
 show ((p6.length:Nat) - ((i:Int)+1)).toNat<((p6.length:Nat) - (i:Int)).toNat
 omega):P:=h
theorem m67 {P:Prop} (h:P:=by
 conv=>whnf
 (try (refine ⟨rfl,?_⟩;conv=>whnf))
 (try (refine ⟨rfl,?_⟩;conv=>whnf))
 exact dk 3 (by rw [YT,hn,hc,Tc i6,Tg rfl])):P:=h
theorem m68 {P:Prop} (h:P:=by
 conv=>whnf
 refine Or.inl ⟨InR.i64 dM dM,wN ?_⟩
 have hs:=bz.stop oM (by intro u hu;simp only [Zay] at hu;simp at hu;rcases hu with rfl | rfl <;> assumption)
 subst hs
 exact h _ _ _ _ _ _ _ _ _ gb):P:=h
theorem m69 {P:Prop} (h:P:=by
 repeat (first | (refine ZBC (fun _=>?_) (fun g=>absurd hq g);conv=>whnf))
 exact h _ (by rw [hv,show x.text=_ from hq];rfl) _ _ _ _ ho):P:=h
theorem m70 {P:Prop} (h:P:=by
 refine Or.inl ⟨InR.i64 oM oM,wN ?_⟩
 refine ⟨⟨1,rfl,(by rw [ao];simp only [T2,TQ,Zh,TT];rfl),oM⟩,?_⟩
 exact lzM oM):P:=h
theorem m71 {P:Prop} (h:P:=by
 exact m236):P:=h
theorem m72 {P:Prop} (h:P:=by
 refine ⟨fun r hr=>by (simp at hr;rcases hr with rfl | rfl | rfl <;> rfl),(show (rows.length+3) * 1<=2 ^ 47 by omega),(show rows.length+3<=2 ^ 47 by omega),?_⟩
 conv=>whnf
 exact g):P:=h
theorem m73 {P:Prop} (h:P:=by
 exact m241):P:=h
theorem m74 {P:Prop} (h:P:=by
 subst ov
 refine ⟨?_,⟨.normal,f,e,σ,h,rfl,hS,hF,hL,hN,bn,hZ⟩⟩
 rw [List.eq_nil_iff_forall_not_mem]
 intro i hi
 obtain ⟨h1,o,ho,_⟩:=mem_ready.1 hi
 have ah:=(Tq.1 ho).1
 have:=(eu i ah).2 (fun p hp=>by cases hp)
 have gq:i<listed.size:=by rw [hsz];exact ah
 simp [Array.getD,gq] at this h1
 rw [this] at h1;cases h1):P:=h
theorem m75 {P:Prop} (h:P:=by
 simp only [twos,List.take,SH,List.any_nil,T8,T9,Sj,Sv] at hn cq |-
 simp only [hn,cq,and_self]):P:=h
theorem m76 {P:Prop} (h:P:=by
 refine ⟨oM,oM,wN ?_⟩
 rw [jc]
 refine ⟨⟨oM,oM⟩,?_⟩
 rw [x8]
 conv=>whnf
 refine Or.inl ⟨InR.u64 oM oM,wN ?_⟩
 refine Or.inl ⟨InR.i64 oM oM,?_⟩
 rw [e1]
 conv=>whnf
 exact ⟨⟨k+1,n',rfl,rfl,oM,e2,e3⟩,(show ((s.length:Int) - (((a+2+k:Nat):Int)+1)).toNat<((s.length:Int) - ((a+2+k:Nat):Int)).toNat by omega)⟩):P:=h
theorem m77 {P:Prop} (h:P:=by
 refine Or.inl ⟨InR.i64 oM oM,wN ?_⟩
 refine ⟨⟨i+1,rfl,(by rw [ao];simp only [Th];rfl),oM⟩,?_⟩
 exact lzM oM):P:=h
theorem m78 {P:Prop} (h:P:=by
 have t8:=Zk4 (ts:=ts3) (c:=⟨r0.length,r1.length,r2.length,r3.length,r4.length,r5.length⟩) (od _ _ rfl)
 rw [ef] at hst t8
 intro a4 dp4 w4 pl4 av
 conv=>whnf
 refine ⟨⟨q0,q1,q2,q3,q4,q5,_,_,_,_,S4,rfl,rfl,av,t8,fun g=>by rw [hq g];exact hst,fun e he=>by subst he;exact hst⟩,?_⟩
 exact aaf S4 ef _ _ _ av):P:=h
theorem m79 {P:Prop} (h:P:=by
 refine ⟨fun r hr=>by (simp at hr;rcases hr with rfl <;> rfl),(show (rows.length+1) * 1<=2 ^ 47 by omega),(show rows.length+1<=2 ^ 47 by omega),?_⟩
 conv=>whnf
 exact h):P:=h
theorem m80 {P:Prop} (h:P:=by
 intro args σ K h
 unfold Vd at h
 split at h
 ·rename_i c
  refine ⟨Za [],0,false,dM,Ta rfl,?_⟩
  refine ZBC (fun h1=>?_) (fun h1=>?_)
  ·refine ZaR h ?_
   simp only [Zl,decide_eq_decide];omega
  refine ZaR h ?_
  simp only [Zl,decide_eq_false_iff_not];omega
 exact h.elim):P:=h
theorem m81 {P:Prop} (h:P:=by
 exact m246):P:=h
theorem m82 {P:Prop} (h:P:=by
 exact no (by rw [ZY,hL];rfl)):P:=h
theorem m83 {P:Prop} (h:P:=by
 split at h;· cases h;rename_i h;subst h;exact .inl ⟨dM,rfl⟩
 split at h;· cases h;rename_i h;subst h;exact .inr (.inl ⟨dM,rfl⟩)
 split at h;· cases h;rename_i h;subst h;exact .inr (.inr (.inl ⟨dM,rfl⟩))
 split at h;· cases h;rename_i h;subst h;exact .inr (.inr (.inr ⟨dM,rfl⟩))
 cases h):P:=h
theorem m84 {P:Prop} (h:P:=by
 intro args σ K h
 unfold ZbM at h
 split at h
 ·rename_i w t0 t rows a en dp
  obtain ⟨L,ts,rfl,ho,h1,h2⟩:=h
  refine ⟨Za [],2,false,sM,Ta rfl,wN ?_⟩
  refine ⟨L,ts,rfl,ho,[w],rfl,sM,fun hw ac=>wN ?_,fun hw=>wN ?_⟩
  ·exact h1 hw ac
  exact h2 hw
 exact h.elim):P:=h
theorem m85 {P:Prop} (h:P:=by
 unfold anc
 have:(VJ ops.toList []).length=ops.size:=by
  have:∀(l:List Oper) (acc:List Nat),(VJ l acc).length=acc.length+l.length:=by
   intro l
   induction l with
   | nil=>intro acc;rfl
   | cons o l ih=>intro acc;rw [VJ,ih];simp;omega
  rw [this];simp
 rw [TY,Sk oM]
 simp):P:=h
theorem m86 {P:Prop} (h:P:=by
 rw [Lib.decodeL_N]
 have k0:=(r.getD 0 0).toNat_lt
 rcases Lib.decodeN_shape r.length (r.getD 0 0).toNat (r.getD 1 0).toNat (r.getD 2 0).toNat (r.getD 3 0).toNat with ⟨c,e⟩ | ⟨c1,c2,c3,cv,e⟩ | ⟨c1,c2,c3,c4,cv,cs,e⟩ | ⟨c1,c2,c3,c4,c5,cv,cw,e⟩ | e
 all_goals (rw [e];dsimp only;omega)):P:=h
theorem m87 {P:Prop} (h:P:=by
 refine ⟨_,_,h,.mkint,?_⟩
 simp only [ho,resolve,invoke,builtin,Sem.run_bind,Sem.run_pure,Result.andThen,Builtin.len_,sd,mf,Zc hd]
 rfl):P:=h
theorem m88 {P:Prop} (h:P:=by
 intro args σ K h
 unfold JE at h
 split at h
 ·obtain ⟨pl,⟨a1,a2,a3,a4,a5,a6⟩,rfl,⟨rfl,hz,hn⟩,h⟩:=h
  refine ⟨Za [],1,false,sM,Ta rfl,wN ?_⟩
  refine ⟨pl,⟨a1,a2,a3,a4,a5,a6⟩,rfl,⟨hz,hn⟩,fun b hb=>wN ?_⟩
  exact h _ (by rw [hb])
 exact h.elim):P:=h
theorem m89 {P:Prop} (h:P:=by
 intro args σ K h
 unfold JE at h
 split at h
 ·obtain ⟨pl,⟨a1,a2,a3,a4,a5⟩,rfl,⟨rfl,hz,hn⟩,h⟩:=h
  refine ⟨Za [],1,false,sM,Ta rfl,wN ?_⟩
  refine ⟨pl,(.mk a1 a2 a3 a4 a5),rfl,⟨hz,hn⟩,fun b hb=>wN ?_⟩
  exact h _ (by rw [hb])
 exact h.elim):P:=h
theorem m90 {P:Prop} (h:P:=by
 simp only [Instr.storeAt,Instr.sureAddr,storeVar,Sem.run_bind,Sem.run_pure,Result.andThen,ZF hi]
 rw [Tc (by rw [ji];simp)]
 exact am):P:=h
theorem m91 {P:Prop} (h:P:=by
 intro args σ K h
 unfold X6 at h
 split at h
 ·rename_i s
  refine ⟨Za [],0,false,sM,Ta rfl,?_⟩
  repeat' ((conv=>whnf);refine ZBC (fun hc=>?_) (fun hc=>?_))
  all_goals (conv=>whnf)
  all_goals exact h _ (by simp [ZU, *])
 exact h.elim):P:=h
theorem m92 {P:Prop} (h:P:=by
 rw [ZjI hE] at mz
 subst mz
 have g1:XL (s.drop a)=.err (1+i - 1):=by rw [<- fh];simp [ZO,an,hE]
 conv=>whnf
 refine Or.inl ⟨InR.i64 oM oM,wN ?_⟩
 have g2:=dk _ g1
 rw [show ((a+(1+i - 1):Nat):Int)=(a:Int)+1+(i:Int) - 1 by omega] at g2
 exact g2):P:=h
theorem m93 {P:Prop} (h:P:=by
 refine Go.Lib.run_unsafeString_row w.drew (ρ.t 127) (ρ.t 3) (ρ.t 9) (ρ.t 5) L.t127 X.cellsByte g cur.size (by have qy:w.drew.heap[g]?=some (.cells cur (ρ.t 5) fz):=hg;simp [World.shape?,qy]) l h0 hn et ?_
 intro j x hx
 have:=ba j x hx
 rw [Ym,Sf];exact this):P:=h
theorem m94 {P:Prop} (h:P:=by
 intro args σ K h
 unfold JE at h
 split at h
 ·obtain ⟨pl,⟨a1,a2,a3,a4⟩,rfl,⟨rfl,hz,hn⟩,h⟩:=h
  refine ⟨Za [],1,false,sM,Ta rfl,wN ?_⟩
  refine ⟨pl,⟨a1,a2,a3,a4⟩,rfl,⟨hz,hn⟩,fun b hb=>wN ?_⟩
  exact h _ (by rw [hb])
 exact h.elim):P:=h
theorem m95 {P:Prop} (h:P:=by
 refine Or.inr (wN ?_)
 refine Or.inr ?_
 rw [e1]
 conv=>whnf
 refine Or.inl ⟨InR.i64 oM oM,wN ?_⟩
 exact ⟨⟨k+1,n',false,rfl,rfl,oM,e2,hf,fun g=>by cases g⟩,(show ((s.length:Int) - (((a+k:Nat):Int)+1)).toNat<((s.length:Int) - ((a+k:Nat):Int)).toNat by omega)⟩):P:=h
theorem m96 {P:Prop} (h:P:=by
 refine Or.inl ⟨InR.i64 oM oM,wN ?_⟩
 refine ⟨⟨rfl,e+1,rfl,oM,oM,az (by have du:Zl ((s.getD e 0).toNat:Int)=true:=h3;simp only [Xz,du,Bool.true_or])⟩,?_⟩
 exact m230):P:=h
theorem m97 {P:Prop} (h:P:=by
 rw [hm,Tg ⟨hb,hc⟩] at h
 refine ⟨L,ts1,rfl,af,wN ?_⟩
 exact h _ _):P:=h
theorem m98 {P:Prop} (h:P:=by
 refine ⟨L,ts,rfl,ho,wN ?_⟩
 exact h _ _):P:=h
theorem m99 {P:Prop} (h:P:=by
 cases r with
 | tmp t=>simp only [pres,YC] at h |-;exact ih (fun vs h=>hK _ h) h
 | cell a t =>
 simp only [pres] at h |-
 obtain ⟨v,h1,h2⟩:=Zfv h
 refine h2 _ ?_
 rw [YC] at h1 |-
 exact ih (fun vs h=>hK _ h) h1):P:=h
theorem m100 {P:Prop} (h:P:=by
 simp only [Zaq,Wl] at k2 |-;dsimp only at k1;omega):P:=h
theorem m101 {P:Prop} (h:P:=by
 have ga:(pk (u.drop i)).1<32:=by rw [sd,xg] at h5;exact h5
 have g1:XL (s.drop a)=.err (1+i):=by rw [<- fh];simp [ZO,an,du,gt,ga]
 have g2:=dk _ g1
 rw [show ((a+(1+i):Nat):Int)=(a:Int)+1+(i:Int) by omega] at g2
 exact g2):P:=h
theorem m102 {P:Prop} (h:P:=by
 refine Or.inl ⟨InR.i64 oM oM,wN ?_⟩
 exact h _ _ _ _ _ _ _ _ _ qt):P:=h
theorem m103 {P:Prop} (h:P:=by
 conv=>whnf
 exact h):P:=h
theorem m104 {P:Prop} (h:P:=by
 rcases x with ⟨v1,ts1⟩ | ⟨r1,e1⟩
 rotate_left
 ·rw [fd] at h;intro a9 d9;(conv=>whnf);exact h _ _
 rw [fd] at h
 intro a1 fj af
 have aj:=af.hi
 obtain ⟨v1a,v1b,v1c,v1d,v1e⟩:=v1
 conv=>whnf
 exact h _ oM af):P:=h
theorem m105 {P:Prop} (h:P:=by
 have gq:i<listed.size:=by rw [hsz];exact hi
 simp [Array.getD,gq]):P:=h
theorem m106 {P:Prop} (h:P:=by
 unfold wpOpIn
 rw [ho]
 dsimp only
 split at az
 ·rename_i hw
  rw [Tg hw]
  exact Oper.wpIn_mono (fun a w h=>next a w (hK a w h)) az
 rename_i hw
 rw [Tc hw]
 exact ⟨fun _ _=>trivial,next _ _ (hK _ _ az)⟩):P:=h
theorem m107 {P:Prop} (h:P:=by
 conv=>whnf
 exact h _ oM oM):P:=h
theorem m108 {P:Prop} (h:P:=by
 cases ge with
 | ptr _ _ _ =>
 refine Calls.mono (Zhe (e.β 0) w (by simp [World.cell?,dl,ka])) fun en w' ⟨h1,h2⟩=>?_
 rw [h2]
 exact ⟨h1,.tuple [] #[] rfl (fun i x u hx=>by simp at hx),hS,Later.refl _ _ _⟩):P:=h
theorem m109 {P:Prop} (h:P:=by
 have uc:σ.bx[k]?=some y:=by
  simp only [St.set] at hy
  rwa [List.getElem?_set_ne (fun h=>qz h.symm)] at hy
 have hkl:=(Tj.1 uc).1
 exact (hS.box k y uc).step hst (f7 _ (fun h=>qz (hS.inj k b hkl cu h)))):P:=h
theorem m110 {P:Prop} (h:P:=by
 cases hy
 obtain ⟨q1,q2⟩:=h3 0 p u rfl hu
 refine ⟨?_,q2⟩
 rcases hp with rfl | rfl
 ·cases q1 with
  | d _ _ hd=>exact .d _ _ (hd.later hL)
 cases q1 with
 | ptr b o hb=>exact .ptr 0 0 sM):P:=h
theorem m111 {P:Prop} (h:P:=by
 split at h
 ·rename_i ht
  exact ⟨_,_,as++[some t],by simpa using h,⟨[some t],rfl⟩,hI.add ((Y7 _ _).1 ht),.sl t el rows _ sM⟩
 exact ⟨_,tk,as,h,⟨[],sM⟩,hI,.cl (.sl t el rows) rfl⟩):P:=h
theorem m112 {P:Prop} (h:P:=by
 exact Xe (F:=fun S=>S) (fun e=>rfl) fun v ts=>rfl):P:=h
theorem m113 {P:Prop} (h:P:=by
 simp only [Tb,Td,Tf];omega):P:=h
theorem m114 {P:Prop} (h:P:=by
 simp only [Sem.run_bind,newRow,run_newObj,Result.andThen,Sem.run_pure]
 rfl):P:=h
theorem m115 {P:Prop} (h:P:=by
 show LeavesIn _ _ _ _ _ _ _ _ _
 rw [fy]
 refine go _ sM ((hd.ret _ _ _ hq _ _ _ _ h1 zn).mono fun en u2 w2 hh=>?_)
 obtain ⟨rfl,⟨r,rfl⟩,σ2,e2,hK,ce,la⟩:=hh
 exact after ce la hK):P:=h
theorem m116 {P:Prop} (h:P:=by
 rw [np,R.bind_err] at h;intro a9 d9;(conv=>whnf);exact h _ _):P:=h
theorem m117 {P:Prop} (h:P:=by
 obtain ⟨cb,h1,h2,h3⟩:=Zis h
 refine ⟨_,h1,by simp [h2],fun j b' hj=>?_⟩
 cases j with
 | zero=>simp at hj;subst hj;exact ⟨_,hb,rfl⟩
 | succ j=>exact h3 j b' (by simpa using hj)):P:=h
theorem m118 {P:Prop} (h:P:=by
 have hd:(s.drop (e+k)).drop (t.fin - (e+k))=s.drop t.fin:=by rw [Tw,show e+k+(t.fin - (e+k))=t.fin by omega]
 rw [cd,g1,Tb]
 simp only [hd,Td,Tf,Int.natCast_add,Int.sub_sub,Th,SF,T3]
 rfl):P:=h
theorem m119 {P:Prop} (h:P:=by
 refine Or.inl ⟨InR.i64 oM oM,wN ?_⟩
 exact h _ oM hot):P:=h
theorem m120 {P:Prop} (h:P:=by
 conv=>whnf
 refine ⟨_,rfl,fun d hd=>?_⟩
 subst hd
 conv=>whnf
 exact h _ (by rw [exT];rfl)):P:=h
theorem m121 {P:Prop} (h:P:=by
 conv=>whnf
 refine Or.inl ⟨InR.i64 oM oM,wN ?_⟩
 refine ⟨⟨i+1,_,rfl,rfl,oM,oM,oM⟩,?_⟩
 show ((p5.length:Nat) - ((i:Int)+1)).toNat<((p5.length:Nat) - (i:Int)).toNat
 omega):P:=h
theorem m122 {P:Prop} (h:P:=by
 refine ⟨⟨false,_,_,f,_,rfl,?_,.inr rfl,⟨g3,oM,?_⟩,g1.symm⟩,?_⟩
 ·rw [Yx];rfl
 ·rw [Tb];omega
 exact m247):P:=h
theorem m123 {P:Prop} (h:P:=by
 subst h0
 cases hk:(T.get t).kind <;> rw [hk] at bh <;> first | (cases bh;done) | (exact ir hk) | (obtain ⟨_,h1,_⟩:=bh;cases h1;done) | (obtain ⟨_,_,_,h1⟩:=bh;cases h1;done)):P:=h
theorem m124 {P:Prop} (h:P:=by
 (try (refine ⟨rfl,?_⟩;conv=>whnf))
 (try (refine ⟨rfl,?_⟩;conv=>whnf))
 have g2:=dj _ _ g1
 rw [show ((a+(1+i+1):Nat):Int)=(a:Int)+1+(i:Int)+1 by omega] at g2
 exact g2):P:=h
theorem m125 {P:Prop} (h:P:=by
 obtain ⟨h4,h5,hK⟩:=h
 refine ⟨_,hK,fun K' h'=>?_⟩
 simp only [qop,hi,hk,hx]
 cases iq:(T.get el).kind
 case other=>exact absurd iq ho
 all_goals exact ⟨h4,h5,h'⟩):P:=h
theorem m126 {P:Prop} (h:P:=by
 have he:=hr.eq
 simp only [tz] at he
 rw [<- he,<- List.map_drop,Tw,show a.toNat+n=(a+n).toNat by omega,TS ah,TN,<- List.map_drop,Tw,show (a+n).toNat+1=a.toNat+(n+1) by omega]):P:=h
theorem m127 {P:Prop} (h:P:=by
 subst aa
 rw [Sa] at ha
 conv=>whnf
 exact h _ ha):P:=h
theorem m128 {P:Prop} (h:P:=by
 rw [gf,R.bind_ok] at h
 intro a3 i9 ai
 have f6:=ai.hi
 conv=>whnf
 exact h _ oM ai):P:=h
theorem m129 {P:Prop} (h:P:=by
 intro a2 dp2 w2 pl2 ac
 conv=>whnf
 exact h _ _ _ _ _ _ _ _ _ ac):P:=h
theorem m130 {P:Prop} (h:P:=by
 have:(Array.replicate ops.size false).getD k false=false:=by simp [Array.getD]
 rw [this]
 simp only [To,false_iff]
 obtain ⟨p,hp,he⟩:=kr k hk
 exact fun hh=>hh p hp he):P:=h
theorem m131 {P:Prop} (h:P:=by
 have jd:¬a2<l.length:=by have jd:¬a2<((Zy l).length:Int):=jd;rw [ZG] at jd;exact jd
 obtain rfl:ts2=[]:=TB oM
 conv=>whnf
 refine ⟨Ta rfl,wN ?_⟩
 exact h):P:=h
theorem m132 {P:Prop} (h:P:=by
 rw [Ze] at hr
 simp only [TN,TQ,Tv,Sq,or_false] at hr
 rcases hr with rfl | rfl <;> rfl):P:=h
theorem m133 {P:Prop} (h:P:=by
 rw [Tc sM] at eg
 obtain ⟨S4,ef⟩:∃x,SS.ok d3 ts3=x:=⟨_,rfl⟩
 rw [ef] at eg av):P:=h
theorem m134 {P:Prop} (h:P:=by
 repeat' ((conv=>whnf);refine ZBC (fun hc=>?_) (fun hc=>?_))
 all_goals (conv=>whnf)
 all_goals exact h _ _ (by rw [Wn,Tc hn];simp [*]) (by rw [Wn,Tc hn];simp [*])):P:=h
theorem m135 {P:Prop} (h:P:=by
 intro b off u hu
 by_cases hbg:b=g
 ·subst hbg
  simp only [World.cell?,rn,g6] at hu |-
  exact hu
 simpa [World.cell?,Uz w g l.length b hbg] using hu):P:=h
theorem m136 {P:Prop} (h:P:=by
 refine ⟨_,ρ' x,h,hx,?_⟩
 cases hv:ρ' x <;> rw [hv] at hx <;> cases hx
 simp [ho,hv]):P:=h
theorem m137 {P:Prop} (h:P:=by
 conv=>whnf
 (repeat (first | (refine ZBC (fun g=>absurd g oM) (fun _=>?_);conv=>whnf) | (refine ZBC (fun _=>?_) (fun g=>(g oM).elim);conv=>whnf)))
 exact h):P:=h
theorem m138 {P:Prop} (h:P:=by
 obtain ⟨q1,q2,cs2,ty2,fz2,q3⟩:=hS.own t' ht p hp
 refine ⟨q1,fun i hi=>q2 i (by rw [gk] at hi;exact hi),cs2,ty2,fz2,(f7 _ (fun h=>q2 b cu h.symm)).trans q3⟩):P:=h
theorem m139 {P:Prop} (h:P:=by
 cases hE:XJ o.op with
 | true=>simp only [hE] at hk |-;rw [chkL_iff] at hk |-;exact ⟨hk.1,hK _ _ _ hk.2⟩
 | false=>simp only [hE] at hk |-;exact hK _ _ _ hk):P:=h
theorem m140 {P:Prop} (h:P:=by
 by_cases gj:∃m',m'<m/\Mu a1 w1 m'
 ·obtain ⟨m',h1,h2⟩:=gj;exact ihm m' h1 h2
 exact ⟨m,hm,fun m' zg=>Nat.le_of_not_lt fun ah=>gj ⟨m',ah,zg⟩⟩):P:=h
theorem m141 {P:Prop} (h:P:=by
 have h1:args.toList.map ρ=args.toList.map ρ':=Su fun x hx=>hρ x (by simp only [Op.operands,Call.operands,Array.empty_append];exact TP.2 hx)
 rw [<- h1];exact h):P:=h
theorem m142 {P:Prop} (h:P:=by
 unfold execOp
 simp only [ho,Sem.run_bind]
 rw [show (Array.map (fun x=>match x with | (i,x)=>(i,ρ' x)) ps)=(ps.map fun p=>(p.1,ρ' p.2)) from rfl,am]
 rfl):P:=h
theorem m143 {P:Prop} (h:P:=by
 rw [Tc (fun g=>t0 ((il dM).1 g).2),Tc (fun g=>t1 ((il dM).1 g).2),Tc (fun g=>t2 ((il dM).1 g).2),Tc (fun g=>t3 ((il dM).1 g).2),Tc (fun g=>t4 ((il dM).1 g).2)]):P:=h
theorem m144 {P:Prop} (h:P:=by
 rw [Tc (fun g=>t0 ((il dM).1 g).2),Tc (fun g=>t1 ((il dM).1 g).2),Tc (fun g=>t2 ((il dM).1 g).2),Tc (fun g=>t3 ((il dM).1 g).2),Tg ((il dM).2 ⟨ir,t4⟩)]):P:=h
theorem m145 {P:Prop} (h:P:=by
 simp only [St.set,List.getElem?_set_self cu] at hy
 exact (Option.some.inj hy).symm):P:=h
theorem m146 {P:Prop} (h:P:=by
 have b3:=UZ (n:=n) (k:=34) oM oM h3
 have b4:=UZ (n:=n) (k:=92) oM oM h4
 simp only [Sm,Ss,T8,T9,beq_eq_false_iff_ne]
 exact ⟨b1,b2,b3,b4⟩):P:=h
theorem m147 {P:Prop} (h:P:=by
 conv=>whnf
 refine ⟨L,_,rfl,af,150,rfl,oM,?_⟩
 intro a2 dp2 w2 pl2 ac
 conv=>whnf
 exact h _ _ _ _ _ _ (fun ⟨_,_,g⟩=>by cases g) _ _ _ _ ac):P:=h
theorem m148 {P:Prop} (h:P:=by
 have hk:k<l.length:=(Tj.1 hy).1
 rw [Array.getElem?_extract] at hu
 split at hu
 ·exact hr (off+k) y u (by rw [(hb k hk).2];exact hy) hu
 cases hu):P:=h
theorem m149 {P:Prop} (h:P:=by
 rcases TZ.1 hy with hy | hy
 ·exact hj y (by simp [hy])
 rcases Tv.1 hy with rfl | hy
 ·exact fun e=>hji e.symm
 exact hj y (by simp [hy])):P:=h
theorem m150 {P:Prop} (h:P:=by
 obtain ⟨i,mc,hiu⟩:=Array.getElem_of_mem hu
 have ah:i<cs'.length:=by rw [<- om];exact mc
 exact (qg i _ u (Ti ah) (by rw [TF mc,hiu])).2):P:=h
theorem m151 {P:Prop} (h:P:=by
 exact Zdk (fun vs s hh=>⟨hh.1,fun vs σ1 hI=>ih (fun e f σ h=>by cases e with | normal=>exact h | _=>exact hQ _ _ _ h) (hh.2 vs σ1 hI)⟩) h):P:=h
theorem m152 {P:Prop} (h:P:=by
 exact h _ (by simp [Z6,mr])):P:=h
theorem m153 {P:Prop} (h:P:=by
 refine ⟨⟨out',i+2,f,?_,rfl,e2,e3⟩,(show ((s.length:Int) - ((i:Int)+2)).toNat<((s.length:Int) - (i:Int)).toNat by omega)⟩
 rw [<- e1];rfl):P:=h
theorem m154 {P:Prop} (h:P:=by
 rw [Int.min_eq_right oM,List.take_of_length_le hD,List.take_of_length_le hD];rfl):P:=h
theorem m155 {P:Prop} (h:P:=by
 obtain ⟨l,t1,h1,e⟩:=ZBG e
 obtain ⟨t2,h2,h3,h4⟩:=XV h1
 cases e
 have:=h _ _ _ h2
 simp only [UJ,szS] at *;omega):P:=h
theorem m156 {P:Prop} (h:P:=by
 rw [<- wb,W3,Tp] at this
 exact ⟨fun g=>this.1 oM,fun g=>this.2.1 oM,fun g=>⟨by have:=(this.2.2 g).1;omega,(this.2.2 g).2⟩⟩):P:=h
theorem m157 {P:Prop} (h:P:=by
 refine ZBC (fun h6=>wN ?_) (fun h6=>wN ?_)
 ·refine ZBC (fun h7=>absurd ⟨h6,h7⟩ k3) (fun h7=>wN ?_)
  exact h
 exact h):P:=h
theorem m158 {P:Prop} (h:P:=by
 rcases Tv.1 i7 with rfl | i7
 ·exact fun e=>h1.2 e.symm
 exact fun e=>(List.rel_of_pairwise_cons hp i7).2.1 ed (TP.1 jp) hb e.symm):P:=h
theorem m159 {P:Prop} (h:P:=by
 rename_i h1 h2
 obtain ⟨v,g1,g2⟩:=Ur h
 exact ⟨_,g1,fun K' h'=>by simp only [Xp,h1,h2];exact g2 (fun r=>K' _) h'⟩):P:=h
theorem m160 {P:Prop} (h:P:=by
 obtain ⟨f,rfl,hf,hf0⟩:=ho.w1 hw
 conv=>whnf
 exact h _ rfl _ _ _ _ ho):P:=h
theorem m161 {P:Prop} (h:P:=by
 split at h
 ·cases h
 cases h;exact absurd hk sM):P:=h
theorem m162 {P:Prop} (h:P:=by
 subst h3
 exact ⟨.ret .undef,σ,e,hK,⟨_,rfl,.undef _⟩,hS.grow (ZBJ h4),((ZBJ h4).stepped e σ).toLater⟩):P:=h
theorem m163 {P:Prop} (h:P:=by
 have cq:¬i<l.length:=fun g=>h2 (by simpa using g)
 have hil:i=l.length:=oM
 rw [hil,TJ] at hNN
 rw [hNN] at lb
 exact lb oM):P:=h
theorem m164 {P:Prop} (h:P:=by
 rw [show (Array.map (fun x=>match x with | (i,x)=>(i,ρ' x)) ps).toList=(ps.map fun p=>(p.1,ρ' p.2)).toList from rfl,ou]
 rfl):P:=h
theorem m165 {P:Prop} (h:P:=by
 rw [n8,R.bind_err,R.bind_err] at h;intro a9 d9;(conv=>whnf);exact h _ _):P:=h
theorem m166 {P:Prop} (h:P:=by
 rw [show off+k=off+rows.length * (T.get el).size+(k - olds.length) by rw [<- af.len];omega,this]
 rw [Ti xa] at hk
 exact hk):P:=h
theorem m167 {P:Prop} (h:P:=by
 have oe:G.P.info? f.type=some j:=by rw [ht];exact hj
 have:j.size≠0:=oM
 simp [fieldPlace,ZF oe,this,Ym,dw]):P:=h
theorem m168 {P:Prop} (h:P:=by
 simp only [Int.natCast_add] at h
 exact h):P:=h
theorem m169 {P:Prop} (h:P:=by
 rw [Tc (fun g=>t0 ((il dM).1 g).2),Tc (fun g=>t1 ((il dM).1 g).2),Tc (fun g=>t2 ((il dM).1 g).2),Tg ((il dM).2 ⟨ir,t3⟩)]):P:=h
theorem m170 {P:Prop} (h:P:=by
 apply Classical.byContradiction
 intro i6
 have:=(eu i ah).2 (fun p hp e=>i6 ⟨p,hp,e⟩)
 rw [h1] at this;cases this):P:=h
theorem m171 {P:Prop} (h:P:=by
 refine ⟨sO,wN ?_⟩
 (repeat (first | (refine ⟨_,dM,rfl,?_⟩;conv=>whnf) | (refine ⟨rfl,?_⟩;conv=>whnf)))
 exact h):P:=h
theorem m172 {P:Prop} (h:P:=by
 rw [Tc (by rw [ja];simp)] at h
 exact h _ oM dw):P:=h
theorem m173 {P:Prop} (h:P:=by
 refine ⟨fun g=>wN ?_,fun g=>wN ?_⟩
 ·rw [Vn,Tg oM] at hb
  exact hb
 rw [Vn,Tc oM] at hb
 exact hb):P:=h
theorem m174 {P:Prop} (h:P:=by
 exact ⟨⟨rfl,x,rfl,⟨g1,g2⟩,g3⟩,(show ((s.length:Int) - (x:Int)).toNat<((s.length:Int) - (e:Int)).toNat by omega)⟩):P:=h
theorem m175 {P:Prop} (h:P:=by
 cases e;simp only [UJ,szS];omega):P:=h
theorem m176 {P:Prop} (h:P:=by
 (repeat' split at h) <;> first
  | exact h.elim
  | (refine ⟨_,h,fun K' h'=>?_⟩;unfold ZgE;rw [hx];simp only [*])):P:=h
theorem m177 {P:Prop} (h:P:=by
 obtain ⟨pv',σ2,e2,hK,_,ce,ni⟩:=Va h1 h3 hk hvr hlv
 exact ⟨r,hr,rfl,⟨r,rfl⟩,σ2,e2,hK,ce,ni⟩):P:=h
theorem m178 {P:Prop} (h:P:=by
 simp only [show IntKind.i64.bits=64 from rfl,show IntKind.i64.signed=true from rfl,Tt]
 split <;> simp at * <;> omega):P:=h
theorem m179 {P:Prop} (h:P:=by
 rw [gf,R.bind_ok] at h
 intro a3 i9 ai
 have f6:=ai.hi
 conv=>whnf
 rw [<- Ze]
 exact h _ oM ai):P:=h
theorem m180 {P:Prop} (h:P:=by
 rw [Tc sM] at h
 conv=>whnf
 exact h _ oM dw):P:=h
theorem m181 {P:Prop} (h:P:=by
 rw [hq] at hu
 rw [TA,hq] at hx
 cases hx;cases hu;exact hρ q):P:=h
theorem m182 {P:Prop} (h:P:=by
 have h2:=ub k oM
 rw [Sy,Ti hk] at h2
 have:=(Tj.1 h2).1
 exact ⟨by rw [hsz];exact this,by rw [h2,Ti hk]⟩):P:=h
theorem m183 {P:Prop} (h:P:=by
 injection hv with _ hv;injection hv with kz oq;injection kz with kz;injection kz with _ kz;exact ⟨oM,oq⟩):P:=h
theorem m184 {P:Prop} (h:P:=by
 obtain ⟨k,hk,rfl⟩:=Array.getElem_of_mem hu
 rw [Array.getElem_extract]
 exact h1 _ (Array.getElem_mem _)):P:=h
theorem m185 {P:Prop} (h:P:=by
 obtain ⟨j,hj,rfl⟩:=Sd hu
 have h1:j<l.length:=oM
 exact (fu j l[j] _ (Ti h1) (by rw [<- TA,Ti hj])).2):P:=h
theorem m186 {P:Prop} (h:P:=by
 refine Prod.ext rfl ?_
 simp only [Td];omega):P:=h
theorem m187 {P:Prop} (h:P:=by
 (conv=>whnf);exact h _ (by simp [ZV,mq,h4])):P:=h
theorem m188 {P:Prop} (h:P:=by
 unfold World.freeze;split <;> rfl):P:=h
theorem m189 {P:Prop} (h:P:=by
 rcases TZ.1 hx with hx | hx
 ·exact (qk.2.2 x hx (i,o') sM).1
 exact fun e=>(ia.1 x hx).1 e.symm):P:=h
theorem m190 {P:Prop} (h:P:=by
 conv=>whnf
 exact h _ _ _ _ _ _ _ _ _ _ ai):P:=h
theorem m191 {P:Prop} (h:P:=by
 rcases x with ⟨v6,ts6⟩ | ⟨r6,e6⟩
 rotate_left
 ·rw [rq,R.bind_err] at h;intro a9 d9;(conv=>whnf);exact h _ _
 rw [rq,R.bind_ok] at h
 intro a6 zp jm
 have fb:=jm.hi
 conv=>whnf
 refine ⟨_,fun _ _ h=>h,Ta rfl,wN ?_⟩
 refine ⟨L,ts6,rfl,jm,[[123]],rfl,sM,fun b nq=>?_⟩
 cases b with
 | false =>
  rw [Zu,Tc (by rw [nq];simp),R.bind_err] at h
  conv=>whnf
  refine ⟨L,ts6,rfl,jm,fun x hx=>?_⟩
  rw [ZT,Tc (by rw [nq];simp)] at hx
  subst hx
  intro a9 d9
  conv=>whnf
  exact h _ _
 | true =>
 rw [Zu,Tg nq] at h
 conv=>whnf
 refine ZBC (fun hc=>wN ?_) (fun hc=>wN ?_)
 ·rw [Tg oM,R.bind_err] at h
  refine ⟨L,ts6,rfl,jm,wN ?_⟩
  exact h _ _
 rw [Tc oM] at h
 refine ⟨L,ts6,rfl,jm,fun x hx=>?_⟩
 rw [ZT,Tg nq] at hx
 subst hx
 intro a7 z4 fk
 have hb7:=fk.hi
 conv=>whnf
 refine Or.inl ⟨InR.i64 oM oM,wN ?_⟩
 refine ⟨_,fun _ _ h=>h,Ta rfl,wN ?_⟩
 refine ⟨L,ts6.tail,rfl,fk,⟨oM,oM,oM⟩,fun x xm=>?_⟩
 rcases x with ⟨v8,ts8⟩ | ⟨r8,e8⟩
 rotate_left
 ·rw [xm,R.bind_err] at h;intro a9 d9;(conv=>whnf);exact h _ _
 rw [xm,R.bind_ok] at h
 intro a8 ael mt
 have hb8:=mt.hi
 conv=>whnf
 rw [Tc sM] at h
 refine ⟨L,ts8,rfl,mt,fun x hx9=>?_⟩
 rcases x with ⟨v9,ts9⟩ | ⟨r9,e9⟩
 rotate_left
 ·rw [hx9,R.bind_err,R.bind_err] at h;intro a9 d9;(conv=>whnf);exact h _ _
 rw [hx9,R.bind_ok,R.bind_ok] at h
 intro a9 aem iw
 have ta:=iw.hi
 conv=>whnf
 refine Or.inl ⟨InR.i64 oM oM,wN ?_⟩
 rw [T1]
 rw [<- Zr]
 exact h _ oM iw):P:=h
theorem m192 {P:Prop} (h:P:=by
 refine ⟨oM,fun c0 gi=>?_⟩
 cases c0 with
 | false =>
  have hL:ZX op rel ar.length bo.length=false:=by unfold ZX;rw [Tg oM,gi];rfl
  conv=>whnf
  exact m82
 | true =>
 conv=>whnf
 refine ZBE (fun q3=>wN ?_) (fun q3=>wN ?_)
 ·have q3:¬bo.length=0:=by have q3:¬((XQ pl bo).length:Int)=0:=q3;rw [lr] at q3;omega
  have hL:ZX op rel ar.length bo.length=false:=by unfold ZX;rw [Tg oM,gi,TC (show 0<bo.length by omega)];rfl
  exact m82
 have q3:bo.length=0:=by have q3:((XQ pl bo).length:Int)=0:=q3;rw [lr] at q3;omega
 have hL:ZX op rel ar.length bo.length=true:=by unfold ZX;rw [Tg oM,gi,decide_eq_false (show ¬0<bo.length by omega)];rfl
 exact m7):P:=h
theorem m193 {P:Prop} (h:P:=by
 refine ⟨pl,a3,Ze _ _,⟨rfl,oM,oM⟩,fun b hb=>?_⟩
 cases b with
 | false =>
  conv=>whnf
  exact h _ (by simp [ZY,Zo,hb])
 | true =>
 conv=>whnf
 refine ⟨oM,pl,a4,Zr _ _,⟨rfl,oM,oM⟩,fun b bp=>wN ?_⟩
 exact h _ (by simp [ZY,Zo,Z4,kj,hb,bp])):P:=h
theorem m194 {P:Prop} (h:P:=by
 clear two no2
 have three:(nn=0\/op=3)->∀b,(Z7 op tx && xs.all ZV)=b->K (.ret (.d (.bool b))) ⟨[],[],0⟩:=fun g b hb=>h b (by
  have e2:(decide (nn=0) || decide (op=3))=true:=by simpa using g
  rw [e2,Tt];exact hb)
 have no3:¬nn=0->¬op=3->K (.ret (.d (.bool false))) ⟨[],[],0⟩:=fun g1 g2=>h _ (by rw [decide_eq_false g1,decide_eq_false g2];rfl)
 clear h
 refine ZBE (fun h4=>wN ?_) (fun h4=>wN ?_)
 ·refine ZBE (fun h5=>wN ?_) (fun h5=>wN ?_)
  ·exact no3 h5 oM
  have h:=three (.inl h5)
  exact m4
 have h:=three (.inr oM)
 exact m4):P:=h
theorem m195 {P:Prop} (h:P:=by
 refine ⟨fun _=>0,a2,rfl,⟨by simp only [wBs];omega,oM⟩,fun b au=>?_⟩
 cases b with
 | false =>
  have kj:ZX a1 a2 a3.length a4.length=false:=by simp [ZX,im,au]
  conv=>whnf
  conv=>whnf
  exact m71
 | true =>
 conv=>whnf
 refine ZBE (fun hB=>wN ?_) (fun hB=>wN ?_)
 ·have hB:¬0<a4.length:=fun g=>hB (tn.2 g)
  have kj:ZX a1 a2 a3.length a4.length=true:=by simp only [ZX,im,au,decide_eq_false hB];simp
  exact m16
 have hB:=tn.1 hB
 have kj:ZX a1 a2 a3.length a4.length=false:=by simp [ZX,im,hB]
 exact m71):P:=h
theorem m196 {P:Prop} (h:P:=by
 refine ⟨pl,ar,Ze pl ar,⟨oM,oM⟩,fun c1 dl=>?_⟩
 cases c1 with
 | false =>
  conv=>whnf
  exact no (by rw [ZY,Zo,hL,dl];rfl)
 | true =>
 conv=>whnf
 refine ⟨oM,pl,bo,Zr pl bo,⟨oM,oM⟩,fun c2 fu=>?_⟩
 cases c2 with
 | false =>
  conv=>whnf
  exact no (by rw [ZY,Zo,Z4,hL,dl,fu];rfl)
 | true =>
 have ha:=go (by rw [ZY,Zo,Z4,hL,dl,fu];rfl)
 exact m253):P:=h
theorem m197 {P:Prop} (h:P:=by
 rw [show 5 - 0=5 from rfl] at ef
 rw [ef] at az
 intro eo es em er ep a4 dp4 w4 pl4 av
 conv=>whnf
 refine ⟨Tl.2 rfl,(show (rows.length+1) * 64<=2 ^ 47 by omega),(show rows.length+1<=2 ^ 47 by omega),wN ?_⟩
 (repeat (refine ⟨rfl,?_⟩;conv=>whnf))
 refine Or.inl ⟨InR.i64 oM oM,wN ?_⟩
 refine ⟨⟨i+1,_,a4,dp4,w4,pl4,S4,rfl,(by rw [Tb];show rows.length+1<=i+1;omega),rfl,av,az⟩,?_⟩
 show ((YN o:Int) - ((i:Int)+1)).toNat<((YN o:Int) - (i:Int)).toNat
 omega):P:=h
theorem m198 {P:Prop} (h:P:=by
 conv=>whnf
 refine Or.inl ⟨InR.i64 oM oM,wN ?_⟩
 refine Or.inl ⟨InR.i64 dM dM,wN ?_⟩
 refine ⟨L,_,rfl,SOK.mk bm rfl bf,4+1,oM,oM,(by rintro d' ts' hq;cases hq;omega),fun S3 cg=>?_⟩
 rw [show 5 - (4+1)=4 - 4 by omega] at cg
 exact m5):P:=h
theorem m199 {P:Prop} (h:P:=by
 conv=>whnf
 refine Or.inl ⟨InR.i64 oM oM,wN ?_⟩
 refine ⟨⟨_,_,_,_,_,.ok d6 ts6.tail,rfl,rfl,SOK.mk bw j6 qs,?_⟩,?_⟩
 ·rw [Tb];exact jt.le io
 obtain ⟨_,_,_,_,_,_,_,ak⟩:=gg
 exact m251):P:=h
theorem m200 {P:Prop} (h:P:=by
 have g5:ZP (s.drop a)=none:=by
  unfold ZP
  simp only [gy,if_true,To,if_false]
  rcases ga with g | g
  ·rw [Tg g]
  by_cases g0:Zf (s.drop a)=[]
  ·rw [Tg g0]
  rw [Tc g0,Tg g]
 conv=>whnf
 refine ⟨⟨oM,oM⟩,wN ?_⟩
 (try (refine ⟨rfl,?_⟩;conv=>whnf))
 (try (refine ⟨rfl,?_⟩;conv=>whnf))
 exact dk g5):P:=h
theorem m201 {P:Prop} (h:P:=by
 conv=>whnf
 refine ZBC (fun ak=>wN ?_) (fun ak=>wN ?_)
 ·(repeat (first | (refine Or.inl ⟨InR.i64 oM oM,?_⟩;conv=>whnf) | (refine ⟨_,oM,ae,?_⟩;conv=>whnf)))
  refine ⟨pl,p3,B,rfl,⟨⟨oM,oM⟩,oM,oM,hB⟩,fun r ge kx=>wN ?_⟩
  unfold bd2 at kx
  refine Or.inl ⟨InR.i64 oM oM,wN ?_⟩
  exact h _ oM oM
 exact h _ oM oM):P:=h
theorem m202 {P:Prop} (h:P:=by
 conv=>whnf
 refine ZBC (fun ak=>wN ?_) (fun ak=>wN ?_)
 ·(repeat (first | (refine Or.inl ⟨InR.i64 oM oM,?_⟩;conv=>whnf) | (refine ⟨_,oM,ae,?_⟩;conv=>whnf)))
  refine ⟨oM,pl,b4,B,Zr _ _,⟨⟨oM,oM⟩,oM,oM,hB⟩,fun r ge kx=>wN ?_⟩
  unfold bd2 at kx
  refine Or.inl ⟨InR.i64 oM oM,wN ?_⟩
  exact m26
 exact m26):P:=h
theorem m203 {P:Prop} (h:P:=by
 refine ZBC (fun h3=>wN ?_) (fun h3=>wN ?_)
 ·exact h _ (by simp [ZV,mq])
 refine ZBC (fun h5=>?_) (fun h5=>?_)
 rotate_left
 ·have h5:¬a1=3:=by omega
  (conv=>whnf);exact h _ (by simp [ZV,h3,h5])
 have h5:a1=3:=oM
 have ke:(decide (a3=0) || decide (a1=3))=true:=by simp [h5]
 conv=>whnf
 exact h _ (by simp [ZV,mq])):P:=h
theorem m204 {P:Prop} (h:P:=by
 conv=>whnf
 refine ZBC (fun ak=>wN ?_) (fun ak=>wN ?_)
 ·(repeat (first | (refine Or.inl ⟨InR.i64 oM oM,?_⟩;conv=>whnf) | (refine ⟨_,oM,ae,?_⟩;conv=>whnf)))
  refine ⟨pl,b4,B,Zr _ _,⟨⟨oM,oM⟩,oM,oM,hB⟩,fun r ge kx=>wN ?_⟩
  unfold bd2 at kx
  refine Or.inl ⟨InR.i64 oM oM,wN ?_⟩
  exact m26
 exact m26):P:=h
theorem m205 {P:Prop} (h:P:=by
 conv=>whnf
 refine ⟨⟨0,_,rfl,rfl,oM,oM,oM⟩,?_⟩
 intro vs σ hI
 obtain ⟨i,nn,rfl,rfl,hi,ek,ik⟩:=hI
 conv=>whnf
 refine ZBC (fun aa=>?_) (fun aa=>?_)
 rotate_left
 ·exact m3
 have aa:i<p6.length:=lzI hl6 aa
 conv=>whnf
 refine ZBC (fun gc=>?_) (fun gc=>?_)
 rotate_left
 ·exact m3
 exact m66):P:=h
theorem m206 {P:Prop} (h:P:=by
 cases b0 with
 | false =>
  conv=>whnf
  exact no au
 | true =>
 have ha:=go (by exact au)
 exact m18):P:=h
theorem m207 {P:Prop} (h:P:=by
 have h5:¬a1=3:=by omega
 (conv=>whnf);exact h _ (by simp [ZV,h3,h5])):P:=h
theorem m208 {P:Prop} (h:P:=by
 conv=>whnf
 (repeat (first | (refine ⟨_,oM,ae,?_⟩;conv=>whnf) | (refine ⟨sO,?_⟩;conv=>whnf) | (refine ⟨rfl,?_⟩;conv=>whnf)))
 refine ⟨oM,pl,.mk u1 u2 u3 u4 u5 u6,rfl,⟨⟨vf,jh⟩,oM,oM⟩,fun t2 i5=>?_⟩
 obtain rfl:t2=Z:=i5.symm.trans hZ
 conv=>whnf
 exact m25):P:=h
theorem m209 {P:Prop} (h:P:=by
 show ((L.length:Int) - a3).toNat<((L.length:Int) - a').toNat
 omega):P:=h
theorem m210 {P:Prop} (h:P:=by
 refine ⟨fun _=>0,a2,rfl,⟨by simp only [wBs];omega,oM⟩,fun b au=>?_⟩
 cases b with
 | false =>
  have mq:Z7 a1 a2=false:=by simp [Z7,im,au]
  conv=>whnf
  exact m14
 | true =>
 have mq:Z7 a1 a2=true:=by simp [Z7,im,au]
 conv=>whnf
 exact m9):P:=h
theorem m211 {P:Prop} (h:P:=by
 have jt:=gg.more fb
 cases S7 with
 | bad e=>cases fb
 | ok d6 ts6 =>
 have fb:isW ts6 [[44]]=true:=fb
 obtain ⟨rfl,mb,j6,qs⟩:=fk
 have bw:=mb.tlq (ZS fb)
 have q1:=bw.lo
 have q2:=bw.hi
 have q3:=bw.len
 have q5:=bw.big
 exact m20):P:=h
theorem m212 {P:Prop} (h:P:=by
 rcases x with ⟨v2,ts2⟩ | ⟨r2,e2⟩
 rotate_left
 ·exact m54
 rw [dt,R.bind_ok] at h
 intro a2 fx ac
 have bp:=ac.hi
 conv=>whnf
 refine ⟨L,ts2,rfl,ac,fun x gf=>?_⟩
 rcases x with ⟨v3,ts3⟩ | ⟨r3,e3⟩
 rotate_left
 ·exact m29
 exact m128):P:=h
theorem m213 {P:Prop} (h:P:=by
 have h6:¬(a4.length:Int)=a:=fun g=>h6 (by show ((Z0 pl a4).length:Int)=a;rw [jv];exact g)
 (conv=>whnf);exact h _ (by simp [ZV,ha,h2,h6])):P:=h
theorem m214 {P:Prop} (h:P:=by
 conv=>whnf
 refine Or.inl ⟨InR.i64 oM oM,wN ?_⟩
 refine Or.inl ⟨InR.i64 dM dM,wN ?_⟩
 refine ⟨L,_,rfl,SOK.mk bm rfl bf,3+1,oM,oM,(by rintro d' ts' hq;cases hq;omega),fun S3 cg=>?_⟩
 rw [show 5 - (3+1)=4 - 3 by omega] at cg
 exact m5):P:=h
theorem m215 {P:Prop} (h:P:=by
 conv=>whnf
 refine Or.inl ⟨InR.i64 oM oM,wN ?_⟩
 refine Or.inl ⟨InR.i64 dM dM,wN ?_⟩
 refine ⟨L,_,rfl,SOK.mk bm rfl bf,2+1,oM,oM,(by rintro d' ts' hq;cases hq;omega),fun S3 cg=>?_⟩
 rw [show 5 - (2+1)=4 - 2 by omega] at cg
 exact m5):P:=h
theorem m216 {P:Prop} (h:P:=by
 conv=>whnf
 refine Or.inl ⟨InR.i64 oM oM,wN ?_⟩
 refine Or.inl ⟨InR.i64 dM dM,wN ?_⟩
 refine ⟨L,_,rfl,SOK.mk bm rfl bf,0+1,oM,oM,(by rintro d' ts' hq;cases hq;omega),fun S3 cg=>?_⟩
 rw [show 5 - (0+1)=4 - 0 by omega] at cg
 exact m5):P:=h
theorem m217 {P:Prop} (h:P:=by
 show ((L.length:Int) - (a2+1)).toNat<((L.length:Int) - a1).toNat
 omega):P:=h
theorem m218 {P:Prop} (h:P:=by
 conv=>whnf
 refine ⟨L,_,rfl,av,fun S4 ef=>?_⟩
 rw [Tg rfl] at eg
 have eg:PRg [44] 32 ZE (fun d=>ZaB d (WJ d)) (n+1) (rows.length+ts3.length) X S4 rows.length:=by rw [<- ef];exact eg
 intro a5 dp5 w5 pl5 cy
 exact m13):P:=h
theorem m219 {P:Prop} (h:P:=by
 rw [gf,R.bind_err] at h;intro a9 d9;(conv=>whnf);exact h _ _):P:=h
theorem m220 {P:Prop} (h:P:=by
 rw [step,R.bind_err] at h
 intro a2 dp2
 conv=>whnf
 exact h _ _):P:=h
theorem m221 {P:Prop} (h:P:=by
 refine ⟨oM,pl,xs,Ze pl xs,⟨oM,oM⟩,fun b2 bp=>wN ?_⟩
 exact h _ bp):P:=h
theorem m222 {P:Prop} (h:P:=by
 subst hx
 intro a9 d9
 conv=>whnf
 exact h _ _):P:=h
theorem m223 {P:Prop} (h:P:=by
 refine Or.inl ⟨InR.i64 dM dM,wN ?_⟩
 refine ⟨B.1,B.2,wN ?_⟩
 refine ⟨dM,dM,wN ?_⟩
 refine ⟨dM,dM,wN ?_⟩
 refine ⟨?_,?_,?_,?_⟩
 rotate_left 3
 ·exact m103
 ·rfl
 rfl):P:=h
theorem m224 {P:Prop} (h:P:=by
 rw [Tg (by rw [Te] at g;omega)] at h
 exact h _ _):P:=h
theorem m225 {P:Prop} (h:P:=by
 have aa:i=xs.length:=lzE dx oM aa
 subst aa
 rw [TJ]
 exact m103):P:=h
theorem m226 {P:Prop} (h:P:=by
 conv=>whnf
 refine Or.inl ⟨InR.i64 oM oM,wN ?_⟩
 refine ⟨⟨i+1,_,rfl,rfl,oM,oM,oM⟩,?_⟩
 show ((p1.length:Nat) - ((i:Int)+1)).toNat<((p1.length:Nat) - (i:Int)).toNat
 omega):P:=h
theorem m227 {P:Prop} (h:P:=by
 rw [Tc sM] at h
 refine ⟨L,ts2,rfl,ac,fun x gf=>?_⟩
 exact m22):P:=h
theorem m228 {P:Prop} (h:P:=by
 rw [<- hee];exact ⟨by have h6':Zi (pk (s.drop ((e:Int)).toNat)).1=false:=h6;rw [h6'];simp,by have zk:Zl (pk (s.drop ((e:Int)).toNat)).1=false:=h7;rw [zk];simp⟩):P:=h
theorem m229 {P:Prop} (h:P:=by
 refine Or.inl ⟨InR.i64 oM oM,wN ?_⟩
 refine ⟨⟨i+1,_,rfl,rfl,oM,oM,oM⟩,?_⟩
 show ((p4.length:Nat) - ((i:Int)+1)).toNat<((p4.length:Nat) - (i:Int)).toNat
 omega):P:=h
theorem m230 {P:Prop} (h:P:=by
 exact (show ((s.length:Int) - ((e:Int)+1)).toNat<((s.length:Int) - (e:Int)).toNat by omega)):P:=h
theorem m231 {P:Prop} (h:P:=by
 exact (show ((l.length:Int) - ((i:Int)+1)).toNat<((l.length:Int) - (i:Int)).toNat by omega)):P:=h
theorem m232 {P:Prop} (h:P:=by
 rw [Zu,Tc (by rw [ew];simp)] at h
 exact m39):P:=h
theorem m233 {P:Prop} (h:P:=by
 rw [lw,R.bind_err] at h;intro a9 d9;(conv=>whnf);exact h _ _):P:=h
theorem m234 {P:Prop} (h:P:=by
 (try (refine ⟨rfl,?_⟩;conv=>whnf))
 (try (refine ⟨rfl,?_⟩;conv=>whnf))
 exact dk (by rw [g6,Tg (.inr (.inl (by rw [<- hee];exact h7)))])):P:=h
theorem m235 {P:Prop} (h:P:=by
 (try (refine ⟨rfl,?_⟩;conv=>whnf))
 (try (refine ⟨rfl,?_⟩;conv=>whnf))
 exact dk (by rw [g6,Tg (.inl (by rw [<- hee];exact h6))])):P:=h
theorem m236 {P:Prop} (h:P:=by
 exact h _ (by simp [ZY,kj])):P:=h
theorem m237 {P:Prop} (h:P:=by
 conv=>whnf
 refine ⟨oM,pl,a4,Ze _ _,⟨rfl,oM,oM⟩,fun b hb=>wN ?_⟩
 exact h _ (by simp [ZV,Zo,ha,mq,hb,h1,h6,ke])):P:=h
theorem m238 {P:Prop} (h:P:=by
 conv=>whnf
 refine ⟨oM,pl,a4,Ze _ _,⟨rfl,oM,oM⟩,fun b hb=>wN ?_⟩
 exact h _ (by simp [ZV,Zo,ha,mq,hb,h1,h2,ke])):P:=h
theorem m239 {P:Prop} (h:P:=by
 refine ⟨dM,wN ?_⟩
 refine Or.inr (wN ?_)
 refine ⟨dM,wN ?_⟩
 refine Or.inr (wN ?_)
 refine Or.inr (wN ?_)
 exact m72):P:=h
theorem m240 {P:Prop} (h:P:=by
 refine ⟨⟨i+1,_,rfl,rfl,oM,oM,oM⟩,?_⟩
 show ((l.length:Nat) - ((i:Int)+1)).toNat<((l.length:Nat) - (i:Int)).toNat
 omega):P:=h
theorem m241 {P:Prop} (h:P:=by
 refine Or.inr (wN ?_)
 refine ZBC (fun h8=>wN ?_) (fun h8=>?_)
 ·exact s8 oM
 exfalso;exact h8 (by rw [hw];omega)):P:=h
theorem m242 {P:Prop} (h:P:=by
 refine Or.inl ⟨InR.i64 tN tN,wN ?_⟩
 exact m45):P:=h
theorem m243 {P:Prop} (h:P:=by
 show ((B:Nat) - ((j:Int)+1)).toNat<((B:Nat) - (j:Int)).toNat
 omega):P:=h
theorem m244 {P:Prop} (h:P:=by
 refine ⟨oM,pl,a4,Ze _ _,⟨rfl,oM,oM⟩,fun b hb=>wN ?_⟩
 exact h _ (by simp [ZV,Zo,ha,mq,hb,h1,h6,h3])):P:=h
theorem m245 {P:Prop} (h:P:=by
 refine ⟨oM,pl,a4,Ze _ _,⟨rfl,oM,oM⟩,fun b hb=>wN ?_⟩
 exact h _ (by simp [ZV,Zo,ha,mq,hb,h1,h2,h3])):P:=h
theorem m246 {P:Prop} (h:P:=by
 simp only [IntKind.wrap,show IntKind.u64.bits=64 from rfl,show IntKind.u64.signed=false from rfl,TU,To,if_false]
 omega):P:=h
theorem m247 {P:Prop} (h:P:=by
 exact (show u.length - (i+(decodeL u i).2)<u.length - i by omega)):P:=h
theorem m248 {P:Prop} (h:P:=by
 have h1:¬-2<a:=h1;(conv=>whnf);exact h _ (by simp [ZV,ha,h1])):P:=h
theorem m249 {P:Prop} (h:P:=by
 exact (show ((s.length:Int) - ((i:Int)+((pk (s.drop i)).2:Int))).toNat<((s.length:Int) - (i:Int)).toNat by omega)):P:=h
theorem m250 {P:Prop} (h:P:=by
 rw [dt,R.bind_err] at h;intro a9 d9;(conv=>whnf);exact h _ _):P:=h
theorem m251 {P:Prop} (h:P:=by
 show (if (0:Int)=0 then ((L.length:Int) - (a7+1)).toNat+1 else 0)<(if w3=0 then ((L.length:Int) - a3).toNat+1 else 0)
 rw [Tg rfl,Tg hw]
 have q4:=mb.len
 omega):P:=h
theorem m252 {P:Prop} (h:P:=by
 rw [hT] at h
 cases b with
 | false =>
  conv=>whnf
  exact h _ rfl
 | true =>
 rw [Tt] at h
 conv=>whnf
 exact m221):P:=h
theorem m253 {P:Prop} (h:P:=by
 conv=>whnf
 refine Or.inl ⟨InR.i64 oM oM,wN ?_⟩
 refine ⟨⟨i+1,rfl,rfl,oM,ha⟩,?_⟩
 exact lzM oM):P:=h
theorem m254 {P:Prop} (h:P:=by
 have kj:ZX a1 a2 a3.length a4.length=false:=by simp only [ZX,kv,qd,hn9,wv,if_false]
 exact m236):P:=h
theorem m255 {P:Prop} (h:P:=by
 conv=>whnf
 refine ⟨L,ts,rfl,ho,fun x hx=>?_⟩
 rw [ZT,Tc (by rw [ew];simp)] at hx
 exact m222):P:=h
end

section
namespace Go.PM
theorem wN {P Q:Prop} (k:Q) (h:Q->P:=by intro k;(conv=>whnf);exact k):P:=h k
theorem oM {P:Prop} (h:P:=by omega):P:=h
theorem sM {P:Prop} (h:P:=by simp):P:=h
theorem dM {P:Prop} (h:P:=by decide):P:=h
theorem iM {P:Prop} (h:P:=by first | exact .inl rfl | exact .inr rfl):P:=h
theorem sO {P:Prop} (h:P:=by simp;omega):P:=h
theorem hD {P:Prop} (h:P:=by rw [Tp];omega):P:=h
theorem tN {P:Prop} (h:P:=by simp only [Tu];omega):P:=h
theorem oP {P:Prop} (h:P:=by simp [Op.operands]):P:=h
theorem zN {P:Prop} (h:P:=by simp only [T2,TQ,List.flatten_nil,TT];rfl):P:=h
inductive D where
 | bool (b:Bool) | int (k:IntKind) (n:Int) | str (s:List UInt8) | sl (rows:List (List D)) | nilp | nilf | nili
 deriving Inhabited
inductive PV where
 | d (x:D) | undef | ptr (b off:Nat) | elem (r:List D) (off:Nat) | sl (tok e:Nat) (rows:List (List D)) | nils (e:Nat) | asl (b off n:Nat)
 | func (f:FuncId) (first caps:List PV) | iface (t:TypeId) (v:PV) | agg (cs:List PV) | tuple (vs:List PV) | raw (v:Value)
 deriving Inhabited
inductive Box where
 | cells (t:TypeId) (cs:List PV) | iter (s:List UInt8) (pos:Nat) | loop (st:LoopState) (pd:Option Code) (r:Loop)
 deriving Inhabited
structure St where
 bx:List Box
 tk:List Nat
 nx:Nat
inductive TK where
 | other | int (k:IntKind) | bool | string | ptr (e:Nat) | slice (e:Nat) | array (n e:Nat) | struct (fs:List (Nat×Nat)) | func | iface
structure TI where
 size:Nat
 bytes:Nat
 kind:TK
 zero:List PV
 eqok:Bool
def TI.no:TI:=⟨0,0,.other,[],false⟩
inductive Tab where
 | leaf | node (l:Tab) (k:Nat) (v:TI) (r:Tab)
def Tab.get:Tab->Nat->TI
 | .leaf,_=>TI.no
 | .node l k v r,n=>match Nat.beq n k with
  | true=>v
  | false=>match Nat.ble n k with
   | true=>l.get n
   | false=>r.get n
def TK.isAgg:TK->Bool | .array _ _ | .struct _=>true | _=>false
abbrev Frame:=Nat->PV
def JH (f:Frame) (i:Nat) (v:PV):Frame:=fun n=>match Nat.beq i n with
 | true=>v
 | false=>f n
def Zcz:Value->PV
 | .bool b=>.d (.bool b)
 | .int k n=>.d (.int k n)
 | .string s=>.d (.str s.data.toList)
 | .pointer none=>.d .nilp
 | .slice none 0 0=>.nils 0
 | .nilFunc=>.d .nilf
 | .nilIface=>.d .nili
 | v=>.raw v
def Zy9:Value->Bool
 | .agg _=>false
 | .tuple _=>false
 | _=>true
def Zh7:Value->PV
 | .agg cs=>match cs.toList.all Zy9 with | true=>.agg (cs.toList.map Zcz) | false=>.raw (.agg cs)
 | v=>Zcz v
def ev (f:Frame):Operand->PV
 | .tmp t=>f t
 | .const v=>Zh7 v
 | .global _=>.undef
 | .func g=>.func g [] []
def CondP:Bool->Prop->Prop->Prop
 | true,X,_=>X
 | false,_,Y=>Y
def Xi:Nat->(Nat->Prop)->Prop
 | 0,K=>K 0
 | n+1,K=>Xi n fun m=>K (m+1)
def Zmq (v:PV) (K:PV->Prop):Prop:=match v with
 | .d x=>K (.d x) | .undef=>K .undef | .ptr b off=>Xi b fun b=>Xi off fun off=>K (.ptr b off) | .elem r off=>Xi off fun off=>K (.elem r off) | .sl t z r=>Xi t fun t=>K (.sl t z r) | .nils z=>K (.nils z)
 | .asl b off n=>Xi b fun b=>Xi off fun off=>K (.asl b off n) | .func f a c=>K (.func f a c) | .iface t v=>K (.iface t v) | .agg cs=>K (.agg cs) | .tuple vs=>K (.tuple vs) | .raw v=>K (.raw v)
def Uj:List PV->(List PV->Prop)->Prop
 | [],K=>K []
 | v::l,K=>Zmq v fun v=>Uj l fun l=>K (v::l)
def Zjo (v:PV) (K:PV->Prop):Prop:=match v with
 | .d x=>K (.d x) | .undef=>K .undef | .ptr b off=>Xi b fun b=>Xi off fun off=>K (.ptr b off) | .elem r off=>Xi off fun off=>K (.elem r off) | .sl t z r=>Xi t fun t=>K (.sl t z r) | .nils z=>K (.nils z)
 | .asl b off n=>Xi b fun b=>Xi off fun off=>K (.asl b off n) | .raw v=>K (.raw v)
 | .func f a c=>Uj a fun a=>Uj c fun c=>K (.func f a c) | .iface t v=>K (.iface t v) | .agg cs=>Uj cs fun cs=>K (.agg cs) | .tuple vs=>K (.tuple vs)
def Zfp:List PV->(List PV->Prop)->Prop
 | [],K=>K []
 | v::l,K=>Zjo v fun v=>Zfp l fun l=>K (v::l)
def J1 (v:PV) (K:PV->Prop):Prop:=match v with
 | .d x=>K (.d x) | .undef=>K .undef | .ptr b off=>Xi b fun b=>Xi off fun off=>K (.ptr b off) | .elem r off=>Xi off fun off=>K (.elem r off) | .sl t z r=>Xi t fun t=>K (.sl t z r) | .nils z=>K (.nils z)
 | .asl b off n=>Xi b fun b=>Xi off fun off=>K (.asl b off n) | .raw v=>K (.raw v)
 | .func f a c=>Uj a fun a=>Uj c fun c=>K (.func f a c) | .iface t v=>Zjo v fun v=>K (.iface t v) | .agg cs=>Uj cs fun cs=>K (.agg cs) | .tuple vs=>Zfp vs fun vs=>K (.tuple vs)
def ZhZ (f:Frame) (d:Option Nat) (v:PV) (K:Frame->Prop):Prop:=match d with
 | some i=>J1 v fun v=>K (JH f i v)
 | none=>K f
theorem ZBF {t:Bool} {X Y:Prop} (h1:t=true->X) (h2:t=false->Y):CondP t X Y:=by cases t;exact h2 rfl;exact h1 rfl
def UK {α:Type}:Nat->List α->Option (List α)
 | 0,_=>some []
 | n+1,x::l=>match UK n l with | some r=>some (x::r) | none=>none
 | _+1,[]=>none
def Z9 {α:Type}:List α->Nat->List α->List α
 | l,_,[]=>l
 | [],_,_=>[]
 | _::l,0,v::vs=>v::Z9 l 0 vs
 | x::l,n+1,vs=>x::Z9 l n vs
def Zh0 (t:Nat):List Nat->Bool
 | []=>false
 | x::l=>match Nat.beq x t with | true=>true | false=>Zh0 t l
def Zaz (t:Nat):List Nat->List Nat
 | []=>[]
 | x::l=>match Nat.beq x t with | true=>Zaz t l | false=>x::Zaz t l
def PV.cells:PV->Option (List PV)
 | .agg cs=>some cs | .undef=>none | .tuple _=>none | .raw (.func f a c)=>some [.raw (.func f a c)] | .raw _=>none | v=>some [v]
def toD:PV->Option D | .d x=>some x | .sl _ _ rows=>some (.sl rows) | .nils _=>some (.sl []) | _=>none
def Zqh:List PV->Option (List D)
 | []=>some []
 | v::l=>match toD v with | some x=>(match Zqh l with | some r=>some (x::r) | none=>none) | none=>none
def keq:IntKind->IntKind->Bool
 | .i8,.i8 | .i16,.i16 | .i32,.i32 | .i64,.i64 | .u8,.u8 | .u16,.u16 | .u32,.u32 | .u64,.u64=>true
 | _,_=>false
def ZcQ (op:BinOp) (k:IntKind) (a b:Int):Int:=match (Op.intBits op k a b:Sem Value) with | .pure (.int _ n)=>n | _=>0
noncomputable def Zm:BinOp->IntKind->Int->Int->Int:=Classical.choose (⟨ZcQ,rfl⟩:∃f,f=ZcQ)
theorem Yz:Zm=ZcQ:=Classical.choose_spec (⟨ZcQ,rfl⟩:∃f,f=ZcQ)
def InR (k:IntKind) (n:Int):Prop:=k.wrap n=n
def ZcR (k:IntKind) (n:Int) (K:PV->Prop):Prop:=(InR k n/\K (.d (.int k n)))\/K (.d (.int k (k.wrap n)))
def Zwv (op:BinOp) (k:IntKind) (a b:Int) (K:PV->Prop):Prop:=match op with
 | .add=>ZcR k (a+b) K | .sub=>ZcR k (a - b) K | .mul=>ZcR k (a * b) K
 | .quo=>b≠0/\ZcR k (a.tdiv b) K | .rem=>b≠0/\K (.d (.int k (a.tmod b)))
 | .and=>K (.d (.int k (Zm .and k a b))) | .or=>K (.d (.int k (Zm .or k a b))) | .xor=>K (.d (.int k (Zm .xor k a b))) | .andNot=>K (.d (.int k (Zm .andNot k a b)))
 | .eql=>K (.d (.bool (decide (a=b)))) | .neq=>K (.d (.bool (!decide (a=b)))) | .lss=>K (.d (.bool (decide (a<b)))) | .leq=>K (.d (.bool (decide (a<=b))))
 | .gtr=>K (.d (.bool (decide (b<a)))) | .geq=>K (.d (.bool (decide (b<=a))))
 | _=>False
def Zsz:Operand->Bool | .const _=>true | _=>false
def Xp (T:Tab):Nat->List (Nat×Nat)->List PV->List PV->(Bool->Prop)->Prop
 | _,[],[],[],K=>K true
 | i,(o,t)::fs,x::xs,y::ys,K=>match Nat.beq o i,(T.get t).kind,x,y with
  | true,.int _,.d (.int k a),.d (.int k' b)=>(match keq k k' with | true=>Xp T (i+1) fs xs ys fun r=>K (decide (a=b) && r) | false=>False)
  | true,.string,.d (.str a),.d (.str b)=>Xp T (i+1) fs xs ys fun r=>K (decide (a=b) && r)
  | true,.bool,.d (.bool a),.d (.bool b)=>Xp T (i+1) fs xs ys fun r=>K (decide (a=b) && r)
  | _,_,_,_=>False
 | _,_,_,_,_=>False
def peq (T:Tab) (t:TypeId) (x y:Operand) (px py:PV) (K:Bool->Prop):Prop:=match (T.get t).kind with
 | .bool=>match px,py with
  | .d (.bool a),.d (.bool b)=>K (decide (a=b))
  | _,_=>False
 | .ptr _=>match px,py with
  | .d .nilp,.d .nilp=>K true
  | .d .nilp,.ptr _ _=>K false
  | .d .nilp,.elem _ _=>K false
  | .ptr _ _,.d .nilp=>K false
  | .elem _ _,.d .nilp=>K false
  | _,_=>False
 | .func=>match px,py with
  | .d .nilf,.d .nilf=>K true
  | .d .nilf,.func _ _ _=>K false
  | .func _ _ _,.d .nilf=>K false
  | _,_=>False
 | .iface=>match px,py with
  | .d .nili,.d .nili=>match Zsz x || Zsz y with | true=>K true | false=>False
  | .d .nili,.iface _ _=>K false
  | .iface _ _,.d .nili=>K false
  | .iface t (.d (.int k a)),.iface t' (.d (.int k' b))=>match Nat.beq t t',(T.get t).kind,(T.get t).eqok with
   | true,.int _,true=>(match keq k k' with | true=>K (decide (a=b)) | false=>False)
   | false,_,_=>K false
   | _,_,_=>False
  | _,_=>False
 | .slice _=>match px,py with
  | .nils _,.nils _=>K true
  | .d (.sl (_::_)),.nils _=>K false
  | .sl _ _ (_::_),.nils _=>K false
  | _,_=>False
 | .struct fs=>match (T.get t).eqok with
  | true=>match px,py with
   | .agg xs,.agg ys=>Xp T 0 fs xs ys K
   | _,_=>False
  | false=>False
 | _=>False
def ZsA (T:Tab) (op:BinOp) (t:TypeId) (x y:Operand) (px py:PV) (K:PV->Prop):Prop :=
 match px,py with
 | .d (.int k a),.d (.int k' b)=>match op with
  | .shl=>0<=b/\ZcR k (a * 2 ^ (min b.toNat k.bits)) K
  | .shr=>0<=b/\K (.d (.int k (a.fdiv (2 ^ (min b.toNat k.bits)))))
  | op=>match keq k k' with | true=>Zwv op k a b K | false=>False
 | .d (.str a),.d (.str b)=>match op with
  | .add=>a.length+b.length<2 ^ 62/\K (.d (.str (a++b))) | .eql=>K (.d (.bool (decide (a=b)))) | .neq=>K (.d (.bool (!decide (a=b))))
  | .lss=>K (.d (.bool (Op.bytesLess a b))) | .geq=>K (.d (.bool (!Op.bytesLess a b)))
  | .leq=>K (.d (.bool (Op.bytesLess a b || decide (a=b)))) | .gtr=>K (.d (.bool (!(Op.bytesLess a b || decide (a=b)))))
  | _=>False
 | px,py=>match op with
  | .eql=>peq T t x y px py fun b=>K (.d (.bool b))
  | .neq=>peq T t x y px py fun b=>K (.d (.bool (!b)))
  | _=>False
def decodeL (s:List UInt8) (pos:Nat):Nat×Nat:=Utf8.decode ⟨s.toArray⟩ pos
def YX (T:Tab) (fs:List (Nat×Nat)) (ρ:Operand->PV):List (Nat×Operand)->List PV->(List PV->Prop)->Prop
 | [],cs,K=>K cs
 | (i,x)::ps,cs,K=>match fs[i]?,(ρ x).cells with
  | some (o,t),some l=>match Nat.beq l.length (T.get t).size,Nat.ble (o+l.length) cs.length,(T.get t).kind with
   | _,_,.other=>False
   | true,true,_=>YX T fs ρ ps (Z9 cs o l) K
   | _,_,_=>False
  | _,_=>False
def Ztx (s e:Nat):Nat->Nat->List (Nat×Nat)
 | 0,_=>[]
 | n+1,i=>(i * s,e)::Ztx s e n (i+1)
def Uk (lo hi:Option PV) (len:Nat) (K:Nat->Nat->Prop):Prop :=
 match lo,hi with
 | none,none=>K 0 len
 | some x,none=>match x with
  | .d (.int _ n)=>0<=n/\n<=len/\K n.toNat len
  | _=>False
 | none,some y=>match y with
  | .d (.int _ m)=>0<=m/\m<=len/\K 0 m.toNat
  | _=>False
 | some x,some y=>match x,y with
  | .d (.int _ n),.d (.int _ m)=>0<=n/\n<=m/\m<=len/\K n.toNat m.toNat
  | _,_=>False
def cut {α:Type} (l:List α) (a b:Nat):List α:=(l.take b).drop a
def JI (T:Tab) (t:TypeId) (x:PV) (lo hi:Option PV) (K:PV->Prop):Prop:=match (T.get t).kind with
 | .string=>match x with
  | .d (.str s)=>Uk lo hi s.length fun a b=>K (.d (.str (cut s a b)))
  | _=>False
 | .slice e=>match (T.get e).kind with
  | .other=>False
  | _=>match toD x with
   | some (.sl rows)=>(∀r∈rows,r.length=(T.get e).size)/\Uk lo hi rows.length fun a b=>K (.d (.sl (cut rows a b)))
   | _=>False
 | .array n e=>match (T.get e).kind with
  | .other=>False
  | _=>match x,lo,hi with
   | .ptr b off,none,none=>K (.asl b off n)
   | .ptr b off,some (.d (.int _ a)),none=>0<=a/\a<n/\K (.asl b (off+a.toNat * (T.get e).size) (n - a.toNat))
   | _,_,_=>False
 | _=>False
def Zbm (T:Tab) (t:TypeId) (x:PV) (bx:List Box) (K:PV->Prop):Prop:=match x with
 | .ptr b off=>match bx[b]? with
  | some (.cells _ cs)=>match (T.get t).kind.isAgg with
   | true=>match UK (T.get t).size (cs.drop off) with | some l=>K (.agg l) | none=>False
   | false=>match (T.get t).kind with | .other=>False | _=>match cs[off]? with | some v=>K v | none=>False
  | _=>False
 | .elem r off=>match (T.get t).kind.isAgg with
   | true=>match UK (T.get t).size (r.drop off) with | some l=>K (.agg (l.map .d)) | none=>False
   | false=>match (T.get t).kind with | .other=>False | _=>match r[off]? with | some v=>K (.d v) | none=>False
 | _=>False
def qop (T:Tab) (o:Op) (ty:TypeId) (ρ:Operand->PV) (bx:List Box) (K:PV->Prop):Prop :=
 match o with
 | .move x | .assign x=>match ρ x with
  | .nils _=>match (T.get ty).kind with | .slice e=>K (.nils e) | _=>K (.nils 0)
  | v=>K v
 | .pick c a b=>match ρ c with | .d (.bool t)=>CondP t (K (ρ a)) (K (ρ b)) | _=>False
 | .build t ps=>match (T.get t).kind with
  | .struct fs=>YX T fs ρ ps.toList (T.get t).zero fun cs=>K (.agg cs)
  | .array n e=>match (T.get e).kind with
   | .other=>False
   | _=>match Nat.ble 1 (T.get e).size with
    | true=>YX T (Ztx (T.get e).size e n 0) ρ ps.toList (T.get t).zero fun cs=>K (.agg cs)
    | false=>False
  | _=>False
 | .load t a=>Zbm T t (ρ a) bx K
 | .nilCheck x=>match ρ x with
  | .ptr b off=>K (.ptr b off)
  | .elem r off=>K (.elem r off)
  | .func g a c=>K (.func g a c)
  | _=>False
 | .binOp op t x y _=>ZsA T op t x y (ρ x) (ρ y) K
 | .unOp op _ x=>match op,ρ x with
  | .not,.d (.bool b)=>K (.d (.bool (!b)))
  | .neg,.d (.int k a)=>ZcR k (0 - a) K
  | .xor,.d (.int k a)=>K (.d (.int k (Zm .xor k (if k.signed then -1 else k.max) a)))
  | _,_=>False
 | .convert s d x=>match (T.get s).kind with
  | .other=>False
  | .slice e=>match (T.get d).kind with
   | .string=>match (T.get e).kind with
    | .int .u8=>match toD (ρ x) with
     | some (.sl rows)=>∃l:List UInt8,rows=l.map (fun b=>[.int .u8 b.toNat])/\K (.d (.str l))
     | _=>False
    | _=>False
   | _=>False
  | _=>match (T.get d).kind with
   | .int k=>match ρ x with | .d (.int _ n)=>ZcR k n K | _=>False
   | .string=>match ρ x with | .d (.str s)=>K (.d (.str s)) | .d (.int _ n)=>K (.d (.str (Utf8.encode n).data.toList)) | _=>False
   | _=>False
 | .fieldAddr s x i=>match (T.get s).kind with
  | .struct fs=>match fs[i]? with
   | some (o,_)=>match ρ x with
    | .ptr b off=>K (.ptr b (off+o))
    | .elem r off=>K (.elem r (off+o))
    | _=>False
   | none=>False
  | _=>False
 | .field s x i=>match (T.get s).kind with
  | .struct fs=>match fs[i]? with
   | some (o,t)=>match ρ x with
    | .agg cs=>match (T.get t).kind.isAgg with
     | true=>match UK (T.get t).size (cs.drop o) with | some l=>K (.agg l) | none=>False
     | false=>match (T.get t).kind with | .other=>False | _=>match cs[o]? with | some v=>K v | none=>False
    | _=>False
   | none=>False
  | _=>False
 | .index t x i=>match ρ i with
  | .d (.int _ n)=>match (T.get t).kind with
   | .string=>match ρ x with
    | .d (.str s)=>0<=n/\n<s.length/\K (.d (.int .u8 (s.getD n.toNat 0).toNat))
    | _=>False
   | .array m e=>match ρ x with
    | .agg cs=>match (T.get e).kind.isAgg with
     | true=>match UK (T.get e).size (cs.drop (n.toNat * (T.get e).size)) with
      | some l=>0<=n/\n<m/\K (.agg l)
      | none=>False
     | false=>match (T.get e).kind with
      | .other=>False
      | _=>match Nat.beq (T.get e).size 1 with
       | true=>match cs[n.toNat]? with | some v=>0<=n/\n<m/\K v | none=>False
       | false=>False
    | _=>False
   | _=>False
  | _=>False
 | .indexAddr t x i=>match ρ i with
  | .d (.int _ n)=>match (T.get t).kind with
   | .slice e=>match (T.get e).kind with
    | .other=>False
    | _=>match ρ x with
     | .asl b off m=>0<=n/\n<m/\K (.ptr b (off+n.toNat * (T.get e).size))
     | px=>match toD px with
      | some (.sl rows)=>∃r,0<=n/\rows[n.toNat]?=some r/\(match Nat.beq r.length (T.get e).size with | true=>K (.elem r 0) | false=>False)
      | _=>False
   | .array m e=>match (T.get e).kind with
    | .other=>False
    | _=>match ρ x with
     | .ptr b off=>0<=n/\n<m/\K (.ptr b (off+n.toNat * (T.get e).size))
     | _=>False
   | _=>False
  | _=>False
 | .slice t x lo hi none=>JI T t (ρ x) (lo.map ρ) (hi.map ρ) K
 | .extract x i=>match ρ x with
  | .tuple vs=>match vs[i]? with | some v=>K v | none=>False
  | _=>False
 | .makeFunc (.func g) a c=>K (.func g (a.toList.map ρ) (c.toList.map ρ))
 | .makeInterface t x=>match (T.get t).kind with
  | .iface=>False
  | .other=>False
  | _=>K (.iface t (ρ x))
 | .typeAssert x _ t true=>match (T.get t).kind with
  | .iface=>False
  | .other=>False
  | _=>match ρ x with
   | .iface t' v=>match Nat.beq t' t with
    | true=>K (.tuple [v,.d (.bool true)])
    | false=>False
   | _=>False
 | .call { callee:=.builtin b,args,argTypes }=>match b,argTypes.toList,args.toList.map ρ with
  | .len,t::_,[v]=>match (T.get t).kind with
   | .string=>match v with | .d (.str s)=>K (.d (.int .i64 s.length)) | _=>False
   | .slice _=>match v with
    | .asl _ _ n=>K (.d (.int .i64 n))
    | v=>match toD v with | some (.sl rows)=>K (.d (.int .i64 rows.length)) | _=>False
   | _=>False
  | .min,_,[.d (.int k a),.d (.int k' b)]=>match keq k k' with | true=>K (.d (.int k (min a b))) | false=>False
  | .max,_,[.d (.int k a),.d (.int k' b)]=>match keq k k' with | true=>K (.d (.int k (max a b))) | false=>False
  | _,_,_=>False
 | _=>False
def Zk6 (T:Tab) (o:Op):Option Operand:=match o with
 | .convert s d x=>match (T.get s).kind with
  | .string=>match (T.get d).kind with
   | .slice e=>match (T.get e).kind with
    | .int .u8=>some x
    | _=>none
   | _=>none
  | _=>none
 | _=>none
def Zh8 (v:PV):Option (List D):=match v.cells with | some l=>Zqh l | none=>none
def WT (w:Nat) (ρ:Operand->PV):List (Nat×Operand)->List (List D)->Option (List (List D))
 | [],rows=>some rows
 | (i,x)::ps,rows=>match Zh8 (ρ x) with
  | some r=>(match Nat.beq r.length w,Nat.ble (i+1) rows.length with | true,true=>WT w ρ ps (rows.set i r) | _,_=>none)
  | none=>none
def ZcS (zero:List D) (ρ:Operand->PV) (n:Nat) (ps:List (Nat×Operand)):Option (List (List D)):=WT zero.length ρ ps (List.replicate n zero)
def ZgE (T:Tab) (o:Op) (ty:TypeId) (ρ:Operand->PV) (bx:List Box) (K:PV->Prop):Prop:=match Zk6 T o with
 | some x=>match ρ x with
  | .d (.str s)=>K (.d (.sl (s.map fun b=>[.int .u8 b.toNat])))
  | _=>False
 | none=>match o with
  | .buildSlice t n ps=>match (T.get t).kind with
   | .slice e=>match (T.get e).kind with
    | .other=>False
    | _=>match Zqh (T.get e).zero with
     | some zero=>match Nat.ble 1 zero.length,Nat.ble (n * zero.length) 16777216,ZcS zero ρ n ps.toList with
      | true,true,some rows=>K (.d (.sl rows))
      | _,_,_=>False
     | none=>False
   | _=>False
  | .makeSlice t l c=>match (T.get t).kind with
   | .slice e=>match (T.get e).kind with
    | .other=>False
    | _=>match Zqh (T.get e).zero,ρ l,ρ c with
     | some zero,.d (.int .i64 (.ofNat n)),.d (.int .i64 (.ofNat m))=>match Nat.beq n m,Nat.ble 1 zero.length,Nat.ble (n * zero.length) 16777216,Nat.ble (n * (T.get e).bytes) 16777216 with
      | true,true,true,true=>K (.d (.sl (List.replicate n zero)))
      | _,_,_,_=>False
     | _,_,_=>False
   | _=>False
  | o=>qop T o ty ρ bx K
def St.set (σ:St) (b:Nat) (x:Box):St:={ σ with bx:=σ.bx.set b x }
def St.new (σ:St) (x:Box):St:={ σ with bx:=σ.bx++[x] }
def Ul (T:Tab) (tx el:Nat) (x:PV):Option (List (List D)):=match (T.get tx).kind with
 | .string=>match (T.get el).kind with
  | .int .u8=>match x with
   | .d (.str s)=>some (s.map fun b=>[.int .u8 b.toNat])
   | _=>none
  | _=>none
 | .slice _=>match toD x with
  | some (.sl rows)=>some rows
  | _=>none
 | _=>none
def eop (T:Tab) (o:Op) (ρ:Operand->PV) (σ:St) (K:PV->St->Prop):Prop :=
 match o with
 | .alloc e=>match (T.get e).kind with | .other=>False | _=>K (.ptr σ.bx.length 0) (σ.new (.cells e (T.get e).zero))
 | .box e x=>match (ρ x).cells with | some l=>K (.ptr σ.bx.length 0) (σ.new (.cells e l)) | none=>False
 | .store t a x=>match ρ a with
  | .ptr b off=>match σ.bx[b]? with
   | some (.cells ty cs)=>match (ρ x).cells with
    | some l=>match Nat.beq l.length (T.get t).size,Nat.ble (off+l.length) cs.length,(T.get t).kind with
     | _,_,.other=>False
     | true,true,_=>K .undef (σ.set b (.cells ty (Z9 cs off l)))
     | _,_,_=>False
    | none=>False
   | _=>False
  | _=>False
 | .range t x=>match (T.get t).kind with
  | .string=>match ρ x with
   | .d (.str s)=>K (.ptr σ.bx.length 0) (σ.new (.iter s 0))
   | _=>False
  | _=>False
 | .next x true=>match ρ x with
  | .ptr b 0=>match σ.bx[b]? with
   | some (.iter s pos)=>CondP (decide (pos<s.length)) (K (.tuple [.d (.bool true),.d (.int .i64 pos),.d (.int .i32 (decodeL s pos).1)]) (σ.set b (.iter s (pos+(decodeL s pos).2)))) (K (.tuple [.d (.bool false)]) σ)
   | _=>False
  | _=>False
 | .call { callee:=.builtin .append,args,argTypes }=>match argTypes.toList,args.toList.map ρ with
  | [t,tx],[s,x]=>match (T.get t).kind with
   | .slice el=>match (T.get el).kind with
    | .other=>False
    | _=>match Nat.ble 1 (T.get el).size,Ul T tx el x with
     | true,some more=>match s with
      | .nils _=>(∀r∈more,r.length=(T.get el).size)/\more.length * (T.get el).bytes<=2 ^ 47/\more.length<=2 ^ 47/\K (.sl σ.nx el more) { σ with tk:=σ.nx::σ.tk,nx:=σ.nx+1 }
      | .sl tok e2 rows=>match Zh0 tok σ.tk,Nat.beq e2 el with
       | true,true=>(∀r∈more,r.length=(T.get el).size)/\(rows.length+more.length) * (T.get el).bytes<=2 ^ 47/\rows.length+more.length<=2 ^ 47 /\
         K (.sl σ.nx el (rows++more)) { σ with tk:=σ.nx::Zaz tok σ.tk,nx:=σ.nx+1 }
       | _,_=>False
      | _=>False
     | _,_=>False
   | _=>False
  | _,_=>False
 | _=>False
def XJ:Op->Bool
 | .alloc _ | .box _ _ | .store _ _ _ | .range _ _ | .next _ _=>true
 | .call { callee:=.builtin .append,.. }=>true
 | .call { callee:=.builtin _,.. }=>false
 | .call _=>true
 | .panic _=>true
 | _=>false
mutual
def bnd (n:Nat):PV->Bool
 | .ptr b _=>Nat.ble (b+1) n
 | .asl b _ _=>Nat.ble (b+1) n
 | .func _ a c=>Zqi n a && Zqi n c
 | .iface _ v=>bnd n v
 | .agg cs=>Zqi n cs
 | .tuple vs=>Zqi n vs
 | _=>true
def Zqi (n:Nat):List PV->Bool
 | []=>true
 | v::l=>bnd n v && Zqi n l
end
mutual
def clean:PV->PV
 | .sl _ _ rows=>.d (.sl rows)
 | .nils _=>.d (.sl [])
 | .func f a c=>.func f (X9 a) (X9 c)
 | .iface t v=>.iface t (clean v)
 | .agg cs=>.agg (X9 cs)
 | .tuple vs=>.tuple (X9 vs)
 | .d x=>.d x
 | .undef=>.undef
 | .ptr b o=>.ptr b o
 | .elem r o=>.elem r o
 | .asl b o n=>.asl b o n
 | .raw v=>.raw v
def X9:List PV->List PV
 | []=>[]
 | v::l=>clean v::X9 l
end
def UO (f:Frame):Frame:=fun i=>clean (f i)
mutual
def cleanN:PV->PV
 | .sl _ _ rows=>.d (.sl rows)
 | .nils e=>.nils e
 | .func f a c=>.func f (X9 a) (X9 c)
 | .iface t v=>.iface t (clean v)
 | .agg cs=>.agg (cleanNL cs)
 | .tuple vs=>.tuple (X9 vs)
 | .d x=>.d x
 | .undef=>.undef
 | .ptr b o=>.ptr b o
 | .elem r o=>.elem r o
 | .asl b o n=>.asl b o n
 | .raw v=>.raw v
def cleanNL:List PV->List PV
 | []=>[]
 | v::l=>cleanN v::cleanNL l
end
inductive PEnd where | ret (v:PV) | panic (v:PV)
inductive PExit where | normal | exit (id:Nat) | goto (l:Nat) | ret | panic (v:PV)
abbrev PQ:=PExit->Frame->St->Prop
structure LoopAnn where
 live:List Nat
 keep:List Nat
 I:List PV->St->Prop
 μ:List PV->St->Nat
structure Cx where
 T:Tab
 call:FuncId->List PV->St->(PEnd->St->Prop)->Prop
 raw:Value->List PV->St->(PEnd->St->Prop)->Prop
 iter:FuncId->List PV->(Value->List PV->St->(PEnd->St->Prop)->Prop)->St->(PEnd->St->Prop)->Prop
 loop:Nat->LoopAnn
 unr:Nat->Nat:=fun _=>0
 tie:Nat->Bool:=fun _=>false
 bsl:Nat->Bool:=fun _=>false
 pk:Bool:=true
 cut:Nat->Option (List Nat×(List PV->St->Prop)):=fun _=>none
 ag:Nat->Bool:=fun _=>false
def LoopAnn.tied (A:LoopAnn) (f:Frame):LoopAnn:=⟨A.live,A.keep,fun vs σ=>A.I (A.keep.map (fun i=>clean (f i))++vs) σ,fun vs σ=>A.μ (A.keep.map (fun i=>clean (f i))++vs) σ⟩
def Cx.inner (C:Cx):Cx:={ C with iter:=fun _ _ _ _ _=>False }
def Cx.calm (C:Cx):Cx:={ C with raw:=fun _ _ _ _=>False,pk:=false }
def Cx.pf (C:Cx) (f:Frame):Frame:=match C.pk with | true=>UO f | false=>fun _=>.undef
def Zjp:List PV->(List PV->Prop)->Prop
 | [],K=>K []
 | v::l,K=>J1 v fun v=>Zjp l fun l=>K (v::l)
def Zb6:List Box->(List Box->Prop)->Prop
 | [],K=>K []
 | .cells t cs::l,K=>Zjp cs fun cs=>Zb6 l fun l=>K (.cells t cs::l)
 | .iter s p::l,K=>Zb6 l fun l=>K (.iter s p::l)
 | .loop st pd r::l,K=>Zb6 l fun l=>K (.loop st pd r::l)
def ZgF:List Nat->(List Nat->Prop)->Prop
 | [],K=>K []
 | t::l,K=>Xi t fun t=>ZgF l fun l=>K (t::l)
def UP (σ:St) (K:St->Prop):Prop:=Zb6 σ.bx fun bx=>ZgF σ.tk fun tk=>Xi σ.nx fun nx=>K ⟨bx,tk,nx⟩
def ZeD (C:Cx) (fv:PV) (args:List PV) (f:Frame) (σ:St) (K:PEnd->Frame->St->Prop):Prop:=match fv with
 | .func g first caps=>C.call g (first++args++caps) σ fun e σ=>K e f σ
 | .raw v=>C.raw v args σ fun e σ=>K e (UO f) σ
 | _=>False
def W4 (C:Cx) (o:Oper) (f:Frame) (σ:St) (Q:PQ) (K:Frame->St->Prop):Prop :=
 match XJ o.op with
 | false=>ZgE C.T o.op o.type (ev f) σ.bx fun v=>ZhZ f o.dst v fun f=>K f σ
 | true=>match o.op with
  | .call { callee:=.value x,args,.. }=>ZeD C (ev f x) (args.toList.map (ev f)) f σ fun e f σ'=>match e with
    | .ret v=>UP σ' fun σ'=>ZhZ f o.dst v fun f=>K f σ'
    | .panic v=>UP σ' fun σ'=>J1 v fun v=>Q (.panic v) (C.pf f) σ'
  | .panic x=>match ev f x with
    | .iface t v=>Q (.panic (.iface t v)) (C.pf f) σ
    | _=>False
  | op=>eop C.T op (ev f) σ fun v σ'=>UP σ' fun σ'=>ZhZ f o.dst v fun f=>K f σ'
def VT (all:List Oper) (j:Nat):Option Nat:=match all[j]? with | some o=>o.dst | none=>none
def UL (C:Cx) (all:List Oper) (Q:PQ) (o:Oper) (f:Frame) (σ:St) (K:Frame->St->Prop):Prop :=
 match o.guard with
 | none=>W4 C o f σ Q K
 | some (j,want)=>match VT all j with
  | some s=>match f s with
   | .d (.bool t)=>CondP t
     (match want with | true=>W4 C o (JH f s (.d (.bool true))) σ Q K | false=>ZhZ (JH f s (.d (.bool true))) o.dst (.raw Go.undef) fun f=>K f σ)
     (match want with | false=>W4 C o (JH f s (.d (.bool false))) σ Q K | true=>ZhZ (JH f s (.d (.bool false))) o.dst (.raw Go.undef) fun f=>K f σ)
   | .raw (.tuple _)=>ZhZ f o.dst (.raw Go.undef) fun f=>K f σ
   | _=>False
  | none=>False
def Zjq (C:Cx) (o:Oper):Bool:=match o.dst with
 | some d=>match o.guard with | none=>C.bsl d | _=>false
 | none=>false
def Zww (T:Tab) (o:Op) (ρ:Operand->PV) (σ:St) (K:PV->St->Prop):Prop:=match o with
 | .buildSlice t n ps=>match (T.get t).kind with
   | .slice e=>match (T.get e).kind with
    | .other=>False
    | _=>match Zqh (T.get e).zero with
     | some zero=>match Nat.ble 1 zero.length,Nat.ble (n * zero.length) 16777216,Nat.ble 1 n,ZcS zero ρ n ps.toList with
      | true,true,true,some rows=>K (.sl σ.nx e rows) { σ with tk:=σ.nx::σ.tk,nx:=σ.nx+1 }
      | _,_,_,_=>False
     | none=>False
   | _=>False
 | .convert s d x=>match (T.get s).kind with
   | .slice e=>match (T.get d).kind,(T.get e).kind,ρ x with
    | .string,.int .u8,.asl b off n=>match σ.bx[b]? with
     | some (.cells _ cs)=>∃l:List UInt8,l.length=n/\UK n (cs.drop off)=some (l.map fun b=>.d (.int .u8 b.toNat))/\K (.d (.str l)) σ
     | _=>False
    | _,_,_=>False
   | _=>False
 | _=>False
def Zjr (C:Cx) (all:List Oper) (Q:PQ) (o:Oper) (f:Frame) (σ:St) (K:Frame->St->Prop):Prop:=match Zjq C o with
 | true=>Zww C.T o.op (ev f) σ fun v σ'=>UP σ' fun σ'=>ZhZ f o.dst v fun f=>K f σ'
 | false=>UL C all Q o f σ K
def Zqj (C:Cx) (all:List Oper) (Q:PQ):List Oper->Frame->St->Prop
 | [],f,σ=>Q .normal f σ
 | o::rest,f,σ=>Zjr C all Q o f σ (Zqj C all Q rest)
structure Ld where
 i:Nat
 b:Nat
 off:Nat
 n:Nat
def XK (bx:List Box) (b off n:Nat):Option (List PV):=match bx[b]? with
 | some (.cells _ cs)=>some ((cs.drop off).take n)
 | _=>none
def JJ (acc:List Nat):List Edge->Nat->Nat
 | [],s=>s
 | e::l,s=>match Region.binds .any e with
  | true=>JJ acc l (s ||| 2 ^ e.on ||| acc.getD e.on 0)
  | false=>JJ acc l s
def VJ:List Oper->List Nat->List Nat
 | [],acc=>acc
 | o::l,acc=>VJ l (acc++[JJ acc o.after.toList 0])
def anc (ms:List Nat) (i j:Nat):Bool:=(ms.getD j 0).testBit i
def VK (o:Oper) (left:List (Nat×Oper)):Bool:=match left with
 | []=>false
 | (i,_)::l=>(o.after.toList.any fun e=>Region.binds .any e && Nat.beq e.on i) || VK o l
def Zfq:List (Nat×Oper)->List (Nat×Oper)->Option (Nat×Oper)
 | _,[]=>none
 | left,(i,o)::l=>match XJ o.op,VK o left with
  | false,false=>some (i,o)
  | _,_=>Zfq left l
def YR (i:Nat):List (Nat×Oper)->List (Nat×Oper)
 | []=>[]
 | (j,o)::l=>match Nat.beq i j with | true=>l | false=>(j,o)::YR i l
def UH:Nat->List (Nat×Oper)->List (Nat×Oper)
 | 0,l=>l
 | _+1,[]=>[]
 | n+1,x::l=>match Zfq (x::l) (x::l) with
  | some (i,o)=>(i,o)::UH n (YR i (x::l))
  | none=>x::UH n l
def ZQ:Nat->List Oper->List (Nat×Oper)
 | _,[]=>[]
 | i,o::l=>(i,o)::ZQ (i+1) l
def ZgG (ops:List Oper):List (Nat×Oper):=UH ops.length (ZQ 0 ops)
def Zqq (ms:List Nat) (j:Nat) (pre post:List Box):List Ld->Prop->Prop
 | [],X=>X
 | ⟨i,b,off,n⟩::l,X=>match anc ms i j with
  | true=>Zqq ms j pre post l X
  | false=>XK pre b off n=XK post b off n/\Zqq ms j pre post l X
def Um (T:Tab) (o:Oper) (i:Nat) (f:Frame) (ctx:List Ld):List Ld:=match o.op with
 | .load t a=>match ev f a with
  | .ptr b off=>⟨i,b,off,(T.get t).size⟩::ctx
  | _=>ctx
 | _=>ctx
def W5 (C:Cx) (all:List Oper) (ms:List Nat) (Q:PQ) (i:Nat) (o:Oper) (ctx:List Ld) (f:Frame) (σ:St) (K:List Ld->Frame->St->Prop):Prop :=
 UL C all Q o f σ fun f' σ'=>match XJ o.op with
  | true=>Zqq ms i σ.bx σ'.bx ctx (K ctx f' σ')
  | false=>K (Um C.T o i f ctx) f' σ'
def Vp (C:Cx) (all:List Oper) (ms:List Nat) (Q:PQ):List (Nat×Oper)->List Ld->Frame->St->Prop
 | [],_,f,σ=>Q .normal f σ
 | (i,o)::rest,ctx,f,σ=>W5 C all ms Q i o ctx f σ (Vp C all ms Q rest)
def Zk7 (left:List (Nat×Oper)):List (Nat×Oper)->(Nat->Oper->Prop)->Prop
 | [],_=>True
 | (i,o)::l,X=>match VK o left with
  | true=>Zk7 left l X
  | false=>X i o/\Zk7 left l X
def W6 (C:Cx) (all:List Oper) (ms:List Nat) (Q:PQ):Nat->List (Nat×Oper)->List Ld->Frame->St->Prop
 | _,[],_,f,σ=>Q .normal f σ
 | 0,_::_,_,_,_=>False
 | n+1,x::l,ctx,f,σ=>match Zfq (x::l) (x::l) with
  | some (i,o)=>W5 C all ms Q i o ctx f σ (W6 C all ms Q n (YR i (x::l)))
  | none=>Zk7 (x::l) (x::l) fun i o=>W5 C all ms Q i o ctx f σ (W6 C all ms Q n (YR i (x::l)))
def ZgH (ms:List Nat):Option Nat->List (Nat×Oper)->Bool
 | _,[]=>true
 | prev,(i,o)::l=>match XJ o.op with
  | false=>ZgH ms prev l
  | true=>(match prev with | none=>true | some j=>anc ms j i) && ZgH ms (some i) l
def toks:Nat->List Nat
 | 0=>[]
 | k+1=>k::toks k
def Zty (n:Nat) (tk:List Nat) (k:Nat) (v:PV) (K:PV->List Nat->Nat->Prop):Prop:=match v with
 | .sl t e rows=>match Zh0 t tk with
  | true=>K (.sl k e rows) (Zaz t tk) (k+1)
  | false=>K (.d (.sl rows)) tk k
 | .nils e=>K (.sl k e []) tk (k+1)
 | v=>match bnd n v with
  | true=>J1 (clean v) fun v=>K v tk k
  | false=>K .undef tk k
def Ztz (n:Nat):List PV->List Nat->Nat->(List PV->List Nat->Nat->Prop)->Prop
 | [],tk,k,K=>K [] tk k
 | v::l,tk,k,K=>Zty n tk k v fun v tk k=>Ztz n l tk k fun l tk k=>K (v::l) tk k
def Zfr (n:Nat) (tk:List Nat) (k:Nat) (v:PV) (K:PV->List Nat->Nat->Prop):Prop:=match v with
 | .sl t e rows=>match Zh0 t tk with
  | true=>K (.sl k e rows) (Zaz t tk) (k+1)
  | false=>K (.d (.sl rows)) tk k
 | .nils e=>K (.sl k e []) tk (k+1)
 | v=>match bnd n v with
  | true=>J1 (cleanN v) fun v=>K v tk k
  | false=>K .undef tk k
def Zk8 (n:Nat):List PV->List Nat->Nat->(List PV->List Nat->Nat->Prop)->Prop
 | [],tk,k,K=>K [] tk k
 | v::l,tk,k,K=>Zfr n tk k v fun v tk k=>Zk8 n l tk k fun l tk k=>K (v::l) tk k
def Zk9 (n:Nat) (tk:List Nat) (k:Nat) (v:PV) (K:PV->List Nat->Nat->Prop):Prop:=match v with
 | .agg cs=>Zk8 n cs tk k fun cs tk k=>K (.agg cs) tk k
 | v=>Zfr n tk k v K
def Zla (n:Nat):List PV->List Nat->Nat->(List PV->List Nat->Nat->Prop)->Prop
 | [],tk,k,K=>K [] tk k
 | v::l,tk,k,K=>Zk9 n tk k v fun v tk k=>Zla n l tk k fun l tk k=>K (v::l) tk k
def Zqr (md n:Nat) (vs:List PV) (tk:List Nat) (k:Nat) (K:List PV->List Nat->Nat->Prop):Prop:=match md with
 | 0=>Ztz n vs tk k K
 | 1=>Zk8 n vs tk k K
 | _=>Zla n vs tk k K
def Zh9 (n:Nat):Nat->List Box->List Nat->Nat->(List Box->List Nat->Nat->Prop)->Prop
 | 0,_,tk,k,K=>K [] tk k
 | _+1,[],_,_,_=>False
 | m+1,.cells t cs::l,tk,k,K=>Ztz n cs tk k fun cs tk k=>Zh9 n m l tk k fun l tk k=>K (.cells t cs::l) tk k
 | m+1,.iter s p::l,tk,k,K=>Zh9 n m l tk k fun l tk k=>K (.iter s p::l) tk k
 | m+1,.loop st pd r::l,tk,k,K=>Zh9 n m l tk k fun l tk k=>K (.loop st pd r::l) tk k
def Zmr (n:Nat) (vs:List PV) (σ:St) (K:List PV->St->Prop):Prop :=
 Ztz n vs σ.tk 0 fun vs tk k=>Zh9 n n σ.bx tk k fun bs _ k=>K vs ⟨bs,toks k,k⟩
def JK (ag:Bool) (n:Nat) (vs:List PV) (σ:St) (K:List PV->St->Prop):Prop:=match ag with
 | true=>Zla n vs σ.tk 0 fun vs tk k=>Zh9 n n σ.bx tk k fun bs _ k=>K vs ⟨bs,toks k,k⟩
 | false=>Zmr n vs σ K
def Zfs (f:Frame):List Nat->List PV->Frame
 | i::is,v::vs=>JH (Zfs f is vs) i v
 | _,_=>f
def Zia (f:Frame):List Nat->Frame
 | []=>fun _=>.undef
 | i::is=>JH (Zia f is) i (clean (f i))
def XC:List Oper->List Nat->Bool
 | [],_=>true
 | o::l,ks=>(match o.dst with | some d=>!(Zh0 d ks) | none=>true) && XC l ks
def YJ (ks:List Nat):Code->Bool
 | .region _ ops _=>XC ops.toList ks
 | .seq a b=>YJ ks a && YJ ks b
 | .cond _ a b=>YJ ks a && YJ ks b
 | .block _ b=>YJ ks b
 | .loop b=>YJ ks b
 | .rangeFunc ..=>true
 | .scope b=>YJ ks b
 | _=>true
def Xf:Code->Nat
 | .region id _ _=>id
 | .seq a _=>Xf a
 | .cond _ a _=>Xf a
 | .block _ b=>Xf b
 | .loop b=>Xf b
 | .scope b=>Xf b
 | _=>0
def Zms:Frame->List Nat->List PV->Frame
 | f,i::is,v::vs=>Zms (JH f i v) is vs
 | f,_,_=>f
def ZwJ (i:Nat) (r:Loop) (st:LoopState) (pd:Option Code) (b:Bool) (σ:St) (K:PEnd->St->Prop):Prop :=
 σ.bx[i]?=some (.loop .busy none r)/\K (.ret (.d (.bool b))) (σ.set i (.loop st pd r))
def ZtA (i l:Nat) (r:Loop) (ps:List Nat) (WA WB:PQ->Frame->St->Prop) (f:Frame) (v:Value) (args:List PV) (σ:St) (K:PEnd->St->Prop):Prop :=
 v=.func (.yield l) #[] #[]/\σ.bx[i]?=some (.loop .ready none r)/\args.length=ps.length /\
  WA (fun e f1 σ1=>match e with
   | .normal=>σ1.bx[i]?=some (.loop .ready none r)/\WB (fun e _ σ2=>match e with
     | .normal=>ZwJ i r .ready none true σ2 K
     | .ret=>ZwJ i r .done (some .ret) false σ2 K
     | .exit id=>ZwJ i r .done (some (.exit id)) false σ2 K
     | .goto t=>ZwJ i r .done (some (.goto t)) false σ2 K
     | .panic _=>False) f1 (σ1.set i (.loop .busy none r))
   | _=>False) (Zms f ps args) σ
def Zmt (i:Nat) (r:Loop) (f:Frame) (Q:PQ) (σ:St):Option Code->Prop
 | none=>Q .normal f (σ.set i (.loop .exhausted none r))
 | some .ret=>Q .ret f (σ.set i (.loop .exhausted (some .ret) r))
 | some (.exit id)=>Q (.exit id) f (σ.set i (.loop .exhausted (some (.exit id)) r))
 | some (.goto t)=>Q (.goto t) f (σ.set i (.loop .exhausted (some (.goto t)) r))
 | _=>False
structure Hole where
 pre:List Oper
 A:Oper
 I:Oper
 S:Oper
 F:Oper
 H:Oper
def ZeE (ops:List Oper):Option Hole:=match ops.reverse with
 | H::F::S::I::A::pre=>match A.op,I.op,S.op,F.op,H.op with
  | .call { callee:=.builtin .append,.. },.indexAddr _ _ _,.store _ _ _,.fieldAddr _ _ _,.store _ _ _=>some ⟨pre.reverse,A,I,S,F,H⟩
  | _,_,_,_,_=>none
 | _=>none
def Zlb (T:Tab) (h:Hole) (f:Frame) (σ:St) (K:Frame->St->Prop):Prop:=match h.A.op,h.I.op,h.S.op with
 | .call { callee:=.builtin .append,args,argTypes },.indexAddr _ _ ix,.store ts _ x=>match argTypes.toList,args.toList,h.A.dst,h.I.dst with
  | [t,tx],[s,z],some da,some di=>match (T.get t).kind with
   | .slice el=>match (T.get el).kind with
    | .other=>False
    | _=>match Nat.ble 1 (T.get el).size,Nat.beq ts el,Ul T tx el (ev f z),Zh8 (ev f x),ev f ix with
     | true,true,some [zr],some row,.d (.int _ n)=>match Nat.beq zr.length (T.get el).size,Nat.beq row.length (T.get el).size with
      | true,true=>match ev f s with
       | .nils _=>n=0/\1 * (T.get el).bytes<=2 ^ 47/\UP ⟨σ.bx,(σ.nx+1)::σ.tk,σ.nx+2⟩ fun σ'=>ZhZ f (some da) (.sl (σ.nx+1) el [row]) fun f=>ZhZ f (some di) .undef fun f=>K f σ'
       | .sl tok e2 rows=>match Zh0 tok σ.tk,Nat.beq e2 el with
        | true,true=>n=rows.length/\(rows.length+1) * (T.get el).bytes<=2 ^ 47/\rows.length+1<=2 ^ 47 /\
          UP ⟨σ.bx,(σ.nx+1)::Zaz tok σ.tk,σ.nx+2⟩ fun σ'=>ZhZ f (some da) (.sl (σ.nx+1) el (rows++[row])) fun f=>ZhZ f (some di) .undef fun f=>K f σ'
        | _,_=>False
       | _=>False
      | _,_=>False
     | _,_,_,_,_=>False
   | _=>False
  | _,_,_,_=>False
 | _,_,_=>False
def Zmu (C:Cx) (all:List Oper) (h:Hole) (Q:PQ):PQ:=fun e f σ=>match e with
 | .normal=>Zlb C.T h f σ fun f σ=>UL C all Q h.F f σ fun f σ=>UL C all Q h.H f σ fun f σ=>Q .normal f σ
 | e=>Q e f σ
def Zjs (i:Nat) (f:Frame) (Q:PQ) (e:PEnd) (σ:St):Prop:=match e with
 | .ret _=>match σ.bx[i]? with
  | some (.loop st pd r)=>match st with
   | .busy=>False
   | _=>Zmt i r f Q σ pd
  | _=>False
 | .panic v=>Q (.panic v) (fun _=>.undef) σ
def ZeF (S:PQ->Frame->St->Prop) (Q:PQ):Nat->Frame->St->Prop
 | 0,_,_=>False
 | n+1,f,σ=>S (fun e f σ=>match e with | .normal=>ZeF S Q n f σ | e=>Q e f σ) f σ
def W:Cx->Code->PQ->Frame->St->Prop
 | _,.skip,Q,f,σ=>Q .normal f σ
 | C,.region _ ops draw,Q,f,σ=>match draw with
  | false=>Zqj C ops.toList Q ops.toList f σ
  | true=>match ZeE ops.toList with
   | none=>match ZgH (VJ ops.toList []) none (ZQ 0 ops.toList) with
    | true=>Vp C.calm ops.toList (VJ ops.toList []) Q (ZgG ops.toList) [] f σ
    | false=>W6 C.calm ops.toList (VJ ops.toList []) Q ops.toList.length (ZQ 0 ops.toList) [] f σ
   | some h=>Vp C.calm ops.toList (VJ ops.toList []) (Zmu C.calm ops.toList h Q) (UH h.pre.length (ZQ 0 h.pre)) [] f σ
 | C,.seq a b,Q,f,σ=>match C.cut (Xf b) with
  | none=>W C a (fun e f σ=>match e with | .normal=>W C b Q f σ | e=>Q e f σ) f σ
  | some (live,I)=>W C a (fun e f σ=>match e with | .normal=>Zmr σ.bx.length (live.map f) σ I | e=>Q e f σ) f σ/\∀vs σ1,I vs σ1->W C b Q (Zfs (fun _=>.undef) live vs) σ1
 | C,.cond c x y,Q,f,σ=>match ev f c with | .d (.bool t)=>CondP t (W C x Q f σ) (W C y Q f σ) | _=>False
 | C,.block id b,Q,f,σ=>W C b (fun e f σ=>match e with | .exit i=>(match Nat.beq i id with | true=>Q .normal f σ | false=>Q (.exit i) f σ) | e=>Q e f σ) f σ
 | C,.scope b,Q,f,σ=>W C b (fun e f σ=>match e with | .goto _=>False | e=>Q e f σ) f σ
 | _,.exit id,Q,f,σ=>Q (.exit id) f σ
 | _,.goto l,Q,f,σ=>Q (.goto l) f σ
 | _,.label _,Q,f,σ=>Q .normal f σ
 | _,.ret,Q,f,σ=>Q .ret f σ
 | C,.loop b,Q,f,σ=>match C.unr (Xf b) with
  | n+1=>ZeF (fun Q f σ=>W C b Q f σ) Q (n+1) f σ
  | 0=>match YJ (C.loop (Xf b)).keep b with
   | true=>match C.tie (Xf b) with
    | false => JK (C.ag (Xf b)) σ.bx.length ((C.loop (Xf b)).live.map f) σ fun vs σ0 => (C.loop (Xf b)).I vs σ0 /\
       ∀vs σ1,(C.loop (Xf b)).I vs σ1->W C b (fun e f' σ'=>match e with
        | .normal=>JK (C.ag (Xf b)) σ1.bx.length ((C.loop (Xf b)).live.map f') σ' fun vs' σ''=>(C.loop (Xf b)).I vs' σ''/\(C.loop (Xf b)).μ vs' σ''<(C.loop (Xf b)).μ vs σ1
        | e=>Q e f' σ') (Zfs (Zia f (C.loop (Xf b)).keep) (C.loop (Xf b)).live vs) σ1
    | true => JK (C.ag (Xf b)) σ.bx.length (((C.loop (Xf b)).tied f).live.map f) σ fun vs σ0 => ((C.loop (Xf b)).tied f).I vs σ0 /\
       ∀vs σ1,((C.loop (Xf b)).tied f).I vs σ1->W C b (fun e f' σ'=>match e with
        | .normal=>JK (C.ag (Xf b)) σ1.bx.length (((C.loop (Xf b)).tied f).live.map f') σ' fun vs' σ''=>((C.loop (Xf b)).tied f).I vs' σ''/\((C.loop (Xf b)).tied f).μ vs' σ''<((C.loop (Xf b)).tied f).μ vs σ1
        | e=>Q e f' σ') (Zfs (Zia f ((C.loop (Xf b)).tied f).keep) ((C.loop (Xf b)).tied f).live vs) σ1
   | false=>False
 | C,.rangeFunc g ps asg body,Q,f,σ=>match ev f g with
  | .func gid first caps=>∀(l:Nat) (r:Loop),
    C.iter gid (first++.raw (.func (.yield l) #[] #[])::caps) (ZtA σ.bx.length l r ps.toList (fun Q f σ=>W C.inner asg Q f σ) (fun Q f σ=>W C.inner body Q f σ) (UO f)) (σ.new (.loop .ready none r))
     (Zjs σ.bx.length (UO f) Q)
  | _=>False
 | _,_,_,_,_=>False
def pres (T:Tab) (f:Frame) (bx:List Box):List ResultVar->(List PV->Prop)->Prop
 | [],K=>K []
 | .tmp t::l,K=>J1 (f t) fun v=>pres T f bx l fun vs=>K (v::vs)
 | .cell a t::l,K=>Zbm T t (f a) bx fun v=>J1 v fun v=>pres T f bx l fun vs=>K (v::vs)
def J2:List PV->PV
 | [v]=>v
 | vs=>.tuple vs
def ZeG (ag:Bool) (keep:Nat) (own:Bool) (v:PV) (σ:St) (K:PV->St->Prop):Prop :=
 match bnd keep v with
 | true=>match own with
  | true=>JK ag keep [v] σ fun vs σ'=>match vs with | [v]=>K v σ' | _=>False
  | false=>Zh9 keep keep σ.bx [] 0 fun bs _ k=>K (clean v) ⟨bs,toks k,k⟩
 | false=>False
abbrev ZgI (keep:Nat) (own:Bool) (v:PV) (σ:St) (K:PV->St->Prop):Prop:=ZeG false keep own v σ K
def ZsB (ag:Bool) (T:Tab) (fn:Func) (keep:Nat) (own:Bool) (R:PEnd->St->Prop):PQ:=fun e f σ=>match e with
 | .normal | .ret=>pres T f σ.bx fn.results.toList fun vs=>ZeG ag keep own (J2 vs) σ fun v σ'=>R (.ret v) σ'
 | .panic v=>ZeG ag keep own v σ fun v σ'=>R (.panic v) σ'
 | _=>False
abbrev ZwK (T:Tab) (fn:Func) (keep:Nat) (own:Bool) (R:PEnd->St->Prop):PQ:=ZsB false T fn keep own R
def ZeH:Nat->List PV->Frame
 | _,[]=>fun _=>.undef
 | i,v::vs=>JH (ZeH (i+1) vs) i v
def Wm (fn : Func) : Code := match fn.body with | some c => c | none => .refuse ""
def WFG (ag:Bool) (C:Cx) (fn:Func) (keep:Nat) (own:Bool) (args:List PV) (σ:St) (R:PEnd->St->Prop):Prop :=
 W C (Wm fn) (ZsB ag C.T fn keep own R) (ZeH 0 args) σ
abbrev WF (C:Cx) (fn:Func) (keep:Nat) (own:Bool) (args:List PV) (σ:St) (R:PEnd->St->Prop):Prop:=WFG false C fn keep own args σ R
end Go.PM
end
