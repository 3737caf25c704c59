/- A part of the proof: plain logic, contracts and laws over the given program. -/
import GoSem.Core.Program
import GoSem.Core.Utf8
import GoSem.Op.IntBits
import Derived.CallsIn
set_option linter.unusedVariables false
set_option linter.unusedSimpArgs false
set_option linter.all false
set_option maxRecDepth 100000
set_option maxHeartbeats 16000000
section
theorem Ta:type_of% @Nat.le_of_ble_eq_true:=@Nat.le_of_ble_eq_true
theorem Tb.{u}:type_of% @List.length_append.{u}:=@List.length_append
theorem Tc.{u}:type_of% @List.length_cons.{u}:=@List.length_cons
theorem Td.{u}:type_of% @List.length_nil.{u}:=@List.length_nil
theorem Te.{u}:type_of% @List.getElem?_eq_getElem.{u}:=@List.getElem?_eq_getElem
theorem Tf.{u,v}:type_of% @List.length_map.{u,v}:=@List.length_map
theorem Tg.{u}:type_of% @if_neg.{u}:=@if_neg
theorem Th.{u}:type_of% @List.getElem?_eq_some_iff.{u}:=@List.getElem?_eq_some_iff
theorem Ti:type_of% @Nat.eq_of_beq_eq_true:=@Nat.eq_of_beq_eq_true
theorem Tj.{u}:type_of% @if_pos.{u}:=@if_pos
theorem Tk.{u}:type_of% @List.append_assoc.{u}:=@List.append_assoc
theorem Tl:type_of% @Bool.and_eq_true:=@Bool.and_eq_true
theorem Tm.{u}:type_of% @List.all_eq_true.{u}:=@List.all_eq_true
theorem Tn.{u}:type_of% @Array.getElem?_eq_some_iff.{u}:=@Array.getElem?_eq_some_iff
theorem To.{u,v}:type_of% @List.getElem?_map.{u,v}:=@List.getElem?_map
theorem Tp:type_of% @Bool.false_eq_true:=@Bool.false_eq_true
theorem Tq:type_of% @Nat.le_refl:=@Nat.le_refl
theorem Tr.{u}:type_of% @List.mem_cons.{u}:=@List.mem_cons
theorem Tt.{u}:type_of% @Array.getElem?_toList.{u}:=@Array.getElem?_toList
theorem Tu.{u}:type_of% @List.mem_cons_of_mem.{u}:=@List.mem_cons_of_mem
theorem Tv.{u}:type_of% @List.forall_mem_singleton.{u}:=@List.forall_mem_singleton
theorem Tw:type_of% @Int.toNat_natCast:=@Int.toNat_natCast
theorem Tx.{u}:type_of% @Array.getElem?_eq_getElem.{u}:=@Array.getElem?_eq_getElem
theorem Tz.{u}:type_of% @List.length_singleton.{u}:=@List.length_singleton
theorem TA.{u}:type_of% @List.length_drop.{u}:=@List.length_drop
theorem TB.{u}:type_of% @List.getElem_mem.{u}:=@List.getElem_mem
theorem TC.{u,v}:type_of% @List.map_cons.{u,v}:=@List.map_cons
theorem TD:type_of% @Nat.lt_of_lt_of_le:=@Nat.lt_of_lt_of_le
theorem TE.{u}:type_of% @Array.mem_def.{u}:=@Array.mem_def
theorem TF.{u}:type_of% @List.drop_drop.{u}:=@List.drop_drop
theorem TG.{u}:type_of% @List.getElem?_append_left.{u}:=@List.getElem?_append_left
theorem TH.{u}:type_of% @List.drop_eq_getElem_cons.{u}:=@List.drop_eq_getElem_cons
theorem TJ.{u}:type_of% @List.drop_eq_nil_of_le.{u}:=@List.drop_eq_nil_of_le
theorem TL.{u,v}:type_of% @List.map_nil.{u,v}:=@List.map_nil
theorem TM:type_of% @decide_eq_true_eq:=@decide_eq_true_eq
theorem TN.{u}:type_of% @List.mem_append.{u}:=@List.mem_append
theorem TP:type_of% @Bool.true_and:=@Bool.true_and
theorem TQ.{u}:type_of% @List.getElem?_cons_succ.{u}:=@List.getElem?_cons_succ
theorem TS.{u}:type_of% @List.getElem?_append_right.{u}:=@List.getElem?_append_right
theorem TT:type_of% @Bool.false_and:=@Bool.false_and
theorem TU.{u}:type_of% @List.append_nil.{u}:=@List.append_nil
theorem TV.{u}:type_of% @Array.getElem?_setIfInBounds.{u}:=@Array.getElem?_setIfInBounds
theorem TW.{u,v}:type_of% @Option.map_eq_some_iff.{u,v}:=@Option.map_eq_some_iff
theorem TX:type_of% @Int.add_sub_cancel:=@Int.add_sub_cancel
theorem TY.{u}:type_of% @List.eq_nil_of_length_eq_zero.{u}:=@List.eq_nil_of_length_eq_zero
theorem TZ:type_of% @Nat.mul_le_mul_right:=@Nat.mul_le_mul_right
theorem T1:type_of% @Nat.le_trans:=@Nat.le_trans
theorem T2:type_of% @Bool.not_eq_true':=@Bool.not_eq_true'
theorem T3.{u}:type_of% @List.take_length.{u}:=@List.take_length
theorem T4.{u}:type_of% @Array.length_toList.{u}:=@Array.length_toList
theorem T5:type_of% @Nat.zero_add:=@Nat.zero_add
theorem T6:type_of% @Nat.zero_le:=@Nat.zero_le
theorem T7.{u}:type_of% @Option.isSome_iff_exists.{u}:=@Option.isSome_iff_exists
theorem T9.{u}:type_of% @List.getD_eq_getElem?_getD.{u}:=@List.getD_eq_getElem?_getD
theorem Sa.{u}:type_of% @Array.mem_of_getElem?.{u}:=@Array.mem_of_getElem?
theorem Sb.{u}:type_of% @List.mem_of_getElem?.{u}:=@List.mem_of_getElem?
theorem Sc:type_of% @Bool.or_eq_false_iff:=@Bool.or_eq_false_iff
theorem Sd:type_of% @of_decide_eq_true:=@of_decide_eq_true
theorem Se.{u}:type_of% @List.getElem_of_mem.{u}:=@List.getElem_of_mem
theorem Sf.{u}:type_of% @List.take_zero.{u}:=@List.take_zero
theorem Sg.{u}:type_of% @List.nil_append.{u}:=@List.nil_append
theorem Sh:type_of% @Nat.add_assoc:=@Nat.add_assoc
theorem Si:type_of% @Nat.add_mul:=@Nat.add_mul
theorem Sj.{u}:type_of% @List.getElem?_eq_none.{u}:=@List.getElem?_eq_none
theorem Sk.{u,v}:type_of% @Option.map_some.{u,v}:=@Option.map_some
theorem Sl.{u}:type_of% @List.cons_append.{u}:=@List.cons_append
theorem Sm.{u}:type_of% @Option.getD_some.{u}:=@Option.getD_some
theorem Sn.{u}:type_of% @List.takeWhile_cons.{u}:=@List.takeWhile_cons
theorem So:type_of% @Bool.or_eq_true:=@Bool.or_eq_true
theorem Sp.{u,v}:type_of% @List.map_append.{u,v}:=@List.map_append
theorem Sq.{u}:type_of% @List.getElem?_cons_zero.{u}:=@List.getElem?_cons_zero
theorem Sr:type_of% @Bool.or_false:=@Bool.or_false
theorem Ss:type_of% @decide_eq_true:=@decide_eq_true
theorem Su.{u,v}:type_of% @List.map_congr_left.{u,v}:=@List.map_congr_left
theorem Sv.{u}:type_of% @List.length_set.{u}:=@List.length_set
theorem Sw:type_of% @Bool.not_not:=@Bool.not_not
theorem Sx.{u}:type_of% @Array.getElem_of_mem.{u}:=@Array.getElem_of_mem
theorem Sy.{u}:type_of% @List.getElem?_replicate.{u}:=@List.getElem?_replicate
theorem Sz.{u}:type_of% @List.getD_cons_zero.{u}:=@List.getD_cons_zero
theorem SA.{u}:type_of% @List.getD_cons_succ.{u}:=@List.getD_cons_succ
theorem SB.{u,v}:type_of% @List.mem_map.{u,v}:=@List.mem_map
theorem SC:type_of% @Nat.add_zero:=@Nat.add_zero
theorem SD.{u}:type_of% @List.getElem?_drop.{u}:=@List.getElem?_drop
theorem SE.{u}:type_of% @List.drop_zero.{u}:=@List.drop_zero
theorem SF:type_of% @Nat.ble_eq:=@Nat.ble_eq
theorem m0 {P:Prop} (h:P:=by
 rw [ZkD] at h
 refine ⟨L,ts,rfl,ho,fb,fun x ce=>?_⟩
 rcases x with ⟨v2,ts2⟩ | ⟨r2,e2⟩
 rotate_left
 ·exact m185
 rw [ce,R.bind_ok] at h
 intro a2 gt aj
 have fy:=aj.hi
 obtain ⟨v2a,v2b,v2c,v2d,v2e⟩:=v2
 conv=>whnf
 refine ⟨L,ts2,ZX,rfl,aj,Or.inl ⟨rfl,rfl⟩,rfl,rfl,fun j hj bq=>?_,fun hj=>wN ?_⟩
 ·have xk:=JB hj
  have ae2:j<6:=by simpa [ZX] using xk.2
  have jf:=bq.hi
  clear xk
  rcases j with _ | j
  ·conv=>whnf
   refine Or.inl ⟨InR.u8 oM oM,wN ?_⟩
   refine Or.inl ⟨InR.u8 oM oM,wN ?_⟩
   refine ⟨L,ts2.tail,Ym,rfl,bq,Or.inr ⟨rfl,rfl⟩,rfl,rfl,fun m hm fu=>?_,fun hm=>wN ?_⟩
   ·rw [Zdr hj hm,R.bind_ok] at h
    have hml:=JB hm
    have ae3:m<4:=by simpa [Ym] using hml.2
    have qn:=fu.hi
    clear hml
    rcases m with _ | m
    ·conv=>whnf
     refine Or.inl ⟨InR.u8 oM oM,wN ?_⟩
     refine Or.inl ⟨InR.u8 oM oM,wN ?_⟩
     rw [Tj rfl] at h
     rw [Wu,Tj oM] at h
     refine ⟨L,ts2.tail.tail,rfl,fu,fun x ph=>?_⟩
     exact m145
    conv=>whnf
    refine Or.inl ⟨InR.u8 oM oM,wN ?_⟩
    refine Or.inl ⟨InR.u8 oM oM,wN ?_⟩
    refine ZDe (fun _=>wN ?_) (fun g=>absurd g oM)
    rw [Tg oM] at h
    refine ⟨L,ts2.tail.tail,rfl,fu,fb,fun x jx=>?_⟩
    rcases x with ⟨v5,ts5⟩ | ⟨r5,e5⟩
    rotate_left
    ·exact m170
    rw [jx,R.bind_ok] at h
    intro a5 ku gb
    have sv:=gb.hi
    obtain ⟨v5a,v5b,v5c,v5d,v5e⟩:=v5
    conv=>whnf
    refine ⟨rfl,rfl,Ta rfl,Ta rfl,wN ?_⟩
    repeat (refine ⟨rfl,?_⟩;conv=>whnf)
    refine ZDc (fun _=>wN ?_) (fun g=>absurd g oM)
    rw [Wu,Tj oM] at h
    refine ⟨L,ts5,rfl,gb,fun x ph=>?_⟩
    exact m145
   rw [Zgj hj hm,R.bind_ok] at h
   rw [Tg oM] at h
   refine ⟨L,ts2.tail,rfl,bq,fb,fun x jx=>?_⟩
   rcases x with ⟨v5,ts5⟩ | ⟨r5,e5⟩
   rotate_left
   ·exact m170
   rw [jx,R.bind_ok] at h
   intro a5 ku gb
   have sv:=gb.hi
   obtain ⟨v5a,v5b,v5c,v5d,v5e⟩:=v5
   conv=>whnf
   refine ⟨rfl,rfl,Ta rfl,Ta rfl,wN ?_⟩
   repeat (refine ⟨rfl,?_⟩;conv=>whnf)
   rw [Wu,Tg oM] at h
   exact h _ oM gb
  rw [Zds hj,R.bind_ok] at h
  conv=>whnf
  refine Or.inl ⟨InR.u8 oM oM,wN ?_⟩
  refine Or.inl ⟨InR.u8 oM oM,wN ?_⟩
  refine ZDc (fun g=>absurd g oM) (fun _=>wN ?_)
  refine ZDe (fun _=>wN ?_) (fun g=>absurd g oM)
  rw [Tg oM] at h
  refine ⟨L,ts2.tail,rfl,bq,fb,fun x jx=>?_⟩
  rcases x with ⟨v5,ts5⟩ | ⟨r5,e5⟩
  rotate_left
  ·exact m170
  rw [jx,R.bind_ok] at h
  intro a5 ku gb
  have sv:=gb.hi
  obtain ⟨v5a,v5b,v5c,v5d,v5e⟩:=v5
  conv=>whnf
  refine ⟨rfl,rfl,Ta rfl,Ta rfl,wN ?_⟩
  repeat (refine ⟨rfl,?_⟩;conv=>whnf)
  refine ZDc (fun g=>absurd g oM) (fun _=>wN ?_)
  rw [Wu,Tg oM] at h
  exact h _ oM gb
 refine ⟨L,ts2,rfl,aj,wN ?_⟩
 rw [Za2 hj,R.bind_err] at h
 exact h _ _):P:=h
theorem m1 {P:Prop} (h:P:=by
 conv=>whnf
 repeat (refine ⟨rfl,?_⟩;conv=>whnf)
 refine ⟨L,ts',rfl,cm,[[116,121,112,101]],rfl,sM,fun b tf=>?_⟩
 cases b with
 | true =>
  rw [Tj tf] at h
  have aj:=cm.tl (Ul tf)
  have fy:=aj.hi
  have fk:=aj.len
  conv=>whnf
  refine ⟨L,ts',rfl,cm,fun g=>wN ?_,fun g=>wN ?_⟩
  ·exact m164
  have ao:¬tys.length=256:=by rw [Tf] at g;omega
  rw [Tg ao] at h
  refine ⟨L,ts'.tail,rfl,aj,fun x et=>?_⟩
  rcases x with ⟨v3,ts3⟩ | ⟨r3,e3⟩
  rotate_left
  ·exact m161
  rw [et,R.bind_ok] at h
  intro a3 f8 bq
  have jf:=bq.hi
  obtain ⟨v3a,v3b,v3c,v3d,v3e,v3f⟩:=v3
  conv=>whnf
  have iq:=bq.len
  repeat (refine ⟨rfl,?_⟩;conv=>whnf)
  refine ⟨Tv.2 rfl,(show ((tys.map (Zu (Ze L en))).length+1) * 96<=2 ^ 47 by rw [Tf];omega),(show (tys.map (Zu (Ze L en))).length+1<=2 ^ 47 by rw [Tf];omega),wN ?_⟩
  repeat (refine ⟨rfl,?_⟩;conv=>whnf)
  refine ⟨⟨tys++[⟨v3a,v3b,v3c,v3d,v3e,v3f⟩],rels,rules,comps,inits,overs,a3,ts3,f,rfl,?_,bq,oM,oM,?_,h⟩,?_⟩
  ·rw [<- Zr (Zu (Ze L en)) tys];rfl
  ·simp only [Tb,Tz];omega
  exact m156
 | false =>
 rw [Tg (by rw [tf];simp)] at h
 conv=>whnf
 refine ⟨L,ts',rfl,cm,[[100,101,99,108]],rfl,sM,fun b tg=>?_⟩
 cases b with
 | true =>
  rw [Tj tg] at h
  have aj:=cm.tl (Ul tg)
  have fy:=aj.hi
  have fk:=aj.len
  conv=>whnf
  refine ⟨L,ts',rfl,cm,fun g=>wN ?_,fun g=>wN ?_⟩
  ·exact m164
  have ao:¬rels.length=256:=by rw [Tf] at g;omega
  rw [Tg ao] at h
  refine ⟨L,ts'.tail,rfl,aj,fun x et=>?_⟩
  rcases x with ⟨v3,ts3⟩ | ⟨r3,e3⟩
  rotate_left
  ·exact m161
  rw [et,R.bind_ok] at h
  intro a3 f8 bq
  have jf:=bq.hi
  obtain ⟨v3a,v3b,v3c,v3d,v3e,v3f⟩:=v3
  conv=>whnf
  have iq:=bq.len
  repeat (refine ⟨rfl,?_⟩;conv=>whnf)
  refine ⟨Tv.2 rfl,(show ((rels.map (ZN (Ze L en))).length+1) * 56<=2 ^ 47 by rw [Tf];omega),(show (rels.map (ZN (Ze L en))).length+1<=2 ^ 47 by rw [Tf];omega),wN ?_⟩
  repeat (refine ⟨rfl,?_⟩;conv=>whnf)
  refine ⟨⟨tys,rels++[⟨v3a,v3b,v3c,v3d,v3e,v3f⟩],rules,comps,inits,overs,a3,ts3,f,rfl,?_,bq,oM,oM,?_,h⟩,?_⟩
  ·rw [<- Zr (ZN (Ze L en)) rels];rfl
  ·simp only [Tb,Tz];omega
  exact m156
 | false =>
 rw [Tg (by rw [tg];simp)] at h
 conv=>whnf
 refine ⟨L,ts',rfl,cm,[[99,111,109,112]],rfl,sM,fun b tj=>?_⟩
 cases b with
 | true =>
  rw [Tj tj] at h
  have aj:=cm.tl (Ul tj)
  have fy:=aj.hi
  have fk:=aj.len
  conv=>whnf
  refine ⟨L,ts',rfl,cm,fun g=>wN ?_,fun g=>wN ?_⟩
  ·exact m164
  have ao:¬comps.length=64:=by rw [Tf] at g;omega
  rw [Tg ao] at h
  refine ⟨L,ts'.tail,rfl,aj,fb,fun x et=>?_⟩
  rcases x with ⟨v3,ts3⟩ | ⟨r3,e3⟩
  rotate_left
  ·exact m161
  rw [et,R.bind_ok] at h
  intro a3 f8 bq
  have jf:=bq.hi
  obtain ⟨v3a,v3b,v3c,v3d,⟨v3g,v3h,v3i,v3j,v3k,v3l⟩,v3f⟩:=v3
  conv=>whnf
  have iq:=bq.len
  repeat (refine ⟨rfl,?_⟩;conv=>whnf)
  refine ⟨Tv.2 rfl,(show ((comps.map (YY (Ze L en))).length+1) * 232<=2 ^ 47 by rw [Tf];omega),(show (comps.map (YY (Ze L en))).length+1<=2 ^ 47 by rw [Tf];omega),wN ?_⟩
  repeat (refine ⟨rfl,?_⟩;conv=>whnf)
  refine ⟨⟨tys,rels,rules,comps++[.mk v3a v3b v3c v3d (.mk v3g v3h v3i v3j v3k v3l) v3f],inits,overs,a3,ts3,f,rfl,?_,bq,oM,oM,?_,h⟩,?_⟩
  ·rw [<- Zr (YY (Ze L en)) comps];rfl
  ·simp only [Tb,Tz];omega
  exact m156
 | false =>
 rw [Tg (by rw [tj];simp)] at h
 conv=>whnf
 refine ⟨L,ts',rfl,cm,[[105,110,105,116]],rfl,sM,fun b tn=>?_⟩
 cases b with
 | true =>
  rw [Tj tn] at h
  have aj:=cm.tl (Ul tn)
  have fy:=aj.hi
  have fk:=aj.len
  conv=>whnf
  refine ⟨L,ts',rfl,cm,fun g=>wN ?_,fun g=>wN ?_⟩
  ·exact m164
  have ao:¬inits.length=256:=by rw [Tf] at g;omega
  rw [Tg ao] at h
  refine ⟨L,ts'.tail,rfl,aj,wN ?_⟩
  rw [Zpg] at h
  refine ⟨L,ts'.tail,rfl,aj,fun x et=>?_⟩
  rcases x with ⟨v3,ts3⟩ | ⟨r3,e3⟩
  rotate_left
  ·rw [et,R.bind_err,R.bind_err] at h;intro a9 d9;(conv=>whnf);exact h _ _
  rw [et,R.bind_ok] at h
  intro a3 f8 bq
  have jf:=bq.hi
  conv=>whnf
  refine ⟨L,ts3,rfl,bq,fun x ll=>?_⟩
  rcases x with ⟨v4,ts4⟩ | ⟨r4,e4⟩
  rotate_left
  ·rw [ll,R.bind_err,R.bind_err] at h;intro a9 d9;(conv=>whnf);exact h _ _
  rw [ll,R.bind_ok] at h
  intro a4 l0 fu
  have qn:=fu.hi
  conv=>whnf
  refine ⟨L,ts4,rfl,fu,fun x jx=>?_⟩
  rcases x with ⟨v5,ts5⟩ | ⟨r5,e5⟩
  rotate_left
  ·rw [jx,R.bind_err,R.bind_err] at h;intro a9 d9;(conv=>whnf);exact h _ _
  rw [jx,R.bind_ok] at h
  intro a5 ku gb
  have sv:=gb.hi
  conv=>whnf
  refine ⟨L,ts5,rfl,gb,fun x ph=>?_⟩
  rcases x with ⟨v6,ts6⟩ | ⟨r6,e6⟩
  rotate_left
  ·rw [ph,R.bind_err,R.bind_err] at h;intro a9 d9;(conv=>whnf);exact h _ _
  rw [ph,R.bind_ok] at h
  intro a6 wj mc
  have hb6:=mc.hi
  conv=>whnf
  rw [R.bind_ok] at h
  have acu:=mc.len
  refine ⟨Tv.2 rfl,(show ((inits.map (Xm (Ze L en))).length+1) * 64<=2 ^ 47 by rw [Tf];omega),(show (inits.map (Xm (Ze L en))).length+1<=2 ^ 47 by rw [Tf];omega),wN ?_⟩
  repeat (refine ⟨rfl,?_⟩;conv=>whnf)
  refine ⟨⟨tys,rels,rules,comps,inits++[⟨v3,v5,v6,ts'.tail.length⟩],overs,a6,ts6,f,rfl,?_,mc,oM,oM,?_,h⟩,?_⟩
  ·rw [<- Zr (Xm (Ze L en)) inits];rfl
  ·simp only [Tb,Tz];omega
  show ((L.length:Int) - a6).toNat<((L.length:Int) - a').toNat
  omega
 | false =>
 rw [Tg (by rw [tn];simp)] at h
 conv=>whnf
 refine ⟨L,ts',rfl,cm,[[111,118,101,114,114,105,100,101]],rfl,sM,fun b tq=>?_⟩
 cases b with
 | true =>
  rw [Tj tq] at h
  have aj:=cm.tl (Ul tq)
  have fy:=aj.hi
  have fk:=aj.len
  conv=>whnf
  refine ⟨L,ts',rfl,cm,fun g=>wN ?_,fun g=>wN ?_⟩
  ·exact m164
  have ao:¬overs.length=256:=by rw [Tf] at g;omega
  rw [Tg ao] at h
  refine ⟨L,ts'.tail,rfl,aj,wN ?_⟩
  rw [Zph] at h
  refine ⟨L,ts'.tail,rfl,aj,fun x et=>?_⟩
  rcases x with ⟨v3,ts3⟩ | ⟨r3,e3⟩
  rotate_left
  ·rw [et,R.bind_err,R.bind_err] at h;intro a9 d9;(conv=>whnf);exact h _ _
  rw [et,R.bind_ok,R.bind_ok] at h
  intro a3 f8 bq
  have jf:=bq.hi
  have iq:=bq.len
  conv=>whnf
  refine ⟨Tv.2 rfl,(show ((overs.map (Xn (Ze L en))).length+1) * 24<=2 ^ 47 by rw [Tf];omega),(show (overs.map (Xn (Ze L en))).length+1<=2 ^ 47 by rw [Tf];omega),wN ?_⟩
  repeat (refine ⟨rfl,?_⟩;conv=>whnf)
  refine ⟨⟨tys,rels,rules,comps,inits,overs++[⟨v3,ts'.tail.length⟩],a3,ts3,f,rfl,?_,bq,oM,oM,?_,h⟩,?_⟩
  ·rw [<- Zr (Xn (Ze L en)) overs];rfl
  ·simp only [Tb,Tz];omega
  exact m156
 | false =>
 rw [Tg (by rw [tq];simp)] at h
 conv=>whnf
 refine ⟨L,ts',rfl,cm,fun b hn=>?_⟩
 cases b with
 | false =>
  rw [Tg (by rw [hn];simp)] at h
  conv=>whnf
  refine ⟨L,ts',rfl,cm,wN ?_⟩
  exact h _ _
 | true =>
 rw [Tj hn] at h
 conv=>whnf
 refine ⟨L,ts',rfl,cm,fun g=>wN ?_,fun g=>wN ?_⟩
 ·exact m164
 have ao:¬rules.length=1024:=by rw [Tf] at g;omega
 rw [Tg ao] at h
 refine Or.inl ⟨InR.i64 oM oM,wN ?_⟩
 rw [show a'+1 - 1=a' by omega]
 refine ⟨L,ts',rfl,cm,fb,fun x et=>?_⟩
 rcases x with ⟨v3,ts3⟩ | ⟨r3,e3⟩
 rotate_left
 ·exact m161
 rw [et,R.bind_ok] at h
 intro a3 f8 bq
 have jf:=bq.hi
 obtain ⟨v3a,v3b,v3c,v3d⟩:=v3
 conv=>whnf
 have iq:=bq.len
 repeat (refine ⟨rfl,?_⟩;conv=>whnf)
 refine ⟨Tv.2 rfl,(show ((rules.map (Z8 (Ze L en))).length+1) * 72<=2 ^ 47 by rw [Tf];omega),(show (rules.map (Z8 (Ze L en))).length+1<=2 ^ 47 by rw [Tf];omega),wN ?_⟩
 repeat (refine ⟨rfl,?_⟩;conv=>whnf)
 refine ⟨⟨tys,rels,rules++[⟨v3a,v3b,v3c,v3d⟩],comps,inits,overs,a3,ts3,f,rfl,?_,bq,oM,oM,?_,h⟩,?_⟩
 ·rw [<- Zr (Z8 (Ze L en)) rules];rfl
 ·simp only [Tb,Tz];omega
 exact m156):P:=h
theorem m2 {P:Prop} (h:P:=by
 refine ⟨oM,oM,oM,wN ?_⟩
 have fm:cut s (((a:Int)+2)).toNat ((e:Int)).toNat=Zf (s.drop a):=by rw [hst.2];congr 1 <;> omega
 refine ⟨true,⟨⟨?_,?_⟩,rfl,rfl⟩,fun h5 nn=>?_,fun h5=>?_⟩
 ·exact (congrArg (fun l:Bs=>l.all (X8 true)=true) fm).mpr cd
 ·exact (congrArg (fun l:Bs=>l.length<4294967281) fm).mpr (show _<_ by omega)
 ·have fp:Zf (s.drop a)=[]\/18446744073709551616<=WD 16 (Zf (s.drop a)):=by rw [<- fm];exact h5
  exact m148
 have fp:¬(Zf (s.drop a)=[]\/18446744073709551616<=WD 16 (Zf (s.drop a))):=by rw [<- fm];exact h5
 simp only [not_or] at fp
 have sq:=WP (s.drop (a+Zy (s.drop a)))
 have tr:=WP (s.drop ((e:Int)).toNat)
 have ym:(pk (s.drop ((e:Int)).toNat)).1=(pk ((s.drop a).drop (Zy (s.drop a)))).1:=by rw [TF,<- hst.1];rfl
 have g6:ZU (s.drop a)=if Zl (pk ((s.drop a).drop (Zy (s.drop a)))).1=true\/Zm (pk ((s.drop a).drop (Zy (s.drop a)))).1=true\/(Vh (s.drop a)=true/\16<(Zf (s.drop a)).length) then none else some (WD 16 (Zf (s.drop a))):=by
  unfold ZU
  simp only [ge,if_true,Tp,if_false]
  rw [Tg fp.1,Tg fp.2]
 conv=>whnf
 refine ⟨⟨oM,oM⟩,wN ?_⟩
 refine ⟨⟨tr.1,oM⟩,wN ?_⟩
 refine ZDg (fun h6=>wN ?_) (fun h6=>wN ?_)
 ·exact m172
 refine ZDg (fun h7=>wN ?_) (fun h7=>wN ?_)
 ·exact m171
 have g7:¬Zl (pk ((s.drop a).drop (Zy (s.drop a)))).1=true/\¬Zm (pk ((s.drop a).drop (Zy (s.drop a)))).1=true:=by
  exact m167
 refine Or.inl ⟨InR.i64 oM oM,wN ?_⟩
 refine ZDc (fun h8=>wN ?_) (fun h8=>wN ?_)
 ·(try (refine ⟨rfl,?_⟩;conv=>whnf))
  (try (refine ⟨rfl,?_⟩;conv=>whnf))
  exact dv (by rw [g6,Tj (.inr (.inr ⟨ge,oM⟩))])
 have g9:=dx _ (by rw [g6,Tg (by simp only [not_or];exact ⟨g7.1,g7.2,oM⟩)])
 rw [<- hst.1,<- fm] at g9
 exact Or.inr g9):P:=h
theorem m3 {P:Prop} (h:P:=by
 refine ⟨pl,ZG p,rfl,⟨hc,hn,Xe⟩,fun v1 e1 h1=>wN ?_⟩
 refine ⟨pl,ZG p,rfl,⟨hc,hn,Xe⟩,fun v2 e2 h2=>wN ?_⟩
 refine ⟨pl,ZG p,rfl,hB,fun x hx=>?_⟩
 obtain rfl:=again _ hx
 conv=>whnf
 refine ZDe (fun ao=>?_) (fun bu=>wN ?_)
 ·obtain ⟨q1,q2⟩:=hN mg ao
  have q3:(v1,e1)=(YV (ZG p) a,0):=(show Zgy p a=(v1,e1) from h1).symm.trans q1
  have q4:(v2,e2)=(YV (ZG p) a,0):=(show Zgy p b=(v2,e2) from h2).symm.trans q2
  cases q3
  cases q4
  conv=>whnf
  refine ZDe (fun g=>absurd rfl g) (fun _=>wN ?_)
  refine ⟨pl,ZG p,rfl,⟨hc,hn,Xe⟩,fun g=>absurd ny g,fun _=>wN ?_⟩
  refine ZDc (fun _=>wN ?_) (fun g=>absurd (ep _ _ h1 rfl).1 g)
  refine ZDc (fun _=>wN ?_) (fun g=>absurd (ep _ _ h1 rfl).2 g)
  exact h
 exact m155):P:=h
theorem m4 {P:Prop} (h:P:=by
 have nz:¬(3<=a1/\a1<=8):=oM
 refine ZDc (fun abg=>wN ?_) (fun abg=>wN ?_)
 ·have h9:a1=9:=by omega
  refine ZDc (fun hr=>?_) (fun hr=>?_)
  rotate_left
  ·have j7:Y5 a1 a2 a3.length a4.length=false:=by simp [Y5,h9,hr]
   conv=>whnf
   exact m173
  conv=>whnf
  refine ZDc (fun hA=>?_) (fun hA=>?_)
  rotate_left
  ·have hA:¬a3.length=1:=fun g=>hA (by show ((Yn pl a3).length:Int)=1;rw [me,g];rfl)
   have j7:Y5 a1 a2 a3.length a4.length=false:=by simp [Y5,h9,hA]
   conv=>whnf
   exact m173
  have hA:a3.length=1:=by have hA:((Yn pl a3).length:Int)=1:=hA;rw [me] at hA;omega
  conv=>whnf
  refine ZDc (fun hB=>wN ?_) (fun hB=>wN ?_)
  ·have hB:=qu.1 hB
   have j7:Y5 a1 a2 a3.length a4.length=true:=by simp [Y5,h9,hr,hA,hB]
   exact m146
  have hB:¬0<a4.length:=fun g=>hB (qu.2 g)
  have j7:Y5 a1 a2 a3.length a4.length=false:=by simp only [Y5,h9,hr,hA,decide_eq_false hB];simp
  exact m173
 have xa:¬a1=9:=oM
 refine ZDc (fun hg9=>wN ?_) (fun hg9=>wN ?_)
 ·refine ZDc (fun abh=>wN ?_) (fun abh=>wN ?_)
  ·have tt:9<a1/\a1<=12:=by omega
   refine ZDc (fun hr=>?_) (fun hr=>?_)
   rotate_left
   ·have j7:Y5 a1 a2 a3.length a4.length=false:=by simp [Y5,jh,nz,xa,tt,hr]
    conv=>whnf
    exact m173
   conv=>whnf
   refine ZDc (fun hA=>?_) (fun hA=>?_)
   rotate_left
   ·have hA:¬a3.length=2:=fun g=>hA (by show ((Yn pl a3).length:Int)=2;rw [me,g];rfl)
    have j7:Y5 a1 a2 a3.length a4.length=false:=by simp [Y5,jh,nz,xa,tt,hA]
    conv=>whnf
    exact m173
   have hA:a3.length=2:=by have hA:((Yn pl a3).length:Int)=2:=hA;rw [me] at hA;omega
   conv=>whnf
   refine ZDc (fun hB=>wN ?_) (fun hB=>wN ?_)
   ·have hB:=qu.1 hB
    have j7:Y5 a1 a2 a3.length a4.length=true:=by simp [Y5,jh,nz,xa,tt,hr,hA,hB]
    exact m146
   have hB:¬0<a4.length:=fun g=>hB (qu.2 g)
   have j7:Y5 a1 a2 a3.length a4.length=false:=by simp only [Y5,jh,nz,xa,tt,hr,hA,decide_eq_false hB];simp
   exact m173
  have tt:¬(9<a1/\a1<=12):=by omega
  exact m186
 have tt:¬(9<a1/\a1<=12):=oM
 exact m186):P:=h
theorem m5 {P:Prop} (h:P:=by
 refine ZDc (fun h1=>?_) (fun h1=>?_)
 rotate_left
 ·exact m184
 conv=>whnf
 refine ZDc (fun h2=>wN ?_) (fun h2=>wN ?_)
 ·refine ZDc (fun h3=>wN ?_) (fun h3=>wN ?_)
  ·exact m180
  refine ZDc (fun h5=>?_) (fun h5=>?_)
  rotate_left
  ·exact m154
  have h5:a1=3:=oM
  have io:(decide (a3=0) || decide (a1=3))=true:=by simp [h5]
  exact m175
 refine ZDc (fun h6=>?_) (fun h6=>?_)
 rotate_left
 ·exact m159
 have h6:(a4.length:Int)=a:=by rw [<- je];exact h6
 conv=>whnf
 refine ZDc (fun h3=>wN ?_) (fun h3=>wN ?_)
 ·exact m179
 refine ZDc (fun h5=>?_) (fun h5=>?_)
 rotate_left
 ·exact m154
 have h5:a1=3:=oM
 have io:(decide (a3=0) || decide (a1=3))=true:=by simp [h5]
 exact m174):P:=h
theorem m6 {P:Prop} (h:P:=by
 refine ⟨oM,oM,oM,wN ?_⟩
 have fm:cut s ((a:Int)).toNat ((e:Int)).toNat=Zf (s.drop a):=by rw [hst.2];congr 1 <;> omega
 refine ⟨false,⟨⟨?_,?_⟩,rfl,rfl⟩,fun h5 nn=>?_,fun h5=>?_⟩
 ·exact (congrArg (fun l:Bs=>l.all (X8 false)=true) fm).mpr cd
 ·exact (congrArg (fun l:Bs=>l.length<4294967281) fm).mpr (show _<_ by omega)
 ·have fp:Zf (s.drop a)=[]\/9223372036854775808<=WD 10 (Zf (s.drop a)):=by rw [<- fm];exact h5
  exact m148
 have fp:¬(Zf (s.drop a)=[]\/9223372036854775808<=WD 10 (Zf (s.drop a))):=by rw [<- fm];exact h5
 simp only [not_or] at fp
 have sq:=WP (s.drop (a+Zy (s.drop a)))
 have tr:=WP (s.drop ((e:Int)).toNat)
 have ym:(pk (s.drop ((e:Int)).toNat)).1=(pk ((s.drop a).drop (Zy (s.drop a)))).1:=by rw [TF,<- hst.1];rfl
 have g6:ZU (s.drop a)=if Zl (pk ((s.drop a).drop (Zy (s.drop a)))).1=true\/Zm (pk ((s.drop a).drop (Zy (s.drop a)))).1=true\/(Vh (s.drop a)=true/\16<(Zf (s.drop a)).length) then none else some (WD 10 (Zf (s.drop a))):=by
  unfold ZU
  simp only [ge,if_true,Tp,if_false]
  rw [Tg fp.1,Tg fp.2]
 conv=>whnf
 refine ⟨⟨oM,oM⟩,wN ?_⟩
 refine ⟨⟨tr.1,oM⟩,wN ?_⟩
 refine ZDg (fun h6=>wN ?_) (fun h6=>wN ?_)
 ·exact m172
 refine ZDg (fun h7=>wN ?_) (fun h7=>wN ?_)
 ·exact m171
 have g7:¬Zl (pk ((s.drop a).drop (Zy (s.drop a)))).1=true/\¬Zm (pk ((s.drop a).drop (Zy (s.drop a)))).1=true:=by
  exact m167
 have g9:=dx _ (by rw [g6,Tg (by simp only [not_or];exact ⟨g7.1,g7.2,by rw [ge];simp⟩)])
 rw [<- hst.1,<- fm] at g9
 exact Or.inr g9):P:=h
theorem m7 {P:Prop} (h:P:=by
 intro args σ K h
 unfold Xy at h
 split at h
 ·obtain ⟨pl,l,rfl,⟨rfl,hz,hn⟩,h⟩:=h
  refine ⟨Zb [],0,false,sM,Ta rfl,wN ?_⟩
  refine ⟨pl,l,rfl,⟨rfl,rfl,hz,hn⟩,fun b hb=>wN ?_⟩
  exact h _ (by rw [<- hb,Sw])
 exact h.elim):P:=h
theorem m8 {P:Prop} (h:P:=by
 refine ZDc (fun h1=>?_) (fun h1=>?_)
 rotate_left
 ·exact m184
 conv=>whnf
 refine ZDc (fun h2=>wN ?_) (fun h2=>wN ?_)
 ·exact m151
 refine ZDc (fun h6=>?_) (fun h6=>?_)
 rotate_left
 ·exact m159
 have h6:(a4.length:Int)=a:=by rw [<- je];exact h6
 conv=>whnf
 exact m151):P:=h
theorem m9 {P:Prop} (h:P:=by
 conv=>whnf
 refine ⟨⟨0,_,rfl,rfl,oM,oM,oM⟩,?_⟩
 intro vs σ hI
 obtain ⟨i,nn,rfl,rfl,hi,du,eo⟩:=hI
 conv=>whnf
 refine ZDc (fun af=>?_) (fun af=>?_)
 rotate_left
 ·exact m149
 have af:i<p2.length:=lzI gl af
 conv=>whnf
 refine ZDc (fun gu=>?_) (fun gu=>?_)
 rotate_left
 ·exact m149
 conv=>whnf
 obtain ⟨eA,hA⟩:∃e,p2[i]=e:=⟨_,rfl⟩
 have hg:=ZA Zju p2 i af
 obtain ⟨b1,b2,b3,b4,b5,b6⟩:=eA
 rw [hA] at hg
 simp only [Zju] at hg
 have bi:(p2.map (ZN pl))[((i:Nat):Int).toNat]?=some (ZN pl ⟨b1,b2,b3,b4,b5,b6⟩):=by simp [af,hA]
 (repeat (first | (refine Or.inl ⟨InR.i64 oM oM,?_⟩;conv=>whnf) | (refine ⟨_,oM,bi,?_⟩;conv=>whnf)))
 refine ⟨pl,b2,B,rfl,⟨⟨oM,oM⟩,oM,oM,hB⟩,fun r kl kz=>wN ?_⟩
 unfold bd3 at kz
 (repeat (refine ⟨rfl,?_⟩;conv=>whnf))
 (repeat (first | (refine Or.inl ⟨InR.i64 oM oM,?_⟩;conv=>whnf) | (refine ⟨_,oM,bi,?_⟩;conv=>whnf)))
 refine ⟨⟨i+1,_,rfl,rfl,oM,oM,oM⟩,?_⟩
 show ((p2.length:Nat) - ((i:Int)+1)).toNat<((p2.length:Nat) - (i:Int)).toNat
 omega):P:=h
theorem m10 {P:Prop} (h:P:=by
 exact m146):P:=h
theorem m11 {P:Prop} (h:P:=by
 have lv:=ZhD hd oM
 conv=>whnf
 refine ZDc (fun g1=>wN ?_) (fun g1=>?_)
 ·refine ZDc (fun g2=>wN ?_) (fun g2=>?_)
  ·refine Or.inl ⟨InR.u8 oM oM,wN ?_⟩
   refine Or.inl ⟨InR.u8 oM oM,wN ?_⟩
   have hD:(Zf3 b:Int)=Zi .or .u8 (b.toNat:Int) 32 - 97+10:=oM
   refine Or.inl ⟨InR.u8 oM oM,wN ?_⟩
   refine ZDc (fun h6=>?_) (fun h6=>wN ?_)
   ·omega
   refine ZDc (fun h7=>wN ?_) (fun h7=>wN ?_)
   ·exact qm oM
   refine Or.inl ⟨InR.u64 oM oM,wN ?_⟩
   refine Or.inl ⟨InR.u64 oM oM,wN ?_⟩
   refine Or.inl ⟨InR.u64 oM oM,wN ?_⟩
   by_cases dc:(N:Int) * 16+(Zi .or .u8 (b.toNat:Int) 32 - 97+10)<=18446744073709551615
   ·refine Or.inl ⟨InR.u64 oM oM,wN ?_⟩
    refine ZDc (fun h8=>?_) (fun h8=>wN ?_)
    ·omega
    refine ZDc (fun h9=>wN ?_) (fun h9=>wN ?_)
    ·exact qm oM
    refine Or.inl ⟨InR.i64 oM oM,wN ?_⟩
    refine ⟨⟨rfl,i+1,?_,oM,oM⟩,?_⟩
    ·have e:((WD 16 (l.take (i+1)):Nat):Int)=(N:Int) * 16+(Zi .or .u8 (b.toNat:Int) 32 - 97+10):=by omega
     rw [e];rfl
    exact m168
   have hw:IntKind.u64.wrap ((N:Int) * 16+(Zi .or .u8 (b.toNat:Int) 32 - 97+10))=(N:Int) * 16+(Zi .or .u8 (b.toNat:Int) 32 - 97+10) - 18446744073709551616:=by
    exact m181
   exact m178
  omega
 omega):P:=h
theorem m12 {P:Prop} (h:P:=by
 refine ⟨⟨0,_,b1,b2,b3,b4,b5,b6,rfl,rfl,⟨oM,oM⟩,oM,oM⟩,?_⟩
 intro vs' σ' wz
 obtain ⟨j,n2,c1,c2,c3,c4,c5,c6,rfl,rfl,⟨hj,tv⟩,w5,w6⟩:=wz
 conv=>whnf
 have uk:(c5.map Zn).length=c5.length:=Tf ..
 have hs5:=Zv Zio c5
 refine ZDc (fun gw=>?_) (fun gw=>?_)
 rotate_left
 ·exact m165
 have gw:j<c5.length:=lzI uk gw
 conv=>whnf
 refine ZDc (fun qj=>?_) (fun qj=>?_)
 rotate_left
 ·exact m165
 conv=>whnf
 obtain ⟨eC,hC⟩:∃e,c5[j]=e:=⟨_,rfl⟩
 have yo:=ZA Zio c5 j gw
 obtain ⟨d1,d2⟩:=eC
 rw [hC] at yo
 simp only [Zio] at yo
 have bi:(c5.map Zn)[((j:Nat):Int).toNat]?=some (Zn ⟨d1,d2⟩):=by simp [gw,hC]
 (repeat (first | (refine Or.inl ⟨InR.i64 oM oM,?_⟩;conv=>whnf) | (refine ⟨_,oM,bi,?_⟩;conv=>whnf)))
 refine ⟨pl,d2,B,rfl,⟨⟨oM,oM⟩,oM,oM,hB⟩,fun r kl kz=>wN ?_⟩
 unfold bd3 at kz
 (repeat (refine ⟨rfl,?_⟩;conv=>whnf))
 (repeat (first | (refine Or.inl ⟨InR.i64 oM oM,?_⟩;conv=>whnf) | (refine ⟨_,oM,bi,?_⟩;conv=>whnf)))
 refine ⟨⟨j+1,_,c1,c2,c3,c4,c5,c6,rfl,rfl,⟨oM,tv⟩,oM,oM⟩,?_⟩
 show ((B:Nat) - ((j:Int)+1)).toNat<((B:Nat) - (j:Int)).toNat
 omega):P:=h
theorem m13 {P:Prop} (h:P:=by
 refine ⟨fun _=>0,a1,rfl,⟨by simp only [wBs];omega,oM⟩,fun b du=>?_⟩
 cases b with
 | false =>
  conv=>whnf
  exact h _ (by simp [Z7,du])
 | true =>
 conv=>whnf
 refine ⟨pl,a2,rfl,⟨rfl,oM,oM⟩,fun b gi=>?_⟩
 cases b with
 | false =>
  conv=>whnf
  exact h _ (by simp [Z7,du,gi])
 | true =>
 conv=>whnf
 refine ⟨pl,a4,rfl,⟨rfl,oM,oM⟩,fun b kv=>?_⟩
 cases b with
 | false =>
  conv=>whnf
  exact h _ (by simp [Z7,du,gi,kv])
 | true =>
 conv=>whnf
 refine ⟨pl,.mk u1 u2 u3 u4 u5 u6,rfl,⟨oM,oM⟩,fun b hu=>wN ?_⟩
 exact h _ (by simp only [Z7,kj,du,gi,kv,hu,TP])):P:=h
theorem m14 {P:Prop} (h:P:=by
 rcases x with ⟨v3,ts3⟩ | ⟨r3,e3⟩
 rotate_left
 ·exact m161
 rw [et,R.bind_ok] at h
 intro a3 f8 bq
 have jf:=bq.hi
 conv=>whnf
 refine Or.inl ⟨InR.i64 oM oM,wN ?_⟩
 rw [TX]
 exact h _ oM bq):P:=h
theorem m15 {P:Prop} (h:P:=by
 rw [hp,TP] at hs
 conv=>whnf
 refine Or.inl ⟨InR.i64 oM oM,wN ?_⟩
 refine ⟨⟨i+1,rfl,rfl,oM,hs⟩,?_⟩
 exact lzM oM):P:=h
theorem m16 {P:Prop} (h:P:=by
 cases b with
 | false =>
  rw [Zt,Tg (by rw [ek];simp),R.bind_err] at h
  exact m187
 | true =>
 rw [Zt,Tj ek] at h
 conv=>whnf
 refine ZDc (fun hc=>wN ?_) (fun hc=>wN ?_)
 ·rw [Tj oM,R.bind_err] at h
  refine ⟨L,ts,rfl,ho,wN ?_⟩
  exact h _ _
 rw [Tg oM] at h
 refine ⟨L,ts,rfl,ho,fun x hx=>?_⟩
 rw [ZW,Tj ek] at hx
 subst hx
 intro a1 ee av
 have cj:=av.hi
 conv=>whnf
 refine Or.inl ⟨InR.i64 oM oM,wN ?_⟩
 refine ⟨_,fun _ _ h=>h,Ta rfl,wN ?_⟩
 refine ⟨L,ts.tail,rfl,av,⟨oM,oM,oM⟩,fun x ce=>?_⟩
 rcases x with ⟨v2,ts2⟩ | ⟨r2,e2⟩
 rotate_left
 ·exact m185
 rw [ce,R.bind_ok] at h
 intro a2 gt aj
 have fy:=aj.hi
 obtain ⟨v2a,v2b,v2c,v2d,v2e⟩:=v2
 conv=>whnf
 repeat (refine ⟨rfl,?_⟩;conv=>whnf)
 rw [Tj rfl,R.bind_ok] at h
 refine Or.inl ⟨InR.i64 oM oM,wN ?_⟩
 rw [TX]
 exact h _ oM aj):P:=h
theorem m17 {P:Prop} (h:P:=by
 refine Or.inl ⟨InR.i64 oM oM,wN ?_⟩
 exact m177):P:=h
theorem m18 {P:Prop} (h:P:=by
 refine ⟨L,ts1,rfl,av,fb,fun x hx=>?_⟩
 rw [hx] at step
 cases x with
 | err r e =>
  exact m162
 | ok v ts2 =>
 rw [R.bind_ok] at step
 intro a2 aq aj
 have gl:=aj.len
 have pj:=aj.hi
 obtain ⟨v1,v2,v3,v4,v5⟩:=v
 conv=>whnf
 refine ⟨Tv.2 rfl,(show ((l.map (XD (Ze L en))).length+1) * 80<=2 ^ 47 by rw [Tf];omega),(show (l.map (XD (Ze L en))).length+1<=2 ^ 47 by rw [Tf];omega),wN ?_⟩
 refine ⟨L,ts2,rfl,aj,[[44]],rfl,sM,fun hw bq=>wN ?_,fun hw=>wN ?_⟩
 ·rw [Tj hw] at step
  have me:=bq.len
  refine ⟨⟨_,a2+1,ts2.tail,f,congrArg (fun r=>[PV.sl 0 102 r]) (Zr (XD (Ze L en)) l (.mk v1 v2 v3 v4 v5)),rfl,bq,by simp only [Tb,Tz];omega,oM,step⟩,?_⟩
  exact m160
 rw [Tg (by rw [hw];simp)] at step
 rw [step] at h
 exact Zrv (h a2 oM aj) (congrArg (fun r=>PEnd.ret (PV.d (D.sl r))) (Zr (XD (Ze L en)) l (.mk v1 v2 v3 v4 v5)).symm) rfl):P:=h
theorem m19 {P:Prop} (h:P:=by
 refine ⟨L,ts1,rfl,av,fb,fun x hx=>?_⟩
 rw [hx] at step
 cases x with
 | err r e =>
  exact m162
 | ok v ts2 =>
 rw [R.bind_ok] at step
 intro a2 aq aj
 have gl:=aj.len
 have pj:=aj.hi
 obtain ⟨v1,v2,v3,v4,v5⟩:=v
 conv=>whnf
 refine ⟨Tv.2 rfl,(show ((l.map (YP (Ze L en))).length+1) * 64<=2 ^ 47 by rw [Tf];omega),(show (l.map (YP (Ze L en))).length+1<=2 ^ 47 by rw [Tf];omega),wN ?_⟩
 refine ⟨L,ts2,rfl,aj,[[44]],rfl,sM,fun hw bq=>wN ?_,fun hw=>wN ?_⟩
 ·rw [Tj hw] at step
  have me:=bq.len
  refine ⟨⟨_,a2+1,ts2.tail,f,congrArg (fun r=>[PV.sl 0 74 r]) (Zr (YP (Ze L en)) l (.mk v1 v2 v3 v4 v5)),rfl,bq,by simp only [Tb,Tz];omega,oM,step⟩,?_⟩
  exact m160
 rw [Tg (by rw [hw];simp)] at step
 rw [step] at h
 exact Zrv (h a2 oM aj) (congrArg (fun r=>PEnd.ret (PV.d (D.sl r))) (Zr (YP (Ze L en)) l (.mk v1 v2 v3 v4 v5)).symm) rfl):P:=h
theorem m20 {P:Prop} (h:P:=by
 exact m161):P:=h
theorem m21 {P:Prop} (h:P:=by
 refine ⟨L,ts1,rfl,av,fun x hx=>?_⟩
 rw [hx] at step
 cases x with
 | err r e =>
  exact m162
 | ok v ts2 =>
 rw [R.bind_ok] at step
 intro a2 aq aj
 have gl:=aj.len
 have pj:=aj.hi
 obtain ⟨v1,v2⟩:=v
 conv=>whnf
 refine ⟨Tv.2 rfl,(show ((l.map (Zn)).length+1) * 40<=2 ^ 47 by rw [Tf];omega),(show (l.map (Zn)).length+1<=2 ^ 47 by rw [Tf];omega),wN ?_⟩
 refine ⟨L,ts2,rfl,aj,[[124]],rfl,sM,fun hw bq=>wN ?_,fun hw=>wN ?_⟩
 ·rw [Tj hw] at step
  have me:=bq.len
  refine ⟨⟨_,a2+1,ts2.tail,f,congrArg (fun r=>[PV.sl 0 51 r]) (Zr (Zn) l _),rfl,bq,by simp only [Tb,Tz];omega,oM,step⟩,?_⟩
  exact m160
 rw [Tg (by rw [hw];simp)] at step
 rw [step] at h
 exact Zrv (h a2 oM aj) (congrArg (fun r=>PEnd.ret (PV.d (D.sl r))) (Zr (Zn) l _).symm) rfl):P:=h
theorem m22 {P:Prop} (h:P:=by
 refine ⟨L,ts1,rfl,av,fun x hx=>?_⟩
 rw [hx] at step
 cases x with
 | err r e =>
  exact m162
 | ok v ts2 =>
 rw [R.bind_ok] at step
 intro a2 aq aj
 have gl:=aj.len
 have pj:=aj.hi
 obtain ⟨v1,v2⟩:=v
 conv=>whnf
 refine ⟨Tv.2 rfl,(show ((l.map (Zw)).length+1) * 32<=2 ^ 47 by rw [Tf];omega),(show (l.map (Zw)).length+1<=2 ^ 47 by rw [Tf];omega),wN ?_⟩
 refine ⟨L,ts2,rfl,aj,[[44]],rfl,sM,fun hw bq=>wN ?_,fun hw=>wN ?_⟩
 ·rw [Tj hw] at step
  have me:=bq.len
  refine ⟨⟨_,a2+1,ts2.tail,f,congrArg (fun r=>[PV.sl 0 71 r]) (Zr (Zw) l _),rfl,bq,by simp only [Tb,Tz];omega,oM,step⟩,?_⟩
  exact m160
 rw [Tg (by rw [hw];simp)] at step
 rw [step] at h
 exact Zrv (h a2 oM aj) (congrArg (fun r=>PEnd.ret (PV.d (D.sl r))) (Zr (Zw) l _).symm) rfl):P:=h
theorem m23 {P:Prop} (h:P:=by
 conv=>whnf
 refine Or.inl ⟨InR.i64 oM oM,wN ?_⟩
 refine ⟨⟨i+1,_,rfl,(by rw [dl,hT];simp only [Tk];rfl),.inr rfl,oM⟩,?_⟩
 exact lzM oM):P:=h
theorem m24 {P:Prop} (h:P:=by
 refine ⟨L,ts1,rfl,av,fun x hx=>?_⟩
 rw [hx] at step
 cases x with
 | err r e =>
  exact m162
 | ok v ts2 =>
 rw [R.bind_ok] at step
 intro a2 aq aj
 have gl:=aj.len
 have pj:=aj.hi
 skip
 conv=>whnf
 refine ⟨Tv.2 rfl,(show ((l.map (ZY)).length+1) * 16<=2 ^ 47 by rw [Tf];omega),(show (l.map (ZY)).length+1<=2 ^ 47 by rw [Tf];omega),wN ?_⟩
 refine ⟨L,ts2,rfl,aj,[[44]],rfl,sM,fun hw bq=>wN ?_,fun hw=>wN ?_⟩
 ·rw [Tj hw] at step
  have me:=bq.len
  refine ⟨⟨_,a2+1,ts2.tail,f,congrArg (fun r=>[PV.sl 0 9 r]) (Zr (ZY) l _),rfl,bq,by simp only [Tb,Tz];omega,oM,step⟩,?_⟩
  exact m160
 rw [Tg (by rw [hw];simp)] at step
 rw [step] at h
 exact Zrv (h a2 oM aj) (congrArg (fun r=>PEnd.ret (PV.d (D.sl r))) (Zr (ZY) l _).symm) rfl):P:=h
theorem m25 {P:Prop} (h:P:=by
 refine ⟨fun _=>0,a2,rfl,⟨by simp only [wBs];omega,oM⟩,fun b du=>?_⟩
 cases b with
 | false =>
  conv=>whnf
  exact h _ (by simp [Ya,kx,du])
 | true =>
 conv=>whnf
 refine ⟨pl,a4,rfl,⟨rfl,oM,oM⟩,fun b gi=>?_⟩
 cases b with
 | false =>
  conv=>whnf
  exact h _ (by simp [Ya,kx,du,gi])
 | true =>
 conv=>whnf
 refine ⟨pl,a5,rfl,⟨rfl,oM,oM⟩,fun b kv=>wN ?_⟩
 exact h _ (by simp only [Ya,kx,du,gi,kv,TP])):P:=h
theorem m26 {P:Prop} (h:P:=by
 exact ⟨_,h,by rw [ZS,Op.equalIn];simp [Za dq],ZB rfl,rfl⟩):P:=h
theorem m27 {P:Prop} (h:P:=by
 refine ⟨sM,fun r hr=>by rw [(List.mem_replicate.1 hr).2],fun a b y u hb hy hu=>?_⟩
 by_cases ha:a<n
 ·have ai:a * zero.length+b<n * zero.length:=by
   calc a * zero.length+b<a * zero.length+zero.length:=by omega
    _=(a+1) * zero.length:=by rw [Si,Nat.one_mul]
    _<=n * zero.length:=TZ _ ha
  have hm:(a * zero.length+b) % z.cells.size=b:=by rw [tv,Nat.mul_comm,Nat.mul_add_mod,Nat.mod_eq_of_lt hb]
  rw [Tt,Array.getElem?_map,Array.getElem?_range,Tj ai] at hu
  simp only [Sk,hm,Option.some.injEq] at hu
  have hbz:b<z.cells.size:=oM
  rw [getElem!_pos z.cells b hbz] at hu
  have cq:b<(T.get el).zero.length:=oM
  have:=lw b _ u (Te cq) (by rw [Tt,Tx hbz,hu])
  rw [Sy,Tj ha] at hy
  simp only [Option.bind_some] at hy
  exact Wi (ca b _ y (Te cq) hy) this.1
 rw [Sy,Tg ha] at hy;cases hy):P:=h
theorem m28 {P:Prop} (h:P:=by
 exact m187):P:=h
theorem m29 {P:Prop} (h:P:=by
 generalize l[j]=x at hs hr
 obtain ⟨x1,x2,x3,x4,x5,x6⟩:=x
 conv=>whnf
 refine ⟨_,oM,hr,wN ?_⟩
 refine ⟨pl,_,rfl,wN ?_⟩
 refine ZDl (fun v hv=>?_) (fun hv=>wN ?_)
 ·rw [XQ] at hv
  obtain ⟨n,hn,rfl⟩:=TW.1 hv
  rw [Tg (by rw [show lkM _ _=some n from hn];simp)] at hs
  conv=>whnf
  refine Or.inl ⟨InR.i64 oM oM,wN ?_⟩
  exact ⟨⟨j+1,rfl,by rw [hs];rfl,oM⟩,by show ((l.length:Int) - ((j:Int)+1)).toNat<((l.length:Int) - (j:Int)).toNat;omega⟩
 rw [XQ,Option.map_eq_none_iff] at hv
 rw [Tj (by rw [show lkM _ _=none from hv];rfl)] at hs
 refine ⟨pl,_,rfl,wN ?_⟩
 refine Or.inl ⟨InR.i64 oM oM,wN ?_⟩
 exact ⟨⟨j+1,rfl,by rw [hs,<- Uu];rfl,oM⟩,by show ((l.length:Int) - ((j:Int)+1)).toNat<((l.length:Int) - (j:Int)).toNat;omega⟩):P:=h
theorem m30 {P:Prop} (h:P:=by
 have af:l.length<=i:=lzG aa af
 rw [Wy _ af] at hs
 exact h _ (by rw [hs];simp)):P:=h
theorem m31 {P:Prop} (h:P:=by
 intro j x hx
 have hj:=(Th.1 hx).1
 have gr:(Zj l)[j]?=some [.int .u8 x.toNat]:=by simp [Zj,hx]
 generalize hrr:Zj l=rr at hd gr
 have aa:rr.length=l.length:=by rw [<- hrr];simp [Zj]
 generalize hvv:Value.slice (some ⟨g,0,none⟩) l.length cap=vv at hd
 cases hd with
 | slnil=>simp at gr
 | slz=>simp at gr
 | sl _ _ _ _ sz u hcap hsz hc ho hu =>
 simp only [Value.slice.injEq,Option.some.injEq,Addr.mk.injEq] at hvv
 obtain ⟨⟨rfl,rfl,_⟩,_,rfl⟩:=hvv
 have ia:sz=1:=by
  have:=hsz _ (Sb gr);simpa using this.symm
 subst ia
 have h1:=hc j 0 oM oM
 have h2:=hu j 0 (.int .u8 x.toNat) (by rw [gr];rfl)
 generalize huu:u j 0=uu at h1 h2;cases h2
 simpa using h1):P:=h
theorem m32 {P:Prop} (h:P:=by
 conv=>whnf
 obtain ⟨eC,hC⟩:∃e,ar[j]=e:=⟨_,rfl⟩
 have yo:=ZA szE ar j gw
 obtain ⟨c1,c2,c3,c4,c5⟩:=eC
 rw [hC] at yo
 have f5:(Yn pl ar)[((j:Nat):Int).toNat]?=some (YP pl (.mk c1 c2 c3 c4 c5)):=by rw [Zh];simp [gw,hC]
 (repeat (first | (refine ⟨_,oM,bi,?_⟩;conv=>whnf) | (refine ⟨_,oM,f5,?_⟩;conv=>whnf) | (refine Or.inl ⟨InR.i64 oM oM,?_⟩;conv=>whnf)))
 refine ⟨pl,.mk c1 c2 c3 c4 c5,B,rfl,⟨⟨oM,oM⟩,oM,oM,hB⟩,fun r kl kz=>wN ?_⟩
 unfold bd2 at kz
 refine Or.inl ⟨InR.i64 oM oM,wN ?_⟩
 refine Or.inl ⟨InR.i64 oM oM,wN ?_⟩
 refine ⟨⟨j+1,_,rfl,rfl,oM,oM,oM⟩,?_⟩
 show ((B:Nat) - ((j:Int)+1)).toNat<((B:Nat) - (j:Int)).toNat
 omega):P:=h
theorem m33 {P:Prop} (h:P:=by
 have hk:=(Th.1 hx).1
 have hkv:k<vs.size:=oM
 have:(vs++Array.replicate (fn.ntmps - vs.size) undef).getD (0+k) Go.undef=vs[k]:=by
  simp [Array.getD,Array.getElem_append,hkv]
  intro h;omega
 rw [this]
 exact am.2 k x _ hx (Tx hkv)):P:=h
theorem m34 {P:Prop} (h:P:=by
 have e:Zj (Lib.encodeRune c)=[[D.int .u8 (Zi .or .u8 224 (IntKind.u8.wrap (c.fdiv (2 ^ min (Int.toNat 12) IntKind.i32.bits))))],[D.int .u8 (Zi .or .u8 128 (Zi .and .u8 (IntKind.u8.wrap (c.fdiv (2 ^ min (Int.toNat 6) IntKind.i32.bits))) 63))],[D.int .u8 (Zi .or .u8 128 (Zi .and .u8 (IntKind.u8.wrap (c)) 63))]]:=by
  rw [Wd,Lib.encodeRuneZ_three oM]
  simp only [e6,e12,e18,wu8,TC,TL]
  rw [ZB9 oM oM,a63 oM oM,a63 oM oM,ZtY oM oM,ZtY oM oM,show c / 4096 % 256=c / 4096 by omega,show c / 64 % 256 % 64=c / 64 % 64 by omega,show c % 256 % 64=c % 64 by omega]
  all_goals (try omega)
  (try (congr 1 <;> omega))
 rw [e] at h;exact h):P:=h
theorem m35 {P:Prop} (h:P:=by
 conv=>whnf
 refine ⟨fun _=>0,a1,rfl,⟨by simp only [wBs];omega,oM⟩,fun b du=>?_⟩
 cases b with
 | false =>
  conv=>whnf
  exact h _ (by simp [Z7,du])
 | true =>
 conv=>whnf
 refine ⟨pl,a2,rfl,⟨rfl,oM,oM⟩,fun b gi=>?_⟩
 cases b with
 | false =>
  conv=>whnf
  exact h _ (by simp [Z7,du,gi])
 | true =>
 conv=>whnf
 refine ⟨pl,a4,rfl,⟨rfl,oM,oM⟩,fun b kv=>?_⟩
 cases b with
 | false =>
  conv=>whnf
  exact h _ (by simp [Z7,du,gi,kv])
 | true =>
 conv=>whnf
 exact h _ (by simp only [Z7,kj,TT,Bool.and_false])):P:=h
theorem m36 {P:Prop} (h:P:=by
 rcases x with ⟨v8,ts8⟩ | ⟨r8,e8⟩
 rotate_left
 ·rw [uj,R.bind_err] at h;intro a9 d9;(conv=>whnf);exact h _ _
 rw [uj,R.bind_ok] at h
 intro a8 abi xb
 have hb8:=xb.hi
 obtain ⟨v8a,v8b,v8c,v8d,v8e,v8f⟩:=v8
 conv=>whnf
 rw [Tg sM] at h
 refine ⟨L,ts8,rfl,xb,fun x xc=>?_⟩
 rcases x with ⟨v9,ts9⟩ | ⟨r9,e9⟩
 rotate_left
 ·rw [xc,R.bind_err,R.bind_err] at h;intro a9 d9;(conv=>whnf);exact h _ _
 rw [xc,R.bind_ok,R.bind_ok] at h
 intro a9 abj gc
 have qo:=gc.hi
 conv=>whnf
 refine Or.inl ⟨InR.i64 oM oM,wN ?_⟩
 rw [TX]
 exact h _ oM gc):P:=h
theorem m37 {P:Prop} (h:P:=by
 have e:XO (s.drop a.toNat)=2:=by
  have:twos.any (Lib.hasPrefix (s.drop a.toNat))=true:=by simp [twos,h2]
  simp [XO,this]
 rw [e] at h
 exact h):P:=h
theorem m38 {P:Prop} (h:P:=by
 rw [hp,TT] at hs
 conv=>whnf
 exact h _ (by rw [hs];simp;try omega)):P:=h
theorem m39 {P:Prop} (h:P:=by
 exact m170):P:=h
theorem m40 {P:Prop} (h:P:=by
 exact m185):P:=h
theorem m41 {P:Prop} (h:P:=by
 have eu:u.drop i=[]:=TJ oM
 have g1:WY (s.drop a)=.err 0:=by rw [<- f7];simp [Z1,eu]
 (try (refine ⟨rfl,?_⟩;conv=>whnf))
 (try (refine ⟨rfl,?_⟩;conv=>whnf))
 exact dv _ g1):P:=h
theorem m42 {P:Prop} (h:P:=by
 rcases x with ⟨v11,ts11⟩ | ⟨r11,e11⟩
 rotate_left
 ·rw [jg,R.bind_err] at h;intro a9 d9;(conv=>whnf);exact h _ _
 rw [jg,R.bind_ok] at h
 intro a11 qq jz
 have wo:=jz.hi
 conv=>whnf
 refine ⟨L,ts11,rfl,jz,⟨fb,sM⟩,fun x j5=>?_⟩
 rcases x with ⟨v12,ts12⟩ | ⟨r12,e12⟩
 rotate_left
 ·rw [j5,R.bind_err] at h;intro a9 d9;(conv=>whnf);exact h _ _
 rw [j5,R.bind_ok] at h
 intro a12 qr j6
 have wp:=j6.hi
 conv=>whnf
 rw [<- Zh]
 exact h _ oM j6):P:=h
theorem m43 {P:Prop} (h:P:=by
 intro args σ K h
 unfold US at h
 split at h
 ·obtain ⟨pl,⟨a1,a2⟩,rfl,⟨rfl,hz,hn⟩,h⟩:=h
  refine ⟨Zb [],1,false,sM,Ta rfl,wN ?_⟩
  refine ⟨pl,⟨a1,a2⟩,rfl,⟨hz,hn⟩,fun b hb=>wN ?_⟩
  exact h _ (by rw [hb])
 exact h.elim):P:=h
theorem m44 {P:Prop} (h:P:=by
 conv=>whnf
 refine ⟨_,oM,hr,wN ?_⟩
 refine ⟨pl,p,_,rfl,rfl,⟨hp,s8⟩,fun b hb=>?_⟩
 simp only [Zq7] at ha
 cases b with
 | true =>
  conv=>whnf
  rw [Tj hb] at ha
  exact h j ha.symm
 | false =>
 conv=>whnf
 rw [Tg (fun g=>Bool.noConfusion (hb.symm.trans g))] at ha
 refine Or.inl ⟨InR.i64 oM oM,wN ?_⟩
 exact ⟨⟨j+1,rfl,rfl,oM,ha⟩,by show ((l.length:Int) - ((j:Int)+1)).toNat<((l.length:Int) - (j:Int)).toNat;omega⟩):P:=h
theorem m45 {P:Prop} (h:P:=by
 refine ⟨v'::vs',tk2,as2,h2,V7 dk ce,fx,by simp [hl],fun i x y hx hy=>?_⟩
 cases i with
 | zero=>simp at hx hy;subst hx;subst hy;exact hv.ext ce
 | succ i=>exact bz i x y (by simpa using hx) (by simpa using hy)):P:=h
theorem m46 {P:Prop} (h:P:=by
 refine ⟨_,_,h,.mkint,?_⟩
 simp only [ho,resolve,invoke,builtin,Sem.run_bind,Sem.run_pure,Result.andThen,Builtin.len_,ow,kc,Za hd]
 rfl):P:=h
theorem m47 {P:Prop} (h:P:=by
 rw [dk,R.bind_err] at h;intro a9 d9;(conv=>whnf);exact h _ _):P:=h
theorem m48 {P:Prop} (h:P:=by
 conv=>whnf
 (try (refine ⟨rfl,?_⟩;conv=>whnf))
 (try (refine ⟨rfl,?_⟩;conv=>whnf))
 exact dv 3 (by rw [Xl,hn,hc,Tg i7,Tj rfl])):P:=h
theorem m49 {P:Prop} (h:P:=by
 split at h
 ·rename_i hb;cases h;exact X7 hb hK
 cases h):P:=h
theorem m50 {P:Prop} (h:P:=by
 simp only [twos,List.take,List.any_cons,List.any_nil,Sr,Sc,Sz,SA] at hn dh |-
 simp only [hn,dh,and_self]):P:=h
theorem m51 {P:Prop} (h:P:=by
 refine Or.inl ⟨InR.i64 oM oM,wN ?_⟩
 refine ⟨⟨1,rfl,(by rw [bw];simp only [Sf,TL,Zg,TU];rfl),oM⟩,?_⟩
 exact lzM oM):P:=h
theorem m52 {P:Prop} (h:P:=by
 exact m173):P:=h
theorem m53 {P:Prop} (h:P:=by
 refine ⟨fun r hr=>by (simp at hr;rcases hr with rfl | rfl | rfl <;> rfl),(show (rows.length+3) * 1<=2 ^ 47 by omega),(show rows.length+3<=2 ^ 47 by omega),?_⟩
 conv=>whnf
 exact g):P:=h
theorem m54 {P:Prop} (h:P:=by
 exact m178):P:=h
theorem m55 {P:Prop} (h:P:=by
 refine Or.inl ⟨InR.i64 oM oM,wN ?_⟩
 exact ⟨⟨j+1,rfl,by rw [e1,ep];rfl,oM⟩,by show ((p.types.length:Int) - ((j:Int)+1)).toNat<((p.types.length:Int) - (j:Int)).toNat;omega⟩):P:=h
theorem m56 {P:Prop} (h:P:=by
 subst mj
 refine ⟨?_,⟨.normal,f,e,σ,h,rfl,hS,hF,hL,hN,bl,hZ⟩⟩
 rw [List.eq_nil_iff_forall_not_mem]
 intro i hi
 obtain ⟨h1,o,ho,_⟩:=mem_ready.1 hi
 have ai:=(Tn.1 ho).1
 have:=(dg i ai).2 (fun p hp=>by cases hp)
 have fd:i<listed.size:=by rw [hsz];exact ai
 simp [Array.getD,fd] at this h1
 rw [this] at h1;cases h1):P:=h
theorem m57 {P:Prop} (h:P:=by
 refine ⟨⟨rfl,e+(pk (s.drop e)).2,f,k1,k2,rfl,k3,k4⟩,?_⟩
 exact (show ((s.length:Int) - ((e:Int)+((pk (s.drop e)).2:Int))).toNat<((s.length:Int) - (e:Int)).toNat by omega)):P:=h
theorem m58 {P:Prop} (h:P:=by
 refine Or.inl ⟨InR.i64 oM oM,wN ?_⟩
 refine ⟨⟨i+1,rfl,(by rw [bw];simp only [Tk];rfl),oM⟩,?_⟩
 exact lzM oM):P:=h
theorem m59 {P:Prop} (h:P:=by
 refine ⟨fun r hr=>by (simp at hr;rcases hr with rfl <;> rfl),(show (rows.length+1) * 1<=2 ^ 47 by omega),(show rows.length+1<=2 ^ 47 by omega),?_⟩
 conv=>whnf
 exact h):P:=h
theorem m60 {P:Prop} (h:P:=by
 exact m181):P:=h
theorem m61 {P:Prop} (h:P:=by
 split at h;· cases h;rename_i h;subst h;exact .inl ⟨dM,rfl⟩
 split at h;· cases h;rename_i h;subst h;exact .inr (.inl ⟨dM,rfl⟩)
 split at h;· cases h;rename_i h;subst h;exact .inr (.inr (.inl ⟨dM,rfl⟩))
 split at h;· cases h;rename_i h;subst h;exact .inr (.inr (.inr ⟨dM,rfl⟩))
 cases h):P:=h
theorem m62 {P:Prop} (h:P:=by
 intro args σ K h
 unfold Za1 at h
 split at h
 ·rename_i w t0 t rows a en dp
  obtain ⟨L,ts,rfl,ho,h1,h2⟩:=h
  refine ⟨Zb [],2,false,sM,Ta rfl,wN ?_⟩
  refine ⟨L,ts,rfl,ho,[w],rfl,sM,fun hw aj=>wN ?_,fun hw=>wN ?_⟩
  ·exact h1 hw aj
  exact h2 hw
 exact h.elim):P:=h
theorem m63 {P:Prop} (h:P:=by
 unfold anc
 have:(Xs ops.toList []).length=ops.size:=by
  have:∀(l:List Oper) (acc:List Nat),(Xs l acc).length=acc.length+l.length:=by
   intro l
   induction l with
   | nil=>intro acc;rfl
   | cons o l ih=>intro acc;rw [Xs,ih];simp;omega
  rw [this];simp
 rw [T9,Sj oM]
 simp):P:=h
theorem m64 {P:Prop} (h:P:=by
 intro args σ K h
 unfold Zfg at h
 split at h
 ·obtain ⟨pl,p,l,rfl,rfl,hc,h⟩:=h
  refine ⟨Zb [],6,false,sM,Ta rfl,wN ?_⟩
  refine ⟨pl,p,l,rfl,rfl,hc,fun i hi=>wN ?_⟩
  exact h _ (by rw [Bool.eq_iff_iff,decide_eq_true_iff,<- hi];exact (ZjL l 0).symm)
 exact h.elim):P:=h
theorem m65 {P:Prop} (h:P:=by
 rw [Lib.decodeL_N]
 have k0:=(r.getD 0 0).toNat_lt
 rcases Lib.decodeN_shape r.length (r.getD 0 0).toNat (r.getD 1 0).toNat (r.getD 2 0).toNat (r.getD 3 0).toNat with ⟨c,e⟩ | ⟨c1,c2,c3,cv,e⟩ | ⟨c1,c2,c3,c4,cv,cs,e⟩ | ⟨c1,c2,c3,c4,c5,cv,cw,e⟩ | e
 all_goals (rw [e];dsimp only;omega)):P:=h
theorem m66 {P:Prop} (h:P:=by
 intro args σ K h
 unfold US at h
 split at h
 ·obtain ⟨pl,⟨a1,a2,a3,a4,a5,a6⟩,rfl,⟨rfl,hz,hn⟩,h⟩:=h
  refine ⟨Zb [],1,false,sM,Ta rfl,wN ?_⟩
  refine ⟨pl,⟨a1,a2,a3,a4,a5,a6⟩,rfl,⟨hz,hn⟩,fun b hb=>wN ?_⟩
  exact h _ (by rw [hb])
 exact h.elim):P:=h
theorem m67 {P:Prop} (h:P:=by
 intro args σ K h
 unfold US at h
 split at h
 ·obtain ⟨pl,⟨a1,a2,a3,a4,a5⟩,rfl,⟨rfl,hz,hn⟩,h⟩:=h
  refine ⟨Zb [],1,false,sM,Ta rfl,wN ?_⟩
  refine ⟨pl,(.mk a1 a2 a3 a4 a5),rfl,⟨hz,hn⟩,fun b hb=>wN ?_⟩
  exact h _ (by rw [hb])
 exact h.elim):P:=h
theorem m68 {P:Prop} (h:P:=by
 simp only [Instr.storeAt,Instr.sureAddr,storeVar,Sem.run_bind,Sem.run_pure,Result.andThen,Zq hi]
 rw [Tg (by rw [mq];simp)]
 exact ah):P:=h
theorem m69 {P:Prop} (h:P:=by
 rw [ZkB hE] at lc
 subst lc
 have g1:WY (s.drop a)=.err (1+i - 1):=by rw [<- f7];simp [Z1,ao,hE]
 conv=>whnf
 refine Or.inl ⟨InR.i64 oM oM,wN ?_⟩
 have g2:=dv _ g1
 rw [show ((a+(1+i - 1):Nat):Int)=(a:Int)+1+(i:Int) - 1 by omega] at g2
 exact g2):P:=h
theorem m70 {P:Prop} (h:P:=by
 refine Go.Lib.run_unsafeString_row w.drew (ρ.t 127) (ρ.t 3) (ρ.t 9) (ρ.t 5) L.t127 X.cellsByte g cur.size (by have ov:w.drew.heap[g]?=some (.cells cur (ρ.t 5) fz):=hg;simp [World.shape?,ov]) l h0 hn dc ?_
 intro j x hx
 have:=be j x hx
 rw [ZR,T5];exact this):P:=h
theorem m71 {P:Prop} (h:P:=by
 intro args σ K h
 unfold US at h
 split at h
 ·obtain ⟨pl,⟨a1,a2,a3,a4⟩,rfl,⟨rfl,hz,hn⟩,h⟩:=h
  refine ⟨Zb [],1,false,sM,Ta rfl,wN ?_⟩
  refine ⟨pl,⟨a1,a2,a3,a4⟩,rfl,⟨hz,hn⟩,fun b hb=>wN ?_⟩
  exact h _ (by rw [hb])
 exact h.elim):P:=h
theorem m72 {P:Prop} (h:P:=by
 refine Or.inl ⟨InR.i64 oM oM,wN ?_⟩
 refine ⟨⟨rfl,e+1,rfl,oM,oM,bo (by have ei:Zm ((s.getD e 0).toNat:Int)=true:=h3;simp only [X8,ei,Bool.true_or])⟩,?_⟩
 exact (show ((s.length:Int) - ((e:Int)+1)).toNat<((s.length:Int) - (e:Int)).toNat by omega)):P:=h
theorem m73 {P:Prop} (h:P:=by
 rw [hm,Tj ⟨hb,hc⟩] at h
 refine ⟨L,ts1,rfl,av,wN ?_⟩
 exact h _ _):P:=h
theorem m74 {P:Prop} (h:P:=by
 refine ⟨L,ts,rfl,ho,wN ?_⟩
 exact h _ _):P:=h
theorem m75 {P:Prop} (h:P:=by
 rename_i t m x v ho
 obtain ⟨σ1,w1,hK,ah,hst,gg⟩:=Zcv hT hS (hρ m) (hρ x) (hρ v) h
 refine ⟨_,_,Go.undef,w1,e,hK,.inr ⟨?_,rfl⟩,hst,gg,.undef _⟩
 unfold execOp
 simp only [ho,Sem.run_bind,ah,Result.andThen,Sem.run_pure]):P:=h
theorem m76 {P:Prop} (h:P:=by
 cases r with
 | tmp t=>simp only [pres,ZF] at h |-;exact ih (fun vs h=>hK _ h) h
 | cell a t =>
 simp only [pres] at h |-
 obtain ⟨v,h1,h2⟩:=Zfx h
 refine h2 _ ?_
 rw [ZF] at h1 |-
 exact ih (fun vs h=>hK _ h) h1):P:=h
theorem m77 {P:Prop} (h:P:=by
 have fp:(pk (u.drop i)).1<32:=by rw [ow,ui] at h5;exact h5
 have g1:WY (s.drop a)=.err (1+i):=by rw [<- f7];simp [Z1,ao,ei,jd,fp]
 have g2:=dv _ g1
 rw [show ((a+(1+i):Nat):Int)=(a:Int)+1+(i:Int) by omega] at g2
 exact g2):P:=h
theorem m78 {P:Prop} (h:P:=by
 rcases x with ⟨v1,ts1⟩ | ⟨r1,e1⟩
 rotate_left
 ·rw [dk] at h;intro a9 d9;(conv=>whnf);exact h _ _
 rw [dk] at h
 intro a1 ee av
 have cj:=av.hi
 obtain ⟨v1a,v1b,v1c,v1d,v1e⟩:=v1
 conv=>whnf
 exact h _ oM av):P:=h
theorem m79 {P:Prop} (h:P:=by
 have fd:i<listed.size:=by rw [hsz];exact hi
 simp [Array.getD,fd]):P:=h
theorem m80 {P:Prop} (h:P:=by
 unfold wpOpIn
 rw [ho]
 dsimp only
 split at bo
 ·rename_i hw
  rw [Tj hw]
  exact Oper.wpIn_mono (fun a w h=>next a w (hK a w h)) bo
 rename_i hw
 rw [Tg hw]
 exact ⟨fun _ _=>trivial,next _ _ (hK _ _ bo)⟩):P:=h
theorem m81 {P:Prop} (h:P:=by
 cases kl with
 | ptr _ _ _ =>
 refine Calls.mono (Zhz (e.β 0) w (by simp [World.cell?,cy,il])) fun en w' ⟨h1,h2⟩=>?_
 rw [h2]
 exact ⟨h1,.tuple [] #[] rfl (fun i x u hx=>by simp at hx),hS,Later.refl _ _ _⟩):P:=h
theorem m82 {P:Prop} (h:P:=by
 obtain ⟨pvs,r,hlv,hr,hvr⟩:=X5 (C:=C) (by rw [hC.T];exact hT) h1 h2 (by rw [hC.T];exact hl)
 obtain ⟨pv',σ2,e2,hK,_,jl,lh⟩:=Wn h1 h3 hk hvr hlv
 exact ⟨r,hr,rfl,⟨r,rfl⟩,σ2,e2,hK,jl,lh⟩):P:=h
theorem m83 {P:Prop} (h:P:=by
 have af:i=xs.length:=lzE cn oM af
 subst af
 rw [T3]
 conv=>whnf
 exact h):P:=h
theorem m84 {P:Prop} (h:P:=by
 refine Or.inl ⟨InR.i64 dM dM,wN ?_⟩
 refine ⟨B.1,B.2,wN ?_⟩
 refine ⟨dM,dM,wN ?_⟩
 refine ⟨dM,dM,wN ?_⟩
 refine ⟨?_,?_,?_,?_⟩
 rotate_left 3
 ·conv=>whnf
  exact h
 ·rfl
 rfl):P:=h
theorem m85 {P:Prop} (h:P:=by
 cases hy
 obtain ⟨q1,q2⟩:=h3 0 p u rfl hu
 refine ⟨?_,q2⟩
 rcases hp with rfl | rfl
 ·cases q1 with
  | d _ _ hd=>exact .d _ _ (hd.later hL)
 cases q1 with
 | ptr b o hb=>exact .ptr 0 0 sM):P:=h
theorem m86 {P:Prop} (h:P:=by
 split at h
 ·rename_i ht
  exact ⟨_,_,as++[some t],by simpa using h,⟨[some t],rfl⟩,hI.add ((YA _ _).1 ht),.sl t el rows _ sM⟩
 exact ⟨_,tk,as,h,⟨[],sM⟩,hI,.cl (.sl t el rows) rfl⟩):P:=h
theorem m87 {P:Prop} (h:P:=by
 subst h0
 cases hk:(T.get t).kind <;> rw [hk] at aw <;> first | (cases aw.1;done) | (cases aw;done) | (exact d7 hk) | (obtain ⟨_,h1,_⟩:=aw;cases h1;done) | (obtain ⟨_,_,_,h1⟩:=aw;cases h1;done)):P:=h
theorem m88 {P:Prop} (h:P:=by
 rw [Zh] at hr
 simp only [TC,TL,Tr,List.not_mem_nil,or_false] at hr
 rcases hr with rfl | rfl <;> rfl):P:=h
theorem m89 {P:Prop} (h:P:=by
 rename_i t1 σ1 ah
 split at hr
 ·rename_i vs' hp
  obtain ⟨keep,d7,bj⟩:=Zf1 hr
  exact go keep (fun e2 t2 σ2 h=>by rw [ah] at h;cases h;exact VB hp (bj hK)) d7
 cases hr):P:=h
theorem m90 {P:Prop} (h:P:=by
 simp only [Tb,Tc,Td];omega):P:=h
theorem m91 {P:Prop} (h:P:=by
 simp only [Sem.run_bind,newRow,run_newObj,Result.andThen,Sem.run_pure]
 rfl):P:=h
theorem m92 {P:Prop} (h:P:=by
 conv=>whnf
 exact h):P:=h
theorem m93 {P:Prop} (h:P:=by
 show LeavesIn _ _ _ _ _ _ _ _ _
 rw [jm]
 refine go _ sM ((hd.ret _ _ _ hq _ _ _ _ h1 wb).mono fun en u2 w2 hh=>?_)
 obtain ⟨rfl,⟨r,rfl⟩,σ2,e2,hK,jl,ig⟩:=hh
 exact after jl ig hK):P:=h
theorem m94 {P:Prop} (h:P:=by
 rw [ll,R.bind_err] at h;intro a9 d9;(conv=>whnf);exact h _ _):P:=h
theorem m95 {P:Prop} (h:P:=by
 rename_i hx
 simp only [hx,toD]
 split at h
 ·rename_i r hr
  split at h
  ·rename_i hb;cases h;exact ⟨r,Int.natCast_nonneg _,hr,by simp only [hb];exact hK⟩
  cases h
 cases h):P:=h
theorem m96 {P:Prop} (h:P:=by
 refine Or.inl ⟨InR.i64 oM oM,wN ?_⟩
 exact h _ oM ye):P:=h
theorem m97 {P:Prop} (h:P:=by
 rw [hl] at h
 refine ⟨_,_,h,.mkint,?_⟩
 simp only [ho,resolve,invoke,builtin,Sem.run_bind,Sem.run_pure,Result.andThen,Builtin.len_,ow,kc,Za hd,getObj,Sem.run,g1]
 rfl):P:=h
theorem m98 {P:Prop} (h:P:=by
 intro args σ K h
 unfold UQ at h
 split at h
 ·obtain ⟨pl,⟨x1,x2,x3,x4,x5,x6⟩,rfl,h⟩:=h
  refine ⟨Zb [],0,false,sM,Ta rfl,wN ?_⟩
  exact h
 exact h.elim):P:=h
theorem m99 {P:Prop} (h:P:=by
 refine ⟨⟨false,_,_,f,_,rfl,?_,.inr rfl,⟨g3,oM,?_⟩,g1.symm⟩,?_⟩
 ·rw [Vi];rfl
 ·rw [Tb];omega
 exact m182):P:=h
theorem m100 {P:Prop} (h:P:=by
 have b3:=Uj (n:=n) (k:=34) oM oM h3
 have b4:=Uj (n:=n) (k:=92) oM oM h4
 simp only [List.contains_cons,List.contains_nil,Sr,Sc,beq_eq_false_iff_ne]
 exact ⟨b1,b2,b3,b4⟩):P:=h
theorem m101 {P:Prop} (h:P:=by
 (try (refine ⟨rfl,?_⟩;conv=>whnf))
 (try (refine ⟨rfl,?_⟩;conv=>whnf))
 have g2:=dx _ _ g1
 rw [show ((a+(1+i+1):Nat):Int)=(a:Int)+1+(i:Int)+1 by omega] at g2
 exact g2):P:=h
theorem m102 {P:Prop} (h:P:=by
 obtain ⟨h4,h5,hK⟩:=h
 refine ⟨_,hK,fun K' h'=>?_⟩
 simp only [qop,hi,hk,hx]
 cases eh:(T.get el).kind
 case other=>exact absurd eh ho
 all_goals exact ⟨h4,h5,h'⟩):P:=h
theorem m103 {P:Prop} (h:P:=by
 rw [et,R.bind_ok] at h
 intro a3 f8 bq
 have jf:=bq.hi
 conv=>whnf
 exact h _ oM bq):P:=h
theorem m104 {P:Prop} (h:P:=by
 have:(Array.replicate ops.size false).getD k false=false:=by simp [Array.getD]
 rw [this]
 simp only [Tp,false_iff]
 obtain ⟨p,hp,he⟩:=i9 k hk
 exact fun hh=>hh p hp he):P:=h
theorem m105 {P:Prop} (h:P:=by
 repeat' ((conv=>whnf);refine ZDc (fun hc=>?_) (fun hc=>?_))
 all_goals (conv=>whnf)
 all_goals exact h _ _ (by rw [ZaU,Tg hn];simp [*]) (by rw [ZaU,Tg hn];simp [*])):P:=h
theorem m106 {P:Prop} (h:P:=by
 intro b off u hu
 by_cases xy:b=g
 ·subst xy
  simp only [World.cell?,pa,g6] at hu |-
  exact hu
 simpa [World.cell?,VH w g l.length b xy] using hu):P:=h
theorem m107 {P:Prop} (h:P:=by
 rw [List.take_add_one,Te ai,Option.toList_some,Sp,TC,TL]
 unfold Y0
 rw [VP,show (((0:Nat):Int)+(((l.take j).map (·.name)).length:Int))=j by simp;omega]):P:=h
theorem m108 {P:Prop} (h:P:=by
 refine ⟨_,ρ' x,h,hx,?_⟩
 cases hv:ρ' x <;> rw [hv] at hx <;> cases hx
 simp [ho,hv]):P:=h
theorem m109 {P:Prop} (h:P:=by
 cases hE:Yx o.op with
 | true=>simp only [hE] at hk |-;rw [chkL_iff] at hk |-;exact ⟨hk.1,hK _ _ _ hk.2⟩
 | false=>simp only [hE] at hk |-;exact hK _ _ _ hk):P:=h
theorem m110 {P:Prop} (h:P:=by
 by_cases fj:∃m',m'<m/\Mu a1 w1 m'
 ·obtain ⟨m',h1,h2⟩:=fj;exact ihm m' h1 h2
 exact ⟨m,hm,fun m' we=>Nat.le_of_not_lt fun ai=>fj ⟨m',ai,we⟩⟩):P:=h
theorem m111 {P:Prop} (h:P:=by
 unfold execOp
 simp only [ho,Sem.run_bind]
 rw [show (Array.map (fun x=>match x with | (i,x)=>(i,ρ' x)) ps)=(ps.map fun p=>(p.1,ρ' p.2)) from rfl,ah]
 rfl):P:=h
theorem m112 {P:Prop} (h:P:=by
 have hk:k<l.length:=(Th.1 hy).1
 rw [Array.getElem?_extract] at hu
 split at hu
 ·exact hr (off+k) y u (by rw [(hb k hk).2];exact hy) hu
 cases hu):P:=h
theorem m113 {P:Prop} (h:P:=by
 rename_i h1 h2;cases h;simp only [h1,h2];exact hK):P:=h
theorem m114 {P:Prop} (h:P:=by
 rcases TN.1 hy with hy | hy
 ·exact hj y (by simp [hy])
 rcases Tr.1 hy with rfl | hy
 ·exact fun e=>xr e.symm
 exact hj y (by simp [hy])):P:=h
theorem m115 {P:Prop} (h:P:=by
 exact ZcP (fun vs s hh=>⟨hh.1,fun vs σ1 hI=>ih (fun e f σ h=>by cases e with | normal=>exact h | _=>exact hQ _ _ _ h) (hh.2 vs σ1 hI)⟩) h):P:=h
theorem m116 {P:Prop} (h:P:=by
 exact h _ (by simp [Ya,kx])):P:=h
theorem m117 {P:Prop} (h:P:=by
 split at h
 ·split at h
  ·rename_i hb;cases h;have:=Ta hb;exact ⟨Int.natCast_nonneg _,Int.ofNat_le.2 this,hK⟩
  cases h
 cases h):P:=h
theorem m118 {P:Prop} (h:P:=by
 obtain ⟨rfl,rfl,rfl,hK⟩:=hs
 exact ⟨cxR call T (fun _=>false) N,keep,ZoO hT hc,ef,aa,by have:=fin hK;rw [hg] at this;exact this⟩):P:=h
theorem m119 {P:Prop} (h:P:=by
 rcases Tr.1 gf with rfl | gf
 ·exact fun e=>h1.2 e.symm
 exact fun e=>(List.rel_of_pairwise_cons hp gf).2.1 ed (TE.1 gm) hb e.symm):P:=h
theorem m120 {P:Prop} (h:P:=by
 rename_i h1 h2
 obtain ⟨v,g1,g2⟩:=Vw h
 exact ⟨_,g1,fun K' h'=>by simp only [Yj,h1,h2];exact g2 (fun r=>K' _) h'⟩):P:=h
theorem m121 {P:Prop} (h:P:=by
 subst h3
 exact ⟨.ret .undef,σ,e,hK,⟨_,rfl,.undef _⟩,hS.grow (ZDi h4),((ZDi h4).stepped e σ).toLater⟩):P:=h
theorem m122 {P:Prop} (h:P:=by
 have dh:¬i<l.length:=fun g=>h2 (by simpa using g)
 have y9:i=l.length:=oM
 rw [y9,T3] at hNN
 rw [hNN] at jk
 exact jk oM):P:=h
theorem m123 {P:Prop} (h:P:=by
 obtain ⟨i,jj,hiu⟩:=Sx hu
 have ai:i<cs'.length:=by rw [<- mf];exact jj
 exact (n5 i _ u (Te ai) (by rw [Tx jj,hiu])).2):P:=h
theorem m124 {P:Prop} (h:P:=by
 rw [show (Array.map (fun x=>match x with | (i,x)=>(i,ρ' x)) ps).toList=(ps.map fun p=>(p.1,ρ' p.2)).toList from rfl,mi]
 rfl):P:=h
theorem m125 {P:Prop} (h:P:=by
 rw [l4,R.bind_err,R.bind_err] at h;intro a9 d9;(conv=>whnf);exact h _ _):P:=h
theorem m126 {P:Prop} (h:P:=by
 rw [show off+k=off+rows.length * (T.get el).size+(k - olds.length) by rw [<- av.len];omega,this]
 rw [Te t7] at hk
 exact hk):P:=h
theorem m127 {P:Prop} (h:P:=by
 have l7:G.P.info? f.type=some j:=by rw [ht];exact hj
 have:j.size≠0:=oM
 simp [fieldPlace,Zq l7,this,ZR,cm]):P:=h
theorem m128 {P:Prop} (h:P:=by
 exact ⟨pv,_,hK,hr,Uz hd dz pq g1 q2⟩):P:=h
theorem m129 {P:Prop} (h:P:=by
 apply Classical.byContradiction
 intro i7
 have:=(dg i ai).2 (fun p hp e=>i7 ⟨p,hp,e⟩)
 rw [h1] at this;cases this):P:=h
theorem m130 {P:Prop} (h:P:=by
 rw [Tg (by rw [f9];simp)] at h
 exact h _ oM cm):P:=h
theorem m131 {P:Prop} (h:P:=by
 (repeat' split at h) <;> first
  | exact h.elim
  | (refine ⟨_,h,fun K' h'=>?_⟩;unfold Zfr;rw [hx];simp only [*])):P:=h
theorem m132 {P:Prop} (h:P:=by
 rw [Tg sM] at ha
 conv=>whnf
 refine Or.inl ⟨InR.i64 oM oM,wN ?_⟩
 exact ⟨⟨j+1,n,m,rfl,rfl,oM,ha⟩,hμ⟩):P:=h
theorem m133 {P:Prop} (h:P:=by
 simp only [show IntKind.i64.bits=64 from rfl,show IntKind.i64.signed=true from rfl,TP]
 split <;> simp at * <;> omega):P:=h
theorem m134 {P:Prop} (h:P:=by
 rw [et,R.bind_ok] at h
 intro a3 f8 bq
 have jf:=bq.hi
 conv=>whnf
 rw [<- Zh]
 exact h _ oM bq):P:=h
theorem m135 {P:Prop} (h:P:=by
 rw [Tg sM] at h
 conv=>whnf
 exact h _ oM cm):P:=h
theorem m136 {P:Prop} (h:P:=by
 conv=>whnf
 exact h _ oM oM):P:=h
theorem m137 {P:Prop} (h:P:=by
 rw [hq] at hu
 rw [Tt,hq] at hx
 cases hx;cases hu;exact hρ q):P:=h
theorem m138 {P:Prop} (h:P:=by
 have h2:=qy k oM
 rw [SD,Te hk] at h2
 have:=(Th.1 h2).1
 exact ⟨by rw [hsz];exact this,by rw [h2,Te hk]⟩):P:=h
theorem m139 {P:Prop} (h:P:=by
 obtain ⟨j,hj,rfl⟩:=Se hu
 have h1:j<l.length:=oM
 exact (cu j l[j] _ (Te h1) (by rw [<- Tt,Te hj])).2):P:=h
theorem m140 {P:Prop} (h:P:=by
 (conv=>whnf);exact h _ (by simp [Z9,kw,h4])):P:=h
theorem m141 {P:Prop} (h:P:=by
 unfold World.freeze;split <;> rfl):P:=h
theorem m142 {P:Prop} (h:P:=by
 simp only [qop]
 split at h <;> rename_i hx <;> first | (cases h;simp only [hx];exact hK) | (cases h;done)):P:=h
theorem m143 {P:Prop} (h:P:=by
 conv=>whnf
 refine Or.inl ⟨InR.i64 oM oM,wN ?_⟩
 exact ⟨⟨j+1,n,m,rfl,rfl,oM,no ha.symm⟩,hμ⟩):P:=h
theorem m144 {P:Prop} (h:P:=by
 rcases TN.1 hx with hx | hx
 ·exact (n8.2.2 x hx (i,o') sM).1
 exact fun e=>(fg.1 x hx).1 e.symm):P:=h
theorem m145 {P:Prop} (h:P:=by
 rcases x with ⟨v6,ts6⟩ | ⟨r6,e6⟩
 rotate_left
 ·rw [ph,R.bind_err] at h;intro a9 d9;(conv=>whnf);exact h _ _
 rw [ph,R.bind_ok] at h
 intro a6 wj mc
 have hb6:=mc.hi
 conv=>whnf
 refine ⟨_,fun _ _ h=>h,Ta rfl,wN ?_⟩
 refine ⟨L,ts6,rfl,mc,[[123]],rfl,sM,fun b lm=>?_⟩
 cases b with
 | false =>
  rw [Zt,Tg (by rw [lm];simp),R.bind_err] at h
  conv=>whnf
  refine ⟨L,ts6,rfl,mc,fun x hx=>?_⟩
  rw [ZW,Tg (by rw [lm];simp)] at hx
  subst hx
  intro a9 d9
  conv=>whnf
  exact h _ _
 | true =>
 rw [Zt,Tj lm] at h
 conv=>whnf
 refine ZDc (fun hc=>wN ?_) (fun hc=>wN ?_)
 ·rw [Tj oM,R.bind_err] at h
  refine ⟨L,ts6,rfl,mc,wN ?_⟩
  exact h _ _
 rw [Tg oM] at h
 refine ⟨L,ts6,rfl,mc,fun x hx=>?_⟩
 rw [ZW,Tj lm] at hx
 subst hx
 intro a7 ww qt
 have hb7:=qt.hi
 conv=>whnf
 refine Or.inl ⟨InR.i64 oM oM,wN ?_⟩
 refine ⟨_,fun _ _ h=>h,Ta rfl,wN ?_⟩
 refine ⟨L,ts6.tail,rfl,qt,⟨oM,oM,oM⟩,fun x uj=>?_⟩
 rcases x with ⟨v8,ts8⟩ | ⟨r8,e8⟩
 rotate_left
 ·rw [uj,R.bind_err] at h;intro a9 d9;(conv=>whnf);exact h _ _
 rw [uj,R.bind_ok] at h
 intro a8 abi xb
 have hb8:=xb.hi
 conv=>whnf
 rw [Tg sM] at h
 refine ⟨L,ts8,rfl,xb,fun x xc=>?_⟩
 rcases x with ⟨v9,ts9⟩ | ⟨r9,e9⟩
 rotate_left
 ·rw [xc,R.bind_err,R.bind_err] at h;intro a9 d9;(conv=>whnf);exact h _ _
 rw [xc,R.bind_ok,R.bind_ok] at h
 intro a9 abj gc
 have qo:=gc.hi
 conv=>whnf
 refine Or.inl ⟨InR.i64 oM oM,wN ?_⟩
 rw [TX]
 rw [<- Zp]
 exact h _ oM gc):P:=h
theorem m146 {P:Prop} (h:P:=by
 refine ⟨pl,a3,Zh _ _,⟨rfl,oM,oM⟩,fun b hb=>?_⟩
 cases b with
 | false =>
  conv=>whnf
  exact h _ (by simp [Y7,Zs,hb])
 | true =>
 conv=>whnf
 refine ⟨oM,pl,a4,Zp _ _,⟨rfl,oM,oM⟩,fun b fy=>wN ?_⟩
 exact h _ (by simp [Y7,Zs,WR,j7,hb,fy])):P:=h
theorem m147 {P:Prop} (h:P:=by
 refine ⟨fun _=>0,a2,rfl,⟨by simp only [wBs];omega,oM⟩,fun b fc=>?_⟩
 cases b with
 | false =>
  have j7:Y5 a1 a2 a3.length a4.length=false:=by simp [Y5,gh,fc]
  conv=>whnf
  conv=>whnf
  exact m52
 | true =>
 conv=>whnf
 refine ZDe (fun hB=>wN ?_) (fun hB=>wN ?_)
 ·have hB:¬0<a4.length:=fun g=>hB (qu.2 g)
  have j7:Y5 a1 a2 a3.length a4.length=true:=by simp only [Y5,gh,fc,decide_eq_false hB];simp
  exact m10
 have hB:=qu.1 hB
 have j7:Y5 a1 a2 a3.length a4.length=false:=by simp [Y5,gh,hB]
 exact m52):P:=h
theorem m148 {P:Prop} (h:P:=by
 have g5:ZU (s.drop a)=none:=by
  unfold ZU
  simp only [ge,if_true,Tp,if_false]
  rcases fp with g | g
  ·rw [Tj g]
  by_cases g0:Zf (s.drop a)=[]
  ·rw [Tj g0]
  rw [Tg g0,Tj g]
 conv=>whnf
 refine ⟨⟨oM,oM⟩,wN ?_⟩
 (try (refine ⟨rfl,?_⟩;conv=>whnf))
 (try (refine ⟨rfl,?_⟩;conv=>whnf))
 exact dv g5):P:=h
theorem m149 {P:Prop} (h:P:=by
 conv=>whnf
 refine ZDc (fun aq=>wN ?_) (fun aq=>wN ?_)
 ·(repeat (first | (refine Or.inl ⟨InR.i64 oM oM,?_⟩;conv=>whnf) | (refine ⟨_,oM,bi,?_⟩;conv=>whnf)))
  refine ⟨pl,p3,B,rfl,⟨⟨oM,oM⟩,oM,oM,hB⟩,fun r kl kz=>wN ?_⟩
  unfold bd2 at kz
  refine Or.inl ⟨InR.i64 oM oM,wN ?_⟩
  exact h _ oM oM
 exact h _ oM oM):P:=h
theorem m150 {P:Prop} (h:P:=by
 conv=>whnf
 refine ZDc (fun aq=>wN ?_) (fun aq=>wN ?_)
 ·(repeat (first | (refine Or.inl ⟨InR.i64 oM oM,?_⟩;conv=>whnf) | (refine ⟨_,oM,bi,?_⟩;conv=>whnf)))
  refine ⟨oM,pl,b4,B,Zp _ _,⟨⟨oM,oM⟩,oM,oM,hB⟩,fun r kl kz=>wN ?_⟩
  unfold bd2 at kz
  refine Or.inl ⟨InR.i64 oM oM,wN ?_⟩
  exact m17
 exact m17):P:=h
theorem m151 {P:Prop} (h:P:=by
 refine ZDc (fun h3=>wN ?_) (fun h3=>wN ?_)
 ·exact h _ (by simp [Z9,kw])
 refine ZDc (fun h5=>?_) (fun h5=>?_)
 rotate_left
 ·have h5:¬a1=3:=by omega
  (conv=>whnf);exact h _ (by simp [Z9,h3,h5])
 have h5:a1=3:=oM
 have io:(decide (a3=0) || decide (a1=3))=true:=by simp [h5]
 conv=>whnf
 exact h _ (by simp [Z9,kw])):P:=h
theorem m152 {P:Prop} (h:P:=by
 conv=>whnf
 refine ZDc (fun aq=>wN ?_) (fun aq=>wN ?_)
 ·(repeat (first | (refine Or.inl ⟨InR.i64 oM oM,?_⟩;conv=>whnf) | (refine ⟨_,oM,bi,?_⟩;conv=>whnf)))
  refine ⟨pl,b4,B,Zp _ _,⟨⟨oM,oM⟩,oM,oM,hB⟩,fun r kl kz=>wN ?_⟩
  unfold bd2 at kz
  refine Or.inl ⟨InR.i64 oM oM,wN ?_⟩
  exact m17
 exact m17):P:=h
theorem m153 {P:Prop} (h:P:=by
 conv=>whnf
 refine ⟨pl,ZG p,rfl,hB,fun x hx=>?_⟩
 obtain rfl:=again _ hx
 conv=>whnf
 refine ⟨pl,ZG p,rfl,hB,fun ba y4=>?_⟩
 cases ba with
 | false =>
  conv=>whnf
  exact m3
 | true =>
 conv=>whnf
 refine ZDe (fun g=>absurd (gBA _ y4 rfl) g) (fun _=>wN ?_)
 exact m3):P:=h
theorem m154 {P:Prop} (h:P:=by
 have h5:¬a1=3:=by omega
 (conv=>whnf);exact h _ (by simp [Z9,h3,h5])):P:=h
theorem m155 {P:Prop} (h:P:=by
 refine ⟨pl,ZG p,rfl,⟨hc,hn,Xe⟩,fun g=>absurd ny g,fun _=>wN ?_⟩
 refine ZDe (fun he=>wN ?_) (fun he=>wN ?_)
 ·exact h
 refine ZDc (fun _=>wN ?_) (fun g=>absurd (ep _ _ h1 he).1 g)
 refine ZDc (fun _=>wN ?_) (fun g=>absurd (ep _ _ h1 he).2 g)
 exact h):P:=h
theorem m156 {P:Prop} (h:P:=by
 show ((L.length:Int) - a3).toNat<((L.length:Int) - a').toNat
 omega):P:=h
theorem m157 {P:Prop} (h:P:=by
 refine ⟨fun _=>0,a2,rfl,⟨by simp only [wBs];omega,oM⟩,fun b fc=>?_⟩
 cases b with
 | false =>
  have kw:VY a1 a2=false:=by simp [VY,gh,fc]
  conv=>whnf
  exact m8
 | true =>
 have kw:VY a1 a2=true:=by simp [VY,gh,fc]
 conv=>whnf
 exact m5):P:=h
theorem m158 {P:Prop} (h:P:=by
 rcases x with ⟨v2,ts2⟩ | ⟨r2,e2⟩
 rotate_left
 ·exact m40
 rw [ce,R.bind_ok] at h
 intro a2 gt aj
 have fy:=aj.hi
 conv=>whnf
 refine ⟨L,ts2,rfl,aj,fun x et=>?_⟩
 rcases x with ⟨v3,ts3⟩ | ⟨r3,e3⟩
 rotate_left
 ·exact m20
 exact m103):P:=h
theorem m159 {P:Prop} (h:P:=by
 have h6:¬(a4.length:Int)=a:=fun g=>h6 (by show ((Yn pl a4).length:Int)=a;rw [je];exact g)
 (conv=>whnf);exact h _ (by simp [Z9,ha,h2,h6])):P:=h
theorem m160 {P:Prop} (h:P:=by
 show ((L.length:Int) - (a2+1)).toNat<((L.length:Int) - a1).toNat
 omega):P:=h
theorem m161 {P:Prop} (h:P:=by
 rw [et,R.bind_err] at h;intro a9 d9;(conv=>whnf);exact h _ _):P:=h
theorem m162 {P:Prop} (h:P:=by
 rw [step,R.bind_err] at h
 intro a2 dp2
 conv=>whnf
 exact h _ _):P:=h
theorem m163 {P:Prop} (h:P:=by
 subst hx
 intro a9 d9
 conv=>whnf
 exact h _ _):P:=h
theorem m164 {P:Prop} (h:P:=by
 rw [Tj (by rw [Tf] at g;omega)] at h
 exact h _ _):P:=h
theorem m165 {P:Prop} (h:P:=by
 conv=>whnf
 refine Or.inl ⟨InR.i64 oM oM,wN ?_⟩
 refine ⟨⟨i+1,_,rfl,rfl,oM,oM,oM⟩,?_⟩
 show ((p1.length:Nat) - ((i:Int)+1)).toNat<((p1.length:Nat) - (i:Int)).toNat
 omega):P:=h
theorem m166 {P:Prop} (h:P:=by
 rw [Tg sM] at h
 refine ⟨L,ts2,rfl,aj,fun x et=>?_⟩
 exact m14):P:=h
theorem m167 {P:Prop} (h:P:=by
 rw [<- ym];exact ⟨by have h6':Zl (pk (s.drop ((e:Int)).toNat)).1=false:=h6;rw [h6'];simp,by have h7':Zm (pk (s.drop ((e:Int)).toNat)).1=false:=h7;rw [h7'];simp⟩):P:=h
theorem m168 {P:Prop} (h:P:=by
 exact (show ((l.length:Int) - ((i:Int)+1)).toNat<((l.length:Int) - (i:Int)).toNat by omega)):P:=h
theorem m169 {P:Prop} (h:P:=by
 rw [Zt,Tg (by rw [ek];simp)] at h
 exact m28):P:=h
theorem m170 {P:Prop} (h:P:=by
 rw [jx,R.bind_err] at h;intro a9 d9;(conv=>whnf);exact h _ _):P:=h
theorem m171 {P:Prop} (h:P:=by
 (try (refine ⟨rfl,?_⟩;conv=>whnf))
 (try (refine ⟨rfl,?_⟩;conv=>whnf))
 exact dv (by rw [g6,Tj (.inr (.inl (by rw [<- ym];exact h7)))])):P:=h
theorem m172 {P:Prop} (h:P:=by
 (try (refine ⟨rfl,?_⟩;conv=>whnf))
 (try (refine ⟨rfl,?_⟩;conv=>whnf))
 exact dv (by rw [g6,Tj (.inl (by rw [<- ym];exact h6))])):P:=h
theorem m173 {P:Prop} (h:P:=by
 exact h _ (by simp [Y7,j7])):P:=h
theorem m174 {P:Prop} (h:P:=by
 conv=>whnf
 refine ⟨oM,pl,a4,Zh _ _,⟨rfl,oM,oM⟩,fun b hb=>wN ?_⟩
 exact h _ (by simp [Z9,Zs,ha,kw,hb,h1,h6,io])):P:=h
theorem m175 {P:Prop} (h:P:=by
 conv=>whnf
 refine ⟨oM,pl,a4,Zh _ _,⟨rfl,oM,oM⟩,fun b hb=>wN ?_⟩
 exact h _ (by simp [Z9,Zs,ha,kw,hb,h1,h2,io])):P:=h
theorem m176 {P:Prop} (h:P:=by
 refine ⟨dM,wN ?_⟩
 refine Or.inr (wN ?_)
 refine ⟨dM,wN ?_⟩
 refine Or.inr (wN ?_)
 refine Or.inr (wN ?_)
 exact m53):P:=h
theorem m177 {P:Prop} (h:P:=by
 refine ⟨⟨i+1,_,rfl,rfl,oM,oM,oM⟩,?_⟩
 show ((l.length:Nat) - ((i:Int)+1)).toNat<((l.length:Nat) - (i:Int)).toNat
 omega):P:=h
theorem m178 {P:Prop} (h:P:=by
 refine Or.inr (wN ?_)
 refine ZDc (fun h8=>wN ?_) (fun h8=>?_)
 ·exact qm oM
 exfalso;exact h8 (by rw [hw];omega)):P:=h
theorem m179 {P:Prop} (h:P:=by
 refine ⟨oM,pl,a4,Zh _ _,⟨rfl,oM,oM⟩,fun b hb=>wN ?_⟩
 exact h _ (by simp [Z9,Zs,ha,kw,hb,h1,h6,h3])):P:=h
theorem m180 {P:Prop} (h:P:=by
 refine ⟨oM,pl,a4,Zh _ _,⟨rfl,oM,oM⟩,fun b hb=>wN ?_⟩
 exact h _ (by simp [Z9,Zs,ha,kw,hb,h1,h2,h3])):P:=h
theorem m181 {P:Prop} (h:P:=by
 simp only [IntKind.wrap,show IntKind.u64.bits=64 from rfl,show IntKind.u64.signed=false from rfl,TT,Tp,if_false]
 omega):P:=h
theorem m182 {P:Prop} (h:P:=by
 exact (show u.length - (i+(decodeL u i).2)<u.length - i by omega)):P:=h
theorem m183 {P:Prop} (h:P:=by
 simp only [ZaQ,J6] at h
 simp only [ZbR]
 exact m49):P:=h
theorem m184 {P:Prop} (h:P:=by
 have h1:¬-2<a:=h1;(conv=>whnf);exact h _ (by simp [Z9,ha,h1])):P:=h
theorem m185 {P:Prop} (h:P:=by
 rw [ce,R.bind_err] at h;intro a9 d9;(conv=>whnf);exact h _ _):P:=h
theorem m186 {P:Prop} (h:P:=by
 have j7:Y5 a1 a2 a3.length a4.length=false:=by simp only [Y5,jh,nz,xa,tt,if_false]
 exact m173):P:=h
theorem m187 {P:Prop} (h:P:=by
 conv=>whnf
 refine ⟨L,ts,rfl,ho,fun x hx=>?_⟩
 rw [ZW,Tg (by rw [ek];simp)] at hx
 exact m163):P:=h
end

section
namespace Go.PM
theorem wN {P Q:Prop} (k:Q) (h:Q->P:=by intro k;(conv=>whnf);exact k):P:=h k
theorem oM {P:Prop} (h:P:=by omega):P:=h
theorem sM {P:Prop} (h:P:=by simp):P:=h
theorem dM {P:Prop} (h:P:=by decide):P:=h
theorem iM {P:Prop} (h:P:=by first | exact .inl rfl | exact .inr rfl):P:=h
theorem sO {P:Prop} (h:P:=by simp;omega):P:=h
theorem hD {P:Prop} (h:P:=by rw [TA];omega):P:=h
theorem tN {P:Prop} (h:P:=by simp only [Tw];omega):P:=h
theorem oP {P:Prop} (h:P:=by simp [Op.operands]):P:=h
theorem zN {P:Prop} (h:P:=by simp only [Sf,TL,List.flatten_nil,TU];rfl):P:=h
inductive D where
 | bool (b:Bool) | int (k:IntKind) (n:Int) | str (s:List UInt8) | sl (rows:List (List D)) | nilp | nilf | nili
 deriving Inhabited
inductive PV where
 | d (x:D) | undef | ptr (b off:Nat) | elem (r:List D) (off:Nat) | sl (tok e:Nat) (rows:List (List D)) | nils (e:Nat) | asl (b off n:Nat)
 | func (f:FuncId) (first caps:List PV) | iface (t:TypeId) (v:PV) | agg (cs:List PV) | tuple (vs:List PV) | raw (v:Value) | mp (b:Nat) | nilm
 deriving Inhabited
inductive MV where
 | one (x:D) | agg (l:List D)
 deriving Inhabited
def MV.pv:MV->PV | .one x=>.d x | .agg l=>.agg (l.map .d)
inductive Box where
 | dmap (m:List (List UInt8×MV)) | cells (t:TypeId) (cs:List PV) | iter (s:List UInt8) (pos:Nat) | loop (st:LoopState) (pd:Option Code) (r:Loop) | map (cs:List PV) (bn:List Nat) (ck:Nat)
 deriving Inhabited
structure St where
 bx:List Box
 tk:List Nat
 nx:Nat
inductive TK where
 | other | int (k:IntKind) | bool | string | ptr (e:Nat) | slice (e:Nat) | array (n e:Nat) | struct (fs:List (Nat×Nat)) | func | iface | map (k e:Nat)
structure TI where
 size:Nat
 bytes:Nat
 kind:TK
 zero:List PV
 eqok:Bool
def TI.no:TI:=⟨0,0,.other,[],false⟩
inductive Tab where
 | leaf | node (l:Tab) (k:Nat) (v:TI) (r:Tab)
def Tab.get:Tab->Nat->TI
 | .leaf,_=>TI.no
 | .node l k v r,n=>match Nat.beq n k with
  | true=>v
  | false=>match Nat.ble n k with
   | true=>l.get n
   | false=>r.get n
def TK.isAgg:TK->Bool | .array _ _ | .struct _=>true | _=>false
abbrev Frame:=Nat->PV
def V0 (f:Frame) (i:Nat) (v:PV):Frame:=fun n=>match Nat.beq i n with
 | true=>v
 | false=>f n
def Zb0:Value->PV
 | .bool b=>.d (.bool b)
 | .int k n=>.d (.int k n)
 | .string s=>.d (.str s.data.toList)
 | .pointer none=>.d .nilp
 | .slice none 0 0=>.nils 0
 | .nilFunc=>.d .nilf
 | .nilIface=>.d .nili
 | .map none=>.nilm
 | v=>.raw v
def ZAB:Value->Bool
 | .agg _=>false
 | .tuple _=>false
 | _=>true
def Zfp:Value->PV
 | .agg cs=>match cs.toList.all ZAB with | true=>.agg (cs.toList.map Zb0) | false=>.raw (.agg cs)
 | v=>Zb0 v
def ev (f:Frame):Operand->PV
 | .tmp t=>f t
 | .const v=>Zfp v
 | .global _=>.undef
 | .func g=>.func g [] []
def CondP:Bool->Prop->Prop->Prop
 | true,X,_=>X
 | false,_,Y=>Y
def Yc:Nat->(Nat->Prop)->Prop
 | 0,K=>K 0
 | n+1,K=>Yc n fun m=>K (m+1)
def Znb (v:PV) (K:PV->Prop):Prop:=match v with
 | .d x=>K (.d x) | .undef=>K .undef | .ptr b off=>Yc b fun b=>Yc off fun off=>K (.ptr b off) | .elem r off=>Yc off fun off=>K (.elem r off) | .sl t z r=>Yc t fun t=>K (.sl t z r) | .nils z=>K (.nils z)
 | .asl b off n=>Yc b fun b=>Yc off fun off=>K (.asl b off n) | .func f a c=>K (.func f a c) | .iface t v=>K (.iface t v) | .agg cs=>K (.agg cs) | .tuple vs=>K (.tuple vs) | .raw v=>K (.raw v) | .mp b=>Yc b fun b=>K (.mp b) | .nilm=>K .nilm
def Vt:List PV->(List PV->Prop)->Prop
 | [],K=>K []
 | v::l,K=>Znb v fun v=>Vt l fun l=>K (v::l)
def ZjX (v:PV) (K:PV->Prop):Prop:=match v with
 | .d x=>K (.d x) | .undef=>K .undef | .ptr b off=>Yc b fun b=>Yc off fun off=>K (.ptr b off) | .elem r off=>Yc off fun off=>K (.elem r off) | .sl t z r=>Yc t fun t=>K (.sl t z r) | .nils z=>K (.nils z)
 | .asl b off n=>Yc b fun b=>Yc off fun off=>K (.asl b off n) | .raw v=>K (.raw v) | .mp b=>Yc b fun b=>K (.mp b) | .nilm=>K .nilm
 | .func f a c=>Vt a fun a=>Vt c fun c=>K (.func f a c) | .iface t v=>K (.iface t v) | .agg cs=>Vt cs fun cs=>K (.agg cs) | .tuple vs=>K (.tuple vs)
def Zfq:List PV->(List PV->Prop)->Prop
 | [],K=>K []
 | v::l,K=>ZjX v fun v=>Zfq l fun l=>K (v::l)
def Jd (v:PV) (K:PV->Prop):Prop:=match v with
 | .d x=>K (.d x) | .undef=>K .undef | .ptr b off=>Yc b fun b=>Yc off fun off=>K (.ptr b off) | .elem r off=>Yc off fun off=>K (.elem r off) | .sl t z r=>Yc t fun t=>K (.sl t z r) | .nils z=>K (.nils z)
 | .asl b off n=>Yc b fun b=>Yc off fun off=>K (.asl b off n) | .raw v=>K (.raw v) | .mp b=>Yc b fun b=>K (.mp b) | .nilm=>K .nilm
 | .func f a c=>Vt a fun a=>Vt c fun c=>K (.func f a c) | .iface t v=>ZjX v fun v=>K (.iface t v) | .agg cs=>Vt cs fun cs=>K (.agg cs) | .tuple vs=>Zfq vs fun vs=>K (.tuple vs)
def Zer (f:Frame) (d:Option Nat) (v:PV) (K:Frame->Prop):Prop:=match d with
 | some i=>Jd v fun v=>K (V0 f i v)
 | none=>K f
theorem ZDg {t:Bool} {X Y:Prop} (h1:t=true->X) (h2:t=false->Y):CondP t X Y:=by cases t;exact h2 rfl;exact h1 rfl
def WE {α:Type}:Nat->List α->Option (List α)
 | 0,_=>some []
 | n+1,x::l=>match WE n l with | some r=>some (x::r) | none=>none
 | _+1,[]=>none
def ZJ {α:Type}:List α->Nat->List α->List α
 | l,_,[]=>l
 | [],_,_=>[]
 | _::l,0,v::vs=>v::ZJ l 0 vs
 | x::l,n+1,vs=>x::ZJ l n vs
def ZdU (t:Nat):List Nat->Bool
 | []=>false
 | x::l=>match Nat.beq x t with | true=>true | false=>ZdU t l
def UV (t:Nat):List Nat->List Nat
 | []=>[]
 | x::l=>match Nat.beq x t with | true=>UV t l | false=>x::UV t l
def PV.cells:PV->Option (List PV)
 | .agg cs=>some cs | .undef=>none | .tuple _=>none | .raw (.func f a c)=>some [.raw (.func f a c)] | .raw _=>none | v=>some [v]
def toD:PV->Option D | .d x=>some x | .sl _ _ rows=>some (.sl rows) | .nils _=>some (.sl []) | _=>none
def ZlC:List PV->Option (List D)
 | []=>some []
 | v::l=>match toD v with | some x=>(match ZlC l with | some r=>some (x::r) | none=>none) | none=>none
def keq:IntKind->IntKind->Bool
 | .i8,.i8 | .i16,.i16 | .i32,.i32 | .i64,.i64 | .u8,.u8 | .u16,.u16 | .u32,.u32 | .u64,.u64=>true
 | _,_=>false
def WT (op:BinOp) (k:IntKind) (a b:Int):Int:=match (Op.intBits op k a b:Sem Value) with | .pure (.int _ n)=>n | _=>0
noncomputable def Zi:BinOp->IntKind->Int->Int->Int:=Classical.choose (⟨WT,rfl⟩:∃f,f=WT)
theorem Z2:Zi=WT:=Classical.choose_spec (⟨WT,rfl⟩:∃f,f=WT)
def InR (k:IntKind) (n:Int):Prop:=k.wrap n=n
def ZbQ (k:IntKind) (n:Int) (K:PV->Prop):Prop:=(InR k n/\K (.d (.int k n)))\/K (.d (.int k (k.wrap n)))
def ZtB (op:BinOp) (k:IntKind) (a b:Int) (K:PV->Prop):Prop:=match op with
 | .add=>ZbQ k (a+b) K | .sub=>ZbQ k (a - b) K | .mul=>ZbQ k (a * b) K
 | .quo=>b≠0/\ZbQ k (a.tdiv b) K | .rem=>b≠0/\K (.d (.int k (a.tmod b)))
 | .and=>K (.d (.int k (Zi .and k a b))) | .or=>K (.d (.int k (Zi .or k a b))) | .xor=>K (.d (.int k (Zi .xor k a b))) | .andNot=>K (.d (.int k (Zi .andNot k a b)))
 | .eql=>K (.d (.bool (decide (a=b)))) | .neq=>K (.d (.bool (!decide (a=b)))) | .lss=>K (.d (.bool (decide (a<b)))) | .leq=>K (.d (.bool (decide (a<=b))))
 | .gtr=>K (.d (.bool (decide (b<a)))) | .geq=>K (.d (.bool (decide (b<=a))))
 | _=>False
def ZjY:Operand->Bool | .const _=>true | _=>false
def Yj (T:Tab):Nat->List (Nat×Nat)->List PV->List PV->(Bool->Prop)->Prop
 | _,[],[],[],K=>K true
 | i,(o,t)::fs,x::xs,y::ys,K=>match Nat.beq o i,(T.get t).kind,x,y with
  | true,.int _,.d (.int k a),.d (.int k' b)=>(match keq k k' with | true=>Yj T (i+1) fs xs ys fun r=>K (decide (a=b) && r) | false=>False)
  | true,.string,.d (.str a),.d (.str b)=>Yj T (i+1) fs xs ys fun r=>K (decide (a=b) && r)
  | true,.bool,.d (.bool a),.d (.bool b)=>Yj T (i+1) fs xs ys fun r=>K (decide (a=b) && r)
  | _,_,_,_=>False
 | _,_,_,_,_=>False
def peq (T:Tab) (t:TypeId) (x y:Operand) (px py:PV) (K:Bool->Prop):Prop:=match (T.get t).kind with
 | .bool=>match px,py with
  | .d (.bool a),.d (.bool b)=>K (decide (a=b))
  | _,_=>False
 | .ptr _=>match px,py with
  | .d .nilp,.d .nilp=>K true
  | .d .nilp,.ptr _ _=>K false
  | .d .nilp,.elem _ _=>K false
  | .ptr _ _,.d .nilp=>K false
  | .elem _ _,.d .nilp=>K false
  | _,_=>False
 | .func=>match px,py with
  | .d .nilf,.d .nilf=>K true
  | .d .nilf,.func _ _ _=>K false
  | .func _ _ _,.d .nilf=>K false
  | _,_=>False
 | .iface=>match px,py with
  | .d .nili,.d .nili=>match ZjY x || ZjY y with | true=>K true | false=>False
  | .d .nili,.iface _ _=>K false
  | .iface _ _,.d .nili=>K false
  | .iface t (.d (.int k a)),.iface t' (.d (.int k' b))=>match Nat.beq t t',(T.get t).kind,(T.get t).eqok with
   | true,.int _,true=>(match keq k k' with | true=>K (decide (a=b)) | false=>False)
   | false,_,_=>K false
   | _,_,_=>False
  | _,_=>False
 | .map _ _=>match px,py with
  | .nilm,.nilm=>K true
  | .mp _,.nilm=>K false
  | .nilm,.mp _=>K false
  | _,_=>False
 | .slice _=>match px,py with
  | .nils _,.nils _=>K true
  | .d (.sl (_::_)),.nils _=>K false
  | .sl _ _ (_::_),.nils _=>K false
  | _,_=>False
 | .struct fs=>match (T.get t).eqok with
  | true=>match px,py with
   | .agg xs,.agg ys=>Yj T 0 fs xs ys K
   | _,_=>False
  | false=>False
 | _=>False
def Zrt (T:Tab) (op:BinOp) (t:TypeId) (x y:Operand) (px py:PV) (K:PV->Prop):Prop :=
 match px,py with
 | .d (.int k a),.d (.int k' b)=>match op with
  | .shl=>0<=b/\ZbQ k (a * 2 ^ (min b.toNat k.bits)) K
  | .shr=>0<=b/\K (.d (.int k (a.fdiv (2 ^ (min b.toNat k.bits)))))
  | op=>match keq k k' with | true=>ZtB op k a b K | false=>False
 | .d (.str a),.d (.str b)=>match op with
  | .add=>a.length+b.length<2 ^ 62/\K (.d (.str (a++b))) | .eql=>K (.d (.bool (decide (a=b)))) | .neq=>K (.d (.bool (!decide (a=b))))
  | .lss=>K (.d (.bool (Op.bytesLess a b))) | .geq=>K (.d (.bool (!Op.bytesLess a b)))
  | .leq=>K (.d (.bool (Op.bytesLess a b || decide (a=b)))) | .gtr=>K (.d (.bool (!(Op.bytesLess a b || decide (a=b)))))
  | _=>False
 | px,py=>match op with
  | .eql=>peq T t x y px py fun b=>K (.d (.bool b))
  | .neq=>peq T t x y px py fun b=>K (.d (.bool (!b)))
  | _=>False
def decodeL (s:List UInt8) (pos:Nat):Nat×Nat:=Utf8.decode ⟨s.toArray⟩ pos
def Z3 (T:Tab) (fs:List (Nat×Nat)) (ρ:Operand->PV):List (Nat×Operand)->List PV->(List PV->Prop)->Prop
 | [],cs,K=>K cs
 | (i,x)::ps,cs,K=>match fs[i]?,(ρ x).cells with
  | some (o,t),some l=>match Nat.beq l.length (T.get t).size,Nat.ble (o+l.length) cs.length,(T.get t).kind with
   | _,_,.other=>False
   | true,true,_=>Z3 T fs ρ ps (ZJ cs o l) K
   | _,_,_=>False
  | _,_=>False
def ZrA (s e:Nat):Nat->Nat->List (Nat×Nat)
 | 0,_=>[]
 | n+1,i=>(i * s,e)::ZrA s e n (i+1)
def X0 (lo hi:Option PV) (len:Nat) (K:Nat->Nat->Prop):Prop :=
 match lo,hi with
 | none,none=>K 0 len
 | some x,none=>match x with
  | .d (.int _ n)=>0<=n/\n<=len/\K n.toNat len
  | _=>False
 | none,some y=>match y with
  | .d (.int _ m)=>0<=m/\m<=len/\K 0 m.toNat
  | _=>False
 | some x,some y=>match x,y with
  | .d (.int _ n),.d (.int _ m)=>0<=n/\n<=m/\m<=len/\K n.toNat m.toNat
  | _,_=>False
def cut {α:Type} (l:List α) (a b:Nat):List α:=(l.take b).drop a
def VQ (T:Tab) (t:TypeId) (x:PV) (lo hi:Option PV) (K:PV->Prop):Prop:=match (T.get t).kind with
 | .string=>match x with
  | .d (.str s)=>X0 lo hi s.length fun a b=>K (.d (.str (cut s a b)))
  | _=>False
 | .slice e=>match (T.get e).kind with
  | .other=>False
  | _=>match toD x with
   | some (.sl rows)=>(∀r∈rows,r.length=(T.get e).size)/\X0 lo hi rows.length fun a b=>K (.d (.sl (cut rows a b)))
   | _=>False
 | .array n e=>match (T.get e).kind with
  | .other=>False
  | _=>match x,lo,hi with
   | .ptr b off,none,none=>K (.asl b off n)
   | .ptr b off,some (.d (.int _ a)),none=>0<=a/\a<n/\K (.asl b (off+a.toNat * (T.get e).size) (n - a.toNat))
   | _,_,_=>False
 | _=>False
def Je (T:Tab) (t:TypeId) (x:PV) (bx:List Box) (K:PV->Prop):Prop:=match x with
 | .ptr b off=>match bx[b]? with
  | some (.cells _ cs)=>match (T.get t).kind.isAgg with
   | true=>match WE (T.get t).size (cs.drop off) with | some l=>K (.agg l) | none=>False
   | false=>match (T.get t).kind with | .other=>False | _=>match cs[off]? with | some v=>K v | none=>False
  | _=>False
 | .elem r off=>match (T.get t).kind.isAgg with
   | true=>match WE (T.get t).size (r.drop off) with | some l=>K (.agg (l.map .d)) | none=>False
   | false=>match (T.get t).kind with | .other=>False | _=>match r[off]? with | some v=>K (.d v) | none=>False
 | _=>False
def ZjZ (v:TI):Option PV:=match v.kind.isAgg,v.zero with | true,z=>some (.agg z) | false,[z]=>some z | _,_=>none
def findM (key:List UInt8):List PV->Option PV
 | .d (.str k)::v::l=>match decide (key=k) with | true=>some v | false=>findM key l
 | _=>none
def optK {α:Type} (o:Option α) (A:α->Prop) (B:Prop):Prop:=match o with | some a=>A a | none=>B
theorem optK.yes {α:Type} {o:Option α} {A:α->Prop} {B:Prop} {a:α} (h:o=some a) (k:A a):optK o A B:=by subst h;exact k
theorem optK.no {α:Type} {o:Option α} {A:α->Prop} {B:Prop} (h:o=none) (k:B):optK o A B:=by subst h;exact k
theorem ZDl {α:Type} {o:Option α} {A:α->Prop} {B:Prop} (h1:∀a,o=some a->A a) (h2:o=none->B):optK o A B:=by cases o with | some a=>exact h1 a rfl | none=>exact h2 rfl
def lkM {α:Type} (k:List UInt8):List (List UInt8×α)->Option α
 | []=>none
 | (x,v)::l=>match decide (k=x) with | true=>some v | false=>lkM k l
def Uv {α:Type} (k:List UInt8) (v:α):List (List UInt8×α)->List (List UInt8×α)
 | []=>[(k,v)]
 | (x,u)::l=>match decide (k=x) with | true=>(x,v)::l | false=>(x,u)::Uv k v l
def Zcj:List (List UInt8×MV)->List PV
 | []=>[]
 | (k,v)::l=>.d (.str k)::v.pv::Zcj l
def ZAd:PV->Option MV
 | .agg cs=>match ZlC cs with | some l=>some (.agg l) | none=>none
 | v=>match toD v with | some x=>some (.one x) | none=>none
def YW (T:Tab) (t:TypeId) (m key:PV) (ok:Bool) (bx:List Box) (K:PV->Prop):Prop:=match (T.get t).kind with
 | .map _ e=>match (T.get e).kind with
  | .other=>False
  | _=>match key with
   | .d (.str k) =>
    match ZjZ (T.get e) with
    | some z=>match m with
     | .nilm=>K (match ok with | true=>.tuple [z,.d (.bool false)] | false=>z)
     | .mp b=>match bx[b]? with
      | some (.map cs _ _)=>match findM k cs with
       | some v=>K (match ok with | true=>.tuple [v,.d (.bool true)] | false=>v)
       | none=>K (match ok with | true=>.tuple [z,.d (.bool false)] | false=>z)
      | some (.dmap l)=>optK (lkM k l) (fun v=>K (match ok with | true=>.tuple [v.pv,.d (.bool true)] | false=>v.pv)) (K (match ok with | true=>.tuple [z,.d (.bool false)] | false=>z))
      | _=>False
     | _=>False
    | none=>False
   | _=>False
 | _=>False
def qop (T:Tab) (o:Op) (ty:TypeId) (ρ:Operand->PV) (bx:List Box) (K:PV->Prop):Prop :=
 match o with
 | .move x | .assign x=>match ρ x with
  | .nils _=>match (T.get ty).kind with | .slice e=>K (.nils e) | _=>K (.nils 0)
  | v=>K v
 | .pick c a b=>match ρ c with | .d (.bool t)=>CondP t (K (ρ a)) (K (ρ b)) | _=>False
 | .build t ps=>match (T.get t).kind with
  | .struct fs=>Z3 T fs ρ ps.toList (T.get t).zero fun cs=>K (.agg cs)
  | .array n e=>match (T.get e).kind with
   | .other=>False
   | _=>match Nat.ble 1 (T.get e).size with
    | true=>Z3 T (ZrA (T.get e).size e n 0) ρ ps.toList (T.get t).zero fun cs=>K (.agg cs)
    | false=>False
  | _=>False
 | .load t a=>Je T t (ρ a) bx K
 | .lookup t m x ok=>YW T t (ρ m) (ρ x) ok bx K
 | .nilCheck x=>match ρ x with
  | .ptr b off=>K (.ptr b off)
  | .elem r off=>K (.elem r off)
  | .func g a c=>K (.func g a c)
  | _=>False
 | .binOp op t x y _=>Zrt T op t x y (ρ x) (ρ y) K
 | .unOp op _ x=>match op,ρ x with
  | .not,.d (.bool b)=>K (.d (.bool (!b)))
  | .neg,.d (.int k a)=>ZbQ k (0 - a) K
  | .xor,.d (.int k a)=>K (.d (.int k (Zi .xor k (if k.signed then -1 else k.max) a)))
  | _,_=>False
 | .convert s d x=>match (T.get s).kind with
  | .other=>False
  | .slice e=>match (T.get d).kind with
   | .string=>match (T.get e).kind with
    | .int .u8=>match toD (ρ x) with
     | some (.sl rows)=>∃l:List UInt8,rows=l.map (fun b=>[.int .u8 b.toNat])/\K (.d (.str l))
     | _=>False
    | _=>False
   | _=>False
  | _=>match (T.get d).kind with
   | .int k=>match ρ x with | .d (.int _ n)=>ZbQ k n K | _=>False
   | .string=>match ρ x with | .d (.str s)=>K (.d (.str s)) | .d (.int _ n)=>K (.d (.str (Utf8.encode n).data.toList)) | _=>False
   | _=>False
 | .fieldAddr s x i=>match (T.get s).kind with
  | .struct fs=>match fs[i]? with
   | some (o,_)=>match ρ x with
    | .ptr b off=>K (.ptr b (off+o))
    | .elem r off=>K (.elem r (off+o))
    | _=>False
   | none=>False
  | _=>False
 | .field s x i=>match (T.get s).kind with
  | .struct fs=>match fs[i]? with
   | some (o,t)=>match ρ x with
    | .agg cs=>match (T.get t).kind.isAgg with
     | true=>match WE (T.get t).size (cs.drop o) with | some l=>K (.agg l) | none=>False
     | false=>match (T.get t).kind with | .other=>False | _=>match cs[o]? with | some v=>K v | none=>False
    | _=>False
   | none=>False
  | _=>False
 | .index t x i=>match ρ i with
  | .d (.int _ n)=>match (T.get t).kind with
   | .string=>match ρ x with
    | .d (.str s)=>0<=n/\n<s.length/\K (.d (.int .u8 (s.getD n.toNat 0).toNat))
    | _=>False
   | .array m e=>match ρ x with
    | .agg cs=>match (T.get e).kind.isAgg with
     | true=>match WE (T.get e).size (cs.drop (n.toNat * (T.get e).size)) with
      | some l=>0<=n/\n<m/\K (.agg l)
      | none=>False
     | false=>match (T.get e).kind with
      | .other=>False
      | _=>match Nat.beq (T.get e).size 1 with
       | true=>match cs[n.toNat]? with | some v=>0<=n/\n<m/\K v | none=>False
       | false=>False
    | _=>False
   | _=>False
  | _=>False
 | .indexAddr t x i=>match ρ i with
  | .d (.int _ n)=>match (T.get t).kind with
   | .slice e=>match (T.get e).kind with
    | .other=>False
    | _=>match ρ x with
     | .asl b off m=>0<=n/\n<m/\K (.ptr b (off+n.toNat * (T.get e).size))
     | px=>match toD px with
      | some (.sl rows)=>∃r,0<=n/\rows[n.toNat]?=some r/\(match Nat.beq r.length (T.get e).size with | true=>K (.elem r 0) | false=>False)
      | _=>False
   | .array m e=>match (T.get e).kind with
    | .other=>False
    | _=>match ρ x with
     | .ptr b off=>0<=n/\n<m/\K (.ptr b (off+n.toNat * (T.get e).size))
     | _=>False
   | _=>False
  | _=>False
 | .slice t x lo hi none=>VQ T t (ρ x) (lo.map ρ) (hi.map ρ) K
 | .extract x i=>match ρ x with
  | .tuple vs=>match vs[i]? with | some v=>K v | none=>False
  | _=>False
 | .makeFunc (.func g) a c=>K (.func g (a.toList.map ρ) (c.toList.map ρ))
 | .makeInterface t x=>match (T.get t).kind with
  | .iface=>False
  | .other=>False
  | _=>K (.iface t (ρ x))
 | .typeAssert x _ t true=>match (T.get t).kind with
  | .iface=>False
  | .other=>False
  | _=>match ρ x with
   | .iface t' v=>match Nat.beq t' t with
    | true=>K (.tuple [v,.d (.bool true)])
    | false=>False
   | _=>False
 | .call { callee:=.builtin b,args,argTypes }=>match b,argTypes.toList,args.toList.map ρ with
  | .len,t::_,[v]=>match (T.get t).kind with
   | .string=>match v with | .d (.str s)=>K (.d (.int .i64 s.length)) | _=>False
   | .slice _=>match v with
    | .asl _ _ n=>K (.d (.int .i64 n))
    | v=>match toD v with | some (.sl rows)=>K (.d (.int .i64 rows.length)) | _=>False
   | .map _ _=>match v with
    | .nilm=>K (.d (.int .i64 (0:Nat)))
    | .mp b=>match bx[b]? with | some (.map cs _ _)=>K (.d (.int .i64 (cs.length / 2:Nat))) | some (.dmap l)=>K (.d (.int .i64 l.length)) | _=>False
    | _=>False
   | _=>False
  | .min,_,[.d (.int k a),.d (.int k' b)]=>match keq k k' with | true=>K (.d (.int k (min a b))) | false=>False
  | .max,_,[.d (.int k a),.d (.int k' b)]=>match keq k k' with | true=>K (.d (.int k (max a b))) | false=>False
  | _,_,_=>False
 | _=>False
def ZgJ (T:Tab) (o:Op):Option Operand:=match o with
 | .convert s d x=>match (T.get s).kind with
  | .string=>match (T.get d).kind with
   | .slice e=>match (T.get e).kind with
    | .int .u8=>some x
    | _=>none
   | _=>none
  | _=>none
 | _=>none
def ZgK (v:PV):Option (List D):=match v.cells with | some l=>ZlC l | none=>none
def X1 (w:Nat) (ρ:Operand->PV):List (Nat×Operand)->List (List D)->Option (List (List D))
 | [],rows=>some rows
 | (i,x)::ps,rows=>match ZgK (ρ x) with
  | some r=>(match Nat.beq r.length w,Nat.ble (i+1) rows.length with | true,true=>X1 w ρ ps (rows.set i r) | _,_=>none)
  | none=>none
def Zat (zero:List D) (ρ:Operand->PV) (n:Nat) (ps:List (Nat×Operand)):Option (List (List D)):=X1 zero.length ρ ps (List.replicate n zero)
def Zfr (T:Tab) (o:Op) (ty:TypeId) (ρ:Operand->PV) (bx:List Box) (K:PV->Prop):Prop:=match ZgJ T o with
 | some x=>match ρ x with
  | .d (.str s)=>K (.d (.sl (s.map fun b=>[.int .u8 b.toNat])))
  | _=>False
 | none=>match o with
  | .buildSlice t n ps=>match (T.get t).kind with
   | .slice e=>match (T.get e).kind with
    | .other=>False
    | _=>match ZlC (T.get e).zero with
     | some zero=>match Nat.ble 1 zero.length,Nat.ble (n * zero.length) 16777216,Zat zero ρ n ps.toList with
      | true,true,some rows=>K (.d (.sl rows))
      | _,_,_=>False
     | none=>False
   | _=>False
  | .makeSlice t l c=>match (T.get t).kind with
   | .slice e=>match (T.get e).kind with
    | .other=>False
    | _=>match ZlC (T.get e).zero,ρ l,ρ c with
     | some zero,.d (.int .i64 (.ofNat n)),.d (.int .i64 (.ofNat m))=>match Nat.beq n m,Nat.ble 1 zero.length,Nat.ble (n * zero.length) 16777216,Nat.ble (n * (T.get e).bytes) 16777216 with
      | true,true,true,true=>K (.d (.sl (List.replicate n zero)))
      | _,_,_,_=>False
     | _,_,_=>False
   | _=>False
  | o=>qop T o ty ρ bx K
def St.set (σ:St) (b:Nat) (x:Box):St:={ σ with bx:=σ.bx.set b x }
def St.new (σ:St) (x:Box):St:={ σ with bx:=σ.bx++[x] }
def X2 (T:Tab) (tx el:Nat) (x:PV):Option (List (List D)):=match (T.get tx).kind with
 | .string=>match (T.get el).kind with
  | .int .u8=>match x with
   | .d (.str s)=>some (s.map fun b=>[.int .u8 b.toNat])
   | _=>none
  | _=>none
 | .slice _=>match toD x with
  | some (.sl rows)=>some rows
  | _=>none
 | _=>none
def Zm7 (key:List UInt8) (v:PV):List PV->Option (List PV)
 | .d (.str k)::u::l=>match decide (key=k) with
  | true=>some (.d (.str k)::v::l)
  | false=>match Zm7 key v l with | some l=>some (.d (.str k)::u::l) | none=>none
 | _=>none
def JM (T:Tab) (t:TypeId) (m key v:PV) (σ:St) (K:PV->St->Prop):Prop:=match (T.get t).kind with
 | .map _ _=>match key,m with
  | .d (.str k),.mp b=>match σ.bx[b]? with
   | some (.map cs bn ck)=>match Zm7 k v cs with
    | some cs=>K .undef (σ.set b (.map cs bn ck))
    | none=>K .undef (σ.set b (.map (cs++[.d (.str k),v]) (bn++[ck]) (ck+1)))
   | some (.dmap l)=>match ZAd v with
    | some x=>K .undef (σ.set b (.dmap (Uv k x l)))
    | none=>False
   | _=>False
  | _,_=>False
 | _=>False
def eop (T:Tab) (o:Op) (ρ:Operand->PV) (σ:St) (K:PV->St->Prop):Prop :=
 match o with
 | .alloc e=>match (T.get e).kind with | .other=>False | _=>K (.ptr σ.bx.length 0) (σ.new (.cells e (T.get e).zero))
 | .box e x=>match (ρ x).cells with | some l=>K (.ptr σ.bx.length 0) (σ.new (.cells e l)) | none=>False
 | .store t a x=>match ρ a with
  | .ptr b off=>match σ.bx[b]? with
   | some (.cells ty cs)=>match (ρ x).cells with
    | some l=>match Nat.beq l.length (T.get t).size,Nat.ble (off+l.length) cs.length,(T.get t).kind with
     | _,_,.other=>False
     | true,true,_=>K .undef (σ.set b (.cells ty (ZJ cs off l)))
     | _,_,_=>False
    | none=>False
   | _=>False
  | _=>False
 | .range t x=>match (T.get t).kind with
  | .string=>match ρ x with
   | .d (.str s)=>K (.ptr σ.bx.length 0) (σ.new (.iter s 0))
   | _=>False
  | _=>False
 | .makeMap t none=>match (T.get t).kind with
  | .map _ e=>match (T.get e).kind with
   | .slice _=>K (.mp σ.bx.length) (σ.new (.map [] [] 0))
   | .map _ _=>K (.mp σ.bx.length) (σ.new (.map [] [] 0))
   | _=>K (.mp σ.bx.length) (σ.new (.dmap []))
  | _=>False
 | .mapUpdate t m x v=>JM T t (ρ m) (ρ x) (ρ v) σ K
 | .insert t m x v=>JM T t (ρ m) (ρ x) (ρ v) σ K
 | .next x true=>match ρ x with
  | .ptr b 0=>match σ.bx[b]? with
   | some (.iter s pos)=>CondP (decide (pos<s.length)) (K (.tuple [.d (.bool true),.d (.int .i64 pos),.d (.int .i32 (decodeL s pos).1)]) (σ.set b (.iter s (pos+(decodeL s pos).2)))) (K (.tuple [.d (.bool false)]) σ)
   | _=>False
  | _=>False
 | .call { callee:=.builtin .append,args,argTypes }=>match argTypes.toList,args.toList.map ρ with
  | [t,tx],[s,x]=>match (T.get t).kind with
   | .slice el=>match (T.get el).kind with
    | .other=>False
    | _=>match Nat.ble 1 (T.get el).size,X2 T tx el x with
     | true,some more=>match s with
      | .nils _=>(∀r∈more,r.length=(T.get el).size)/\more.length * (T.get el).bytes<=2 ^ 47/\more.length<=2 ^ 47/\K (.sl σ.nx el more) { σ with tk:=σ.nx::σ.tk,nx:=σ.nx+1 }
      | .sl tok e2 rows=>match ZdU tok σ.tk,Nat.beq e2 el with
       | true,true=>(∀r∈more,r.length=(T.get el).size)/\(rows.length+more.length) * (T.get el).bytes<=2 ^ 47/\rows.length+more.length<=2 ^ 47 /\
         K (.sl σ.nx el (rows++more)) { σ with tk:=σ.nx::UV tok σ.tk,nx:=σ.nx+1 }
       | _,_=>False
      | _=>False
     | _,_=>False
   | _=>False
  | _,_=>False
 | _=>False
def Yx:Op->Bool
 | .alloc _ | .box _ _ | .store _ _ _ | .range _ _ | .next _ _ | .makeMap _ _ | .mapUpdate _ _ _ _ | .insert _ _ _ _=>true
 | .call { callee:=.builtin .append,.. }=>true
 | .call { callee:=.builtin _,.. }=>false
 | .call _=>true
 | .panic _=>true
 | _=>false
mutual
def bnd (n:Nat):PV->Bool
 | .ptr b _=>Nat.ble (b+1) n
 | .asl b _ _=>Nat.ble (b+1) n
 | .mp b=>Nat.ble (b+1) n
 | .func _ a c=>Zes n a && Zes n c
 | .iface _ v=>bnd n v
 | .agg cs=>Zes n cs
 | .tuple vs=>Zes n vs
 | _=>true
def Zes (n:Nat):List PV->Bool
 | []=>true
 | v::l=>bnd n v && Zes n l
end
mutual
def clean:PV->PV
 | .sl _ _ rows=>.d (.sl rows)
 | .nils _=>.d (.sl [])
 | .func f a c=>.func f (YR a) (YR c)
 | .iface t v=>.iface t (clean v)
 | .agg cs=>.agg (YR cs)
 | .tuple vs=>.tuple (YR vs)
 | .d x=>.d x
 | .undef=>.undef
 | .ptr b o=>.ptr b o
 | .elem r o=>.elem r o
 | .asl b o n=>.asl b o n
 | .raw v=>.raw v
 | .mp b=>.mp b
 | .nilm=>.nilm
def YR:List PV->List PV
 | []=>[]
 | v::l=>clean v::YR l
end
def VR (f:Frame):Frame:=fun i=>clean (f i)
mutual
def cleanN:PV->PV
 | .sl _ _ rows=>.d (.sl rows)
 | .nils e=>.nils e
 | .func f a c=>.func f (YR a) (YR c)
 | .iface t v=>.iface t (clean v)
 | .agg cs=>.agg (cleanNL cs)
 | .tuple vs=>.tuple (YR vs)
 | .d x=>.d x
 | .undef=>.undef
 | .ptr b o=>.ptr b o
 | .elem r o=>.elem r o
 | .asl b o n=>.asl b o n
 | .raw v=>.raw v
 | .mp b=>.mp b
 | .nilm=>.nilm
def cleanNL:List PV->List PV
 | []=>[]
 | v::l=>cleanN v::cleanNL l
end
inductive PEnd where | ret (v:PV) | panic (v:PV)
inductive PExit where | normal | exit (id:Nat) | goto (l:Nat) | ret | panic (v:PV)
abbrev PQ:=PExit->Frame->St->Prop
structure LoopAnn where
 live:List Nat
 keep:List Nat
 I:List PV->St->Prop
 μ:List PV->St->Nat
structure Cx where
 T:Tab
 call:FuncId->List PV->St->(PEnd->St->Prop)->Prop
 raw:Value->List PV->St->(PEnd->St->Prop)->Prop
 iter:FuncId->List PV->(Value->List PV->St->(PEnd->St->Prop)->Prop)->St->(PEnd->St->Prop)->Prop
 loop:Nat->LoopAnn
 unr:Nat->Nat:=fun _=>0
 tie:Nat->Bool:=fun _=>false
 bsl:Nat->Bool:=fun _=>false
 pk:Bool:=true
 cut:Nat->Option (List Nat×(List PV->St->Prop)):=fun _=>none
 ag:Nat->Bool:=fun _=>false
def LoopAnn.tied (A:LoopAnn) (f:Frame):LoopAnn:=⟨A.live,A.keep,fun vs σ=>A.I (A.keep.map (fun i=>clean (f i))++vs) σ,fun vs σ=>A.μ (A.keep.map (fun i=>clean (f i))++vs) σ⟩
def Cx.inner (C:Cx):Cx:={ C with iter:=fun _ _ _ _ _=>False }
def Cx.calm (C:Cx):Cx:={ C with raw:=fun _ _ _ _=>False,pk:=false }
def Cx.pf (C:Cx) (f:Frame):Frame:=match C.pk with | true=>VR f | false=>fun _=>.undef
def ZgL:List PV->(List PV->Prop)->Prop
 | [],K=>K []
 | v::l,K=>Jd v fun v=>ZgL l fun l=>K (v::l)
def Zck:List Nat->(List Nat->Prop)->Prop
 | [],K=>K []
 | t::l,K=>Yc t fun t=>Zck l fun l=>K (t::l)
def VS:List Box->(List Box->Prop)->Prop
 | [],K=>K []
 | .cells t cs::l,K=>ZgL cs fun cs=>VS l fun l=>K (.cells t cs::l)
 | .iter s p::l,K=>VS l fun l=>K (.iter s p::l)
 | .loop st pd r::l,K=>VS l fun l=>K (.loop st pd r::l)
 | .dmap m::l,K=>VS l fun l=>K (.dmap m::l)
 | .map cs bn ck::l,K=>ZgL cs fun cs=>Zck bn fun bn=>Yc ck fun ck=>VS l fun l=>K (.map cs bn ck::l)
def V3 (σ:St) (K:St->Prop):Prop:=VS σ.bx fun bx=>Zck σ.tk fun tk=>Yc σ.nx fun nx=>K ⟨bx,tk,nx⟩
def Zcl (C:Cx) (fv:PV) (args:List PV) (f:Frame) (σ:St) (K:PEnd->Frame->St->Prop):Prop:=match fv with
 | .func g first caps=>C.call g (first++args++caps) σ fun e σ=>K e f σ
 | .raw v=>C.raw v args σ fun e σ=>K e (VR f) σ
 | _=>False
def XS (C:Cx) (o:Oper) (f:Frame) (σ:St) (Q:PQ) (K:Frame->St->Prop):Prop :=
 match Yx o.op with
 | false=>Zfr C.T o.op o.type (ev f) σ.bx fun v=>Zer f o.dst v fun f=>K f σ
 | true=>match o.op with
  | .call { callee:=.value x,args,.. }=>Zcl C (ev f x) (args.toList.map (ev f)) f σ fun e f σ'=>match e with
    | .ret v=>V3 σ' fun σ'=>Zer f o.dst v fun f=>K f σ'
    | .panic v=>V3 σ' fun σ'=>Jd v fun v=>Q (.panic v) (C.pf f) σ'
  | .panic x=>match ev f x with
    | .iface t v=>Q (.panic (.iface t v)) (C.pf f) σ
    | _=>False
  | op=>eop C.T op (ev f) σ fun v σ'=>V3 σ' fun σ'=>Zer f o.dst v fun f=>K f σ'
def XE (all:List Oper) (j:Nat):Option Nat:=match all[j]? with | some o=>o.dst | none=>none
def Wf (C:Cx) (all:List Oper) (Q:PQ) (o:Oper) (f:Frame) (σ:St) (K:Frame->St->Prop):Prop :=
 match o.guard with
 | none=>XS C o f σ Q K
 | some (j,want)=>match XE all j with
  | some s=>match f s with
   | .d (.bool t)=>CondP t
     (match want with | true=>XS C o (V0 f s (.d (.bool true))) σ Q K | false=>Zer (V0 f s (.d (.bool true))) o.dst (.raw Go.undef) fun f=>K f σ)
     (match want with | false=>XS C o (V0 f s (.d (.bool false))) σ Q K | true=>Zer (V0 f s (.d (.bool false))) o.dst (.raw Go.undef) fun f=>K f σ)
   | .raw (.tuple _)=>Zer f o.dst (.raw Go.undef) fun f=>K f σ
   | _=>False
  | none=>False
def Zet (C:Cx) (o:Oper):Bool:=match o.dst with
 | some d=>match o.guard with | none=>C.bsl d | _=>false
 | none=>false
def ZtC (T:Tab) (o:Op) (ρ:Operand->PV) (σ:St) (K:PV->St->Prop):Prop:=match o with
 | .buildSlice t n ps=>match (T.get t).kind with
   | .slice e=>match (T.get e).kind with
    | .other=>False
    | _=>match ZlC (T.get e).zero with
     | some zero=>match Nat.ble 1 zero.length,Nat.ble (n * zero.length) 16777216,Nat.ble 1 n,Zat zero ρ n ps.toList with
      | true,true,true,some rows=>K (.sl σ.nx e rows) { σ with tk:=σ.nx::σ.tk,nx:=σ.nx+1 }
      | _,_,_,_=>False
     | none=>False
   | _=>False
 | .convert s d x=>match (T.get s).kind with
   | .slice e=>match (T.get d).kind,(T.get e).kind,ρ x with
    | .string,.int .u8,.asl b off n=>match σ.bx[b]? with
     | some (.cells _ cs)=>∃l:List UInt8,l.length=n/\WE n (cs.drop off)=some (l.map fun b=>.d (.int .u8 b.toNat))/\K (.d (.str l)) σ
     | _=>False
    | _,_,_=>False
   | _=>False
 | _=>False
def ZgM (C:Cx) (all:List Oper) (Q:PQ) (o:Oper) (f:Frame) (σ:St) (K:Frame->St->Prop):Prop:=match Zet C o with
 | true=>ZtC C.T o.op (ev f) σ fun v σ'=>V3 σ' fun σ'=>Zer f o.dst v fun f=>K f σ'
 | false=>Wf C all Q o f σ K
def ZdV (C:Cx) (all:List Oper) (Q:PQ):List Oper->Frame->St->Prop
 | [],f,σ=>Q .normal f σ
 | o::rest,f,σ=>ZgM C all Q o f σ (ZdV C all Q rest)
structure Ld where
 i:Nat
 b:Nat
 off:Nat
 n:Nat
def ZZ (bx:List Box) (b off n:Nat):Option (Nat×List PV×List (List UInt8×MV)):=match bx[b]? with
 | some (.cells _ cs)=>some (0,(cs.drop off).take n,[])
 | some (.map cs _ _)=>some (1,cs,[])
 | some (.dmap m)=>some (2,[],m)
 | _=>none
def UW (acc:List Nat):List Edge->Nat->Nat
 | [],s=>s
 | e::l,s=>match Region.binds .any e with
  | true=>UW acc l (s ||| 2 ^ e.on ||| acc.getD e.on 0)
  | false=>UW acc l s
def Xs:List Oper->List Nat->List Nat
 | [],acc=>acc
 | o::l,acc=>Xs l (acc++[UW acc o.after.toList 0])
def anc (ms:List Nat) (i j:Nat):Bool:=(ms.getD j 0).testBit i
def WU (o:Oper) (left:List (Nat×Oper)):Bool:=match left with
 | []=>false
 | (i,_)::l=>(o.after.toList.any fun e=>Region.binds .any e && Nat.beq e.on i) || WU o l
def Zfs:List (Nat×Oper)->List (Nat×Oper)->Option (Nat×Oper)
 | _,[]=>none
 | left,(i,o)::l=>match Yx o.op,WU o left with
  | false,false=>some (i,o)
  | _,_=>Zfs left l
def Yk (i:Nat):List (Nat×Oper)->List (Nat×Oper)
 | []=>[]
 | (j,o)::l=>match Nat.beq i j with | true=>l | false=>(j,o)::Yk i l
def W5:Nat->List (Nat×Oper)->List (Nat×Oper)
 | 0,l=>l
 | _+1,[]=>[]
 | n+1,x::l=>match Zfs (x::l) (x::l) with
  | some (i,o)=>(i,o)::W5 n (Yk i (x::l))
  | none=>x::W5 n l
def Zx:Nat->List Oper->List (Nat×Oper)
 | _,[]=>[]
 | i,o::l=>(i,o)::Zx (i+1) l
def Zcm (ops:List Oper):List (Nat×Oper):=W5 ops.length (Zx 0 ops)
def Znc (ms:List Nat) (j:Nat) (pre post:List Box):List Ld->Prop->Prop
 | [],X=>X
 | ⟨i,b,off,n⟩::l,X=>match anc ms i j with
  | true=>Znc ms j pre post l X
  | false=>ZZ pre b off n=ZZ post b off n/\Znc ms j pre post l X
def ZlD (T:Tab) (o:Op) (ρ:Operand->PV):Option (Nat×Nat×Nat):=match o with
 | .load t a=>match ρ a with
  | .ptr b off=>some (b,off,(T.get t).size)
  | _=>none
 | .lookup _ x _ _=>match ρ x with
  | .mp b=>some (b,0,0)
  | _=>none
 | .call { callee:=.builtin .len,args,.. }=>match args.toList.map ρ with
  | [.mp b]=>some (b,0,0)
  | _=>none
 | _=>none
def Wg (T:Tab) (o:Oper) (i:Nat) (f:Frame) (ctx:List Ld):List Ld:=match ZlD T o.op (ev f) with
 | some (b,off,n)=>⟨i,b,off,n⟩::ctx
 | none=>ctx
def X3 (C:Cx) (all:List Oper) (ms:List Nat) (Q:PQ) (i:Nat) (o:Oper) (ctx:List Ld) (f:Frame) (σ:St) (K:List Ld->Frame->St->Prop):Prop :=
 Wf C all Q o f σ fun f' σ'=>match Yx o.op with
  | true=>Znc ms i σ.bx σ'.bx ctx (K ctx f' σ')
  | false=>K (Wg C.T o i f ctx) f' σ'
def X4 (C:Cx) (all:List Oper) (ms:List Nat) (Q:PQ):List (Nat×Oper)->List Ld->Frame->St->Prop
 | [],_,f,σ=>Q .normal f σ
 | (i,o)::rest,ctx,f,σ=>X3 C all ms Q i o ctx f σ (X4 C all ms Q rest)
def ZlE (left:List (Nat×Oper)):List (Nat×Oper)->(Nat->Oper->Prop)->Prop
 | [],_=>True
 | (i,o)::l,X=>match WU o left with
  | true=>ZlE left l X
  | false=>X i o/\ZlE left l X
def Wh (C:Cx) (all:List Oper) (ms:List Nat) (Q:PQ):Nat->List (Nat×Oper)->List Ld->Frame->St->Prop
 | _,[],_,f,σ=>Q .normal f σ
 | 0,_::_,_,_,_=>False
 | n+1,x::l,ctx,f,σ=>match Zfs (x::l) (x::l) with
  | some (i,o)=>X3 C all ms Q i o ctx f σ (Wh C all ms Q n (Yk i (x::l)))
  | none=>ZlE (x::l) (x::l) fun i o=>X3 C all ms Q i o ctx f σ (Wh C all ms Q n (Yk i (x::l)))
def Zcn (ms:List Nat):Option Nat->List (Nat×Oper)->Bool
 | _,[]=>true
 | prev,(i,o)::l=>match Yx o.op with
  | false=>Zcn ms prev l
  | true=>(match prev with | none=>true | some j=>anc ms j i) && Zcn ms (some i) l
def toks:Nat->List Nat
 | 0=>[]
 | k+1=>k::toks k
def ZrB (n:Nat) (tk:List Nat) (k:Nat) (v:PV) (K:PV->List Nat->Nat->Prop):Prop:=match v with
 | .sl t e rows=>match ZdU t tk with
  | true=>K (.sl k e rows) (UV t tk) (k+1)
  | false=>K (.d (.sl rows)) tk k
 | .nils e=>K (.sl k e []) tk (k+1)
 | v=>match bnd n v with
  | true=>Jd (clean v) fun v=>K v tk k
  | false=>K .undef tk k
def ZrC (n:Nat):List PV->List Nat->Nat->(List PV->List Nat->Nat->Prop)->Prop
 | [],tk,k,K=>K [] tk k
 | v::l,tk,k,K=>ZrB n tk k v fun v tk k=>ZrC n l tk k fun l tk k=>K (v::l) tk k
def Zco (n:Nat) (tk:List Nat) (k:Nat) (v:PV) (K:PV->List Nat->Nat->Prop):Prop:=match v with
 | .sl t e rows=>match ZdU t tk with
  | true=>K (.sl k e rows) (UV t tk) (k+1)
  | false=>K (.d (.sl rows)) tk k
 | .nils e=>K (.sl k e []) tk (k+1)
 | v=>match bnd n v with
  | true=>Jd (cleanN v) fun v=>K v tk k
  | false=>K .undef tk k
def Zit (n:Nat):List PV->List Nat->Nat->(List PV->List Nat->Nat->Prop)->Prop
 | [],tk,k,K=>K [] tk k
 | v::l,tk,k,K=>Zco n tk k v fun v tk k=>Zit n l tk k fun l tk k=>K (v::l) tk k
def ZgN (n:Nat) (tk:List Nat) (k:Nat) (v:PV) (K:PV->List Nat->Nat->Prop):Prop:=match v with
 | .agg cs=>Zit n cs tk k fun cs tk k=>K (.agg cs) tk k
 | v=>Zco n tk k v K
def Ziu (n:Nat):List PV->List Nat->Nat->(List PV->List Nat->Nat->Prop)->Prop
 | [],tk,k,K=>K [] tk k
 | v::l,tk,k,K=>ZgN n tk k v fun v tk k=>Ziu n l tk k fun l tk k=>K (v::l) tk k
def Znd (md n:Nat) (vs:List PV) (tk:List Nat) (k:Nat) (K:List PV->List Nat->Nat->Prop):Prop:=match md with
 | 0=>ZrC n vs tk k K
 | 1=>Zit n vs tk k K
 | _=>Ziu n vs tk k K
def ZbR (n:Nat):Nat->List Box->List Nat->Nat->(List Box->List Nat->Nat->Prop)->Prop
 | 0,_,tk,k,K=>K [] tk k
 | _+1,[],_,_,_=>False
 | m+1,.cells t cs::l,tk,k,K=>ZrC n cs tk k fun cs tk k=>ZbR n m l tk k fun l tk k=>K (.cells t cs::l) tk k
 | m+1,.iter s p::l,tk,k,K=>ZbR n m l tk k fun l tk k=>K (.iter s p::l) tk k
 | m+1,.loop st pd r::l,tk,k,K=>ZbR n m l tk k fun l tk k=>K (.loop st pd r::l) tk k
 | m+1,.dmap c::l,tk,k,K=>ZbR n m l tk k fun l tk k=>K (.dmap c::l) tk k
 | m+1,.map cs bn ck::l,tk,k,K=>ZrC n cs tk k fun cs tk k=>ZbR n m l tk k fun l tk k=>K (.map cs bn ck::l) tk k
def ZlF (n:Nat) (vs:List PV) (σ:St) (K:List PV->St->Prop):Prop :=
 ZrC n vs σ.tk 0 fun vs tk k=>ZbR n n σ.bx tk k fun bs _ k=>K vs ⟨bs,toks k,k⟩
def VT (ag:Bool) (n:Nat) (vs:List PV) (σ:St) (K:List PV->St->Prop):Prop:=match ag with
 | true=>Ziu n vs σ.tk 0 fun vs tk k=>ZbR n n σ.bx tk k fun bs _ k=>K vs ⟨bs,toks k,k⟩
 | false=>ZlF n vs σ K
def Zft (f:Frame):List Nat->List PV->Frame
 | i::is,v::vs=>V0 (Zft f is vs) i v
 | _,_=>f
def Ziv (f:Frame):List Nat->Frame
 | []=>fun _=>.undef
 | i::is=>V0 (Ziv f is) i (clean (f i))
def Y1:List Oper->List Nat->Bool
 | [],_=>true
 | o::l,ks=>(match o.dst with | some d=>!(ZdU d ks) | none=>true) && Y1 l ks
def Yd (ks:List Nat):Code->Bool
 | .region _ ops _=>Y1 ops.toList ks
 | .seq a b=>Yd ks a && Yd ks b
 | .cond _ a b=>Yd ks a && Yd ks b
 | .block _ b=>Yd ks b
 | .loop b=>Yd ks b
 | .rangeFunc ..=>true
 | .scope b=>Yd ks b
 | _=>true
def YC:Code->Nat
 | .region id _ _=>id
 | .seq a _=>YC a
 | .cond _ a _=>YC a
 | .block _ b=>YC b
 | .loop b=>YC b
 | .scope b=>YC b
 | _=>0
def Zne:Frame->List Nat->List PV->Frame
 | f,i::is,v::vs=>Zne (V0 f i v) is vs
 | f,_,_=>f
def ZxT (i:Nat) (r:Loop) (st:LoopState) (pd:Option Code) (b:Bool) (σ:St) (K:PEnd->St->Prop):Prop :=
 σ.bx[i]?=some (.loop .busy none r)/\K (.ret (.d (.bool b))) (σ.set i (.loop st pd r))
def ZuE (i l:Nat) (r:Loop) (ps:List Nat) (WA WB:PQ->Frame->St->Prop) (f:Frame) (v:Value) (args:List PV) (σ:St) (K:PEnd->St->Prop):Prop :=
 v=.func (.yield l) #[] #[]/\σ.bx[i]?=some (.loop .ready none r)/\args.length=ps.length /\
  WA (fun e f1 σ1=>match e with
   | .normal=>σ1.bx[i]?=some (.loop .ready none r)/\WB (fun e _ σ2=>match e with
     | .normal=>ZxT i r .ready none true σ2 K
     | .ret=>ZxT i r .done (some .ret) false σ2 K
     | .exit id=>ZxT i r .done (some (.exit id)) false σ2 K
     | .goto t=>ZxT i r .done (some (.goto t)) false σ2 K
     | .panic _=>False) f1 (σ1.set i (.loop .busy none r))
   | _=>False) (Zne f ps args) σ
def Znf (i:Nat) (r:Loop) (f:Frame) (Q:PQ) (σ:St):Option Code->Prop
 | none=>Q .normal f (σ.set i (.loop .exhausted none r))
 | some .ret=>Q .ret f (σ.set i (.loop .exhausted (some .ret) r))
 | some (.exit id)=>Q (.exit id) f (σ.set i (.loop .exhausted (some (.exit id)) r))
 | some (.goto t)=>Q (.goto t) f (σ.set i (.loop .exhausted (some (.goto t)) r))
 | _=>False
def ZbS (i:Nat):List Oper->Bool
 | []=>false
 | o::l=>match o.dst with
  | some d=>(match Nat.beq d i with | true=>true | false=>ZbS i l)
  | none=>ZbS i l
def Cx.pd (C:Cx) (ops:List Oper) (f:Frame):Frame:=match C.pk with
 | true=>fun i=>match ZbS i ops with | true=>.undef | false=>clean (f i)
 | false=>fun _=>.undef
def Zfu (C:Cx) (ops:List Oper) (f0:Frame) (Q:PQ):PQ:=fun e f σ=>match e with
 | .panic v=>Q (.panic v) (C.pd ops f0) σ
 | e=>Q e f σ
structure Hole where
 pre:List Oper
 A:Oper
 I:Oper
 S:Oper
 F:Oper
 H:Oper
def Zbi (ops:List Oper):Option Hole:=match ops.reverse with
 | H::F::S::I::A::pre=>match A.op,I.op,S.op,F.op,H.op with
  | .call { callee:=.builtin .append,.. },.indexAddr _ _ _,.store _ _ _,.fieldAddr _ _ _,.store _ _ _=>some ⟨pre.reverse,A,I,S,F,H⟩
  | _,_,_,_,_=>none
 | _=>none
def ZgO (T:Tab) (h:Hole) (f:Frame) (σ:St) (K:Frame->St->Prop):Prop:=match h.A.op,h.I.op,h.S.op with
 | .call { callee:=.builtin .append,args,argTypes },.indexAddr _ _ ix,.store ts _ x=>match argTypes.toList,args.toList,h.A.dst,h.I.dst with
  | [t,tx],[s,z],some da,some di=>match (T.get t).kind with
   | .slice el=>match (T.get el).kind with
    | .other=>False
    | _=>match Nat.ble 1 (T.get el).size,Nat.beq ts el,X2 T tx el (ev f z),ZgK (ev f x),ev f ix with
     | true,true,some [zr],some row,.d (.int _ n)=>match Nat.beq zr.length (T.get el).size,Nat.beq row.length (T.get el).size with
      | true,true=>match ev f s with
       | .nils _=>n=0/\1 * (T.get el).bytes<=2 ^ 47/\V3 ⟨σ.bx,(σ.nx+1)::σ.tk,σ.nx+2⟩ fun σ'=>Zer f (some da) (.sl (σ.nx+1) el [row]) fun f=>Zer f (some di) .undef fun f=>K f σ'
       | .sl tok e2 rows=>match ZdU tok σ.tk,Nat.beq e2 el with
        | true,true=>n=rows.length/\(rows.length+1) * (T.get el).bytes<=2 ^ 47/\rows.length+1<=2 ^ 47 /\
          V3 ⟨σ.bx,(σ.nx+1)::UV tok σ.tk,σ.nx+2⟩ fun σ'=>Zer f (some da) (.sl (σ.nx+1) el (rows++[row])) fun f=>Zer f (some di) .undef fun f=>K f σ'
        | _,_=>False
       | _=>False
      | _,_=>False
     | _,_,_,_,_=>False
   | _=>False
  | _,_,_,_=>False
 | _,_,_=>False
def ZgP (C:Cx) (all:List Oper) (h:Hole) (Q:PQ):PQ:=fun e f σ=>match e with
 | .normal=>ZgO C.T h f σ fun f σ=>Wf C all Q h.F f σ fun f σ=>Wf C all Q h.H f σ fun f σ=>Q .normal f σ
 | e=>Q e f σ
def Zj0 (i:Nat) (f:Frame) (Q:PQ) (e:PEnd) (σ:St):Prop:=match e with
 | .ret _=>match σ.bx[i]? with
  | some (.loop st pd r)=>match st with
   | .busy=>False
   | _=>Znf i r f Q σ pd
  | _=>False
 | .panic v=>Q (.panic v) (fun _=>.undef) σ
def Zbj (S:PQ->Frame->St->Prop) (Q:PQ):Nat->Frame->St->Prop
 | 0,_,_=>False
 | n+1,f,σ=>S (fun e f σ=>match e with | .normal=>Zbj S Q n f σ | e=>Q e f σ) f σ
def W:Cx->Code->PQ->Frame->St->Prop
 | _,.skip,Q,f,σ=>Q .normal f σ
 | C,.region _ ops draw,Q,f,σ=>match draw with
  | false=>ZdV C ops.toList Q ops.toList f σ
  | true=>match Zbi ops.toList with
   | none=>match Zcn (Xs ops.toList []) none (Zx 0 ops.toList) with
    | true=>X4 C.calm ops.toList (Xs ops.toList []) (Zfu C ops.toList f Q) (Zcm ops.toList) [] f σ
    | false=>Wh C.calm ops.toList (Xs ops.toList []) (Zfu C ops.toList f Q) ops.toList.length (Zx 0 ops.toList) [] f σ
   | some h=>X4 C.calm ops.toList (Xs ops.toList []) (ZgP C.calm ops.toList h (Zfu C ops.toList f Q)) (W5 h.pre.length (Zx 0 h.pre)) [] f σ
 | C,.seq a b,Q,f,σ=>match C.cut (YC b) with
  | none=>W C a (fun e f σ=>match e with | .normal=>W C b Q f σ | e=>Q e f σ) f σ
  | some (live,I)=>W C a (fun e f σ=>match e with | .normal=>ZlF σ.bx.length (live.map f) σ I | e=>Q e f σ) f σ/\∀vs σ1,I vs σ1->W C b Q (Zft (fun _=>.undef) live vs) σ1
 | C,.cond c x y,Q,f,σ=>match ev f c with | .d (.bool t)=>CondP t (W C x Q f σ) (W C y Q f σ) | _=>False
 | C,.block id b,Q,f,σ=>W C b (fun e f σ=>match e with | .exit i=>(match Nat.beq i id with | true=>Q .normal f σ | false=>Q (.exit i) f σ) | e=>Q e f σ) f σ
 | C,.scope b,Q,f,σ=>W C b (fun e f σ=>match e with | .goto _=>False | e=>Q e f σ) f σ
 | _,.exit id,Q,f,σ=>Q (.exit id) f σ
 | _,.goto l,Q,f,σ=>Q (.goto l) f σ
 | _,.label _,Q,f,σ=>Q .normal f σ
 | _,.ret,Q,f,σ=>Q .ret f σ
 | C,.loop b,Q,f,σ=>match C.unr (YC b) with
  | n+1=>Zbj (fun Q f σ=>W C b Q f σ) Q (n+1) f σ
  | 0=>match Yd (C.loop (YC b)).keep b with
   | true=>match C.tie (YC b) with
    | false => VT (C.ag (YC b)) σ.bx.length ((C.loop (YC b)).live.map f) σ fun vs σ0 => (C.loop (YC b)).I vs σ0 /\
       ∀vs σ1,(C.loop (YC b)).I vs σ1->W C b (fun e f' σ'=>match e with
        | .normal=>VT (C.ag (YC b)) σ1.bx.length ((C.loop (YC b)).live.map f') σ' fun vs' σ''=>(C.loop (YC b)).I vs' σ''/\(C.loop (YC b)).μ vs' σ''<(C.loop (YC b)).μ vs σ1
        | e=>Q e f' σ') (Zft (Ziv f (C.loop (YC b)).keep) (C.loop (YC b)).live vs) σ1
    | true => VT (C.ag (YC b)) σ.bx.length (((C.loop (YC b)).tied f).live.map f) σ fun vs σ0 => ((C.loop (YC b)).tied f).I vs σ0 /\
       ∀vs σ1,((C.loop (YC b)).tied f).I vs σ1->W C b (fun e f' σ'=>match e with
        | .normal=>VT (C.ag (YC b)) σ1.bx.length (((C.loop (YC b)).tied f).live.map f') σ' fun vs' σ''=>((C.loop (YC b)).tied f).I vs' σ''/\((C.loop (YC b)).tied f).μ vs' σ''<((C.loop (YC b)).tied f).μ vs σ1
        | e=>Q e f' σ') (Zft (Ziv f ((C.loop (YC b)).tied f).keep) ((C.loop (YC b)).tied f).live vs) σ1
   | false=>False
 | C,.rangeFunc g ps asg body,Q,f,σ=>match ev f g with
  | .func gid first caps=>∀(l:Nat) (r:Loop),
    C.iter gid (first++.raw (.func (.yield l) #[] #[])::caps) (ZuE σ.bx.length l r ps.toList (fun Q f σ=>W C.inner asg Q f σ) (fun Q f σ=>W C.inner body Q f σ) (VR f)) (σ.new (.loop .ready none r))
     (Zj0 σ.bx.length (VR f) Q)
  | _=>False
 | _,_,_,_,_=>False
def pres (T:Tab) (f:Frame) (bx:List Box):List ResultVar->(List PV->Prop)->Prop
 | [],K=>K []
 | .tmp t::l,K=>Jd (f t) fun v=>pres T f bx l fun vs=>K (v::vs)
 | .cell a t::l,K=>Je T t (f a) bx fun v=>Jd v fun v=>pres T f bx l fun vs=>K (v::vs)
def XT:List PV->PV
 | [v]=>v
 | vs=>.tuple vs
def UX (ag:Bool) (keep:Nat) (own:Bool) (v:PV) (σ:St) (K:PV->St->Prop):Prop :=
 match bnd keep v with
 | true=>match own with
  | true=>VT ag keep [v] σ fun vs σ'=>match vs with | [v]=>K v σ' | _=>False
  | false=>ZbR keep keep σ.bx [] 0 fun bs _ k=>K (clean v) ⟨bs,toks k,k⟩
 | false=>False
abbrev Zcp (keep:Nat) (own:Bool) (v:PV) (σ:St) (K:PV->St->Prop):Prop:=UX false keep own v σ K
def Zng (ag:Bool) (T:Tab) (fn:Func) (keep:Nat) (own:Bool) (R:PEnd->St->Prop):PQ:=fun e f σ=>match e with
 | .normal | .ret=>pres T f σ.bx fn.results.toList fun vs=>UX ag keep own (XT vs) σ fun v σ'=>R (.ret v) σ'
 | .panic v=>UX ag keep own v σ fun v σ'=>R (.panic v) σ'
 | _=>False
abbrev ZuF (T:Tab) (fn:Func) (keep:Nat) (own:Bool) (R:PEnd->St->Prop):PQ:=Zng false T fn keep own R
def Zcq:Nat->List PV->Frame
 | _,[]=>fun _=>.undef
 | i,v::vs=>V0 (Zcq (i+1) vs) i v
def Ye (fn : Func) : Code := match fn.body with | some c => c | none => .refuse ""
def WFG (ag:Bool) (C:Cx) (fn:Func) (keep:Nat) (own:Bool) (args:List PV) (σ:St) (R:PEnd->St->Prop):Prop :=
 W C (Ye fn) (Zng ag C.T fn keep own R) (Zcq 0 args) σ
abbrev WF (C:Cx) (fn:Func) (keep:Nat) (own:Bool) (args:List PV) (σ:St) (R:PEnd->St->Prop):Prop:=WFG false C fn keep own args σ R
end Go.PM
end
