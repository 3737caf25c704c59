/- A part of the proof: plain logic, contracts and laws over the given program. -/
import GoSem.Core.Program
import GoSem.Core.Utf8
import GoSem.Op.IntBits
import Derived.CallsIn
set_option linter.unusedVariables false
set_option linter.unusedSimpArgs false
set_option linter.all false
set_option maxRecDepth 100000
set_option maxHeartbeats 16000000
noncomputable section
section
def Ta.{u}:type_of% @List.length_append.{u}:=@List.length_append
def Tb.{u}:type_of% @List.getElem?_eq_getElem.{u}:=@List.getElem?_eq_getElem
def Tc:type_of% @Nat.le_of_ble_eq_true:=@Nat.le_of_ble_eq_true
def Td.{u,v}:type_of% @List.length_map.{u,v}:=@List.length_map
def Te.{u}:type_of% @List.length_cons.{u}:=@List.length_cons
def Tf.{u}:type_of% @if_neg.{u}:=@if_neg
def Tg.{u}:type_of% @List.length_nil.{u}:=@List.length_nil
def Th.{u,v}:type_of% @List.getElem?_map.{u,v}:=@List.getElem?_map
def Ti.{u}:type_of% @List.getElem?_eq_some_iff.{u}:=@List.getElem?_eq_some_iff
def Tj.{u}:type_of% @if_pos.{u}:=@if_pos
def Tk:type_of% @Nat.eq_of_beq_eq_true:=@Nat.eq_of_beq_eq_true
def Tl:type_of% @Int.toNat_natCast:=@Int.toNat_natCast
def Tm:type_of% @Bool.and_eq_true:=@Bool.and_eq_true
def Tn.{u}:type_of% @List.drop_eq_getElem_cons.{u}:=@List.drop_eq_getElem_cons
def To.{u}:type_of% @List.append_assoc.{u}:=@List.append_assoc
def Tp.{u}:type_of% @Array.getElem?_eq_some_iff.{u}:=@Array.getElem?_eq_some_iff
def Tq.{u}:type_of% @List.all_eq_true.{u}:=@List.all_eq_true
def Tr:type_of% @Nat.le_refl:=@Nat.le_refl
def Tt.{u}:type_of% @List.mem_cons.{u}:=@List.mem_cons
def Tu:type_of% @Bool.false_eq_true:=@Bool.false_eq_true
def Tv.{u}:type_of% @List.drop_eq_nil_of_le.{u}:=@List.drop_eq_nil_of_le
def Tw.{u}:type_of% @Array.getElem?_toList.{u}:=@Array.getElem?_toList
def Tx.{u,v}:type_of% @List.map_cons.{u,v}:=@List.map_cons
def Tz.{u}:type_of% @List.mem_cons_of_mem.{u}:=@List.mem_cons_of_mem
def TA.{u}:type_of% @Array.getElem?_eq_getElem.{u}:=@Array.getElem?_eq_getElem
def TB.{u}:type_of% @List.forall_mem_singleton.{u}:=@List.forall_mem_singleton
def TC.{u,v}:type_of% @Option.map_eq_some_iff.{u,v}:=@Option.map_eq_some_iff
def TD:type_of% @Nat.lt_of_lt_of_le:=@Nat.lt_of_lt_of_le
def TE.{u}:type_of% @List.getElem_mem.{u}:=@List.getElem_mem
def TF.{u}:type_of% @List.length_singleton.{u}:=@List.length_singleton
def TG.{u}:type_of% @List.length_drop.{u}:=@List.length_drop
def TH.{u}:type_of% @List.mem_append.{u}:=@List.mem_append
def TJ.{u}:type_of% @Array.mem_def.{u}:=@Array.mem_def
def TL.{u}:type_of% @List.drop_drop.{u}:=@List.drop_drop
def TM.{u,v}:type_of% @List.map_nil.{u,v}:=@List.map_nil
def TN.{u}:type_of% @List.getElem?_append_left.{u}:=@List.getElem?_append_left
def TP.{u}:type_of% @List.getElem?_cons_succ.{u}:=@List.getElem?_cons_succ
def TQ:type_of% @decide_eq_true_eq:=@decide_eq_true_eq
def TT.{u}:type_of% @List.mem_of_getElem?.{u}:=@List.mem_of_getElem?
def TU:type_of% @Bool.false_and:=@Bool.false_and
def TV:type_of% @Bool.true_and:=@Bool.true_and
def TW.{u}:type_of% @List.getElem?_append_right.{u}:=@List.getElem?_append_right
def TX.{u}:type_of% @Array.getElem?_setIfInBounds.{u}:=@Array.getElem?_setIfInBounds
def TY:type_of% @Int.add_sub_cancel:=@Int.add_sub_cancel
def TZ:type_of% @Nat.le_trans:=@Nat.le_trans
def T1.{u}:type_of% @List.append_nil.{u}:=@List.append_nil
def T2.{u}:type_of% @List.getD_eq_getElem?_getD.{u}:=@List.getD_eq_getElem?_getD
def T3:type_of% @Nat.mul_le_mul_right:=@Nat.mul_le_mul_right
def T4.{u}:type_of% @List.eq_nil_of_length_eq_zero.{u}:=@List.eq_nil_of_length_eq_zero
def T5:type_of% @Bool.not_eq_true':=@Bool.not_eq_true'
def T6.{u}:type_of% @List.getElem?_eq_none.{u}:=@List.getElem?_eq_none
def T7:type_of% @Nat.zero_le:=@Nat.zero_le
def T9.{u}:type_of% @List.getElem_of_mem.{u}:=@List.getElem_of_mem
def Sa:type_of% @Nat.zero_add:=@Nat.zero_add
def Sb.{u,v}:type_of% @Option.map_some.{u,v}:=@Option.map_some
def Sc.{u,v}:type_of% @List.map_append.{u,v}:=@List.map_append
def Sd.{u}:type_of% @Array.mem_of_getElem?.{u}:=@Array.mem_of_getElem?
def Se.{u}:type_of% @List.getElem?_replicate.{u}:=@List.getElem?_replicate
def Sf.{u}:type_of% @List.cons_append.{u}:=@List.cons_append
def Sg:type_of% @decide_eq_true:=@decide_eq_true
def Sh.{u,v}:type_of% @List.mem_map.{u,v}:=@List.mem_map
def Si.{u,v}:type_of% @List.map_congr_left.{u,v}:=@List.map_congr_left
def Sj.{u}:type_of% @List.take_length.{u}:=@List.take_length
def Sk.{u}:type_of% @List.take_zero.{u}:=@List.take_zero
def Sl.{u}:type_of% @Option.getD_some.{u}:=@Option.getD_some
def Sm:type_of% @Bool.or_eq_false_iff:=@Bool.or_eq_false_iff
def Sn.{u}:type_of% @List.nil_append.{u}:=@List.nil_append
def So.{u}:type_of% @List.drop_zero.{u}:=@List.drop_zero
def Sp:type_of% @Nat.add_assoc:=@Nat.add_assoc
def Sq:type_of% @Nat.add_mul:=@Nat.add_mul
def Sr.{u}:type_of% @Array.length_toList.{u}:=@Array.length_toList
def Ss.{u}:type_of% @List.takeWhile_cons.{u}:=@List.takeWhile_cons
def Su:type_of% @of_decide_eq_true:=@of_decide_eq_true
def Sv.{u}:type_of% @Option.isSome_iff_exists.{u}:=@Option.isSome_iff_exists
def Sw:type_of% @Bool.or_eq_true:=@Bool.or_eq_true
def Sx.{u}:type_of% @List.length_eq_zero_iff.{u}:=@List.length_eq_zero_iff
def Sy.{u}:type_of% @List.getElem?_cons_zero.{u}:=@List.getElem?_cons_zero
def Sz:type_of% @Bool.or_false:=@Bool.or_false
def SA.{u}:type_of% @List.getElem?_set_self.{u}:=@List.getElem?_set_self
def SB.{u}:type_of% @List.length_set.{u}:=@List.length_set
def SC.{u}:type_of% @Array.getElem?_modify.{u}:=@Array.getElem?_modify
def SE.{u,v,w}:type_of% @List.map_map.{u,v,w}:=@List.map_map
def SF:type_of% @Bool.not_not:=@Bool.not_not
def SG.{u}:type_of% @Array.getElem_of_mem.{u}:=@Array.getElem_of_mem
def SH.{u}:type_of% @List.getElem?_set_ne.{u}:=@List.getElem?_set_ne
def SI.{u}:type_of% @List.getD_cons_zero.{u}:=@List.getD_cons_zero
def SJ.{u}:type_of% @List.getD_cons_succ.{u}:=@List.getD_cons_succ
def SK:type_of% @Nat.add_zero:=@Nat.add_zero
def SL.{u}:type_of% @List.drop_length.{u}:=@List.drop_length
def SN.{u}:type_of% @List.getElem?_drop.{u}:=@List.getElem?_drop
def SO:type_of% @Nat.ble_eq:=@Nat.ble_eq
def mq0 {P:Prop} (h:P:=by
 rw [ZkT] at h
 refine ⟨L,ts,rfl,ho,ey,fun x ca=>?_⟩
 rcases x with ⟨v2,ts2⟩ | ⟨r2,e2⟩
 rotate_left
 ·exact mq197
 rw [ca,R.bind_ok] at h
 intro a2 fu aj
 have f6:=aj.hi
 obtain ⟨v2a,v2b,v2c,v2d,v2e⟩:=v2
 conv=>whnf
 refine ⟨L,ts2,Z2,rfl,aj,Or.inl ⟨rfl,rfl⟩,rfl,rfl,fun j hj bq=>?_,fun hj=>wN ?_⟩
 ·have mf:=JI hj
  have aga:j<6:=by simpa [Z2] using mf.2
  have ju:=bq.hi
  clear mf
  rcases j with _ | j
  ·conv=>whnf
   refine V9 ?_
   refine V9 ?_
   refine ⟨L,ts2.tail,Yq,rfl,bq,Or.inr ⟨rfl,rfl⟩,rfl,rfl,fun m hm f5=>?_,fun hm=>wN ?_⟩
   ·rw [Zdv hj hm,R.bind_ok] at h
    have hml:=JI hm
    have agb:m<4:=by simpa [Yq] using hml.2
    have rm:=f5.hi
    clear hml
    rcases m with _ | m
    ·conv=>whnf
     refine V9 ?_
     refine V9 ?_
     rw [Tj rfl] at h
     rw [Wy,Tj oM] at h
     refine ⟨L,ts2.tail.tail,rfl,f5,fun x qi=>?_⟩
     exact mq154
    conv=>whnf
    refine V9 ?_
    refine V9 ?_
    refine ZEJ (fun _=>wN ?_) (fun g=>absurd g oM)
    rw [Tf oM] at h
    refine ⟨L,ts2.tail.tail,rfl,f5,ey,fun x kp=>?_⟩
    rcases x with ⟨v5,ts5⟩ | ⟨r5,e5⟩
    rotate_left
    ·exact mq182
    rw [kp,R.bind_ok] at h
    intro a5 lw gg
    have uf:=gg.hi
    obtain ⟨v5a,v5b,v5c,v5d,v5e⟩:=v5
    conv=>whnf
    refine ⟨rfl,rfl,Tc rfl,Tc rfl,wN ?_⟩
    repeat (refine ⟨rfl,?_⟩;conv=>whnf)
    refine ZEH (fun _=>wN ?_) (fun g=>absurd g oM)
    rw [Wy,Tj oM] at h
    refine ⟨L,ts5,rfl,gg,fun x qi=>?_⟩
    exact mq154
   rw [ZgF hj hm,R.bind_ok] at h
   rw [Tf oM] at h
   refine ⟨L,ts2.tail,rfl,bq,ey,fun x kp=>?_⟩
   rcases x with ⟨v5,ts5⟩ | ⟨r5,e5⟩
   rotate_left
   ·exact mq182
   rw [kp,R.bind_ok] at h
   intro a5 lw gg
   have uf:=gg.hi
   obtain ⟨v5a,v5b,v5c,v5d,v5e⟩:=v5
   conv=>whnf
   refine ⟨rfl,rfl,Tc rfl,Tc rfl,wN ?_⟩
   repeat (refine ⟨rfl,?_⟩;conv=>whnf)
   rw [Wy,Tf oM] at h
   exact h _ oM gg
  rw [Zdw hj,R.bind_ok] at h
  conv=>whnf
  refine V9 ?_
  refine V9 ?_
  refine ZEH (fun g=>absurd g oM) (fun _=>wN ?_)
  refine ZEJ (fun _=>wN ?_) (fun g=>absurd g oM)
  rw [Tf oM] at h
  refine ⟨L,ts2.tail,rfl,bq,ey,fun x kp=>?_⟩
  rcases x with ⟨v5,ts5⟩ | ⟨r5,e5⟩
  rotate_left
  ·exact mq182
  rw [kp,R.bind_ok] at h
  intro a5 lw gg
  have uf:=gg.hi
  obtain ⟨v5a,v5b,v5c,v5d,v5e⟩:=v5
  conv=>whnf
  refine ⟨rfl,rfl,Tc rfl,Tc rfl,wN ?_⟩
  repeat (refine ⟨rfl,?_⟩;conv=>whnf)
  refine ZEH (fun g=>absurd g oM) (fun _=>wN ?_)
  rw [Wy,Tf oM] at h
  exact h _ oM gg
 refine ⟨L,ts2,rfl,aj,wN ?_⟩
 rw [Zbd hj,R.bind_err] at h
 exact h _ _):P:=h
def mq1 {P:Prop} (h:P:=by
 conv=>whnf
 repeat (refine ⟨rfl,?_⟩;conv=>whnf)
 refine ⟨L,ts',rfl,ct,[[116,121,112,101]],rfl,sM,fun b ut=>?_⟩
 cases b with
 | true =>
  rw [Tj ut] at h
  have aj:=ct.tl (Uw ut)
  have f6:=aj.hi
  have fm:=aj.len
  conv=>whnf
  refine ⟨L,ts',rfl,ct,fun g=>wN ?_,fun g=>wN ?_⟩
  ·exact mq173
  have ai:¬tys.length=256:=by rw [Td] at g;omega
  rw [Tf ai] at h
  refine ⟨L,ts'.tail,rfl,aj,fun x ek=>?_⟩
  rcases x with ⟨v3,ts3⟩ | ⟨r3,e3⟩
  rotate_left
  ·exact mq170
  rw [ek,R.bind_ok] at h
  intro a3 f9 bq
  have ju:=bq.hi
  obtain ⟨v3a,v3b,v3c,v3d,v3e,v3f⟩:=v3
  conv=>whnf
  have jd:=bq.len
  repeat (refine ⟨rfl,?_⟩;conv=>whnf)
  refine ⟨TB.2 rfl,(show ((tys.map (Zs (Zc L en))).length+1) * 96<=2 ^ 47 by rw [Td];omega),(show (tys.map (Zs (Zc L en))).length+1<=2 ^ 47 by rw [Td];omega),wN ?_⟩
  repeat (refine ⟨rfl,?_⟩;conv=>whnf)
  refine ⟨⟨tys++[⟨v3a,v3b,v3c,v3d,v3e,v3f⟩],rels,rules,comps,inits,overs,a3,ts3,f,rfl,?_,bq,oM,oM,?_,h⟩,?_⟩
  ·rw [<- Zv (Zs (Zc L en)) tys];rfl
  ·simp only [Ta,TF];omega
  exact mq164
 | false =>
 rw [Tf (by rw [ut];simp)] at h
 conv=>whnf
 refine ⟨L,ts',rfl,ct,[[100,101,99,108]],rfl,sM,fun b uv=>?_⟩
 cases b with
 | true =>
  rw [Tj uv] at h
  have aj:=ct.tl (Uw uv)
  have f6:=aj.hi
  have fm:=aj.len
  conv=>whnf
  refine ⟨L,ts',rfl,ct,fun g=>wN ?_,fun g=>wN ?_⟩
  ·exact mq173
  have ai:¬rels.length=256:=by rw [Td] at g;omega
  rw [Tf ai] at h
  refine ⟨L,ts'.tail,rfl,aj,fun x ek=>?_⟩
  rcases x with ⟨v3,ts3⟩ | ⟨r3,e3⟩
  rotate_left
  ·exact mq170
  rw [ek,R.bind_ok] at h
  intro a3 f9 bq
  have ju:=bq.hi
  obtain ⟨v3a,v3b,v3c,v3d,v3e,v3f⟩:=v3
  conv=>whnf
  have jd:=bq.len
  repeat (refine ⟨rfl,?_⟩;conv=>whnf)
  refine ⟨TB.2 rfl,(show ((rels.map (ZF (Zc L en))).length+1) * 56<=2 ^ 47 by rw [Td];omega),(show (rels.map (ZF (Zc L en))).length+1<=2 ^ 47 by rw [Td];omega),wN ?_⟩
  repeat (refine ⟨rfl,?_⟩;conv=>whnf)
  refine ⟨⟨tys,rels++[⟨v3a,v3b,v3c,v3d,v3e,v3f⟩],rules,comps,inits,overs,a3,ts3,f,rfl,?_,bq,oM,oM,?_,h⟩,?_⟩
  ·rw [<- Zv (ZF (Zc L en)) rels];rfl
  ·simp only [Ta,TF];omega
  exact mq164
 | false =>
 rw [Tf (by rw [uv];simp)] at h
 conv=>whnf
 refine ⟨L,ts',rfl,ct,[[99,111,109,112]],rfl,sM,fun b uw=>?_⟩
 cases b with
 | true =>
  rw [Tj uw] at h
  have aj:=ct.tl (Uw uw)
  have f6:=aj.hi
  have fm:=aj.len
  conv=>whnf
  refine ⟨L,ts',rfl,ct,fun g=>wN ?_,fun g=>wN ?_⟩
  ·exact mq173
  have ai:¬comps.length=64:=by rw [Td] at g;omega
  rw [Tf ai] at h
  refine ⟨L,ts'.tail,rfl,aj,ey,fun x ek=>?_⟩
  rcases x with ⟨v3,ts3⟩ | ⟨r3,e3⟩
  rotate_left
  ·exact mq170
  rw [ek,R.bind_ok] at h
  intro a3 f9 bq
  have ju:=bq.hi
  obtain ⟨v3a,v3b,v3c,v3d,⟨v3g,v3h,v3i,v3j,v3k,v3l⟩,v3f⟩:=v3
  conv=>whnf
  have jd:=bq.len
  repeat (refine ⟨rfl,?_⟩;conv=>whnf)
  refine ⟨TB.2 rfl,(show ((comps.map (XP (Zc L en))).length+1) * 232<=2 ^ 47 by rw [Td];omega),(show (comps.map (XP (Zc L en))).length+1<=2 ^ 47 by rw [Td];omega),wN ?_⟩
  repeat (refine ⟨rfl,?_⟩;conv=>whnf)
  refine ⟨⟨tys,rels,rules,comps++[.mk v3a v3b v3c v3d (.mk v3g v3h v3i v3j v3k v3l) v3f],inits,overs,a3,ts3,f,rfl,?_,bq,oM,oM,?_,h⟩,?_⟩
  ·rw [<- Zv (XP (Zc L en)) comps];rfl
  ·simp only [Ta,TF];omega
  exact mq164
 | false =>
 rw [Tf (by rw [uw];simp)] at h
 conv=>whnf
 refine ⟨L,ts',rfl,ct,[[105,110,105,116]],rfl,sM,fun b ux=>?_⟩
 cases b with
 | true =>
  rw [Tj ux] at h
  have aj:=ct.tl (Uw ux)
  have f6:=aj.hi
  have fm:=aj.len
  conv=>whnf
  refine ⟨L,ts',rfl,ct,fun g=>wN ?_,fun g=>wN ?_⟩
  ·exact mq173
  have ai:¬inits.length=256:=by rw [Td] at g;omega
  rw [Tf ai] at h
  refine ⟨L,ts'.tail,rfl,aj,wN ?_⟩
  rw [Zo4] at h
  refine ⟨L,ts'.tail,rfl,aj,fun x ek=>?_⟩
  rcases x with ⟨v3,ts3⟩ | ⟨r3,e3⟩
  rotate_left
  ·rw [ek,R.bind_err,R.bind_err] at h;intro a9 d9;(conv=>whnf);exact h _ _
  rw [ek,R.bind_ok] at h
  intro a3 f9 bq
  have ju:=bq.hi
  conv=>whnf
  refine ⟨L,ts3,rfl,bq,fun x mc=>?_⟩
  rcases x with ⟨v4,ts4⟩ | ⟨r4,e4⟩
  rotate_left
  ·rw [mc,R.bind_err,R.bind_err] at h;intro a9 d9;(conv=>whnf);exact h _ _
  rw [mc,R.bind_ok] at h
  intro a4 mt f5
  have rm:=f5.hi
  conv=>whnf
  refine ⟨L,ts4,rfl,f5,fun x kp=>?_⟩
  rcases x with ⟨v5,ts5⟩ | ⟨r5,e5⟩
  rotate_left
  ·rw [kp,R.bind_err,R.bind_err] at h;intro a9 d9;(conv=>whnf);exact h _ _
  rw [kp,R.bind_ok] at h
  intro a5 lw gg
  have uf:=gg.hi
  conv=>whnf
  refine ⟨L,ts5,rfl,gg,fun x qi=>?_⟩
  rcases x with ⟨v6,ts6⟩ | ⟨r6,e6⟩
  rotate_left
  ·rw [qi,R.bind_err,R.bind_err] at h;intro a9 d9;(conv=>whnf);exact h _ _
  rw [qi,R.bind_ok] at h
  intro a6 xm nh
  have hb6:=nh.hi
  conv=>whnf
  rw [R.bind_ok] at h
  have aeb:=nh.len
  refine ⟨TB.2 rfl,(show ((inits.map (Wb (Zc L en))).length+1) * 64<=2 ^ 47 by rw [Td];omega),(show (inits.map (Wb (Zc L en))).length+1<=2 ^ 47 by rw [Td];omega),wN ?_⟩
  repeat (refine ⟨rfl,?_⟩;conv=>whnf)
  refine ⟨⟨tys,rels,rules,comps,inits++[⟨v3,v5,v6,ts'.tail.length⟩],overs,a6,ts6,f,rfl,?_,nh,oM,oM,?_,h⟩,?_⟩
  ·rw [<- Zv (Wb (Zc L en)) inits];rfl
  ·simp only [Ta,TF];omega
  show ((L.length:Int) - a6).toNat<((L.length:Int) - a').toNat
  omega
 | false =>
 rw [Tf (by rw [ux];simp)] at h
 conv=>whnf
 refine ⟨L,ts',rfl,ct,[[111,118,101,114,114,105,100,101]],rfl,sM,fun b uy=>?_⟩
 cases b with
 | true =>
  rw [Tj uy] at h
  have aj:=ct.tl (Uw uy)
  have f6:=aj.hi
  have fm:=aj.len
  conv=>whnf
  refine ⟨L,ts',rfl,ct,fun g=>wN ?_,fun g=>wN ?_⟩
  ·exact mq173
  have ai:¬overs.length=256:=by rw [Td] at g;omega
  rw [Tf ai] at h
  refine ⟨L,ts'.tail,rfl,aj,wN ?_⟩
  rw [Zo5] at h
  refine ⟨L,ts'.tail,rfl,aj,fun x ek=>?_⟩
  rcases x with ⟨v3,ts3⟩ | ⟨r3,e3⟩
  rotate_left
  ·rw [ek,R.bind_err,R.bind_err] at h;intro a9 d9;(conv=>whnf);exact h _ _
  rw [ek,R.bind_ok,R.bind_ok] at h
  intro a3 f9 bq
  have ju:=bq.hi
  have jd:=bq.len
  conv=>whnf
  refine ⟨TB.2 rfl,(show ((overs.map (Wc (Zc L en))).length+1) * 24<=2 ^ 47 by rw [Td];omega),(show (overs.map (Wc (Zc L en))).length+1<=2 ^ 47 by rw [Td];omega),wN ?_⟩
  repeat (refine ⟨rfl,?_⟩;conv=>whnf)
  refine ⟨⟨tys,rels,rules,comps,inits,overs++[⟨v3,ts'.tail.length⟩],a3,ts3,f,rfl,?_,bq,oM,oM,?_,h⟩,?_⟩
  ·rw [<- Zv (Wc (Zc L en)) overs];rfl
  ·simp only [Ta,TF];omega
  exact mq164
 | false =>
 rw [Tf (by rw [uy];simp)] at h
 conv=>whnf
 refine ⟨L,ts',rfl,ct,fun b hn=>?_⟩
 cases b with
 | false =>
  rw [Tf (by rw [hn];simp)] at h
  conv=>whnf
  refine ⟨L,ts',rfl,ct,wN ?_⟩
  exact h _ _
 | true =>
 rw [Tj hn] at h
 conv=>whnf
 refine ⟨L,ts',rfl,ct,fun g=>wN ?_,fun g=>wN ?_⟩
 ·exact mq173
 have ai:¬rules.length=1024:=by rw [Td] at g;omega
 rw [Tf ai] at h
 refine Zi ?_
 rw [show a'+1 - 1=a' by omega]
 refine ⟨L,ts',rfl,ct,ey,fun x ek=>?_⟩
 rcases x with ⟨v3,ts3⟩ | ⟨r3,e3⟩
 rotate_left
 ·exact mq170
 rw [ek,R.bind_ok] at h
 intro a3 f9 bq
 have ju:=bq.hi
 obtain ⟨v3a,v3b,v3c,v3d⟩:=v3
 conv=>whnf
 have jd:=bq.len
 repeat (refine ⟨rfl,?_⟩;conv=>whnf)
 refine ⟨TB.2 rfl,(show ((rules.map (Zy (Zc L en))).length+1) * 72<=2 ^ 47 by rw [Td];omega),(show (rules.map (Zy (Zc L en))).length+1<=2 ^ 47 by rw [Td];omega),wN ?_⟩
 repeat (refine ⟨rfl,?_⟩;conv=>whnf)
 refine ⟨⟨tys,rels,rules++[⟨v3a,v3b,v3c,v3d⟩],comps,inits,overs,a3,ts3,f,rfl,?_,bq,oM,oM,?_,h⟩,?_⟩
 ·rw [<- Zv (Zy (Zc L en)) rules];rfl
 ·simp only [Ta,TF];omega
 exact mq164):P:=h
def mq2 {P:Prop} (h:P:=by
 refine ⟨oM,oM,oM,wN ?_⟩
 have fp:cut s (((a:Int)+2)).toNat ((e:Int)).toNat=Zd (s.drop a):=by rw [hst.2];congr 1 <;> omega
 refine ⟨true,⟨⟨?_,?_⟩,rfl,rfl⟩,fun h5 nn=>?_,fun h5=>?_⟩
 ·exact (congrArg (fun l:Bs=>l.all (Wa true)=true) fp).mpr cf
 ·exact (congrArg (fun l:Bs=>l.length<4294967281) fp).mpr (show _<_ by omega)
 ·have fq:Zd (s.drop a)=[]\/18446744073709551616<=WJ 16 (Zd (s.drop a)):=by rw [<- fp];exact h5
  exact mq157
 have fq:¬(Zd (s.drop a)=[]\/18446744073709551616<=WJ 16 (Zd (s.drop a))):=by rw [<- fp];exact h5
 simp only [not_or] at fq
 have uc:=WT (s.drop (a+ZE (s.drop a)))
 have uz:=WT (s.drop ((e:Int)).toNat)
 have vf:(pk (s.drop ((e:Int)).toNat)).1=(pk ((s.drop a).drop (ZE (s.drop a)))).1:=by rw [TL,<- hst.1];rfl
 have g6:ZZ (s.drop a)=if Zj (pk ((s.drop a).drop (ZE (s.drop a)))).1=true\/Zq (pk ((s.drop a).drop (ZE (s.drop a)))).1=true\/(Vi (s.drop a)=true/\16<(Zd (s.drop a)).length) then none else some (WJ 16 (Zd (s.drop a))):=by
  unfold ZZ
  simp only [f7,if_true,Tu,if_false]
  rw [Tf fq.1,Tf fq.2]
 conv=>whnf
 refine ⟨⟨oM,oM⟩,wN ?_⟩
 refine ⟨⟨uz.1,oM⟩,wN ?_⟩
 refine ZEL (fun h6=>wN ?_) (fun h6=>wN ?_)
 ·exact mq184
 refine ZEL (fun h7=>wN ?_) (fun h7=>wN ?_)
 ·exact mq183
 have g7:¬Zj (pk ((s.drop a).drop (ZE (s.drop a)))).1=true/\¬Zq (pk ((s.drop a).drop (ZE (s.drop a)))).1=true:=by
  exact mq178
 refine Zi ?_
 refine ZEH (fun h8=>wN ?_) (fun h8=>wN ?_)
 ·(try (refine ⟨rfl,?_⟩;conv=>whnf))
  (try (refine ⟨rfl,?_⟩;conv=>whnf))
  exact cy (by rw [g6,Tj (.inr (.inr ⟨f7,oM⟩))])
 have g9:=dv _ (by rw [g6,Tf (by simp only [not_or];exact ⟨g7.1,g7.2,oM⟩)])
 rw [<- hst.1,<- fp] at g9
 exact Or.inr g9):P:=h
def mq3 {P:Prop} (h:P:=by
 have ox:¬(3<=a1/\a1<=8):=oM
 refine ZEH (fun acv=>wN ?_) (fun acv=>wN ?_)
 ·have h9:a1=9:=by omega
  refine ZEH (fun hr=>?_) (fun hr=>?_)
  rotate_left
  ·have j8:YU a1 a2 a3.length a4.length=false:=by simp [YU,h9,hr]
   conv=>whnf
   exact mq185
  conv=>whnf
  refine ZEH (fun hA=>?_) (fun hA=>?_)
  rotate_left
  ·have hA:¬a3.length=1:=fun g=>hA (by show ((Zm pl a3).length:Int)=1;rw [kx,g];rfl)
   have j8:YU a1 a2 a3.length a4.length=false:=by simp [YU,h9,hA]
   conv=>whnf
   exact mq185
  have hA:a3.length=1:=by have hA:((Zm pl a3).length:Int)=1:=hA;rw [kx] at hA;omega
  conv=>whnf
  refine ZEH (fun hB=>wN ?_) (fun hB=>wN ?_)
  ·have hB:=ry.1 hB
   have j8:YU a1 a2 a3.length a4.length=true:=by simp [YU,h9,hr,hA,hB]
   exact mq155
  have hB:¬0<a4.length:=fun g=>hB (ry.2 g)
  have j8:YU a1 a2 a3.length a4.length=false:=by simp only [YU,h9,hr,hA,decide_eq_false hB];simp
  exact mq185
 have y6:¬a1=9:=oM
 refine ZEH (fun hg9=>wN ?_) (fun hg9=>wN ?_)
 ·refine ZEH (fun acw=>wN ?_) (fun acw=>wN ?_)
  ·have u7:9<a1/\a1<=12:=by omega
   refine ZEH (fun hr=>?_) (fun hr=>?_)
   rotate_left
   ·have j8:YU a1 a2 a3.length a4.length=false:=by simp [YU,jw,ox,y6,u7,hr]
    conv=>whnf
    exact mq185
   conv=>whnf
   refine ZEH (fun hA=>?_) (fun hA=>?_)
   rotate_left
   ·have hA:¬a3.length=2:=fun g=>hA (by show ((Zm pl a3).length:Int)=2;rw [kx,g];rfl)
    have j8:YU a1 a2 a3.length a4.length=false:=by simp [YU,jw,ox,y6,u7,hA]
    conv=>whnf
    exact mq185
   have hA:a3.length=2:=by have hA:((Zm pl a3).length:Int)=2:=hA;rw [kx] at hA;omega
   conv=>whnf
   refine ZEH (fun hB=>wN ?_) (fun hB=>wN ?_)
   ·have hB:=ry.1 hB
    have j8:YU a1 a2 a3.length a4.length=true:=by simp [YU,jw,ox,y6,u7,hr,hA,hB]
    exact mq155
   have hB:¬0<a4.length:=fun g=>hB (ry.2 g)
   have j8:YU a1 a2 a3.length a4.length=false:=by simp only [YU,jw,ox,y6,u7,hr,hA,decide_eq_false hB];simp
   exact mq185
  have u7:¬(9<a1/\a1<=12):=by omega
  exact mq198
 have u7:¬(9<a1/\a1<=12):=oM
 exact mq198):P:=h
def mq4 {P:Prop} (h:P:=by
 refine ZEH (fun h1=>?_) (fun h1=>?_)
 rotate_left
 ·exact mq195
 conv=>whnf
 refine ZEH (fun h2=>wN ?_) (fun h2=>wN ?_)
 ·refine ZEH (fun h3=>wN ?_) (fun h3=>wN ?_)
  ·exact mq192
  refine ZEH (fun h5=>?_) (fun h5=>?_)
  rotate_left
  ·exact mq163
  have h5:a1=3:=oM
  have ge:(decide (a3=0) || decide (a1=3))=true:=by simp [h5]
  exact mq187
 refine ZEH (fun h6=>?_) (fun h6=>?_)
 rotate_left
 ·exact mq167
 have h6:(a4.length:Int)=a:=by rw [<- ic];exact h6
 conv=>whnf
 refine ZEH (fun h3=>wN ?_) (fun h3=>wN ?_)
 ·exact mq191
 refine ZEH (fun h5=>?_) (fun h5=>?_)
 rotate_left
 ·exact mq163
 have h5:a1=3:=oM
 have ge:(decide (a3=0) || decide (a1=3))=true:=by simp [h5]
 exact mq186):P:=h
def mq5 {P:Prop} (h:P:=by
 refine ⟨oM,oM,oM,wN ?_⟩
 have fp:cut s ((a:Int)).toNat ((e:Int)).toNat=Zd (s.drop a):=by rw [hst.2];congr 1 <;> omega
 refine ⟨false,⟨⟨?_,?_⟩,rfl,rfl⟩,fun h5 nn=>?_,fun h5=>?_⟩
 ·exact (congrArg (fun l:Bs=>l.all (Wa false)=true) fp).mpr cf
 ·exact (congrArg (fun l:Bs=>l.length<4294967281) fp).mpr (show _<_ by omega)
 ·have fq:Zd (s.drop a)=[]\/9223372036854775808<=WJ 10 (Zd (s.drop a)):=by rw [<- fp];exact h5
  exact mq157
 have fq:¬(Zd (s.drop a)=[]\/9223372036854775808<=WJ 10 (Zd (s.drop a))):=by rw [<- fp];exact h5
 simp only [not_or] at fq
 have uc:=WT (s.drop (a+ZE (s.drop a)))
 have uz:=WT (s.drop ((e:Int)).toNat)
 have vf:(pk (s.drop ((e:Int)).toNat)).1=(pk ((s.drop a).drop (ZE (s.drop a)))).1:=by rw [TL,<- hst.1];rfl
 have g6:ZZ (s.drop a)=if Zj (pk ((s.drop a).drop (ZE (s.drop a)))).1=true\/Zq (pk ((s.drop a).drop (ZE (s.drop a)))).1=true\/(Vi (s.drop a)=true/\16<(Zd (s.drop a)).length) then none else some (WJ 10 (Zd (s.drop a))):=by
  unfold ZZ
  simp only [f7,if_true,Tu,if_false]
  rw [Tf fq.1,Tf fq.2]
 conv=>whnf
 refine ⟨⟨oM,oM⟩,wN ?_⟩
 refine ⟨⟨uz.1,oM⟩,wN ?_⟩
 refine ZEL (fun h6=>wN ?_) (fun h6=>wN ?_)
 ·exact mq184
 refine ZEL (fun h7=>wN ?_) (fun h7=>wN ?_)
 ·exact mq183
 have g7:¬Zj (pk ((s.drop a).drop (ZE (s.drop a)))).1=true/\¬Zq (pk ((s.drop a).drop (ZE (s.drop a)))).1=true:=by
  exact mq178
 have g9:=dv _ (by rw [g6,Tf (by simp only [not_or];exact ⟨g7.1,g7.2,by rw [f7];simp⟩)])
 rw [<- hst.1,<- fp] at g9
 exact Or.inr g9):P:=h
def mq6 {P:Prop} (h:P:=by
 refine ZEH (fun h1=>?_) (fun h1=>?_)
 rotate_left
 ·exact mq195
 conv=>whnf
 refine ZEH (fun h2=>wN ?_) (fun h2=>wN ?_)
 ·exact mq158
 refine ZEH (fun h6=>?_) (fun h6=>?_)
 rotate_left
 ·exact mq167
 have h6:(a4.length:Int)=a:=by rw [<- ic];exact h6
 conv=>whnf
 exact mq158):P:=h
def mq7 {P:Prop} (h:P:=by
 unfold XA at h
 split at h
 ·obtain ⟨pl,l,rfl,⟨rfl,hz,hn⟩,h⟩:=h
  refine pwv [] 0 false ?_
  refine ⟨pl,l,rfl,⟨rfl,rfl,hz,hn⟩,fun b hb=>wN ?_⟩
  exact h _ (by rw [<- hb,SF])
 exact h.elim):P:=h
def mq8 {P:Prop} (h:P:=by
 exact mq155):P:=h
def mq9 {P:Prop} (h:P:=by
 conv=>whnf
 refine ⟨⟨0,_,rfl,rfl,oM,oM,oM⟩,?_⟩
 intro vs σ hI
 obtain ⟨i,nn,rfl,rfl,hi,dk,ew⟩:=hI
 conv=>whnf
 refine ZEH (fun ac=>?_) (fun ac=>?_)
 rotate_left
 ·exact mq161
 have ac:i<p2.length:=lzI gl ac
 conv=>whnf
 refine ZEH (fun ii=>?_) (fun ii=>?_)
 rotate_left
 ·exact mq161
 conv=>whnf
 obtain ⟨eA,hA⟩:∃e,p2[i]=e:=⟨_,rfl⟩
 have hg:=Zr ZjS p2 i ac
 obtain ⟨b1,b2,b3,b4,b5,b6⟩:=eA
 rw [hA] at hg
 simp only [ZjS] at hg
 have bi:(p2.map (ZF pl))[((i:Nat):Int).toNat]?=some (ZF pl ⟨b1,b2,b3,b4,b5,b6⟩):=by simp [ac,hA]
 (repeat (first | (refine oiO ?_;conv=>whnf) | (refine ⟨_,oM,bi,?_⟩;conv=>whnf)))
 refine ⟨pl,b2,B,rfl,⟨⟨oM,oM⟩,oM,oM,hB⟩,fun r lk lz=>wN ?_⟩
 unfold bd3 at lz
 (repeat (refine ⟨rfl,?_⟩;conv=>whnf))
 (repeat (first | (refine oiO ?_;conv=>whnf) | (refine ⟨_,oM,bi,?_⟩;conv=>whnf)))
 refine ⟨⟨i+1,_,rfl,rfl,oM,oM,oM⟩,?_⟩
 show ((p2.length:Nat) - ((i:Int)+1)).toNat<((p2.length:Nat) - (i:Int)).toNat
 omega):P:=h
def mq10 {P:Prop} (h:P:=by
 refine ⟨⟨0,n+1,_,rfl,rfl,oM,⟨hM1,by rw [So];omega⟩,hF⟩,?_⟩
 rintro w σ1 ⟨j,n1,M1,rfl,rfl,hj,⟨uo,ia⟩,ha⟩
 conv=>whnf
 refine ZEH (fun hc=>?_) (fun hc=>?_)
 rotate_left
 ·have hc:¬(j:Int)<((fs.map Zk).length:Int):=hc
  rw [Td] at hc
  rw [Tv oM] at ha
  have ha:M1=F:=ha
  subst ha
  conv=>whnf
  exact h
 have ab:j<fs.length:=by have hc:(j:Int)<((fs.map Zk).length:Int):=hc;rw [Td] at hc;omega
 have aq:j<eargs.length:=oM
 rw [Tn ab,Tn aq] at ha
 simp only [U0] at ha
 have hk:=rk j _ _ (Tb aq) (Tb ab)
 have ov:(fs.map Zk)[(j:Int).toNat]?=some (Zk fs[j]):=by rw [Tl,Th,Tb ab];rfl
 have mz:(Zm pl eargs)[(j:Int).toNat]?=some (ZQ pl eargs[j]):=by rw [Zb,Tl,Th,Tb aq];rfl
 have dx:=Zr szE eargs j aq
 have il:=Zcw (f:=szE) (Tb aq)
 have hμ:((eargs.length:Int) - ((j:Int)+1)).toNat<((eargs.length:Int) - (j:Int)).toNat:=oM
 generalize fs[j]=f0 at ha hk ov
 generalize eargs[j]=x0 at ha hk mz dx il
 obtain ⟨f1,f2⟩:=f0
 obtain ⟨x1,x2,x3,x4,x5⟩:=x0
 conv=>whnf
 refine ⟨_,oM,ov,wN ?_⟩
 refine ⟨_,oM,mz,wN ?_⟩
 refine ⟨oM,pl,p,r,vs,more,.mk x1 x2 x3 x4 x5,M1,n1,rfl,rfl,rfl,hp,⟨oM,oM⟩,hk,⟨uo,oM⟩,wN ?_⟩
 have hM3:=ZaF (wiE p (.mk x1 x2 x3 x4 x5) f2) uo
 have yw:=ZgT p (.mk x1 x2 x3 x4 x5) f2
 rw [WH,List.foldl_append] at ha
 (repeat (refine ⟨rfl,?_⟩;conv=>whnf))
 refine Zi ?_
 exact ⟨⟨j+1,n1+(wiE p (.mk x1 x2 x3 x4 x5) f2).length,_,rfl,rfl,oM,⟨hM3,oM⟩,ha⟩,hμ⟩):P:=h
def mq11 {P:Prop} (h:P:=by
 have ml:=ZhW hd oM
 conv=>whnf
 refine ZEH (fun g1=>wN ?_) (fun g1=>?_)
 ·refine ZEH (fun g2=>wN ?_) (fun g2=>?_)
  ·refine V9 ?_
   refine V9 ?_
   have hD:(Zgn b:Int)=Zg .or .u8 (b.toNat:Int) 32 - 97+10:=oM
   refine V9 ?_
   refine ZEH (fun h6=>?_) (fun h6=>wN ?_)
   ·omega
   refine ZEH (fun h7=>wN ?_) (fun h7=>wN ?_)
   ·exact rj oM
   refine Zda ?_
   refine Zda ?_
   refine Zda ?_
   by_cases cx:(N:Int) * 16+(Zg .or .u8 (b.toNat:Int) 32 - 97+10)<=18446744073709551615
   ·refine Zda ?_
    refine ZEH (fun h8=>?_) (fun h8=>wN ?_)
    ·omega
    refine ZEH (fun h9=>wN ?_) (fun h9=>wN ?_)
    ·exact rj oM
    refine Zi ?_
    refine ⟨⟨rfl,i+1,?_,oM,oM⟩,?_⟩
    ·have e:((WJ 16 (l.take (i+1)):Nat):Int)=(N:Int) * 16+(Zg .or .u8 (b.toNat:Int) 32 - 97+10):=by omega
     rw [e];rfl
    exact mq180
   have hw:IntKind.u64.wrap ((N:Int) * 16+(Zg .or .u8 (b.toNat:Int) 32 - 97+10))=(N:Int) * 16+(Zg .or .u8 (b.toNat:Int) 32 - 97+10) - 18446744073709551616:=by
    exact mq193
   exact mq190
  omega
 omega):P:=h
def mq12 {P:Prop} (h:P:=by
 refine ⟨⟨0,rfl,rfl,oM,hX⟩,?_⟩
 rintro w σ1 ⟨j,rfl,rfl,hj,ha⟩
 conv=>whnf
 refine ZEH (fun hc=>?_) (fun hc=>?_)
 rotate_left
 ·have hc:¬(j:Int)<((fs.map Zk).length:Int):=hc
  rw [Td] at hc
  rw [Tv oM] at ha
  have ha:none=X:=ha
  subst ha
  conv=>whnf
  exact h
 have ab:j<fs.length:=by have hc:(j:Int)<((fs.map Zk).length:Int):=hc;rw [Td] at hc;omega
 have aq:j<eargs.length:=oM
 rw [Tn ab,Tn aq] at ha
 simp only [U0] at ha
 have hk:=rk j _ _ (Tb aq) (Tb ab)
 have ov:(fs.map Zk)[(j:Int).toNat]?=some (Zk fs[j]):=by rw [Tl,Th,Tb ab];rfl
 have mz:(Zm pl eargs)[(j:Int).toNat]?=some (ZQ pl eargs[j]):=by rw [Zb,Tl,Th,Tb aq];rfl
 have dx:=Zr szE eargs j aq
 have hμ:((eargs.length:Int) - ((j:Int)+1)).toNat<((eargs.length:Int) - (j:Int)).toNat:=oM
 generalize fs[j]=f0 at ha hk ov
 generalize eargs[j]=x0 at ha hk mz dx
 obtain ⟨f1,f2⟩:=f0
 obtain ⟨x1,x2,x3,x4,x5⟩:=x0
 conv=>whnf
 refine ⟨_,oM,ov,wN ?_⟩
 refine ⟨_,oM,mz,wN ?_⟩
 refine ⟨oM,pl,p,r,vs,more,.mk x1 x2 x3 x4 x5,M,kn,rfl,rfl,rfl,hp,⟨oM,oM⟩,hk,lm,fun y hy=>?_⟩
 rw [WY,hy] at ha
 cases y with
 | some ae =>
  obtain ⟨a,e⟩:=ae
  simp only [orF] at ha
  subst ha
  simp only [FlK] at h |-
  conv=>whnf
  exact h
 | none =>
 simp only [FlK,orF] at ha |-
 conv=>whnf
 (repeat (refine ⟨rfl,?_⟩;conv=>whnf))
 refine Zi ?_
 exact ⟨⟨j+1,rfl,rfl,oM,ha⟩,hμ⟩):P:=h
def mq13 {P:Prop} (h:P:=by
 refine ⟨⟨0,_,b1,b2,b3,b4,b5,b6,rfl,rfl,⟨oM,oM⟩,oM,oM⟩,?_⟩
 intro vs' σ' yc
 obtain ⟨j,n2,c1,c2,c3,c4,c5,c6,rfl,rfl,⟨hj,vd⟩,yd,ye⟩:=yc
 conv=>whnf
 have uj:(c5.map Zt).length=c5.length:=Td ..
 have hs5:=Zn ZiW c5
 refine ZEH (fun ik=>?_) (fun ik=>?_)
 rotate_left
 ·exact mq181
 have ik:j<c5.length:=lzI uj ik
 conv=>whnf
 refine ZEH (fun rc=>?_) (fun rc=>?_)
 rotate_left
 ·exact mq181
 conv=>whnf
 obtain ⟨eC,hC⟩:∃e,c5[j]=e:=⟨_,rfl⟩
 have hgc:=Zr ZiW c5 j ik
 obtain ⟨d1,d2⟩:=eC
 rw [hC] at hgc
 simp only [ZiW] at hgc
 have bi:(c5.map Zt)[((j:Nat):Int).toNat]?=some (Zt ⟨d1,d2⟩):=by simp [ik,hC]
 (repeat (first | (refine oiO ?_;conv=>whnf) | (refine ⟨_,oM,bi,?_⟩;conv=>whnf)))
 refine ⟨pl,d2,B,rfl,⟨⟨oM,oM⟩,oM,oM,hB⟩,fun r lk lz=>wN ?_⟩
 unfold bd3 at lz
 (repeat (refine ⟨rfl,?_⟩;conv=>whnf))
 (repeat (first | (refine oiO ?_;conv=>whnf) | (refine ⟨_,oM,bi,?_⟩;conv=>whnf)))
 refine ⟨⟨j+1,_,c1,c2,c3,c4,c5,c6,rfl,rfl,⟨oM,vd⟩,oM,oM⟩,?_⟩
 show ((B:Nat) - ((j:Int)+1)).toNat<((B:Nat) - (j:Int)).toNat
 omega):P:=h
def mq14 {P:Prop} (h:P:=by
 refine ⟨fun _=>0,a1,rfl,⟨by simp only [wBs];omega,oM⟩,fun b dk=>?_⟩
 cases b with
 | false =>
  conv=>whnf
  exact h _ (by simp [Yg,dk])
 | true =>
 conv=>whnf
 refine ⟨pl,a2,rfl,⟨rfl,oM,oM⟩,fun b gr=>?_⟩
 cases b with
 | false =>
  conv=>whnf
  exact h _ (by simp [Yg,dk,gr])
 | true =>
 conv=>whnf
 refine ⟨pl,a4,rfl,⟨rfl,oM,oM⟩,fun b gp=>?_⟩
 cases b with
 | false =>
  conv=>whnf
  exact h _ (by simp [Yg,dk,gr,gp])
 | true =>
 conv=>whnf
 refine ⟨pl,.mk u1 u2 u3 u4 u5 u6,rfl,⟨oM,oM⟩,fun b hu=>wN ?_⟩
 exact h _ (by simp only [Yg,lj,dk,gr,gp,hu,TV])):P:=h
def mq15 {P:Prop} (h:P:=by
 rcases x with ⟨v3,ts3⟩ | ⟨r3,e3⟩
 rotate_left
 ·exact mq170
 rw [ek,R.bind_ok] at h
 intro a3 f9 bq
 have ju:=bq.hi
 conv=>whnf
 refine Zi ?_
 rw [TY]
 exact h _ oM bq):P:=h
def mq16 {P:Prop} (h:P:=by
 cases b with
 | false =>
  rw [Zx,Tf (by rw [eg];simp),R.bind_err] at h
  exact mq199
 | true =>
 rw [Zx,Tj eg] at h
 conv=>whnf
 refine ZEH (fun hc=>wN ?_) (fun hc=>wN ?_)
 ·rw [Tj oM,R.bind_err] at h
  refine ⟨L,ts,rfl,ho,wN ?_⟩
  exact h _ _
 rw [Tf oM] at h
 refine ⟨L,ts,rfl,ho,fun x hx=>?_⟩
 rw [Z1,Tj eg] at hx
 subst hx
 intro a1 eb au
 have co:=au.hi
 conv=>whnf
 refine Zi ?_
 refine ⟨_,fun _ _ h=>h,Tc rfl,wN ?_⟩
 refine ⟨L,ts.tail,rfl,au,⟨oM,oM,oM⟩,fun x ca=>?_⟩
 rcases x with ⟨v2,ts2⟩ | ⟨r2,e2⟩
 rotate_left
 ·exact mq197
 rw [ca,R.bind_ok] at h
 intro a2 fu aj
 have f6:=aj.hi
 obtain ⟨v2a,v2b,v2c,v2d,v2e⟩:=v2
 conv=>whnf
 repeat (refine ⟨rfl,?_⟩;conv=>whnf)
 rw [Tj rfl,R.bind_ok] at h
 refine Zi ?_
 rw [TY]
 exact h _ oM aj):P:=h
def mq17 {P:Prop} (h:P:=by
 refine ⟨L,ts1,rfl,au,ey,fun x hx=>?_⟩
 rw [hx] at step
 cases x with
 | err r e =>
  exact mq171
 | ok v ts2 =>
 rw [R.bind_ok] at step
 intro a2 ak aj
 have gl:=aj.len
 have qk:=aj.hi
 obtain ⟨v1,v2,v3,v4,v5⟩:=v
 conv=>whnf
 refine ⟨TB.2 rfl,(show ((l.map (Y5 (Zc L en))).length+1) * 80<=2 ^ 47 by rw [Td];omega),(show (l.map (Y5 (Zc L en))).length+1<=2 ^ 47 by rw [Td];omega),wN ?_⟩
 refine ⟨L,ts2,rfl,aj,[[44]],rfl,sM,fun hw bq=>wN ?_,fun hw=>wN ?_⟩
 ·rw [Tj hw] at step
  have kx:=bq.len
  refine ⟨⟨_,a2+1,ts2.tail,f,congrArg (fun r=>[PV.sl 0 57 r]) (Zv (Y5 (Zc L en)) l (.mk v1 v2 v3 v4 v5)),rfl,bq,by simp only [Ta,TF];omega,oM,step⟩,?_⟩
  exact mq169
 rw [Tf (by rw [hw];simp)] at step
 rw [step] at h
 exact Zrl (h a2 oM aj) (congrArg (fun r=>PEnd.ret (PV.d (D.sl r))) (Zv (Y5 (Zc L en)) l (.mk v1 v2 v3 v4 v5)).symm) rfl):P:=h
def mq18 {P:Prop} (h:P:=by
 refine ⟨L,ts1,rfl,au,ey,fun x hx=>?_⟩
 rw [hx] at step
 cases x with
 | err r e =>
  exact mq171
 | ok v ts2 =>
 rw [R.bind_ok] at step
 intro a2 ak aj
 have gl:=aj.len
 have qk:=aj.hi
 obtain ⟨v1,v2,v3,v4,v5⟩:=v
 conv=>whnf
 refine ⟨TB.2 rfl,(show ((l.map (ZQ (Zc L en))).length+1) * 64<=2 ^ 47 by rw [Td];omega),(show (l.map (ZQ (Zc L en))).length+1<=2 ^ 47 by rw [Td];omega),wN ?_⟩
 refine ⟨L,ts2,rfl,aj,[[44]],rfl,sM,fun hw bq=>wN ?_,fun hw=>wN ?_⟩
 ·rw [Tj hw] at step
  have kx:=bq.len
  refine ⟨⟨_,a2+1,ts2.tail,f,congrArg (fun r=>[PV.sl 0 55 r]) (Zv (ZQ (Zc L en)) l (.mk v1 v2 v3 v4 v5)),rfl,bq,by simp only [Ta,TF];omega,oM,step⟩,?_⟩
  exact mq169
 rw [Tf (by rw [hw];simp)] at step
 rw [step] at h
 exact Zrl (h a2 oM aj) (congrArg (fun r=>PEnd.ret (PV.d (D.sl r))) (Zv (ZQ (Zc L en)) l (.mk v1 v2 v3 v4 v5)).symm) rfl):P:=h
def mq19 {P:Prop} (h:P:=by
 exact mq170):P:=h
def mq20 {P:Prop} (h:P:=by
 refine ⟨L,ts1,rfl,au,fun x hx=>?_⟩
 rw [hx] at step
 cases x with
 | err r e =>
  exact mq171
 | ok v ts2 =>
 rw [R.bind_ok] at step
 intro a2 ak aj
 have gl:=aj.len
 have qk:=aj.hi
 obtain ⟨v1,v2⟩:=v
 conv=>whnf
 refine ⟨TB.2 rfl,(show ((l.map (Zt)).length+1) * 40<=2 ^ 47 by rw [Td];omega),(show (l.map (Zt)).length+1<=2 ^ 47 by rw [Td];omega),wN ?_⟩
 refine ⟨L,ts2,rfl,aj,[[124]],rfl,sM,fun hw bq=>wN ?_,fun hw=>wN ?_⟩
 ·rw [Tj hw] at step
  have kx:=bq.len
  refine ⟨⟨_,a2+1,ts2.tail,f,congrArg (fun r=>[PV.sl 0 49 r]) (Zv (Zt) l _),rfl,bq,by simp only [Ta,TF];omega,oM,step⟩,?_⟩
  exact mq169
 rw [Tf (by rw [hw];simp)] at step
 rw [step] at h
 exact Zrl (h a2 oM aj) (congrArg (fun r=>PEnd.ret (PV.d (D.sl r))) (Zv (Zt) l _).symm) rfl):P:=h
def mq21 {P:Prop} (h:P:=by
 refine ⟨L,ts1,rfl,au,fun x hx=>?_⟩
 rw [hx] at step
 cases x with
 | err r e =>
  exact mq171
 | ok v ts2 =>
 rw [R.bind_ok] at step
 intro a2 ak aj
 have gl:=aj.len
 have qk:=aj.hi
 obtain ⟨v1,v2⟩:=v
 conv=>whnf
 refine ⟨TB.2 rfl,(show ((l.map (Zk)).length+1) * 32<=2 ^ 47 by rw [Td];omega),(show (l.map (Zk)).length+1<=2 ^ 47 by rw [Td];omega),wN ?_⟩
 refine ⟨L,ts2,rfl,aj,[[44]],rfl,sM,fun hw bq=>wN ?_,fun hw=>wN ?_⟩
 ·rw [Tj hw] at step
  have kx:=bq.len
  refine ⟨⟨_,a2+1,ts2.tail,f,congrArg (fun r=>[PV.sl 0 73 r]) (Zv (Zk) l _),rfl,bq,by simp only [Ta,TF];omega,oM,step⟩,?_⟩
  exact mq169
 rw [Tf (by rw [hw];simp)] at step
 rw [step] at h
 exact Zrl (h a2 oM aj) (congrArg (fun r=>PEnd.ret (PV.d (D.sl r))) (Zv (Zk) l _).symm) rfl):P:=h
def mq22 {P:Prop} (h:P:=by
 refine ⟨L,ts1,rfl,au,fun x hx=>?_⟩
 rw [hx] at step
 cases x with
 | err r e =>
  exact mq171
 | ok v ts2 =>
 rw [R.bind_ok] at step
 intro a2 ak aj
 have gl:=aj.len
 have qk:=aj.hi
 skip
 conv=>whnf
 refine ⟨TB.2 rfl,(show ((l.map (Yl)).length+1) * 16<=2 ^ 47 by rw [Td];omega),(show (l.map (Yl)).length+1<=2 ^ 47 by rw [Td];omega),wN ?_⟩
 refine ⟨L,ts2,rfl,aj,[[44]],rfl,sM,fun hw bq=>wN ?_,fun hw=>wN ?_⟩
 ·rw [Tj hw] at step
  have kx:=bq.len
  refine ⟨⟨_,a2+1,ts2.tail,f,congrArg (fun r=>[PV.sl 0 9 r]) (Zv (Yl) l _),rfl,bq,by simp only [Ta,TF];omega,oM,step⟩,?_⟩
  exact mq169
 rw [Tf (by rw [hw];simp)] at step
 rw [step] at h
 exact Zrl (h a2 oM aj) (congrArg (fun r=>PEnd.ret (PV.d (D.sl r))) (Zv (Yl) l _).symm) rfl):P:=h
def mq23 {P:Prop} (h:P:=by
 refine ⟨fun _=>0,a2,rfl,⟨by simp only [wBs];omega,oM⟩,fun b dk=>?_⟩
 cases b with
 | false =>
  conv=>whnf
  exact h _ (by simp [Ym,ly,dk])
 | true =>
 conv=>whnf
 refine ⟨pl,a4,rfl,⟨rfl,oM,oM⟩,fun b gr=>?_⟩
 cases b with
 | false =>
  conv=>whnf
  exact h _ (by simp [Ym,ly,dk,gr])
 | true =>
 conv=>whnf
 refine ⟨pl,a5,rfl,⟨rfl,oM,oM⟩,fun b gp=>wN ?_⟩
 exact h _ (by simp only [Ym,ly,dk,gr,gp,TV])):P:=h
def mq24 {P:Prop} (h:P:=by
 refine Zi ?_
 exact mq189):P:=h
def mq25 {P:Prop} (h:P:=by
 rw [hp,TV] at hs
 conv=>whnf
 refine Zi ?_
 refine ⟨⟨i+1,rfl,rfl,oM,hs⟩,?_⟩
 exact lzM oM):P:=h
def mq26 {P:Prop} (h:P:=by
 exact ⟨_,h,by rw [ZX,Op.equalIn];simp [Za dy],ZH rfl,rfl⟩):P:=h
def mq27 {P:Prop} (h:P:=by
 refine ⟨sM,fun r hr=>by rw [(List.mem_replicate.1 hr).2],fun a b y u hb hy hu=>?_⟩
 by_cases ha:a<n
 ·have ab:a * zero.length+b<n * zero.length:=by
   calc a * zero.length+b<a * zero.length+zero.length:=by omega
    _=(a+1) * zero.length:=by rw [Sq,Nat.one_mul]
    _<=n * zero.length:=T3 _ ha
  have hm:(a * zero.length+b) % z.cells.size=b:=by rw [vd,Nat.mul_comm,Nat.mul_add_mod,Nat.mod_eq_of_lt hb]
  rw [Tw,Array.getElem?_map,Array.getElem?_range,Tj ab] at hu
  simp only [Sb,hm,Option.some.injEq] at hu
  have hbz:b<z.cells.size:=oM
  rw [getElem!_pos z.cells b hbz] at hu
  have cm:b<(T.get el).zero.length:=oM
  have:=mn b _ u (Tb cm) (by rw [Tw,TA hbz,hu])
  rw [Se,Tj ha] at hy
  simp only [Option.bind_some] at hy
  exact Wn (cg b _ y (Tb cm) hy) this.1
 rw [Se,Tf ha] at hy;cases hy):P:=h
def mq28 {P:Prop} (h:P:=by
 exact mq199):P:=h
def mq29 {P:Prop} (h:P:=by
 have ac:l.length<=i:=lzG aa ac
 rw [WE _ ac] at hs
 exact h _ (by rw [hs];simp)):P:=h
def mq30 {P:Prop} (h:P:=by
 conv=>whnf
 refine Zi ?_
 refine ⟨⟨i+1,_,rfl,(by rw [jp,hT];simp only [To];rfl),.inr rfl,oM⟩,?_⟩
 exact lzM oM):P:=h
def mq31 {P:Prop} (h:P:=by
 generalize l[j]=x at hs hr
 obtain ⟨x1,x2,x3,x4,x5,x6⟩:=x
 conv=>whnf
 refine ⟨_,oM,hr,wN ?_⟩
 refine ⟨pl,_,rfl,wN ?_⟩
 refine ZEP (fun v hv=>?_) (fun hv=>wN ?_)
 ·rw [ZK] at hv
  obtain ⟨n,hn,rfl⟩:=TC.1 hv
  rw [Tf (by rw [show lkM _ _=some n from hn];simp)] at hs
  conv=>whnf
  refine Zi ?_
  exact ⟨⟨j+1,rfl,by rw [hs];rfl,oM⟩,by show ((l.length:Int) - ((j:Int)+1)).toNat<((l.length:Int) - (j:Int)).toNat;omega⟩
 rw [ZK,Option.map_eq_none_iff] at hv
 rw [Tj (by rw [show lkM _ _=none from hv];rfl)] at hs
 refine ⟨pl,_,rfl,wN ?_⟩
 refine Zi ?_
 exact ⟨⟨j+1,rfl,by rw [hs,<- VT];rfl,oM⟩,by show ((l.length:Int) - ((j:Int)+1)).toNat<((l.length:Int) - (j:Int)).toNat;omega⟩):P:=h
def mq32 {P:Prop} (h:P:=by
 intro j x hx
 have hj:=(Ti.1 hx).1
 have ce:(Zh l)[j]?=some [.int .u8 x.toNat]:=by simp [Zh,hx]
 generalize yq:Zh l=rr at hd ce
 have aa:rr.length=l.length:=by rw [<- yq];simp [Zh]
 generalize hvv:Value.slice (some ⟨g,0,none⟩) l.length cap=vv at hd
 cases hd with
 | slnil=>simp at ce
 | slz=>simp at ce
 | sl _ _ _ _ sz u hcap hsz hc ho hu =>
 simp only [Value.slice.injEq,Option.some.injEq,Addr.mk.injEq] at hvv
 obtain ⟨⟨rfl,rfl,_⟩,_,rfl⟩:=hvv
 have ip:sz=1:=by
  have:=hsz _ (TT ce);simpa using this.symm
 subst ip
 have h1:=hc j 0 oM oM
 have h2:=hu j 0 (.int .u8 x.toNat) (by rw [ce];rfl)
 generalize huu:u j 0=uu at h1 h2;cases h2
 simpa using h1):P:=h
def mq33 {P:Prop} (h:P:=by
 have h:=h rfl
 conv=>whnf
 refine ⟨_,oM,hr,wN ?_⟩
 refine ZEJ (fun hq=>wN ?_) (fun hq=>wN ?_)
 ·have hq:¬d2.length=eargs.length:=by have hq:¬((d2.map Zk).length:Int)=((Zm pl eargs).length:Int):=hq;rw [Td,ak] at hq;omega
  have h:=h _ rfl
  rw [Tj hq] at h
  exact h
 have hq:d2.length=eargs.length:=by have hq:((d2.map Zk).length:Int)=((Zm pl eargs).length:Int):=hq;rw [Td,ak] at hq;omega
 rw [Tf (fun g=>g hq)] at h
 refine ⟨pl,p,r,vs,more,rfl,hp,eargs,rfl,rfl,⟨hz,hm⟩,fun x hx=>?_⟩
 have h:=h x hx
 cases x with
 | none=>simp only [RtK] at h |-;(conv=>whnf);exact h
 | some ae=>obtain ⟨a,e⟩:=ae;simp only [RtK] at h |-;(conv=>whnf);exact h):P:=h
def mq34 {P:Prop} (h:P:=by
 refine ⟨pl,p,r,vs,more,rfl,hp,.mk x1 x2 x3 x4 x5,rfl,⟨dx,hm⟩,fun f hg=>?_⟩
 cases f with
 | none =>
  have:=kz hg
  simp only [RtK]
  conv=>whnf
  refine Zi ?_
  exact ⟨⟨j+1,rfl,rfl,oM,this⟩,hμ⟩
 | some ae =>
 obtain ⟨a,e⟩:=ae
 have:=cy _ hg
 subst this
 simp only [RtK] at h |-
 conv=>whnf
 exact h):P:=h
def mq35 {P:Prop} (h:P:=by
 have hk:=(Ti.1 hx).1
 have fx:k<vs.size:=oM
 have:(vs++Array.replicate (fn.ntmps - vs.size) undef).getD (0+k) Go.undef=vs[k]:=by
  simp [Array.getD,Array.getElem_append,fx]
  intro h;omega
 rw [this]
 exact af.2 k x _ hx (TA fx)):P:=h
def mq36 {P:Prop} (h:P:=by
 have e:Zh (Lib.encodeRune c)=[[D.int .u8 (Zg .or .u8 224 (IntKind.u8.wrap (c.fdiv (2 ^ min (Int.toNat 12) IntKind.i32.bits))))],[D.int .u8 (Zg .or .u8 128 (Zg .and .u8 (IntKind.u8.wrap (c.fdiv (2 ^ min (Int.toNat 6) IntKind.i32.bits))) 63))],[D.int .u8 (Zg .or .u8 128 (Zg .and .u8 (IntKind.u8.wrap (c)) 63))]]:=by
  rw [Wj,Lib.encodeRuneZ_three oM]
  simp only [e6,e12,e18,wu8,Tx,TM]
  rw [ZDq oM oM,a63 oM oM,a63 oM oM,ZtZ oM oM,ZtZ oM oM,show c / 4096 % 256=c / 4096 by omega,show c / 64 % 256 % 64=c / 64 % 64 by omega,show c % 256 % 64=c % 64 by omega]
  all_goals (try omega)
  (try (congr 1 <;> omega))
 rw [e] at h;exact h):P:=h
def mq37 {P:Prop} (h:P:=by
 simp only [Zj5] at ha
 cases b with
 | true =>
  conv=>whnf
  rw [Tj hb] at ha
  exact h j ha.symm
 | false =>
 conv=>whnf
 rw [Tf (fun g=>Bool.noConfusion (hb.symm.trans g))] at ha
 refine Zi ?_
 exact ⟨⟨j+1,rfl,rfl,oM,ha⟩,by show ((l.length:Int) - ((j:Int)+1)).toNat<((l.length:Int) - (j:Int)).toNat;omega⟩):P:=h
def mq38 {P:Prop} (h:P:=by
 conv=>whnf
 obtain ⟨eC,hC⟩:∃e,ar[j]=e:=⟨_,rfl⟩
 have hgc:=Zr szE ar j ik
 obtain ⟨c1,c2,c3,c4,c5⟩:=eC
 rw [hC] at hgc
 have dc:(Zm pl ar)[((j:Nat):Int).toNat]?=some (ZQ pl (.mk c1 c2 c3 c4 c5)):=by rw [Zb];simp [ik,hC]
 (repeat (first | (refine ⟨_,oM,bi,?_⟩;conv=>whnf) | (refine ⟨_,oM,dc,?_⟩;conv=>whnf) | (refine oiO ?_;conv=>whnf)))
 refine ⟨pl,.mk c1 c2 c3 c4 c5,B,rfl,⟨⟨oM,oM⟩,oM,oM,hB⟩,fun r lk lz=>wN ?_⟩
 unfold bd2 at lz
 refine Zi ?_
 refine Zi ?_
 refine ⟨⟨j+1,_,rfl,rfl,oM,oM,oM⟩,?_⟩
 show ((B:Nat) - ((j:Int)+1)).toNat<((B:Nat) - (j:Int)).toNat
 omega):P:=h
def mq39 {P:Prop} (h:P:=by
 conv=>whnf
 refine ⟨fun _=>0,a1,rfl,⟨by simp only [wBs];omega,oM⟩,fun b dk=>?_⟩
 cases b with
 | false =>
  conv=>whnf
  exact h _ (by simp [Yg,dk])
 | true =>
 conv=>whnf
 refine ⟨pl,a2,rfl,⟨rfl,oM,oM⟩,fun b gr=>?_⟩
 cases b with
 | false =>
  conv=>whnf
  exact h _ (by simp [Yg,dk,gr])
 | true =>
 conv=>whnf
 refine ⟨pl,a4,rfl,⟨rfl,oM,oM⟩,fun b gp=>?_⟩
 cases b with
 | false =>
  conv=>whnf
  exact h _ (by simp [Yg,dk,gr,gp])
 | true =>
 conv=>whnf
 exact h _ (by simp only [Yg,lj,TU,Bool.and_false])):P:=h
def mq40 {P:Prop} (h:P:=by
 have e:XN (s.drop a.toNat)=2:=by
  have:twos.any (Lib.hasPrefix (s.drop a.toNat))=true:=by simp [twos,h2]
  simp [XN,this]
 rw [e] at h
 exact h):P:=h
def mq41 {P:Prop} (h:P:=by
 rcases x with ⟨v8,ts8⟩ | ⟨r8,e8⟩
 rotate_left
 ·rw [vt,R.bind_err] at h;intro a9 d9;(conv=>whnf);exact h _ _
 rw [vt,R.bind_ok] at h
 intro a8 acx y7
 have hb8:=y7.hi
 obtain ⟨v8a,v8b,v8c,v8d,v8e,v8f⟩:=v8
 conv=>whnf
 rw [Tf sM] at h
 refine ⟨L,ts8,rfl,y7,fun x y8=>?_⟩
 rcases x with ⟨v9,ts9⟩ | ⟨r9,e9⟩
 rotate_left
 ·rw [y8,R.bind_err,R.bind_err] at h;intro a9 d9;(conv=>whnf);exact h _ _
 rw [y8,R.bind_ok,R.bind_ok] at h
 intro a9 acy gh
 have rn:=gh.hi
 conv=>whnf
 refine Zi ?_
 rw [TY]
 exact h _ oM gh):P:=h
def mq42 {P:Prop} (h:P:=by
 rw [hp,TU] at hs
 conv=>whnf
 exact h _ (by rw [hs];simp;try omega)):P:=h
def mq43 {P:Prop} (h:P:=by
 exact mq182):P:=h
def mq44 {P:Prop} (h:P:=by
 exact mq197):P:=h
def mq45 {P:Prop} (h:P:=by
 have eo:u.drop i=[]:=Tv oM
 have g1:W2 (s.drop a)=.err 0:=by rw [<- gq];simp [Z6,eo]
 (try (refine ⟨rfl,?_⟩;conv=>whnf))
 (try (refine ⟨rfl,?_⟩;conv=>whnf))
 exact cy _ g1):P:=h
def mq46 {P:Prop} (h:P:=by
 rcases x with ⟨v11,ts11⟩ | ⟨r11,e11⟩
 rotate_left
 ·rw [jv,R.bind_err] at h;intro a9 d9;(conv=>whnf);exact h _ _
 rw [jv,R.bind_ok] at h
 intro a11 rq kr
 have xp:=kr.hi
 conv=>whnf
 refine ⟨L,ts11,rfl,kr,⟨ey,sM⟩,fun x ku=>?_⟩
 rcases x with ⟨v12,ts12⟩ | ⟨r12,e12⟩
 rotate_left
 ·rw [ku,R.bind_err] at h;intro a9 d9;(conv=>whnf);exact h _ _
 rw [ku,R.bind_ok] at h
 intro a12 rt kw
 have xq:=kw.hi
 conv=>whnf
 rw [<- Zb]
 exact h _ oM kw):P:=h
def mq47 {P:Prop} (h:P:=by
 refine ⟨v'::vs',tk2,as2,h2,Ui dm ca,ff,by simp [hl],fun i x y hx hy=>?_⟩
 cases i with
 | zero=>simp at hx hy;subst hx;subst hy;exact hv.ext ca
 | succ i=>exact bo i x y (by simpa using hx) (by simpa using hy)):P:=h
def mq48 {P:Prop} (h:P:=by
 refine ⟨_,_,h,.mkint,?_⟩
 simp only [ho,resolve,invoke,builtin,Sem.run_bind,Sem.run_pure,Result.andThen,Builtin.len_,po,ld,Za hd]
 rfl):P:=h
def mq49 {P:Prop} (h:P:=by
 unfold U4 at h
 split at h
 ·obtain ⟨pl,⟨a1,a2⟩,rfl,⟨rfl,hz,hn⟩,h⟩:=h
  refine pwv [] 1 false ?_
  refine ⟨pl,⟨a1,a2⟩,rfl,⟨hz,hn⟩,fun b hb=>wN ?_⟩
  exact h _ (by rw [hb])
 exact h.elim):P:=h
def mq50 {P:Prop} (h:P:=by
 rw [dm,R.bind_err] at h;intro a9 d9;(conv=>whnf);exact h _ _):P:=h
def mq51 {P:Prop} (h:P:=by
 conv=>whnf
 (try (refine ⟨rfl,?_⟩;conv=>whnf))
 (try (refine ⟨rfl,?_⟩;conv=>whnf))
 exact cy 3 (by rw [Xh,hn,hc,Tf jm,Tj rfl])):P:=h
def mq52 {P:Prop} (h:P:=by
 conv=>whnf
 exact h):P:=h
def mq53 {P:Prop} (h:P:=by
 simp only [twos,List.take,List.any_cons,List.any_nil,Sz,Sm,SI,SJ] at hn dl |-
 simp only [hn,dl,and_self]):P:=h
def mq54 {P:Prop} (h:P:=by
 exact mq185):P:=h
def mq55 {P:Prop} (h:P:=by
 refine ⟨fun r hr=>by (simp at hr;rcases hr with rfl | rfl | rfl <;> rfl),(show (rows.length+3) * 1<=2 ^ 47 by omega),(show rows.length+3<=2 ^ 47 by omega),?_⟩
 conv=>whnf
 exact g):P:=h
def mq56 {P:Prop} (h:P:=by
 exact mq190):P:=h
def mq57 {P:Prop} (h:P:=by
 subst nq
 refine ⟨?_,⟨.normal,f,e,σ,h,rfl,hS,hF,hL,hN,bf,hZ⟩⟩
 rw [List.eq_nil_iff_forall_not_mem]
 intro i hi
 obtain ⟨h1,o,ho,_⟩:=mem_ready.1 hi
 have ab:=(Tp.1 ho).1
 have:=(dg i ab).2 (fun p hp=>by cases hp)
 have fc:i<listed.size:=by rw [hsz];exact ab
 simp [Array.getD,fc] at this h1
 rw [this] at h1;cases h1):P:=h
def mq58 {P:Prop} (h:P:=by
 refine ⟨⟨rfl,e+(pk (s.drop e)).2,f,k1,k2,rfl,k3,k4⟩,?_⟩
 exact (show ((s.length:Int) - ((e:Int)+((pk (s.drop e)).2:Int))).toNat<((s.length:Int) - (e:Int)).toNat by omega)):P:=h
def mq59 {P:Prop} (h:P:=by
 refine ⟨pl,p,r,v,b,rfl,hp,.mk x1 x2 x3 x4 x5,rfl,⟨dx,hm⟩,fun v' b' hg=>wN ?_⟩
 have:=kz v' b' hg
 refine Zi ?_
 exact ⟨⟨j+1,v',b',rfl,rfl,oM,this⟩,hμ⟩):P:=h
def mq60 {P:Prop} (h:P:=by
 exact mq193):P:=h
def mq61 {P:Prop} (h:P:=by
 refine ⟨oM,pl,args,rfl,⟨oM,oM⟩,wN ?_⟩
 refine ⟨fun r hr=>by simp at hr;subst hr;rfl,?_,?_,?_⟩
 ·show ((Zm pl (VW (l.take j))).length+1) * 64<=2 ^ 47;omega
 ·show (Zm pl (VW (l.take j))).length+1<=2 ^ 47;omega
 conv=>whnf
 refine Zi ?_
 exact ⟨⟨j+1,by rw [ht];rfl,rfl,oM⟩,hμ⟩):P:=h
def mq62 {P:Prop} (h:P:=by
 split at h;· cases h;rename_i h;subst h;exact .inl ⟨dM,rfl⟩
 split at h;· cases h;rename_i h;subst h;exact .inr (.inl ⟨dM,rfl⟩)
 split at h;· cases h;rename_i h;subst h;exact .inr (.inr (.inl ⟨dM,rfl⟩))
 split at h;· cases h;rename_i h;subst h;exact .inr (.inr (.inr ⟨dM,rfl⟩))
 cases h):P:=h
def mq63 {P:Prop} (h:P:=by
 refine Zi ?_
 exact ⟨⟨j+1,rfl,by rw [e1,j6];rfl,oM⟩,by show ((p.types.length:Int) - ((j:Int)+1)).toNat<((p.types.length:Int) - (j:Int)).toNat;omega⟩):P:=h
def mq64 {P:Prop} (h:P:=by
 unfold anc
 have:(Wl ops.toList []).length=ops.size:=by
  have:∀(l:List Oper) (acc:List Nat),(Wl l acc).length=acc.length+l.length:=by
   intro l
   induction l with
   | nil=>intro acc;rfl
   | cons o l ih=>intro acc;rw [Wl,ih];simp;omega
  rw [this];simp
 rw [T2,T6 oM]
 simp):P:=h
def mq65 {P:Prop} (h:P:=by
 rw [Lib.decodeL_N]
 have k0:=(r.getD 0 0).toNat_lt
 rcases Lib.decodeN_shape r.length (r.getD 0 0).toNat (r.getD 1 0).toNat (r.getD 2 0).toNat (r.getD 3 0).toNat with ⟨c,e⟩ | ⟨c1,c2,c3,cv,e⟩ | ⟨c1,c2,c3,c4,cv,cs,e⟩ | ⟨c1,c2,c3,c4,c5,cv,cw,e⟩ | e
 all_goals (rw [e];dsimp only;omega)):P:=h
def mq66 {P:Prop} (h:P:=by
 refine Zi ?_
 refine ⟨⟨1,rfl,(by rw [cn];simp only [Sk,TM,Zf,T1];rfl),oM⟩,?_⟩
 exact lzM oM):P:=h
def mq67 {P:Prop} (h:P:=by
 simp only [Instr.storeAt,Instr.sureAddr,storeVar,Sem.run_bind,Sem.run_pure,Result.andThen,Zu hi]
 rw [Tf (by rw [nv];simp)]
 exact ah):P:=h
def mq68 {P:Prop} (h:P:=by
 refine Go.Lib.run_unsafeString_row w.drew (ρ.t 127) (ρ.t 3) (ρ.t 9) (ρ.t 5) L.t127 X.cellsByte g cur.size (by have pn:w.drew.heap[g]?=some (.cells cur (ρ.t 5) fz):=hg;simp [World.shape?,pn]) l h0 hn cx ?_
 intro j x hx
 have:=az j x hx
 rw [ZW,Sa];exact this):P:=h
def mq69 {P:Prop} (h:P:=by
 rw [hm,Tj ⟨hb,hc⟩] at h
 refine ⟨L,ts1,rfl,au,wN ?_⟩
 exact h _ _):P:=h
def mq70 {P:Prop} (h:P:=by
 refine Zi ?_
 refine ⟨⟨i+1,rfl,(by rw [cn];simp only [To];rfl),oM⟩,?_⟩
 exact lzM oM):P:=h
def mq71 {P:Prop} (h:P:=by
 unfold Zbc at h
 split at h
 ·rename_i w t0 t rows a en dp
  obtain ⟨L,ts,rfl,ho,h1,h2⟩:=h
  refine pwv [] 2 false ?_
  refine ⟨L,ts,rfl,ho,[w],rfl,sM,fun hw aj=>wN ?_,fun hw=>wN ?_⟩
  ·exact h1 hw aj
  exact h2 hw
 exact h.elim):P:=h
def mq72 {P:Prop} (h:P:=by
 unfold Zfw at h
 split at h
 ·obtain ⟨pl,p,l,rfl,rfl,hc,h⟩:=h
  refine pwv [] 6 false ?_
  refine ⟨pl,p,l,rfl,rfl,hc,fun i hi=>wN ?_⟩
  exact h _ (by rw [Bool.eq_iff_iff,decide_eq_true_iff,<- hi];exact (ZgQ l 0).symm)
 exact h.elim):P:=h
def mq73 {P:Prop} (h:P:=by
 refine ⟨L,ts,rfl,ho,wN ?_⟩
 exact h _ _):P:=h
def mq74 {P:Prop} (h:P:=by
 rw [ZkR hE] at l7
 subst l7
 have g1:W2 (s.drop a)=.err (1+i - 1):=by rw [<- gq];simp [Z6,ai,hE]
 conv=>whnf
 refine Zi ?_
 have g2:=cy _ g1
 rw [show ((a+(1+i - 1):Nat):Int)=(a:Int)+1+(i:Int) - 1 by omega] at g2
 exact g2):P:=h
def mq75 {P:Prop} (h:P:=by
 rename_i t m x v ho
 obtain ⟨σ1,w1,hK,ah,hst,gf⟩:=ZcN hT hS (hρ m) (hρ x) (hρ v) h
 refine ⟨_,_,Go.undef,w1,e,hK,.inr ⟨?_,rfl⟩,hst,gf,.undef _⟩
 unfold execOp
 simp only [ho,Sem.run_bind,ah,Result.andThen,Sem.run_pure]):P:=h
def mq76 {P:Prop} (h:P:=by
 cases r with
 | tmp t=>simp only [pres,ZO] at h |-;exact ih (fun vs h=>hK _ h) h
 | cell a t =>
 simp only [pres] at h |-
 obtain ⟨v,h1,h2⟩:=Zf2 h
 refine h2 _ ?_
 rw [ZO] at h1 |-
 exact ih (fun vs h=>hK _ h) h1):P:=h
def mq77 {P:Prop} (h:P:=by
 unfold U4 at h
 split at h
 ·obtain ⟨pl,⟨a1,a2,a3,a4,a5,a6⟩,rfl,⟨rfl,hz,hn⟩,h⟩:=h
  refine pwv [] 1 false ?_
  refine ⟨pl,⟨a1,a2,a3,a4,a5,a6⟩,rfl,⟨hz,hn⟩,fun b hb=>wN ?_⟩
  exact h _ (by rw [hb])
 exact h.elim):P:=h
def mq78 {P:Prop} (h:P:=by
 refine Zi ?_
 refine ⟨⟨rfl,e+1,rfl,oM,oM,bj (by have ef:Zq ((s.getD e 0).toNat:Int)=true:=h3;simp only [Wa,ef,Bool.true_or])⟩,?_⟩
 exact (show ((s.length:Int) - ((e:Int)+1)).toNat<((s.length:Int) - (e:Int)).toNat by omega)):P:=h
def mq79 {P:Prop} (h:P:=by
 have fq:(pk (u.drop i)).1<32:=by rw [po,vp] at h5;exact h5
 have g1:W2 (s.drop a)=.err (1+i):=by rw [<- gq];simp [Z6,ai,ef,jt,fq]
 have g2:=cy _ g1
 rw [show ((a+(1+i):Nat):Int)=(a:Int)+1+(i:Int) by omega] at g2
 exact g2):P:=h
def mq80 {P:Prop} (h:P:=by
 unfold U4 at h
 split at h
 ·obtain ⟨pl,⟨a1,a2,a3,a4,a5⟩,rfl,⟨rfl,hz,hn⟩,h⟩:=h
  refine pwv [] 1 false ?_
  refine ⟨pl,(.mk a1 a2 a3 a4 a5),rfl,⟨hz,hn⟩,fun b hb=>wN ?_⟩
  exact h _ (by rw [hb])
 exact h.elim):P:=h
def mq81 {P:Prop} (h:P:=by
 rcases x with ⟨v1,ts1⟩ | ⟨r1,e1⟩
 rotate_left
 ·rw [dm] at h;intro a9 d9;(conv=>whnf);exact h _ _
 rw [dm] at h
 intro a1 eb au
 have co:=au.hi
 obtain ⟨v1a,v1b,v1c,v1d,v1e⟩:=v1
 conv=>whnf
 exact h _ oM au):P:=h
def mq82 {P:Prop} (h:P:=by
 have fc:i<listed.size:=by rw [hsz];exact hi
 simp [Array.getD,fc]):P:=h
def mq83 {P:Prop} (h:P:=by
 unfold wpOpIn
 rw [ho]
 dsimp only
 split at bj
 ·rename_i hw
  rw [Tj hw]
  exact Oper.wpIn_mono (fun a w h=>next a w (hK a w h)) bj
 rename_i hw
 rw [Tf hw]
 exact ⟨fun _ _=>trivial,next _ _ (hK _ _ bj)⟩):P:=h
def mq84 {P:Prop} (h:P:=by
 unfold U4 at h
 split at h
 ·obtain ⟨pl,⟨a1,a2,a3,a4⟩,rfl,⟨rfl,hz,hn⟩,h⟩:=h
  refine pwv [] 1 false ?_
  refine ⟨pl,⟨a1,a2,a3,a4⟩,rfl,⟨hz,hn⟩,fun b hb=>wN ?_⟩
  exact h _ (by rw [hb])
 exact h.elim):P:=h
def mq85 {P:Prop} (h:P:=by
 cases lk with
 | ptr _ _ _ =>
 refine Calls.mono (ZhS (e.β 0) w (by simp [World.cell?,cz,iz])) fun en w' ⟨h1,h2⟩=>?_
 rw [h2]
 exact ⟨h1,.tuple [] #[] rfl (fun i x u hx=>by simp at hx),hS,Later.refl _ _ _⟩):P:=h
def mq86 {P:Prop} (h:P:=by
 refine Zi ?_
 exact ⟨⟨j+1,rfl,rfl,oM,ha⟩,hμ⟩):P:=h
def mq87 {P:Prop} (h:P:=by
 obtain ⟨pvs,r,hlv,hr,hvr⟩:=X9 (C:=C) (by rw [hC.T];exact hT) h1 h2 (by rw [hC.T];exact hl)
 obtain ⟨pv',σ2,e2,hK,_,jc,l9⟩:=Ws h1 h3 hk hvr hlv
 exact ⟨r,hr,rfl,⟨r,rfl⟩,σ2,e2,hK,jc,l9⟩):P:=h
def mq88 {P:Prop} (h:P:=by
 simp only [Ta,Te,Tg];omega):P:=h
def mq89 {P:Prop} (h:P:=by
 refine ⟨oM,pl,p,r,v,b,rfl,hp,.mk x1 x2 x3 x4 x5,rfl,⟨oM,oM⟩,fun v' b' hg=>wN ?_⟩
 rw [hg] at ha
 (repeat (refine ⟨rfl,?_⟩;conv=>whnf))
 refine Zi ?_
 exact ⟨⟨j+1,v',b',rfl,rfl,oM,ha⟩,hμ⟩):P:=h
def mq90 {P:Prop} (h:P:=by
 cases hy
 obtain ⟨q1,q2⟩:=h3 0 p u rfl hu
 refine ⟨?_,q2⟩
 rcases hp with rfl | rfl
 ·cases q1 with
  | d _ _ hd=>exact .d _ _ (hd.later hL)
 cases q1 with
 | ptr b o hb=>exact .ptr 0 0 sM):P:=h
def mq91 {P:Prop} (h:P:=by
 rcases h.ftok t1 fe p1 oy with h2 | ⟨t0,ni,p0,nj,h2⟩ | h2
 ·exact .inl (by rw [<- h1];exact h2)
 ·exact .inr (.inl ⟨t0,ni,p0,nj,h2.trans h1⟩)
 exact .inr (.inr (by rw [<- h1];exact h2))):P:=h
def mq92 {P:Prop} (h:P:=by
 split at h
 ·rename_i ht
  exact ⟨_,_,as++[some t],by simpa using h,⟨[some t],rfl⟩,hI.add ((Yo _ _).1 ht),.sl t el rows _ sM⟩
 exact ⟨_,tk,as,h,⟨[],sM⟩,hI,.cl (.sl t el rows) rfl⟩):P:=h
def mq93 {P:Prop} (h:P:=by
 subst h0
 cases hk:(T.get t).kind <;> rw [hk] at aw <;> first | (cases aw.1;done) | (cases aw;done) | (exact ec hk) | (obtain ⟨_,h1,_⟩:=aw;cases h1;done) | (obtain ⟨_,_,_,h1⟩:=aw;cases h1;done)):P:=h
def mq94 {P:Prop} (h:P:=by
 rw [Zb] at hr
 simp only [Tx,TM,Tt,List.not_mem_nil,or_false] at hr
 rcases hr with rfl | rfl <;> rfl):P:=h
def mq95 {P:Prop} (h:P:=by
 rename_i t1 σ1 ah
 split at hr
 ·rename_i vs' hp
  obtain ⟨keep,ec,bl⟩:=Zha hr
  exact go keep (fun e2 t2 σ2 h=>by rw [ah] at h;cases h;exact ZcA hp (bl hK)) ec
 cases hr):P:=h
def mq96 {P:Prop} (h:P:=by
 exact ⟨pv,_,hK,hr,Y7 hd dh l6 g1 q2⟩):P:=h
def mq97 {P:Prop} (h:P:=by
 simp only [Sem.run_bind,newRow,run_newObj,Result.andThen,Sem.run_pure]
 rfl):P:=h
def mq98 {P:Prop} (h:P:=by
 rcases h.ex with ⟨a,ha,h⟩ | ⟨ha,h⟩
 ·exact ⟨_,h,fun K' h'=>by simp only [Yy,hk,hz,hb];exact .yes ha h'⟩
 exact ⟨_,h,fun K' h'=>by simp only [Yy,hk,hz,hb];exact .no ha h'⟩):P:=h
def mq99 {P:Prop} (h:P:=by
 show LeavesIn _ _ _ _ _ _ _ _ _
 rw [j7]
 refine go _ sM ((hd.ret _ _ _ hq _ _ _ _ h1 xl).mono fun en u2 w2 hh=>?_)
 obtain ⟨rfl,⟨r,rfl⟩,σ2,e2,hK,jc,ir⟩:=hh
 exact after jc ir hK):P:=h
def mq100 {P:Prop} (h:P:=by
 rw [mc,R.bind_err] at h;intro a9 d9;(conv=>whnf);exact h _ _):P:=h
def mq101 {P:Prop} (h:P:=by
 rename_i hx
 simp only [hx,toD]
 split at h
 ·rename_i r hr
  split at h
  ·rename_i hb;cases h;exact ⟨r,Int.natCast_nonneg _,hr,by simp only [hb];exact hK⟩
  cases h
 cases h):P:=h
def mq102 {P:Prop} (h:P:=by
 rw [hl] at h
 refine ⟨_,_,h,.mkint,?_⟩
 simp only [ho,resolve,invoke,builtin,Sem.run_bind,Sem.run_pure,Result.andThen,Builtin.len_,po,ld,Za hd,getObj,Sem.run,g1]
 rfl):P:=h
def mq103 {P:Prop} (h:P:=by
 refine ⟨⟨false,_,_,f,_,rfl,?_,.inr rfl,⟨g3,oM,?_⟩,g1.symm⟩,?_⟩
 ·rw [Vj];rfl
 ·rw [Ta];omega
 exact mq194):P:=h
def mq104 {P:Prop} (h:P:=by
 have b3:=Uu (n:=n) (k:=34) oM oM h3
 have b4:=Uu (n:=n) (k:=92) oM oM h4
 simp only [List.contains_cons,List.contains_nil,Sz,Sm,beq_eq_false_iff_ne]
 exact ⟨b1,b2,b3,b4⟩):P:=h
def mq105 {P:Prop} (h:P:=by
 (try (refine ⟨rfl,?_⟩;conv=>whnf))
 (try (refine ⟨rfl,?_⟩;conv=>whnf))
 have g2:=dv _ _ g1
 rw [show ((a+(1+i+1):Nat):Int)=(a:Int)+1+(i:Int)+1 by omega] at g2
 exact g2):P:=h
def mq106 {P:Prop} (h:P:=by
 obtain ⟨h4,h5,hK⟩:=h
 refine ⟨_,hK,fun K' h'=>?_⟩
 simp only [qop,hi,hk,hx]
 cases fy:(T.get el).kind
 case other=>exact absurd fy ho
 all_goals exact ⟨h4,h5,h'⟩):P:=h
def mq107 {P:Prop} (h:P:=by
 rw [ek,R.bind_ok] at h
 intro a3 f9 bq
 have ju:=bq.hi
 conv=>whnf
 exact h _ oM bq):P:=h
def mq108 {P:Prop} (h:P:=by
 have:(Array.replicate ops.size false).getD k false=false:=by simp [Array.getD]
 rw [this]
 simp only [Tu,false_iff]
 obtain ⟨p,hp,he⟩:=jn k hk
 exact fun hh=>hh p hp he):P:=h
def mq109 {P:Prop} (h:P:=by
 simp only [RtK]
 conv=>whnf
 refine ⟨Tc rfl,wN ?_⟩
 exact h):P:=h
def mq110 {P:Prop} (h:P:=by
 conv=>whnf
 rw [List.take_of_length_le oM]
 exact h):P:=h
def mq111 {P:Prop} (h:P:=by
 repeat' ((conv=>whnf);refine ZEH (fun hc=>?_) (fun hc=>?_))
 all_goals (conv=>whnf)
 all_goals exact h _ _ (by rw [Za6,Tf hn];simp [*]) (by rw [Za6,Tf hn];simp [*])):P:=h
def mq112 {P:Prop} (h:P:=by
 intro b off u hu
 by_cases zt:b=g
 ·subst zt
  simp only [World.cell?,qf,g6] at hu |-
  exact hu
 simpa [World.cell?,VL w g l.length b zt] using hu):P:=h
def mq113 {P:Prop} (h:P:=by
 rw [List.take_add_one,Tb ab,Option.toList_some,Sc,Tx,TM]
 unfold YS
 rw [VV,show (((0:Nat):Int)+(((l.take j).map (·.name)).length:Int))=j by simp;omega]):P:=h
def mq114 {P:Prop} (h:P:=by
 refine ⟨_,ρ' x,h,hx,?_⟩
 cases hv:ρ' x <;> rw [hv] at hx <;> cases hx
 simp [ho,hv]):P:=h
def mq115 {P:Prop} (h:P:=by
 cases hE:YQ o.op with
 | true=>simp only [hE] at hk |-;rw [chkL_iff] at hk |-;exact ⟨hk.1,hK _ _ _ hk.2⟩
 | false=>simp only [hE] at hk |-;exact hK _ _ _ hk):P:=h
def mq116 {P:Prop} (h:P:=by
 by_cases fk:∃m',m'<m/\Mu a1 w1 m'
 ·obtain ⟨m',h1,h2⟩:=fk;exact ihm m' h1 h2
 exact ⟨m,hm,fun m' xc=>Nat.le_of_not_lt fun ab=>fk ⟨m',ab,xc⟩⟩):P:=h
def mq117 {P:Prop} (h:P:=by
 unfold execOp
 simp only [ho,Sem.run_bind]
 rw [show (Array.map (fun x=>match x with | (i,x)=>(i,ρ' x)) ps)=(ps.map fun p=>(p.1,ρ' p.2)) from rfl,ah]
 rfl):P:=h
def mq118 {P:Prop} (h:P:=by
 have hk:k<l.length:=(Ti.1 hy).1
 rw [Array.getElem?_extract] at hu
 split at hu
 ·exact hr (off+k) y u (by rw [(hb k hk).2];exact hy) hu
 cases hu):P:=h
def mq119 {P:Prop} (h:P:=by
 rcases TH.1 hy with hy | hy
 ·exact hj y (by simp [hy])
 rcases Tt.1 hy with rfl | hy
 ·exact fun e=>zl e.symm
 exact hj y (by simp [hy])):P:=h
def mq120 {P:Prop} (h:P:=by
 exact Zc8 (fun vs s hh=>⟨hh.1,fun vs σ1 hI=>ih (fun e f σ h=>by cases e with | normal=>exact h | _=>exact hQ _ _ _ h) (hh.2 vs σ1 hI)⟩) h):P:=h
def mq121 {P:Prop} (h:P:=by
 exact h _ (by simp [Ym,ly])):P:=h
def mq122 {P:Prop} (h:P:=by
 unfold UX at h
 split at h
 ·obtain ⟨pl,⟨x1,x2,x3,x4,x5,x6⟩,rfl,h⟩:=h
  refine pwv [] 0 false ?_
  exact h
 exact h.elim):P:=h
def mq123 {P:Prop} (h:P:=by
 split at h
 ·split at h
  ·rename_i hb;cases h;have:=Tc hb;exact ⟨Int.natCast_nonneg _,Int.ofNat_le.2 this,hK⟩
  cases h
 cases h):P:=h
def mq124 {P:Prop} (h:P:=by
 rcases Tt.1 iu with rfl | iu
 ·exact fun e=>h1.2 e.symm
 exact fun e=>(List.rel_of_pairwise_cons hp iu).2.1 ed (TJ.1 gy) hb e.symm):P:=h
def mq125 {P:Prop} (h:P:=by
 (repeat (refine ⟨rfl,?_⟩;conv=>whnf))
 cases more with
 | true=>(conv=>whnf);exact yes true sM
 | false=>(conv=>whnf);exact yes _ sM):P:=h
def mq126 {P:Prop} (h:P:=by
 repeat (refine ⟨rfl,?_⟩;conv=>whnf)
 refine Zi ?_
 exact h _ oM vr):P:=h
def mq127 {P:Prop} (h:P:=by
 rename_i h1 h2
 obtain ⟨v,g1,g2⟩:=VD h
 exact ⟨_,g1,fun K' h'=>by simp only [YF,h1,h2];exact g2 (fun r=>K' _) h'⟩):P:=h
def mq128 {P:Prop} (h:P:=by
 subst h3
 exact ⟨.ret .undef,σ,e,hK,⟨_,rfl,.undef _⟩,hS.grow (ZEN h4),((ZEN h4).stepped e σ).toLater⟩):P:=h
def mq129 {P:Prop} (h:P:=by
 have dl:¬i<l.length:=fun g=>h2 (by simpa using g)
 have wg:i=l.length:=oM
 rw [wg,Sj] at hNN
 rw [hNN] at j5
 exact j5 oM):P:=h
def mq130 {P:Prop} (h:P:=by
 rename_i f hf;rw [hf] at h;exact h):P:=h
def mq131 {P:Prop} (h:P:=by
 obtain ⟨i,em,hiu⟩:=SG hu
 have ab:i<cs'.length:=by rw [<- l0];exact em
 exact (m9 i _ u (Tb ab) (by rw [TA em,hiu])).2):P:=h
def mq132 {P:Prop} (h:P:=by
 rw [show (Array.map (fun x=>match x with | (i,x)=>(i,ρ' x)) ps).toList=(ps.map fun p=>(p.1,ρ' p.2)).toList from rfl,np]
 rfl):P:=h
def mq133 {P:Prop} (h:P:=by
 rw [mw,R.bind_err,R.bind_err] at h;intro a9 d9;(conv=>whnf);exact h _ _):P:=h
def mq134 {P:Prop} (h:P:=by
 rw [show off+k=off+rows.length * (T.get el).size+(k - olds.length) by rw [<- au.len];omega,this]
 rw [Tb lm] at hk
 exact hk):P:=h
def mq135 {P:Prop} (h:P:=by
 have nc:G.P.info? f.type=some j:=by rw [ht];exact hj
 have:j.size≠0:=oM
 simp [fieldPlace,Zu nc,this,ZW,ct]):P:=h
def mq136 {P:Prop} (h:P:=by
 apply Classical.byContradiction
 intro jm
 have:=(dg i ab).2 (fun p hp e=>jm ⟨p,hp,e⟩)
 rw [h1] at this;cases this):P:=h
def mq137 {P:Prop} (h:P:=by
 rw [Tf (by rw [ga];simp)] at h
 exact h _ oM ct):P:=h
def mq138 {P:Prop} (h:P:=by
 rw [List.drop_nil] at ha
 cases hd:eargs.drop j with
 | nil=>rw [hd] at ha;exact ha
 | cons x l=>rw [hd] at ha;exact ha):P:=h
def mq139 {P:Prop} (h:P:=by
 unfold execOp
 simp only [ho,Instr.makeMap,Sem.run_bind,Result.andThen,Sem.run_pure,run_newObj,Option.map_none]
 rfl):P:=h
def mq140 {P:Prop} (h:P:=by
 simp only [show IntKind.i64.bits=64 from rfl,show IntKind.i64.signed=true from rfl,TV]
 split <;> simp at * <;> omega):P:=h
def mq141 {P:Prop} (h:P:=by
 rw [ek,R.bind_ok] at h
 intro a3 f9 bq
 have ju:=bq.hi
 conv=>whnf
 rw [<- Zb]
 exact h _ oM bq):P:=h
def mq142 {P:Prop} (h:P:=by
 rw [Tf sM] at h
 conv=>whnf
 exact h _ oM ct):P:=h
def mq143 {P:Prop} (h:P:=by
 rename_i h1 h2;cases h;simp only [h1,h2];exact hK):P:=h
def mq144 {P:Prop} (h:P:=by
 conv=>whnf
 exact h _ oM oM):P:=h
def mq145 {P:Prop} (h:P:=by
 rw [hq] at hu
 rw [Tw,hq] at hx
 cases hx;cases hu;exact hρ q):P:=h
def mq146 {P:Prop} (h:P:=by
 have h2:=sd k oM
 rw [SN,Tb hk] at h2
 have:=(Ti.1 h2).1
 exact ⟨by rw [hsz];exact this,by rw [h2,Tb hk]⟩):P:=h
def mq147 {P:Prop} (h:P:=by
 obtain ⟨k,h1,h2⟩:=Zfs h
 rw [Th] at h2
 obtain ⟨t,h3,h4⟩:=TC.1 h2
 exact ⟨k,t,h1,h3,h4⟩):P:=h
def mq148 {P:Prop} (h:P:=by
 obtain ⟨j,hj,rfl⟩:=T9 hu
 have h1:j<l.length:=oM
 exact (bw j l[j] _ (Tb h1) (by rw [<- Tw,Tb hj])).2):P:=h
def mq149 {P:Prop} (h:P:=by
 (conv=>whnf);exact h _ (by simp [Ye,lx,h4])):P:=h
def mq150 {P:Prop} (h:P:=by
 unfold World.freeze;split <;> rfl):P:=h
def mq151 {P:Prop} (h:P:=by
 conv=>whnf
 (repeat (refine ZEH (fun g=>absurd g (by assumption)) (fun _=>?_);conv=>whnf))
 exact h):P:=h
def mq152 {P:Prop} (h:P:=by
 simp only [qop]
 split at h <;> rename_i hx <;> first | (cases h;simp only [hx];exact hK) | (cases h;done)):P:=h
def mq153 {P:Prop} (h:P:=by
 rcases TH.1 hx with hx | hx
 ·exact (o3.2.2 x hx (i,o') sM).1
 exact fun e=>(fh.1 x hx).1 e.symm):P:=h
def mq154 {P:Prop} (h:P:=by
 rcases x with ⟨v6,ts6⟩ | ⟨r6,e6⟩
 rotate_left
 ·rw [qi,R.bind_err] at h;intro a9 d9;(conv=>whnf);exact h _ _
 rw [qi,R.bind_ok] at h
 intro a6 xm nh
 have hb6:=nh.hi
 conv=>whnf
 refine ⟨_,fun _ _ h=>h,Tc rfl,wN ?_⟩
 refine ⟨L,ts6,rfl,nh,[[123]],rfl,sM,fun b me=>?_⟩
 cases b with
 | false =>
  rw [Zx,Tf (by rw [me];simp),R.bind_err] at h
  conv=>whnf
  refine ⟨L,ts6,rfl,nh,fun x hx=>?_⟩
  rw [Z1,Tf (by rw [me];simp)] at hx
  subst hx
  intro a9 d9
  conv=>whnf
  exact h _ _
 | true =>
 rw [Zx,Tj me] at h
 conv=>whnf
 refine ZEH (fun hc=>wN ?_) (fun hc=>wN ?_)
 ·rw [Tj oM,R.bind_err] at h
  refine ⟨L,ts6,rfl,nh,wN ?_⟩
  exact h _ _
 rw [Tf oM] at h
 refine ⟨L,ts6,rfl,nh,fun x hx=>?_⟩
 rw [Z1,Tj me] at hx
 subst hx
 intro a7 xz rx
 have hb7:=rx.hi
 conv=>whnf
 refine Zi ?_
 refine ⟨_,fun _ _ h=>h,Tc rfl,wN ?_⟩
 refine ⟨L,ts6.tail,rfl,rx,⟨oM,oM,oM⟩,fun x vt=>?_⟩
 rcases x with ⟨v8,ts8⟩ | ⟨r8,e8⟩
 rotate_left
 ·rw [vt,R.bind_err] at h;intro a9 d9;(conv=>whnf);exact h _ _
 rw [vt,R.bind_ok] at h
 intro a8 acx y7
 have hb8:=y7.hi
 conv=>whnf
 rw [Tf sM] at h
 refine ⟨L,ts8,rfl,y7,fun x y8=>?_⟩
 rcases x with ⟨v9,ts9⟩ | ⟨r9,e9⟩
 rotate_left
 ·rw [y8,R.bind_err,R.bind_err] at h;intro a9 d9;(conv=>whnf);exact h _ _
 rw [y8,R.bind_ok,R.bind_ok] at h
 intro a9 acy gh
 have rn:=gh.hi
 conv=>whnf
 refine Zi ?_
 rw [TY]
 rw [<- Zl]
 exact h _ oM gh):P:=h
def mq155 {P:Prop} (h:P:=by
 refine ⟨pl,a3,Zb _ _,⟨rfl,oM,oM⟩,fun b hb=>?_⟩
 cases b with
 | false =>
  conv=>whnf
  exact h _ (by simp [YE,Zw,hb])
 | true =>
 conv=>whnf
 refine ⟨oM,pl,a4,Zl _ _,⟨rfl,oM,oM⟩,fun b f6=>wN ?_⟩
 exact h _ (by simp [YE,Zw,Xk,j8,hb,f6])):P:=h
def mq156 {P:Prop} (h:P:=by
 refine ⟨fun _=>0,a2,rfl,⟨by simp only [wBs];omega,oM⟩,fun b eh=>?_⟩
 cases b with
 | false =>
  have j8:YU a1 a2 a3.length a4.length=false:=by simp [YU,gt,eh]
  conv=>whnf
  conv=>whnf
  exact mq54
 | true =>
 conv=>whnf
 refine ZEJ (fun hB=>wN ?_) (fun hB=>wN ?_)
 ·have hB:¬0<a4.length:=fun g=>hB (ry.2 g)
  have j8:YU a1 a2 a3.length a4.length=true:=by simp only [YU,gt,eh,decide_eq_false hB];simp
  exact mq8
 have hB:=ry.1 hB
 have j8:YU a1 a2 a3.length a4.length=false:=by simp [YU,gt,hB]
 exact mq54):P:=h
def mq157 {P:Prop} (h:P:=by
 have g5:ZZ (s.drop a)=none:=by
  unfold ZZ
  simp only [f7,if_true,Tu,if_false]
  rcases fq with g | g
  ·rw [Tj g]
  by_cases g0:Zd (s.drop a)=[]
  ·rw [Tj g0]
  rw [Tf g0,Tj g]
 conv=>whnf
 refine ⟨⟨oM,oM⟩,wN ?_⟩
 (try (refine ⟨rfl,?_⟩;conv=>whnf))
 (try (refine ⟨rfl,?_⟩;conv=>whnf))
 exact cy g5):P:=h
def mq158 {P:Prop} (h:P:=by
 refine ZEH (fun h3=>wN ?_) (fun h3=>wN ?_)
 ·exact h _ (by simp [Ye,lx])
 refine ZEH (fun h5=>?_) (fun h5=>?_)
 rotate_left
 ·have h5:¬a1=3:=by omega
  (conv=>whnf);exact h _ (by simp [Ye,h3,h5])
 have h5:a1=3:=oM
 have ge:(decide (a3=0) || decide (a1=3))=true:=by simp [h5]
 conv=>whnf
 exact h _ (by simp [Ye,lx])):P:=h
def mq159 {P:Prop} (h:P:=by
 refine ⟨fun r hr=>by (simp at hr;rcases hr with rfl <;> rfl),(show (rows.length+1) * 1<=2 ^ 47 by omega),(show rows.length+1<=2 ^ 47 by omega),?_⟩
 exact mq52):P:=h
def mq160 {P:Prop} (h:P:=by
 conv=>whnf
 refine ZEH (fun ak=>wN ?_) (fun ak=>wN ?_)
 ·(repeat (first | (refine oiO ?_;conv=>whnf) | (refine ⟨_,oM,bi,?_⟩;conv=>whnf)))
  refine ⟨oM,pl,b4,B,Zl _ _,⟨⟨oM,oM⟩,oM,oM,hB⟩,fun r lk lz=>wN ?_⟩
  unfold bd2 at lz
  refine Zi ?_
  exact mq24
 exact mq24):P:=h
def mq161 {P:Prop} (h:P:=by
 conv=>whnf
 refine ZEH (fun ak=>wN ?_) (fun ak=>wN ?_)
 ·(repeat (first | (refine oiO ?_;conv=>whnf) | (refine ⟨_,oM,bi,?_⟩;conv=>whnf)))
  refine ⟨pl,p3,B,rfl,⟨⟨oM,oM⟩,oM,oM,hB⟩,fun r lk lz=>wN ?_⟩
  unfold bd2 at lz
  refine Zi ?_
  exact h _ oM oM
 exact h _ oM oM):P:=h
def mq162 {P:Prop} (h:P:=by
 conv=>whnf
 refine ZEH (fun ak=>wN ?_) (fun ak=>wN ?_)
 ·(repeat (first | (refine oiO ?_;conv=>whnf) | (refine ⟨_,oM,bi,?_⟩;conv=>whnf)))
  refine ⟨pl,b4,B,Zl _ _,⟨⟨oM,oM⟩,oM,oM,hB⟩,fun r lk lz=>wN ?_⟩
  unfold bd2 at lz
  refine Zi ?_
  exact mq24
 exact mq24):P:=h
def mq163 {P:Prop} (h:P:=by
 have h5:¬a1=3:=by omega
 (conv=>whnf);exact h _ (by simp [Ye,h3,h5])):P:=h
def mq164 {P:Prop} (h:P:=by
 show ((L.length:Int) - a3).toNat<((L.length:Int) - a').toNat
 omega):P:=h
def mq165 {P:Prop} (h:P:=by
 refine ⟨fun _=>0,a2,rfl,⟨by simp only [wBs];omega,oM⟩,fun b eh=>?_⟩
 cases b with
 | false =>
  have lx:V8 a1 a2=false:=by simp [V8,gt,eh]
  conv=>whnf
  exact mq6
 | true =>
 have lx:V8 a1 a2=true:=by simp [V8,gt,eh]
 conv=>whnf
 exact mq4):P:=h
def mq166 {P:Prop} (h:P:=by
 rcases x with ⟨v2,ts2⟩ | ⟨r2,e2⟩
 rotate_left
 ·exact mq44
 rw [ca,R.bind_ok] at h
 intro a2 fu aj
 have f6:=aj.hi
 conv=>whnf
 refine ⟨L,ts2,rfl,aj,fun x ek=>?_⟩
 rcases x with ⟨v3,ts3⟩ | ⟨r3,e3⟩
 rotate_left
 ·exact mq19
 exact mq107):P:=h
def mq167 {P:Prop} (h:P:=by
 have h6:¬(a4.length:Int)=a:=fun g=>h6 (by show ((Zm pl a4).length:Int)=a;rw [ic];exact g)
 (conv=>whnf);exact h _ (by simp [Ye,ha,h2,h6])):P:=h
def mq168 {P:Prop} (h:P:=by
 obtain ⟨a,e⟩:=ae
 simp only [orF] at ha
 subst ha
 simp only [RtK] at h |-
 exact mq52):P:=h
def mq169 {P:Prop} (h:P:=by
 show ((L.length:Int) - (a2+1)).toNat<((L.length:Int) - a1).toNat
 omega):P:=h
def mq170 {P:Prop} (h:P:=by
 rw [ek,R.bind_err] at h;intro a9 d9;(conv=>whnf);exact h _ _):P:=h
def mq171 {P:Prop} (h:P:=by
 rw [step,R.bind_err] at h
 intro a2 dp2
 conv=>whnf
 exact h _ _):P:=h
def mq172 {P:Prop} (h:P:=by
 subst hx
 intro a9 d9
 conv=>whnf
 exact h _ _):P:=h
def mq173 {P:Prop} (h:P:=by
 rw [Tj (by rw [Td] at g;omega)] at h
 exact h _ _):P:=h
def mq174 {P:Prop} (h:P:=by
 have ac:i=xs.length:=lzE du oM ac
 subst ac
 rw [Sj]
 exact mq52):P:=h
def mq175 {P:Prop} (h:P:=by
 rw [Tf sM] at h
 refine ⟨L,ts2,rfl,aj,fun x ek=>?_⟩
 exact mq15):P:=h
def mq176 {P:Prop} (h:P:=by
 obtain ⟨a,e⟩:=ae
 simp only [orF] at hX
 subst hX
 simp only [FlK] at h |-
 exact mq52):P:=h
def mq177 {P:Prop} (h:P:=by
 refine Vh ?_
 refine ⟨B.1,B.2,wN ?_⟩
 refine ⟨dM,dM,wN ?_⟩
 refine ⟨dM,dM,wN ?_⟩
 refine ⟨?_,?_,?_,?_⟩
 rotate_left 3
 ·exact mq52
 ·rfl
 rfl):P:=h
def mq178 {P:Prop} (h:P:=by
 rw [<- vf];exact ⟨by have h6':Zj (pk (s.drop ((e:Int)).toNat)).1=false:=h6;rw [h6'];simp,by have h7':Zq (pk (s.drop ((e:Int)).toNat)).1=false:=h7;rw [h7'];simp⟩):P:=h
def mq179 {P:Prop} (h:P:=by
 rw [Zx,Tf (by rw [eg];simp)] at h
 exact mq28):P:=h
def mq180 {P:Prop} (h:P:=by
 exact (show ((l.length:Int) - ((i:Int)+1)).toNat<((l.length:Int) - (i:Int)).toNat by omega)):P:=h
def mq181 {P:Prop} (h:P:=by
 conv=>whnf
 refine Zi ?_
 refine ⟨⟨i+1,_,rfl,rfl,oM,oM,oM⟩,?_⟩
 show ((p1.length:Nat) - ((i:Int)+1)).toNat<((p1.length:Nat) - (i:Int)).toNat
 omega):P:=h
def mq182 {P:Prop} (h:P:=by
 rw [kp,R.bind_err] at h;intro a9 d9;(conv=>whnf);exact h _ _):P:=h
def mq183 {P:Prop} (h:P:=by
 (try (refine ⟨rfl,?_⟩;conv=>whnf))
 (try (refine ⟨rfl,?_⟩;conv=>whnf))
 exact cy (by rw [g6,Tj (.inr (.inl (by rw [<- vf];exact h7)))])):P:=h
def mq184 {P:Prop} (h:P:=by
 (try (refine ⟨rfl,?_⟩;conv=>whnf))
 (try (refine ⟨rfl,?_⟩;conv=>whnf))
 exact cy (by rw [g6,Tj (.inl (by rw [<- vf];exact h6))])):P:=h
def mq185 {P:Prop} (h:P:=by
 exact h _ (by simp [YE,j8])):P:=h
def mq186 {P:Prop} (h:P:=by
 conv=>whnf
 refine ⟨oM,pl,a4,Zb _ _,⟨rfl,oM,oM⟩,fun b hb=>wN ?_⟩
 exact h _ (by simp [Ye,Zw,ha,lx,hb,h1,h6,ge])):P:=h
def mq187 {P:Prop} (h:P:=by
 conv=>whnf
 refine ⟨oM,pl,a4,Zb _ _,⟨rfl,oM,oM⟩,fun b hb=>wN ?_⟩
 exact h _ (by simp [Ye,Zw,ha,lx,hb,h1,h2,ge])):P:=h
def mq188 {P:Prop} (h:P:=by
 refine ⟨dM,wN ?_⟩
 refine Or.inr (wN ?_)
 refine ⟨dM,wN ?_⟩
 refine Or.inr (wN ?_)
 refine Or.inr (wN ?_)
 exact mq55):P:=h
def mq189 {P:Prop} (h:P:=by
 refine ⟨⟨i+1,_,rfl,rfl,oM,oM,oM⟩,?_⟩
 show ((l.length:Nat) - ((i:Int)+1)).toNat<((l.length:Nat) - (i:Int)).toNat
 omega):P:=h
def mq190 {P:Prop} (h:P:=by
 refine Or.inr (wN ?_)
 refine ZEH (fun h8=>wN ?_) (fun h8=>?_)
 ·exact rj oM
 exfalso;exact h8 (by rw [hw];omega)):P:=h
def mq191 {P:Prop} (h:P:=by
 refine ⟨oM,pl,a4,Zb _ _,⟨rfl,oM,oM⟩,fun b hb=>wN ?_⟩
 exact h _ (by simp [Ye,Zw,ha,lx,hb,h1,h6,h3])):P:=h
def mq192 {P:Prop} (h:P:=by
 refine ⟨oM,pl,a4,Zb _ _,⟨rfl,oM,oM⟩,fun b hb=>wN ?_⟩
 exact h _ (by simp [Ye,Zw,ha,lx,hb,h1,h2,h3])):P:=h
def mq193 {P:Prop} (h:P:=by
 simp only [IntKind.wrap,show IntKind.u64.bits=64 from rfl,show IntKind.u64.signed=false from rfl,TU,Tu,if_false]
 omega):P:=h
def mq194 {P:Prop} (h:P:=by
 exact (show u.length - (i+(decodeL u i).2)<u.length - i by omega)):P:=h
def mq195 {P:Prop} (h:P:=by
 have h1:¬-2<a:=h1;(conv=>whnf);exact h _ (by simp [Ye,ha,h1])):P:=h
def mq196 {P:Prop} (h:P:=by
 conv=>whnf
 refine ⟨_,oM,hr,wN ?_⟩
 refine ⟨pl,p,_,rfl,rfl,⟨hp,ul⟩,fun b hb=>?_⟩
 exact mq37):P:=h
def mq197 {P:Prop} (h:P:=by
 rw [ca,R.bind_err] at h;intro a9 d9;(conv=>whnf);exact h _ _):P:=h
def mq198 {P:Prop} (h:P:=by
 have j8:YU a1 a2 a3.length a4.length=false:=by simp only [YU,jw,ox,y6,u7,if_false]
 exact mq185):P:=h
def mq199 {P:Prop} (h:P:=by
 conv=>whnf
 refine ⟨L,ts,rfl,ho,fun x hx=>?_⟩
 rw [Z1,Tf (by rw [eg];simp)] at hx
 exact mq172):P:=h
end

section
namespace Go.PM
def wN {P Q:Prop} (k:Q) (h:Q->P:=by intro k;(conv=>whnf);exact k):P:=h k
def oM {P:Prop} (h:P:=by omega):P:=h
def sM {P:Prop} (h:P:=by simp):P:=h
def dM {P:Prop} (h:P:=by decide):P:=h
def iM {P:Prop} (h:P:=by first | exact .inl rfl | exact .inr rfl):P:=h
def sO {P:Prop} (h:P:=by simp;omega):P:=h
def hD {P:Prop} (h:P:=by rw [TG];omega):P:=h
def tN {P:Prop} (h:P:=by simp only [Tl];omega):P:=h
def oP {P:Prop} (h:P:=by simp [Op.operands]):P:=h
def zN {P:Prop} (h:P:=by simp only [Sk,TM,List.flatten_nil,T1];rfl):P:=h
inductive D where
 | bool (b:Bool) | int (k:IntKind) (n:Int) | str (s:List UInt8) | sl (rows:List (List D)) | nilp | nilf | nili
 deriving Inhabited
inductive PV where
 | d (x:D) | undef | ptr (b off:Nat) | elem (r:List D) (off:Nat) | sl (tok e:Nat) (rows:List (List D)) | nils (e:Nat) | asl (b off n:Nat)
 | func (f:FuncId) (first caps:List PV) | iface (t:TypeId) (v:PV) | agg (cs:List PV) | tuple (vs:List PV) | raw (v:Value) | mp (b:Nat) | nilm
 deriving Inhabited
inductive MV where
 | one (x:D) | agg (l:List D)
 deriving Inhabited
def MV.pv:MV->PV | .one x=>.d x | .agg l=>.agg (l.map .d)
inductive Box where
 | dmap (m:List (List UInt8×MV)) | smap (el:Nat) (m:List (List UInt8×List (List D))) (fo:Option (List UInt8×PV)) | cells (t:TypeId) (cs:List PV) | iter (s:List UInt8) (pos:Nat) | loop (st:LoopState) (pd:Option Code) (r:Loop) | map (cs:List PV) (bn:List Nat) (ck:Nat)
 deriving Inhabited
structure St where
 bx:List Box
 tk:List Nat
 nx:Nat
inductive TK where
 | other | int (k:IntKind) | bool | string | ptr (e:Nat) | slice (e:Nat) | array (n e:Nat) | struct (fs:List (Nat×Nat)) | func | iface | map (k e:Nat)
structure TI where
 size:Nat
 bytes:Nat
 kind:TK
 zero:List PV
 eqok:Bool
def TI.no:TI:=⟨0,0,.other,[],false⟩
inductive Tab where
 | leaf | node (l:Tab) (k:Nat) (v:TI) (r:Tab)
def Tab.get:Tab->Nat->TI
 | .leaf,_=>TI.no
 | .node l k v r,n=>match Nat.beq n k with
  | true=>v
  | false=>match Nat.ble n k with
   | true=>l.get n
   | false=>r.get n
def TK.isAgg:TK->Bool | .array _ _ | .struct _=>true | _=>false
abbrev Frame:=Nat->PV
def V4 (f:Frame) (i:Nat) (v:PV):Frame:=fun n=>match Nat.beq i n with
 | true=>v
 | false=>f n
def Zcg:Value->PV
 | .bool b=>.d (.bool b)
 | .int k n=>.d (.int k n)
 | .string s=>.d (.str s.data.toList)
 | .pointer none=>.d .nilp
 | .slice none 0 0=>.nils 0
 | .nilFunc=>.d .nilf
 | .nilIface=>.d .nili
 | .map none=>.nilm
 | v=>.raw v
def ZBP:Value->Bool
 | .agg _=>false
 | .tuple _=>false
 | _=>true
def Zi1:Value->PV
 | .agg cs=>match cs.toList.all ZBP with | true=>.agg (cs.toList.map Zcg) | false=>.raw (.agg cs)
 | v=>Zcg v
def ev (f:Frame):Operand->PV
 | .tmp t=>f t
 | .const v=>Zi1 v
 | .global _=>.undef
 | .func g=>.func g [] []
def CondP:Bool->Prop->Prop->Prop
 | true,X,_=>X
 | false,_,Y=>Y
def Yh:Nat->(Nat->Prop)->Prop
 | 0,K=>K 0
 | n+1,K=>Yh n fun m=>K (m+1)
def ZnN (v:PV) (K:PV->Prop):Prop:=match v with
 | .d x=>K (.d x) | .undef=>K .undef | .ptr b off=>Yh b fun b=>Yh off fun off=>K (.ptr b off) | .elem r off=>Yh off fun off=>K (.elem r off) | .sl t z r=>Yh t fun t=>K (.sl t z r) | .nils z=>K (.nils z)
 | .asl b off n=>Yh b fun b=>Yh off fun off=>K (.asl b off n) | .func f a c=>K (.func f a c) | .iface t v=>K (.iface t v) | .agg cs=>K (.agg cs) | .tuple vs=>K (.tuple vs) | .raw v=>K (.raw v) | .mp b=>Yh b fun b=>K (.mp b) | .nilm=>K .nilm
def Vy:List PV->(List PV->Prop)->Prop
 | [],K=>K []
 | v::l,K=>ZnN v fun v=>Vy l fun l=>K (v::l)
def Zkz (v:PV) (K:PV->Prop):Prop:=match v with
 | .d x=>K (.d x) | .undef=>K .undef | .ptr b off=>Yh b fun b=>Yh off fun off=>K (.ptr b off) | .elem r off=>Yh off fun off=>K (.elem r off) | .sl t z r=>Yh t fun t=>K (.sl t z r) | .nils z=>K (.nils z)
 | .asl b off n=>Yh b fun b=>Yh off fun off=>K (.asl b off n) | .raw v=>K (.raw v) | .mp b=>Yh b fun b=>K (.mp b) | .nilm=>K .nilm
 | .func f a c=>Vy a fun a=>Vy c fun c=>K (.func f a c) | .iface t v=>K (.iface t v) | .agg cs=>Vy cs fun cs=>K (.agg cs) | .tuple vs=>K (.tuple vs)
def ZfU:List PV->(List PV->Prop)->Prop
 | [],K=>K []
 | v::l,K=>Zkz v fun v=>ZfU l fun l=>K (v::l)
def U3 (v:PV) (K:PV->Prop):Prop:=match v with
 | .d x=>K (.d x) | .undef=>K .undef | .ptr b off=>Yh b fun b=>Yh off fun off=>K (.ptr b off) | .elem r off=>Yh off fun off=>K (.elem r off) | .sl t z r=>Yh t fun t=>K (.sl t z r) | .nils z=>K (.nils z)
 | .asl b off n=>Yh b fun b=>Yh off fun off=>K (.asl b off n) | .raw v=>K (.raw v) | .mp b=>Yh b fun b=>K (.mp b) | .nilm=>K .nilm
 | .func f a c=>Vy a fun a=>Vy c fun c=>K (.func f a c) | .iface t v=>Zkz v fun v=>K (.iface t v) | .agg cs=>Vy cs fun cs=>K (.agg cs) | .tuple vs=>ZfU vs fun vs=>K (.tuple vs)
def Zhl (f:Frame) (d:Option Nat) (v:PV) (K:Frame->Prop):Prop:=match d with
 | some i=>U3 v fun v=>K (V4 f i v)
 | none=>K f
def ZEL {t:Bool} {X Y:Prop} (h1:t=true->X) (h2:t=false->Y):CondP t X Y:=by cases t;exact h2 rfl;exact h1 rfl
def W8 {α:Type}:Nat->List α->Option (List α)
 | 0,_=>some []
 | n+1,x::l=>match W8 n l with | some r=>some (x::r) | none=>none
 | _+1,[]=>none
def ZT {α:Type}:List α->Nat->List α->List α
 | l,_,[]=>l
 | [],_,_=>[]
 | _::l,0,v::vs=>v::ZT l 0 vs
 | x::l,n+1,vs=>x::ZT l n vs
def Zeh (t:Nat):List Nat->Bool
 | []=>false
 | x::l=>match Nat.beq x t with | true=>true | false=>Zeh t l
def UH (t:Nat):List Nat->List Nat
 | []=>[]
 | x::l=>match Nat.beq x t with | true=>UH t l | false=>x::UH t l
def PV.cells:PV->Option (List PV)
 | .agg cs=>some cs | .undef=>none | .tuple _=>none | .raw (.func f a c)=>some [.raw (.func f a c)] | .raw _=>none | v=>some [v]
def toD:PV->Option D | .d x=>some x | .sl _ _ rows=>some (.sl rows) | .nils _=>some (.sl []) | _=>none
def Zl9:List PV->Option (List D)
 | []=>some []
 | v::l=>match toD v with | some x=>(match Zl9 l with | some r=>some (x::r) | none=>none) | none=>none
def keq:IntKind->IntKind->Bool
 | .i8,.i8 | .i16,.i16 | .i32,.i32 | .i64,.i64 | .u8,.u8 | .u16,.u16 | .u32,.u32 | .u64,.u64=>true
 | _,_=>false
def Vz (op:BinOp) (k:IntKind) (a b:Int):Int:=match (Op.intBits op k a b:Sem Value) with | .pure (.int _ n)=>n | _=>0
def Zg:BinOp->IntKind->Int->Int->Int:=Classical.choose (⟨Vz,rfl⟩:∃f,f=Vz)
def Yi:Zg=Vz:=Classical.choose_spec (⟨Vz,rfl⟩:∃f,f=Vz)
def InR (k:IntKind) (n:Int):Prop:=k.wrap n=n
def Zb3 (k:IntKind) (n:Int) (K:PV->Prop):Prop:=(InR k n/\K (.d (.int k n)))\/K (.d (.int k (k.wrap n)))
def ZtS (op:BinOp) (k:IntKind) (a b:Int) (K:PV->Prop):Prop:=match op with
 | .add=>Zb3 k (a+b) K | .sub=>Zb3 k (a - b) K | .mul=>Zb3 k (a * b) K
 | .quo=>b≠0/\Zb3 k (a.tdiv b) K | .rem=>b≠0/\K (.d (.int k (a.tmod b)))
 | .and=>K (.d (.int k (Zg .and k a b))) | .or=>K (.d (.int k (Zg .or k a b))) | .xor=>K (.d (.int k (Zg .xor k a b))) | .andNot=>K (.d (.int k (Zg .andNot k a b)))
 | .eql=>K (.d (.bool (decide (a=b)))) | .neq=>K (.d (.bool (!decide (a=b)))) | .lss=>K (.d (.bool (decide (a<b)))) | .leq=>K (.d (.bool (decide (a<=b))))
 | .gtr=>K (.d (.bool (decide (b<a)))) | .geq=>K (.d (.bool (decide (b<=a))))
 | _=>False
def ZtT:Operand->Bool | .const _=>true | _=>false
def YF (T:Tab):Nat->List (Nat×Nat)->List PV->List PV->(Bool->Prop)->Prop
 | _,[],[],[],K=>K true
 | i,(o,t)::fs,x::xs,y::ys,K=>match Nat.beq o i,(T.get t).kind,x,y with
  | true,.int _,.d (.int k a),.d (.int k' b)=>(match keq k k' with | true=>YF T (i+1) fs xs ys fun r=>K (decide (a=b) && r) | false=>False)
  | true,.string,.d (.str a),.d (.str b)=>YF T (i+1) fs xs ys fun r=>K (decide (a=b) && r)
  | true,.bool,.d (.bool a),.d (.bool b)=>YF T (i+1) fs xs ys fun r=>K (decide (a=b) && r)
  | _,_,_,_=>False
 | _,_,_,_,_=>False
def peq (T:Tab) (t:TypeId) (x y:Operand) (px py:PV) (K:Bool->Prop):Prop:=match (T.get t).kind with
 | .bool=>match px,py with
  | .d (.bool a),.d (.bool b)=>K (decide (a=b))
  | _,_=>False
 | .ptr _=>match px,py with
  | .d .nilp,.d .nilp=>K true
  | .d .nilp,.ptr _ _=>K false
  | .d .nilp,.elem _ _=>K false
  | .ptr _ _,.d .nilp=>K false
  | .elem _ _,.d .nilp=>K false
  | _,_=>False
 | .func=>match px,py with
  | .d .nilf,.d .nilf=>K true
  | .d .nilf,.func _ _ _=>K false
  | .func _ _ _,.d .nilf=>K false
  | _,_=>False
 | .iface=>match px,py with
  | .d .nili,.d .nili=>match ZtT x || ZtT y with | true=>K true | false=>False
  | .d .nili,.iface _ _=>K false
  | .iface _ _,.d .nili=>K false
  | .iface t (.d (.int k a)),.iface t' (.d (.int k' b))=>match Nat.beq t t',(T.get t).kind,(T.get t).eqok with
   | true,.int _,true=>(match keq k k' with | true=>K (decide (a=b)) | false=>False)
   | false,_,_=>K false
   | _,_,_=>False
  | _,_=>False
 | .map _ _=>match px,py with
  | .nilm,.nilm=>K true
  | .mp _,.nilm=>K false
  | .nilm,.mp _=>K false
  | _,_=>False
 | .slice _=>match px,py with
  | .nils _,.nils _=>K true
  | .d (.sl (_::_)),.nils _=>K false
  | .sl _ _ (_::_),.nils _=>K false
  | _,_=>False
 | .struct fs=>match (T.get t).eqok with
  | true=>match px,py with
   | .agg xs,.agg ys=>YF T 0 fs xs ys K
   | _,_=>False
  | false=>False
 | _=>False
def Zri (T:Tab) (op:BinOp) (t:TypeId) (x y:Operand) (px py:PV) (K:PV->Prop):Prop :=
 match px,py with
 | .d (.int k a),.d (.int k' b)=>match op with
  | .shl=>0<=b/\Zb3 k (a * 2 ^ (min b.toNat k.bits)) K
  | .shr=>0<=b/\K (.d (.int k (a.fdiv (2 ^ (min b.toNat k.bits)))))
  | op=>match keq k k' with | true=>ZtS op k a b K | false=>False
 | .d (.str a),.d (.str b)=>match op with
  | .add=>a.length+b.length<2 ^ 62/\K (.d (.str (a++b))) | .eql=>K (.d (.bool (decide (a=b)))) | .neq=>K (.d (.bool (!decide (a=b))))
  | .lss=>K (.d (.bool (Op.bytesLess a b))) | .geq=>K (.d (.bool (!Op.bytesLess a b)))
  | .leq=>K (.d (.bool (Op.bytesLess a b || decide (a=b)))) | .gtr=>K (.d (.bool (!(Op.bytesLess a b || decide (a=b)))))
  | _=>False
 | px,py=>match op with
  | .eql=>peq T t x y px py fun b=>K (.d (.bool b))
  | .neq=>peq T t x y px py fun b=>K (.d (.bool (!b)))
  | _=>False
def decodeL (s:List UInt8) (pos:Nat):Nat×Nat:=Utf8.decode ⟨s.toArray⟩ pos
def Z8 (T:Tab) (fs:List (Nat×Nat)) (ρ:Operand->PV):List (Nat×Operand)->List PV->(List PV->Prop)->Prop
 | [],cs,K=>K cs
 | (i,x)::ps,cs,K=>match fs[i]?,(ρ x).cells with
  | some (o,t),some l=>match Nat.beq l.length (T.get t).size,Nat.ble (o+l.length) cs.length,(T.get t).kind with
   | _,_,.other=>False
   | true,true,_=>Z8 T fs ρ ps (ZT cs o l) K
   | _,_,_=>False
  | _,_=>False
def ZuF (s e:Nat):Nat->Nat->List (Nat×Nat)
 | 0,_=>[]
 | n+1,i=>(i * s,e)::ZuF s e n (i+1)
def X2 (lo hi:Option PV) (len:Nat) (K:Nat->Nat->Prop):Prop :=
 match lo,hi with
 | none,none=>K 0 len
 | some x,none=>match x with
  | .d (.int _ n)=>0<=n/\n<=len/\K n.toNat len
  | _=>False
 | none,some y=>match y with
  | .d (.int _ m)=>0<=m/\m<=len/\K 0 m.toNat
  | _=>False
 | some x,some y=>match x,y with
  | .d (.int _ n),.d (.int _ m)=>0<=n/\n<=m/\m<=len/\K n.toNat m.toNat
  | _,_=>False
def cut {α:Type} (l:List α) (a b:Nat):List α:=(l.take b).drop a
def VY (T:Tab) (t:TypeId) (x:PV) (lo hi:Option PV) (K:PV->Prop):Prop:=match (T.get t).kind with
 | .string=>match x with
  | .d (.str s)=>X2 lo hi s.length fun a b=>K (.d (.str (cut s a b)))
  | _=>False
 | .slice e=>match (T.get e).kind with
  | .other=>False
  | _=>match toD x with
   | some (.sl rows)=>(∀r∈rows,r.length=(T.get e).size)/\X2 lo hi rows.length fun a b=>K (.d (.sl (cut rows a b)))
   | _=>False
 | .array n e=>match (T.get e).kind with
  | .other=>False
  | _=>match x,lo,hi with
   | .ptr b off,none,none=>K (.asl b off n)
   | .ptr b off,some (.d (.int _ a)),none=>0<=a/\a<n/\K (.asl b (off+a.toNat * (T.get e).size) (n - a.toNat))
   | _,_,_=>False
 | _=>False
def Jm (T:Tab) (t:TypeId) (x:PV) (bx:List Box) (K:PV->Prop):Prop:=match x with
 | .ptr b off=>match bx[b]? with
  | some (.cells _ cs)=>match (T.get t).kind.isAgg with
   | true=>match W8 (T.get t).size (cs.drop off) with | some l=>K (.agg l) | none=>False
   | false=>match (T.get t).kind with | .other=>False | _=>match cs[off]? with | some v=>K v | none=>False
  | _=>False
 | .elem r off=>match (T.get t).kind.isAgg with
   | true=>match W8 (T.get t).size (r.drop off) with | some l=>K (.agg (l.map .d)) | none=>False
   | false=>match (T.get t).kind with | .other=>False | _=>match r[off]? with | some v=>K (.d v) | none=>False
 | _=>False
def ZnO (v:TI):Option PV:=match v.kind.isAgg,v.zero with | true,z=>some (.agg z) | false,[z]=>some z | _,_=>none
def findM (key:List UInt8):List PV->Option PV
 | .d (.str k)::v::l=>match decide (key=k) with | true=>some v | false=>findM key l
 | _=>none
def optK {α:Type} (o:Option α) (A:α->Prop) (B:Prop):Prop:=match o with | some a=>A a | none=>B
def optK.yes {α:Type} {o:Option α} {A:α->Prop} {B:Prop} {a:α} (h:o=some a) (k:A a):optK o A B:=by subst h;exact k
def optK.no {α:Type} {o:Option α} {A:α->Prop} {B:Prop} (h:o=none) (k:B):optK o A B:=by subst h;exact k
def ZEP {α:Type} {o:Option α} {A:α->Prop} {B:Prop} (h1:∀a,o=some a->A a) (h2:o=none->B):optK o A B:=by cases o with | some a=>exact h1 a rfl | none=>exact h2 rfl
def lkM {α:Type} (k:List UInt8):List (List UInt8×α)->Option α
 | []=>none
 | (x,v)::l=>match decide (k=x) with | true=>some v | false=>lkM k l
def Yv {α:Type} (k:List UInt8) (v:α):List (List UInt8×α)->List (List UInt8×α)
 | []=>[(k,v)]
 | (x,u)::l=>match decide (k=x) with | true=>(x,v)::l | false=>(x,u)::Yv k v l
def Zhm (k:List UInt8) (rows:List (List D)):Option (List UInt8×PV)->PV
 | none=>.d (.sl rows)
 | some (k',v)=>match decide (k=k') with | true=>v | false=>.d (.sl rows)
def VZ:List (List UInt8×List (List D))->Option (List UInt8×PV)->List PV
 | [],_=>[]
 | (k,rows)::l,fo=>.d (.str k)::Zhm k rows fo::VZ l fo
def ZBy (m:List (List UInt8×List (List D))) (fo:Option (List UInt8×PV)):List PV :=
 (match fo with | none=>.nilm | some (k,v)=>.tuple [.d (.str k),v])::m.map fun x=>.tuple [.d (.str x.1),.d (.sl x.2)]
def ZaL:List (List UInt8×MV)->List PV
 | []=>[]
 | (k,v)::l=>.d (.str k)::v.pv::ZaL l
def ZBQ:PV->Option MV
 | .agg cs=>match Zl9 cs with | some l=>some (.agg l) | none=>none
 | v=>match toD v with | some x=>some (.one x) | none=>none
def Yy (T:Tab) (t:TypeId) (m key:PV) (ok:Bool) (bx:List Box) (K:PV->Prop):Prop:=match (T.get t).kind with
 | .map _ e=>match (T.get e).kind with
  | .other=>False
  | _=>match key with
   | .d (.str k) =>
    match ZnO (T.get e) with
    | some z=>match m with
     | .nilm=>K (match ok with | true=>.tuple [z,.d (.bool false)] | false=>z)
     | .mp b=>match bx[b]? with
      | some (.map cs _ _)=>match findM k cs with
       | some v=>K (match ok with | true=>.tuple [v,.d (.bool true)] | false=>v)
       | none=>K (match ok with | true=>.tuple [z,.d (.bool false)] | false=>z)
      | some (.dmap l)=>optK (lkM k l) (fun v=>K (match ok with | true=>.tuple [v.pv,.d (.bool true)] | false=>v.pv)) (K (match ok with | true=>.tuple [z,.d (.bool false)] | false=>z))
      | some (.smap _ l fo)=>match fo with
       | none=>optK (lkM k l) (fun v=>K (match ok with | true=>.tuple [.d (.sl v),.d (.bool true)] | false=>.d (.sl v))) (K (match ok with | true=>.tuple [z,.d (.bool false)] | false=>z))
       | some (k',v)=>match ok,z with | false,.nils _=>k=k'/\K v | _,_=>False
      | _=>False
     | _=>False
    | none=>False
   | _=>False
 | _=>False
def qop (T:Tab) (o:Op) (ty:TypeId) (ρ:Operand->PV) (bx:List Box) (K:PV->Prop):Prop :=
 match o with
 | .move x | .assign x=>match ρ x with
  | .nils _=>match (T.get ty).kind with | .slice e=>K (.nils e) | _=>K (.nils 0)
  | v=>K v
 | .pick c a b=>match ρ c with | .d (.bool t)=>CondP t (K (ρ a)) (K (ρ b)) | _=>False
 | .build t ps=>match (T.get t).kind with
  | .struct fs=>Z8 T fs ρ ps.toList (T.get t).zero fun cs=>K (.agg cs)
  | .array n e=>match (T.get e).kind with
   | .other=>False
   | _=>match Nat.ble 1 (T.get e).size with
    | true=>Z8 T (ZuF (T.get e).size e n 0) ρ ps.toList (T.get t).zero fun cs=>K (.agg cs)
    | false=>False
  | _=>False
 | .load t a=>Jm T t (ρ a) bx K
 | .lookup t m x ok=>Yy T t (ρ m) (ρ x) ok bx K
 | .nilCheck x=>match ρ x with
  | .ptr b off=>K (.ptr b off)
  | .elem r off=>K (.elem r off)
  | .func g a c=>K (.func g a c)
  | _=>False
 | .binOp op t x y _=>Zri T op t x y (ρ x) (ρ y) K
 | .unOp op _ x=>match op,ρ x with
  | .not,.d (.bool b)=>K (.d (.bool (!b)))
  | .neg,.d (.int k a)=>Zb3 k (0 - a) K
  | .xor,.d (.int k a)=>K (.d (.int k (Zg .xor k (if k.signed then -1 else k.max) a)))
  | _,_=>False
 | .convert s d x=>match (T.get s).kind with
  | .other=>False
  | .slice e=>match (T.get d).kind with
   | .string=>match (T.get e).kind with
    | .int .u8=>match toD (ρ x) with
     | some (.sl rows)=>∃l:List UInt8,rows=l.map (fun b=>[.int .u8 b.toNat])/\K (.d (.str l))
     | _=>False
    | _=>False
   | _=>False
  | _=>match (T.get d).kind with
   | .int k=>match ρ x with | .d (.int _ n)=>Zb3 k n K | _=>False
   | .string=>match ρ x with | .d (.str s)=>K (.d (.str s)) | .d (.int _ n)=>K (.d (.str (Utf8.encode n).data.toList)) | _=>False
   | _=>False
 | .fieldAddr s x i=>match (T.get s).kind with
  | .struct fs=>match fs[i]? with
   | some (o,_)=>match ρ x with
    | .ptr b off=>K (.ptr b (off+o))
    | .elem r off=>K (.elem r (off+o))
    | _=>False
   | none=>False
  | _=>False
 | .field s x i=>match (T.get s).kind with
  | .struct fs=>match fs[i]? with
   | some (o,t)=>match ρ x with
    | .agg cs=>match (T.get t).kind.isAgg with
     | true=>match W8 (T.get t).size (cs.drop o) with | some l=>K (.agg l) | none=>False
     | false=>match (T.get t).kind with | .other=>False | _=>match cs[o]? with | some v=>K v | none=>False
    | _=>False
   | none=>False
  | _=>False
 | .index t x i=>match ρ i with
  | .d (.int _ n)=>match (T.get t).kind with
   | .string=>match ρ x with
    | .d (.str s)=>0<=n/\n<s.length/\K (.d (.int .u8 (s.getD n.toNat 0).toNat))
    | _=>False
   | .array m e=>match ρ x with
    | .agg cs=>match (T.get e).kind.isAgg with
     | true=>match W8 (T.get e).size (cs.drop (n.toNat * (T.get e).size)) with
      | some l=>0<=n/\n<m/\K (.agg l)
      | none=>False
     | false=>match (T.get e).kind with
      | .other=>False
      | _=>match Nat.beq (T.get e).size 1 with
       | true=>match cs[n.toNat]? with | some v=>0<=n/\n<m/\K v | none=>False
       | false=>False
    | _=>False
   | _=>False
  | _=>False
 | .indexAddr t x i=>match ρ i with
  | .d (.int _ n)=>match (T.get t).kind with
   | .slice e=>match (T.get e).kind with
    | .other=>False
    | _=>match ρ x with
     | .asl b off m=>0<=n/\n<m/\K (.ptr b (off+n.toNat * (T.get e).size))
     | px=>match toD px with
      | some (.sl rows)=>∃r,0<=n/\rows[n.toNat]?=some r/\(match Nat.beq r.length (T.get e).size with | true=>K (.elem r 0) | false=>False)
      | _=>False
   | .array m e=>match (T.get e).kind with
    | .other=>False
    | _=>match ρ x with
     | .ptr b off=>0<=n/\n<m/\K (.ptr b (off+n.toNat * (T.get e).size))
     | _=>False
   | _=>False
  | _=>False
 | .slice t x lo hi none=>VY T t (ρ x) (lo.map ρ) (hi.map ρ) K
 | .extract x i=>match ρ x with
  | .tuple vs=>match vs[i]? with | some v=>K v | none=>False
  | _=>False
 | .makeFunc (.func g) a c=>K (.func g (a.toList.map ρ) (c.toList.map ρ))
 | .makeInterface t x=>match (T.get t).kind with
  | .iface=>False
  | .other=>False
  | _=>K (.iface t (ρ x))
 | .typeAssert x _ t true=>match (T.get t).kind with
  | .iface=>False
  | .other=>False
  | _=>match ρ x with
   | .iface t' v=>match Nat.beq t' t with
    | true=>K (.tuple [v,.d (.bool true)])
    | false=>False
   | _=>False
 | .call { callee:=.builtin b,args,argTypes }=>match b,argTypes.toList,args.toList.map ρ with
  | .len,t::_,[v]=>match (T.get t).kind with
   | .string=>match v with | .d (.str s)=>K (.d (.int .i64 s.length)) | _=>False
   | .slice _=>match v with
    | .asl _ _ n=>K (.d (.int .i64 n))
    | v=>match toD v with | some (.sl rows)=>K (.d (.int .i64 rows.length)) | _=>False
   | .map _ _=>match v with
    | .nilm=>K (.d (.int .i64 (0:Nat)))
    | .mp b=>match bx[b]? with | some (.map cs _ _)=>K (.d (.int .i64 (cs.length / 2:Nat))) | some (.dmap l)=>K (.d (.int .i64 l.length)) | _=>False
    | _=>False
   | _=>False
  | .min,_,[.d (.int k a),.d (.int k' b)]=>match keq k k' with | true=>K (.d (.int k (min a b))) | false=>False
  | .max,_,[.d (.int k a),.d (.int k' b)]=>match keq k k' with | true=>K (.d (.int k (max a b))) | false=>False
  | _,_,_=>False
 | _=>False
def Zi2 (T:Tab) (o:Op):Option Operand:=match o with
 | .convert s d x=>match (T.get s).kind with
  | .string=>match (T.get d).kind with
   | .slice e=>match (T.get e).kind with
    | .int .u8=>some x
    | _=>none
   | _=>none
  | _=>none
 | _=>none
def Zi3 (v:PV):Option (List D):=match v.cells with | some l=>Zl9 l | none=>none
def X3 (w:Nat) (ρ:Operand->PV):List (Nat×Operand)->List (List D)->Option (List (List D))
 | [],rows=>some rows
 | (i,x)::ps,rows=>match Zi3 (ρ x) with
  | some r=>(match Nat.beq r.length w,Nat.ble (i+1) rows.length with | true,true=>X3 w ρ ps (rows.set i r) | _,_=>none)
  | none=>none
def ZaM (zero:List D) (ρ:Operand->PV) (n:Nat) (ps:List (Nat×Operand)):Option (List (List D)):=X3 zero.length ρ ps (List.replicate n zero)
def ZfV (T:Tab) (o:Op) (ty:TypeId) (ρ:Operand->PV) (bx:List Box) (K:PV->Prop):Prop:=match Zi2 T o with
 | some x=>match ρ x with
  | .d (.str s)=>K (.d (.sl (s.map fun b=>[.int .u8 b.toNat])))
  | _=>False
 | none=>match o with
  | .buildSlice t n ps=>match (T.get t).kind with
   | .slice e=>match (T.get e).kind with
    | .other=>False
    | _=>match Zl9 (T.get e).zero with
     | some zero=>match Nat.ble 1 zero.length,Nat.ble (n * zero.length) 16777216,ZaM zero ρ n ps.toList with
      | true,true,some rows=>K (.d (.sl rows))
      | _,_,_=>False
     | none=>False
   | _=>False
  | .makeSlice t l c=>match (T.get t).kind with
   | .slice e=>match (T.get e).kind with
    | .other=>False
    | _=>match Zl9 (T.get e).zero,ρ l,ρ c with
     | some zero,.d (.int .i64 (.ofNat n)),.d (.int .i64 (.ofNat m))=>n=m/\1<=zero.length/\n * zero.length<=16777216/\n * (T.get e).bytes<=16777216/\K (.d (.sl (List.replicate n zero)))
     | _,_,_=>False
   | _=>False
  | o=>qop T o ty ρ bx K
def St.set (σ:St) (b:Nat) (x:Box):St:={ σ with bx:=σ.bx.set b x }
def St.new (σ:St) (x:Box):St:={ σ with bx:=σ.bx++[x] }
def WK (T:Tab) (tx el:Nat) (x:PV):Option (List (List D)):=match (T.get tx).kind with
 | .string=>match (T.get el).kind with
  | .int .u8=>match x with
   | .d (.str s)=>some (s.map fun b=>[.int .u8 b.toNat])
   | _=>none
  | _=>none
 | .slice _=>match toD x with
  | some (.sl rows)=>some rows
  | _=>none
 | _=>none
def Zma (key:List UInt8) (v:PV):List PV->Option (List PV)
 | .d (.str k)::u::l=>match decide (key=k) with
  | true=>some (.d (.str k)::v::l)
  | false=>match Zma key v l with | some l=>some (.d (.str k)::u::l) | none=>none
 | _=>none
def ZcB (T:Tab) (t:TypeId) (m key v:PV) (σ:St) (K:PV->St->Prop):Prop:=match (T.get t).kind with
 | .map _ _=>match key,m with
  | .d (.str k),.mp b=>match σ.bx[b]? with
   | some (.map cs bn ck)=>match Zma k v cs with
    | some cs=>K .undef (σ.set b (.map cs bn ck))
    | none=>K .undef (σ.set b (.map (cs++[.d (.str k),v]) (bn++[ck]) (ck+1)))
   | some (.dmap l)=>match ZBQ v with
    | some x=>K .undef (σ.set b (.dmap (Yv k x l)))
    | none=>False
   | some (.smap el l (some (k',_)))=>k=k'/\K .undef (σ.set b (.smap el (Yv k [] l) (some (k,v))))
   | _=>False
  | _,_=>False
 | _=>False
def asT (T:Tab) (t:TypeId) (v:PV):PV:=match v with
 | .nils e=>match (T.get t).kind with | .slice el=>.nils el | _=>.nils e
 | v=>v
def eop (T:Tab) (o:Op) (ρ:Operand->PV) (σ:St) (K:PV->St->Prop):Prop :=
 match o with
 | .alloc e=>match (T.get e).kind with | .other=>False | _=>K (.ptr σ.bx.length 0) (σ.new (.cells e (T.get e).zero))
 | .box e x=>match (ρ x).cells with | some l=>K (.ptr σ.bx.length 0) (σ.new (.cells e l)) | none=>False
 | .store t a x=>match ρ a with
  | .ptr b off=>match σ.bx[b]? with
   | some (.cells ty cs)=>match (asT T t (ρ x)).cells with
    | some l=>match Nat.beq l.length (T.get t).size,Nat.ble (off+l.length) cs.length,(T.get t).kind with
     | _,_,.other=>False
     | true,true,_=>K .undef (σ.set b (.cells ty (ZT cs off l)))
     | _,_,_=>False
    | none=>False
   | _=>False
  | _=>False
 | .range t x=>match (T.get t).kind with
  | .string=>match ρ x with
   | .d (.str s)=>K (.ptr σ.bx.length 0) (σ.new (.iter s 0))
   | _=>False
  | _=>False
 | .makeMap t none=>match (T.get t).kind with
  | .map _ e=>match (T.get e).kind with
   | .slice _=>K (.mp σ.bx.length) (σ.new (.map [] [] 0))
   | .map _ _=>K (.mp σ.bx.length) (σ.new (.map [] [] 0))
   | _=>K (.mp σ.bx.length) (σ.new (.dmap []))
  | _=>False
 | .mapUpdate t m x v=>ZcB T t (ρ m) (ρ x) (ρ v) σ K
 | .insert t m x v=>ZcB T t (ρ m) (ρ x) (ρ v) σ K
 | .next x true=>match ρ x with
  | .ptr b 0=>match σ.bx[b]? with
   | some (.iter s pos)=>CondP (decide (pos<s.length)) (K (.tuple [.d (.bool true),.d (.int .i64 pos),.d (.int .i32 (decodeL s pos).1)]) (σ.set b (.iter s (pos+(decodeL s pos).2)))) (K (.tuple [.d (.bool false)]) σ)
   | _=>False
  | _=>False
 | .call { callee:=.builtin .append,args,argTypes }=>match argTypes.toList,args.toList.map ρ with
  | [t,tx],[s,x]=>match (T.get t).kind with
   | .slice el=>match (T.get el).kind with
    | .other=>False
    | _=>match Nat.ble 1 (T.get el).size,WK T tx el x with
     | true,some more=>match s with
      | .nils _=>(∀r∈more,r.length=(T.get el).size)/\more.length * (T.get el).bytes<=2 ^ 47/\more.length<=2 ^ 47/\K (.sl σ.nx el more) { σ with tk:=σ.nx::σ.tk,nx:=σ.nx+1 }
      | .sl tok e2 rows=>match Zeh tok σ.tk,Nat.beq e2 el with
       | true,true=>(∀r∈more,r.length=(T.get el).size)/\(rows.length+more.length) * (T.get el).bytes<=2 ^ 47/\rows.length+more.length<=2 ^ 47 /\
         K (.sl σ.nx el (rows++more)) { σ with tk:=σ.nx::UH tok σ.tk,nx:=σ.nx+1 }
       | _,_=>False
      | _=>False
     | _,_=>False
   | _=>False
  | _,_=>False
 | _=>False
def YQ:Op->Bool
 | .alloc _ | .box _ _ | .store _ _ _ | .range _ _ | .next _ _ | .makeMap _ _ | .mapUpdate _ _ _ _ | .insert _ _ _ _=>true
 | .call { callee:=.builtin .append,.. }=>true
 | .call { callee:=.builtin _,.. }=>false
 | .call _=>true
 | .panic _=>true
 | _=>false
mutual
def bnd (n:Nat):PV->Bool
 | .ptr b _=>Nat.ble (b+1) n
 | .asl b _ _=>Nat.ble (b+1) n
 | .mp b=>Nat.ble (b+1) n
 | .func _ a c=>ZnP n a && ZnP n c
 | .iface _ v=>bnd n v
 | .agg cs=>ZnP n cs
 | .tuple vs=>ZnP n vs
 | _=>true
def ZnP (n:Nat):List PV->Bool
 | []=>true
 | v::l=>bnd n v && ZnP n l
end
mutual
def clean:PV->PV
 | .sl _ _ rows=>.d (.sl rows)
 | .nils _=>.d (.sl [])
 | .func f a c=>.func f (Xc a) (Xc c)
 | .iface t v=>.iface t (clean v)
 | .agg cs=>.agg (Xc cs)
 | .tuple vs=>.tuple (Xc vs)
 | .d x=>.d x
 | .undef=>.undef
 | .ptr b o=>.ptr b o
 | .elem r o=>.elem r o
 | .asl b o n=>.asl b o n
 | .raw v=>.raw v
 | .mp b=>.mp b
 | .nilm=>.nilm
def Xc:List PV->List PV
 | []=>[]
 | v::l=>clean v::Xc l
end
def Ua (f:Frame):Frame:=fun i=>clean (f i)
mutual
def cleanN:PV->PV
 | .sl _ _ rows=>.d (.sl rows)
 | .nils e=>.nils e
 | .func f a c=>.func f (Xc a) (Xc c)
 | .iface t v=>.iface t (clean v)
 | .agg cs=>.agg (cleanNL cs)
 | .tuple vs=>.tuple (Xc vs)
 | .d x=>.d x
 | .undef=>.undef
 | .ptr b o=>.ptr b o
 | .elem r o=>.elem r o
 | .asl b o n=>.asl b o n
 | .raw v=>.raw v
 | .mp b=>.mp b
 | .nilm=>.nilm
def cleanNL:List PV->List PV
 | []=>[]
 | v::l=>cleanN v::cleanNL l
end
inductive PEnd where | ret (v:PV) | panic (v:PV)
inductive PExit where | normal | exit (id:Nat) | goto (l:Nat) | ret | panic (v:PV)
abbrev PQ:=PExit->Frame->St->Prop
structure LoopAnn where
 live:List Nat
 keep:List Nat
 I:List PV->St->Prop
 μ:List PV->St->Nat
structure Cx where
 T:Tab
 call:FuncId->List PV->St->(PEnd->St->Prop)->Prop
 raw:Value->List PV->St->(PEnd->St->Prop)->Prop
 iter:FuncId->List PV->(Value->List PV->St->(PEnd->St->Prop)->Prop)->St->(PEnd->St->Prop)->Prop
 loop:Nat->LoopAnn
 unr:Nat->Nat:=fun _=>0
 tie:Nat->Bool:=fun _=>false
 bsl:Nat->Bool:=fun _=>false
 pk:Bool:=true
 cut:Nat->Option (List Nat×(List PV->St->Prop)):=fun _=>none
 ag:Nat->Bool:=fun _=>false
 foc:Nat->Bool:=fun _=>false
def LoopAnn.tied (A:LoopAnn) (f:Frame):LoopAnn:=⟨A.live,A.keep,fun vs σ=>A.I (A.keep.map (fun i=>clean (f i))++vs) σ,fun vs σ=>A.μ (A.keep.map (fun i=>clean (f i))++vs) σ⟩
def Cx.inner (C:Cx):Cx:={ C with iter:=fun _ _ _ _ _=>False }
def Cx.calm (C:Cx):Cx:={ C with raw:=fun _ _ _ _=>False,pk:=false }
def Cx.pf (C:Cx) (f:Frame):Frame:=match C.pk with | true=>Ua f | false=>fun _=>.undef
def Zhn:List PV->(List PV->Prop)->Prop
 | [],K=>K []
 | v::l,K=>U3 v fun v=>Zhn l fun l=>K (v::l)
def ZcC:List Nat->(List Nat->Prop)->Prop
 | [],K=>K []
 | t::l,K=>Yh t fun t=>ZcC l fun l=>K (t::l)
def XX:List Box->(List Box->Prop)->Prop
 | [],K=>K []
 | .cells t cs::l,K=>Zhn cs fun cs=>XX l fun l=>K (.cells t cs::l)
 | .iter s p::l,K=>XX l fun l=>K (.iter s p::l)
 | .loop st pd r::l,K=>XX l fun l=>K (.loop st pd r::l)
 | .dmap m::l,K=>XX l fun l=>K (.dmap m::l)
 | .smap el m none::l,K=>XX l fun l=>K (.smap el m none::l)
 | .smap el m (some (k,v))::l,K=>U3 v fun v=>XX l fun l=>K (.smap el m (some (k,v))::l)
 | .map cs bn ck::l,K=>Zhn cs fun cs=>ZcC bn fun bn=>Yh ck fun ck=>XX l fun l=>K (.map cs bn ck::l)
def Xu (σ:St) (K:St->Prop):Prop:=XX σ.bx fun bx=>ZcC σ.tk fun tk=>Yh σ.nx fun nx=>K ⟨bx,tk,nx⟩
def ZcD (C:Cx) (fv:PV) (args:List PV) (f:Frame) (σ:St) (K:PEnd->Frame->St->Prop):Prop:=match fv with
 | .func g first caps=>C.call g (first++args++caps) σ fun e σ=>K e f σ
 | .raw v=>C.raw v args σ fun e σ=>K e (Ua f) σ
 | _=>False
def XS (C:Cx) (o:Oper) (f:Frame) (σ:St) (Q:PQ) (K:Frame->St->Prop):Prop :=
 match YQ o.op with
 | false=>ZfV C.T o.op o.type (ev f) σ.bx fun v=>Zhl f o.dst v fun f=>K f σ
 | true=>match o.op with
  | .call { callee:=.value x,args,.. }=>ZcD C (ev f x) (args.toList.map (ev f)) f σ fun e f σ'=>match e with
    | .ret v=>Xu σ' fun σ'=>Zhl f o.dst v fun f=>K f σ'
    | .panic v=>Xu σ' fun σ'=>U3 v fun v=>Q (.panic v) (C.pf f) σ'
  | .panic x=>match ev f x with
    | .iface t v=>Q (.panic (.iface t v)) (C.pf f) σ
    | _=>False
  | op=>eop C.T op (ev f) σ fun v σ'=>Xu σ' fun σ'=>Zhl f o.dst v fun f=>K f σ'
def Wk (all:List Oper) (j:Nat):Option Nat:=match all[j]? with | some o=>o.dst | none=>none
def W9 (C:Cx) (all:List Oper) (Q:PQ) (o:Oper) (f:Frame) (σ:St) (K:Frame->St->Prop):Prop :=
 match o.guard with
 | none=>XS C o f σ Q K
 | some (j,want)=>match Wk all j with
  | some s=>match f s with
   | .d (.bool t)=>CondP t
     (match want with | true=>XS C o (V4 f s (.d (.bool true))) σ Q K | false=>Zhl (V4 f s (.d (.bool true))) o.dst (.raw Go.undef) fun f=>K f σ)
     (match want with | false=>XS C o (V4 f s (.d (.bool false))) σ Q K | true=>Zhl (V4 f s (.d (.bool false))) o.dst (.raw Go.undef) fun f=>K f σ)
   | .raw (.tuple _)=>Zhl f o.dst (.raw Go.undef) fun f=>K f σ
   | _=>False
  | none=>False
def ZeP (C:Cx) (o:Oper):Bool:=match o.dst with
 | some d=>match o.guard with | none=>C.bsl d | _=>false
 | none=>false
def Zyw (T:Tab) (o:Op) (ρ:Operand->PV) (σ:St) (K:PV->St->Prop):Prop:=match o with
 | .buildSlice t n ps=>match (T.get t).kind with
   | .slice e=>match (T.get e).kind with
    | .other=>False
    | _=>match Zl9 (T.get e).zero with
     | some zero=>match Nat.ble 1 zero.length,Nat.ble (n * zero.length) 16777216,Nat.ble 1 n,ZaM zero ρ n ps.toList with
      | true,true,true,some rows=>K (.sl σ.nx e rows) { σ with tk:=σ.nx::σ.tk,nx:=σ.nx+1 }
      | _,_,_,_=>False
     | none=>False
   | _=>False
 | .convert s d x=>match (T.get s).kind with
   | .slice e=>match (T.get d).kind,(T.get e).kind,ρ x with
    | .string,.int .u8,.asl b off n=>match σ.bx[b]? with
     | some (.cells _ cs)=>∃l:List UInt8,l.length=n/\W8 n (cs.drop off)=some (l.map fun b=>.d (.int .u8 b.toNat))/\K (.d (.str l)) σ
     | _=>False
    | _,_,_=>False
   | _=>False
 | .makeMap t none=>match (T.get t).kind with
  | .map _ e=>match (T.get e).kind with
   | .slice el=>K (.mp σ.bx.length) (σ.new (.smap el [] none))
   | _=>False
  | _=>False
 | _=>False
def Zho (C:Cx) (all:List Oper) (Q:PQ) (o:Oper) (f:Frame) (σ:St) (K:Frame->St->Prop):Prop:=match ZeP C o with
 | true=>Zyw C.T o.op (ev f) σ fun v σ'=>Xu σ' fun σ'=>Zhl f o.dst v fun f=>K f σ'
 | false=>W9 C all Q o f σ K
def ZnJ (C:Cx) (all:List Oper) (Q:PQ):List Oper->Frame->St->Prop
 | [],f,σ=>Q .normal f σ
 | o::rest,f,σ=>Zho C all Q o f σ (ZnJ C all Q rest)
structure Ld where
 i:Nat
 b:Nat
 off:Nat
 n:Nat
def ZV (bx:List Box) (b off n:Nat):Option (Nat×List PV×List (List UInt8×MV)):=match bx[b]? with
 | some (.cells _ cs)=>some (0,(cs.drop off).take n,[])
 | some (.map cs _ _)=>some (1,cs,[])
 | some (.dmap m)=>some (2,[],m)
 | some (.smap _ m fo)=>some (3,ZBy m fo,[])
 | _=>none
def U8 (acc:List Nat):List Edge->Nat->Nat
 | [],s=>s
 | e::l,s=>match Region.binds .any e with
  | true=>U8 acc l (s ||| 2 ^ e.on ||| acc.getD e.on 0)
  | false=>U8 acc l s
def Wl:List Oper->List Nat->List Nat
 | [],acc=>acc
 | o::l,acc=>Wl l (acc++[U8 acc o.after.toList 0])
def anc (ms:List Nat) (i j:Nat):Bool:=(ms.getD j 0).testBit i
def W0 (o:Oper) (left:List (Nat×Oper)):Bool:=match left with
 | []=>false
 | (i,_)::l=>(o.after.toList.any fun e=>Region.binds .any e && Nat.beq e.on i) || W0 o l
def ZfW:List (Nat×Oper)->List (Nat×Oper)->Option (Nat×Oper)
 | _,[]=>none
 | left,(i,o)::l=>match YQ o.op,W0 o left with
  | false,false=>some (i,o)
  | _,_=>ZfW left l
def Yn (i:Nat):List (Nat×Oper)->List (Nat×Oper)
 | []=>[]
 | (j,o)::l=>match Nat.beq i j with | true=>l | false=>(j,o)::Yn i l
def V0:Nat->List (Nat×Oper)->List (Nat×Oper)
 | 0,l=>l
 | _+1,[]=>[]
 | n+1,x::l=>match ZfW (x::l) (x::l) with
  | some (i,o)=>(i,o)::V0 n (Yn i (x::l))
  | none=>x::V0 n l
def ZD:Nat->List Oper->List (Nat×Oper)
 | _,[]=>[]
 | i,o::l=>(i,o)::ZD (i+1) l
def ZfX (ops:List Oper):List (Nat×Oper):=V0 ops.length (ZD 0 ops)
def ZnQ (ms:List Nat) (j:Nat) (pre post:List Box):List Ld->Prop->Prop
 | [],X=>X
 | ⟨i,b,off,n⟩::l,X=>match anc ms i j with
  | true=>ZnQ ms j pre post l X
  | false=>ZV pre b off n=ZV post b off n/\ZnQ ms j pre post l X
def Zrj (T:Tab) (o:Op) (ρ:Operand->PV):Option (Nat×Nat×Nat):=match o with
 | .load t a=>match ρ a with
  | .ptr b off=>some (b,off,(T.get t).size)
  | _=>none
 | .lookup _ x _ _=>match ρ x with
  | .mp b=>some (b,0,0)
  | _=>none
 | .call { callee:=.builtin .len,args,.. }=>match args.toList.map ρ with
  | [.mp b]=>some (b,0,0)
  | _=>none
 | _=>none
def V5 (T:Tab) (o:Oper) (i:Nat) (f:Frame) (ctx:List Ld):List Ld:=match Zrj T o.op (ev f) with
 | some (b,off,n)=>⟨i,b,off,n⟩::ctx
 | none=>ctx
def X4 (C:Cx) (all:List Oper) (ms:List Nat) (Q:PQ) (i:Nat) (o:Oper) (ctx:List Ld) (f:Frame) (σ:St) (K:List Ld->Frame->St->Prop):Prop :=
 W9 C all Q o f σ fun f' σ'=>match YQ o.op with
  | true=>ZnQ ms i σ.bx σ'.bx ctx (K ctx f' σ')
  | false=>K (V5 C.T o i f ctx) f' σ'
def X5 (C:Cx) (all:List Oper) (ms:List Nat) (Q:PQ):List (Nat×Oper)->List Ld->Frame->St->Prop
 | [],_,f,σ=>Q .normal f σ
 | (i,o)::rest,ctx,f,σ=>X4 C all ms Q i o ctx f σ (X5 C all ms Q rest)
def Zmb (left:List (Nat×Oper)):List (Nat×Oper)->(Nat->Oper->Prop)->Prop
 | [],_=>True
 | (i,o)::l,X=>match W0 o left with
  | true=>Zmb left l X
  | false=>X i o/\Zmb left l X
def Wm (C:Cx) (all:List Oper) (ms:List Nat) (Q:PQ):Nat->List (Nat×Oper)->List Ld->Frame->St->Prop
 | _,[],_,f,σ=>Q .normal f σ
 | 0,_::_,_,_,_=>False
 | n+1,x::l,ctx,f,σ=>match ZfW (x::l) (x::l) with
  | some (i,o)=>X4 C all ms Q i o ctx f σ (Wm C all ms Q n (Yn i (x::l)))
  | none=>Zmb (x::l) (x::l) fun i o=>X4 C all ms Q i o ctx f σ (Wm C all ms Q n (Yn i (x::l)))
def ZeQ (ms:List Nat):Option Nat->List (Nat×Oper)->Bool
 | _,[]=>true
 | prev,(i,o)::l=>match YQ o.op with
  | false=>ZeQ ms prev l
  | true=>(match prev with | none=>true | some j=>anc ms j i) && ZeQ ms (some i) l
def toks:Nat->List Nat
 | 0=>[]
 | k+1=>k::toks k
def Zrp (n:Nat) (tk:List Nat) (k:Nat) (v:PV) (K:PV->List Nat->Nat->Prop):Prop:=match v with
 | .sl t e rows=>match Zeh t tk with
  | true=>K (.sl k e rows) (UH t tk) (k+1)
  | false=>K (.d (.sl rows)) tk k
 | .nils e=>K (.sl k e []) tk (k+1)
 | v=>match bnd n v with
  | true=>U3 (clean v) fun v=>K v tk k
  | false=>K .undef tk k
def Zrq (n:Nat):List PV->List Nat->Nat->(List PV->List Nat->Nat->Prop)->Prop
 | [],tk,k,K=>K [] tk k
 | v::l,tk,k,K=>Zrp n tk k v fun v tk k=>Zrq n l tk k fun l tk k=>K (v::l) tk k
def ZcE (n:Nat) (tk:List Nat) (k:Nat) (v:PV) (K:PV->List Nat->Nat->Prop):Prop:=match v with
 | .sl t e rows=>match Zeh t tk with
  | true=>K (.sl k e rows) (UH t tk) (k+1)
  | false=>K (.d (.sl rows)) tk k
 | .nils e=>K (.sl k e []) tk (k+1)
 | v=>match bnd n v with
  | true=>U3 (cleanN v) fun v=>K v tk k
  | false=>K .undef tk k
def Zi4 (n:Nat):List PV->List Nat->Nat->(List PV->List Nat->Nat->Prop)->Prop
 | [],tk,k,K=>K [] tk k
 | v::l,tk,k,K=>ZcE n tk k v fun v tk k=>Zi4 n l tk k fun l tk k=>K (v::l) tk k
def Zhp (n:Nat) (tk:List Nat) (k:Nat) (v:PV) (K:PV->List Nat->Nat->Prop):Prop:=match v with
 | .agg cs=>Zi4 n cs tk k fun cs tk k=>K (.agg cs) tk k
 | v=>ZcE n tk k v K
def Zi5 (n:Nat):List PV->List Nat->Nat->(List PV->List Nat->Nat->Prop)->Prop
 | [],tk,k,K=>K [] tk k
 | v::l,tk,k,K=>Zhp n tk k v fun v tk k=>Zi5 n l tk k fun l tk k=>K (v::l) tk k
def ZnR (md n:Nat) (vs:List PV) (tk:List Nat) (k:Nat) (K:List PV->List Nat->Nat->Prop):Prop:=match md with
 | 0=>Zrq n vs tk k K
 | 1=>Zi4 n vs tk k K
 | _=>Zi5 n vs tk k K
def ZcF (n:Nat):Nat->List Box->List Nat->Nat->(List Box->List Nat->Nat->Prop)->Prop
 | 0,_,tk,k,K=>K [] tk k
 | _+1,[],_,_,_=>False
 | m+1,.cells t cs::l,tk,k,K=>Zrq n cs tk k fun cs tk k=>ZcF n m l tk k fun l tk k=>K (.cells t cs::l) tk k
 | m+1,.iter s p::l,tk,k,K=>ZcF n m l tk k fun l tk k=>K (.iter s p::l) tk k
 | m+1,.loop st pd r::l,tk,k,K=>ZcF n m l tk k fun l tk k=>K (.loop st pd r::l) tk k
 | m+1,.dmap c::l,tk,k,K=>ZcF n m l tk k fun l tk k=>K (.dmap c::l) tk k
 | m+1,.smap el c none::l,tk,k,K=>ZcF n m l tk k fun l tk k=>K (.smap el c none::l) tk k
 | _+1,.smap _ _ (some _)::_,_,_,_=>False
 | m+1,.map cs bn ck::l,tk,k,K=>Zrq n cs tk k fun cs tk k=>ZcF n m l tk k fun l tk k=>K (.map cs bn ck::l) tk k
def ZnS (n:Nat) (vs:List PV) (σ:St) (K:List PV->St->Prop):Prop :=
 Zrq n vs σ.tk 0 fun vs tk k=>ZcF n n σ.bx tk k fun bs _ k=>K vs ⟨bs,toks k,k⟩
def Ub (ag:Bool) (n:Nat) (vs:List PV) (σ:St) (K:List PV->St->Prop):Prop:=match ag with
 | true=>Zi5 n vs σ.tk 0 fun vs tk k=>ZcF n n σ.bx tk k fun bs _ k=>K vs ⟨bs,toks k,k⟩
 | false=>ZnS n vs σ K
def ZfY (f:Frame):List Nat->List PV->Frame
 | i::is,v::vs=>V4 (ZfY f is vs) i v
 | _,_=>f
def Zi6 (f:Frame):List Nat->Frame
 | []=>fun _=>.undef
 | i::is=>V4 (Zi6 f is) i (clean (f i))
def YV:List Oper->List Nat->Bool
 | [],_=>true
 | o::l,ks=>(match o.dst with | some d=>!(Zeh d ks) | none=>true) && YV l ks
def Yc (ks:List Nat):Code->Bool
 | .region _ ops _=>YV ops.toList ks
 | .seq a b=>Yc ks a && Yc ks b
 | .cond _ a b=>Yc ks a && Yc ks b
 | .block _ b=>Yc ks b
 | .loop b=>Yc ks b
 | .rangeFunc ..=>true
 | .scope b=>Yc ks b
 | _=>true
def keyOf:Code->Nat
 | .region id _ _=>id
 | .seq a _=>keyOf a
 | .cond _ a _=>keyOf a
 | .block _ b=>keyOf b
 | .loop b=>keyOf b
 | .scope b=>keyOf b
 | _=>0
def ZnT:Frame->List Nat->List PV->Frame
 | f,i::is,v::vs=>ZnT (V4 f i v) is vs
 | f,_,_=>f
def ZyG (i:Nat) (r:Loop) (st:LoopState) (pd:Option Code) (b:Bool) (σ:St) (K:PEnd->St->Prop):Prop :=
 σ.bx[i]?=some (.loop .busy none r)/\K (.ret (.d (.bool b))) (σ.set i (.loop st pd r))
def ZuG (i l:Nat) (r:Loop) (ps:List Nat) (WA WB:PQ->Frame->St->Prop) (f:Frame) (v:Value) (args:List PV) (σ:St) (K:PEnd->St->Prop):Prop :=
 v=.func (.yield l) #[] #[]/\σ.bx[i]?=some (.loop .ready none r)/\args.length=ps.length /\
  WA (fun e f1 σ1=>match e with
   | .normal=>σ1.bx[i]?=some (.loop .ready none r)/\WB (fun e _ σ2=>match e with
     | .normal=>ZyG i r .ready none true σ2 K
     | .ret=>ZyG i r .done (some .ret) false σ2 K
     | .exit id=>ZyG i r .done (some (.exit id)) false σ2 K
     | .goto t=>ZyG i r .done (some (.goto t)) false σ2 K
     | .panic _=>False) f1 (σ1.set i (.loop .busy none r))
   | _=>False) (ZnT f ps args) σ
def ZnU (i:Nat) (r:Loop) (f:Frame) (Q:PQ) (σ:St):Option Code->Prop
 | none=>Q .normal f (σ.set i (.loop .exhausted none r))
 | some .ret=>Q .ret f (σ.set i (.loop .exhausted (some .ret) r))
 | some (.exit id)=>Q (.exit id) f (σ.set i (.loop .exhausted (some (.exit id)) r))
 | some (.goto t)=>Q (.goto t) f (σ.set i (.loop .exhausted (some (.goto t)) r))
 | _=>False
def Zei (i:Nat):List Oper->Bool
 | []=>false
 | o::l=>match o.dst with
  | some d=>(match Nat.beq d i with | true=>true | false=>Zei i l)
  | none=>Zei i l
def Cx.pd (C:Cx) (ops:List Oper) (f:Frame):Frame:=match C.pk with
 | true=>fun i=>match Zei i ops with | true=>.undef | false=>clean (f i)
 | false=>fun _=>.undef
def Zi7 (C:Cx) (ops:List Oper) (f0:Frame) (Q:PQ):PQ:=fun e f σ=>match e with
 | .panic v=>Q (.panic v) (C.pd ops f0) σ
 | e=>Q e f σ
structure Hole where
 pre:List Oper
 A:Oper
 I:Oper
 S:Oper
 F:Oper
 H:Oper
def ZcG (ops:List Oper):Option Hole:=match ops.reverse with
 | H::F::S::I::A::pre=>match A.op,I.op,S.op,F.op,H.op with
  | .call { callee:=.builtin .append,.. },.indexAddr _ _ _,.store _ _ _,.fieldAddr _ _ _,.store _ _ _=>some ⟨pre.reverse,A,I,S,F,H⟩
  | _,_,_,_,_=>none
 | _=>none
def Zmc (T:Tab) (h:Hole) (f:Frame) (σ:St) (K:Frame->St->Prop):Prop:=match h.A.op,h.I.op,h.S.op with
 | .call { callee:=.builtin .append,args,argTypes },.indexAddr _ _ ix,.store ts _ x=>match argTypes.toList,args.toList,h.A.dst,h.I.dst with
  | [t,tx],[s,z],some da,some di=>match (T.get t).kind with
   | .slice el=>match (T.get el).kind with
    | .other=>False
    | _=>match Nat.ble 1 (T.get el).size,Nat.beq ts el,WK T tx el (ev f z),Zi3 (ev f x),ev f ix with
     | true,true,some [zr],some row,.d (.int _ n)=>match Nat.beq zr.length (T.get el).size,Nat.beq row.length (T.get el).size with
      | true,true=>match ev f s with
       | .nils _=>n=0/\1 * (T.get el).bytes<=2 ^ 47/\Xu ⟨σ.bx,(σ.nx+1)::σ.tk,σ.nx+2⟩ fun σ'=>Zhl f (some da) (.sl (σ.nx+1) el [row]) fun f=>Zhl f (some di) .undef fun f=>K f σ'
       | .sl tok e2 rows=>match Zeh tok σ.tk,Nat.beq e2 el with
        | true,true=>n=rows.length/\(rows.length+1) * (T.get el).bytes<=2 ^ 47/\rows.length+1<=2 ^ 47 /\
          Xu ⟨σ.bx,(σ.nx+1)::UH tok σ.tk,σ.nx+2⟩ fun σ'=>Zhl f (some da) (.sl (σ.nx+1) el (rows++[row])) fun f=>Zhl f (some di) .undef fun f=>K f σ'
        | _,_=>False
       | _=>False
      | _,_=>False
     | _,_,_,_,_=>False
   | _=>False
  | _,_,_,_=>False
 | _,_,_=>False
def ZnV (C:Cx) (all:List Oper) (h:Hole) (Q:PQ):PQ:=fun e f σ=>match e with
 | .normal=>Zmc C.T h f σ fun f σ=>W9 C all Q h.F f σ fun f σ=>W9 C all Q h.H f σ fun f σ=>Q .normal f σ
 | e=>Q e f σ
def ZkA (i:Nat) (f:Frame) (Q:PQ) (e:PEnd) (σ:St):Prop:=match e with
 | .ret _=>match σ.bx[i]? with
  | some (.loop st pd r)=>match st with
   | .busy=>False
   | _=>ZnU i r f Q σ pd
  | _=>False
 | .panic v=>Q (.panic v) (fun _=>.undef) σ
def Zbw (S:PQ->Frame->St->Prop) (Q:PQ):Nat->Frame->St->Prop
 | 0,_,_=>False
 | n+1,f,σ=>S (fun e f σ=>match e with | .normal=>Zbw S Q n f σ | e=>Q e f σ) f σ
def ZeR (b:Nat) (k:List UInt8) (σ:St) (K:St->Prop):Prop:=match σ.bx[b]? with
 | some (.smap el m none)=>optK (lkM k m) (fun rows=>K { σ.set b (.smap el m (some (k,.sl σ.nx el rows))) with tk:=σ.nx::σ.tk,nx:=σ.nx+1 }) (K (σ.set b (.smap el m (some (k,.nils el)))))
 | _=>False
def UI (b:Nat) (σ:St) (K:St->Prop):Prop:=match σ.bx[b]? with
 | some (.smap el m (some (k,.sl t e2 rows)))=>match Zeh t σ.tk,Nat.beq e2 el with
  | true,true=>K { σ.set b (.smap el (Yv k rows m) none) with tk:=UH t σ.tk }
  | _,_=>False
 | _=>False
def ZD2 (b:Nat) (Q:PQ):PQ:=fun e f σ=>match e with
 | .normal=>UI b σ fun σ=>Xu σ fun σ=>Q .normal f σ
 | _=>False
def WR (C:Cx) (ops:List Oper) (draw:Bool) (Q:PQ) (f:Frame) (σ:St):Prop:=match draw with
  | false=>ZnJ C ops Q ops f σ
  | true=>match ZcG ops with
   | none=>match ZeQ (Wl ops []) none (ZD 0 ops) with
    | true=>X5 C.calm ops (Wl ops []) (Zi7 C ops f Q) (ZfX ops) [] f σ
    | false=>Wm C.calm ops (Wl ops []) (Zi7 C ops f Q) ops.length (ZD 0 ops) [] f σ
   | some h=>X5 C.calm ops (Wl ops []) (ZnV C.calm ops h (Zi7 C ops f Q)) (V0 h.pre.length (ZD 0 h.pre)) [] f σ
def W:Cx->Code->PQ->Frame->St->Prop
 | _,.skip,Q,f,σ=>Q .normal f σ
 | C,.region id ops draw,Q,f,σ=>match C.foc id with
  | false=>WR C ops.toList draw Q f σ
  | true=>∃b k,ZeR b k σ fun σ=>Xu σ fun σ=>WR C ops.toList draw (ZD2 b Q) f σ
 | C,.seq a b,Q,f,σ=>match C.cut (keyOf b) with
  | none=>W C a (fun e f σ=>match e with | .normal=>W C b Q f σ | e=>Q e f σ) f σ
  | some (live,I)=>W C a (fun e f σ=>match e with | .normal=>ZnS σ.bx.length (live.map f) σ I | e=>Q e f σ) f σ/\∀vs σ1,I vs σ1->W C b Q (ZfY (fun _=>.undef) live vs) σ1
 | C,.cond c x y,Q,f,σ=>match ev f c with | .d (.bool t)=>CondP t (W C x Q f σ) (W C y Q f σ) | _=>False
 | C,.block id b,Q,f,σ=>W C b (fun e f σ=>match e with | .exit i=>(match Nat.beq i id with | true=>Q .normal f σ | false=>Q (.exit i) f σ) | e=>Q e f σ) f σ
 | C,.scope b,Q,f,σ=>W C b (fun e f σ=>match e with | .goto _=>False | e=>Q e f σ) f σ
 | _,.exit id,Q,f,σ=>Q (.exit id) f σ
 | _,.goto l,Q,f,σ=>Q (.goto l) f σ
 | _,.label _,Q,f,σ=>Q .normal f σ
 | _,.ret,Q,f,σ=>Q .ret f σ
 | C,.loop b,Q,f,σ=>match C.unr (keyOf b) with
  | n+1=>Zbw (fun Q f σ=>W C b Q f σ) Q (n+1) f σ
  | 0=>match Yc (C.loop (keyOf b)).keep b with
   | true=>match C.tie (keyOf b) with
    | false => Ub (C.ag (keyOf b)) σ.bx.length ((C.loop (keyOf b)).live.map f) σ fun vs σ0 => (C.loop (keyOf b)).I vs σ0 /\
       ∀vs σ1,(C.loop (keyOf b)).I vs σ1->W C b (fun e f' σ'=>match e with
        | .normal=>Ub (C.ag (keyOf b)) σ1.bx.length ((C.loop (keyOf b)).live.map f') σ' fun vs' σ''=>(C.loop (keyOf b)).I vs' σ''/\(C.loop (keyOf b)).μ vs' σ''<(C.loop (keyOf b)).μ vs σ1
        | e=>Q e f' σ') (ZfY (Zi6 f (C.loop (keyOf b)).keep) (C.loop (keyOf b)).live vs) σ1
    | true => Ub (C.ag (keyOf b)) σ.bx.length (((C.loop (keyOf b)).tied f).live.map f) σ fun vs σ0 => ((C.loop (keyOf b)).tied f).I vs σ0 /\
       ∀vs σ1,((C.loop (keyOf b)).tied f).I vs σ1->W C b (fun e f' σ'=>match e with
        | .normal=>Ub (C.ag (keyOf b)) σ1.bx.length (((C.loop (keyOf b)).tied f).live.map f') σ' fun vs' σ''=>((C.loop (keyOf b)).tied f).I vs' σ''/\((C.loop (keyOf b)).tied f).μ vs' σ''<((C.loop (keyOf b)).tied f).μ vs σ1
        | e=>Q e f' σ') (ZfY (Zi6 f ((C.loop (keyOf b)).tied f).keep) ((C.loop (keyOf b)).tied f).live vs) σ1
   | false=>False
 | C,.rangeFunc g ps asg body,Q,f,σ=>match ev f g with
  | .func gid first caps=>∀(l:Nat) (r:Loop),
    C.iter gid (first++.raw (.func (.yield l) #[] #[])::caps) (ZuG σ.bx.length l r ps.toList (fun Q f σ=>W C.inner asg Q f σ) (fun Q f σ=>W C.inner body Q f σ) (Ua f)) (σ.new (.loop .ready none r))
     (ZkA σ.bx.length (Ua f) Q)
  | _=>False
 | _,_,_,_,_=>False
def pres (T:Tab) (f:Frame) (bx:List Box):List ResultVar->(List PV->Prop)->Prop
 | [],K=>K []
 | .tmp t::l,K=>U3 (f t) fun v=>pres T f bx l fun vs=>K (v::vs)
 | .cell a t::l,K=>Jm T t (f a) bx fun v=>U3 v fun v=>pres T f bx l fun vs=>K (v::vs)
def Uc:List PV->PV
 | [v]=>v
 | vs=>.tuple vs
def J1 (ag:Bool) (keep:Nat) (own:Bool) (v:PV) (σ:St) (K:PV->St->Prop):Prop :=
 match bnd keep v with
 | true=>match own with
  | true=>Ub ag keep [v] σ fun vs σ'=>match vs with | [v]=>K v σ' | _=>False
  | false=>ZcF keep keep σ.bx [] 0 fun bs _ k=>K (clean v) ⟨bs,toks k,k⟩
 | false=>False
abbrev Zhq (keep:Nat) (own:Bool) (v:PV) (σ:St) (K:PV->St->Prop):Prop:=J1 false keep own v σ K
def ZnW (ag:Bool) (T:Tab) (fn:Func) (keep:Nat) (own:Bool) (R:PEnd->St->Prop):PQ:=fun e f σ=>match e with
 | .normal | .ret=>pres T f σ.bx fn.results.toList fun vs=>J1 ag keep own (Uc vs) σ fun v σ'=>R (.ret v) σ'
 | .panic v=>J1 ag keep own v σ fun v σ'=>R (.panic v) σ'
 | _=>False
abbrev ZyH (T:Tab) (fn:Func) (keep:Nat) (own:Bool) (R:PEnd->St->Prop):PQ:=ZnW false T fn keep own R
def ZcH:Nat->List PV->Frame
 | _,[]=>fun _=>.undef
 | i,v::vs=>V4 (ZcH (i+1) vs) i v
def YW (fn : Func) : Code := match fn.body with | some c => c | none => .refuse ""
def WFG (ag:Bool) (C:Cx) (fn:Func) (keep:Nat) (own:Bool) (args:List PV) (σ:St) (R:PEnd->St->Prop):Prop :=
 W C (YW fn) (ZnW ag C.T fn keep own R) (ZcH 0 args) σ
abbrev WF (C:Cx) (fn:Func) (keep:Nat) (own:Bool) (args:List PV) (σ:St) (R:PEnd->St->Prop):Prop:=WFG false C fn keep own args σ R
end Go.PM
end
