/- A part of the proof: plain logic, contracts and laws over the given program. -/
import GoSem.Core.Program
import GoSem.Core.Utf8
import GoSem.Op.IntBits
import Derived.CallsIn
set_option linter.unusedVariables false
set_option linter.unusedSimpArgs false
set_option linter.all false
set_option maxRecDepth 100000
set_option maxHeartbeats 16000000
noncomputable section
section
def Ta.{u}:type_of% @List.length_append.{u}:=@List.length_append
def Tb.{u}:type_of% @if_neg.{u}:=@if_neg
def Tc.{u}:type_of% @List.getElem?_eq_getElem.{u}:=@List.getElem?_eq_getElem
def Td:type_of% @Nat.le_of_ble_eq_true:=@Nat.le_of_ble_eq_true
def Te.{u}:type_of% @List.length_cons.{u}:=@List.length_cons
def Tf.{u,v}:type_of% @List.length_map.{u,v}:=@List.length_map
def Tg.{u}:type_of% @if_pos.{u}:=@if_pos
def Th.{u}:type_of% @List.length_nil.{u}:=@List.length_nil
def Ti.{u}:type_of% @List.getElem?_eq_some_iff.{u}:=@List.getElem?_eq_some_iff
def Tj.{u}:type_of% @List.append_assoc.{u}:=@List.append_assoc
def Tk.{u,v}:type_of% @List.getElem?_map.{u,v}:=@List.getElem?_map
def Tl:type_of% @Nat.eq_of_beq_eq_true:=@Nat.eq_of_beq_eq_true
def Tm:type_of% @Bool.and_eq_true:=@Bool.and_eq_true
def Tn:type_of% @Int.toNat_natCast:=@Int.toNat_natCast
def To.{u}:type_of% @List.all_eq_true.{u}:=@List.all_eq_true
def Tp.{u}:type_of% @List.cons_append.{u}:=@List.cons_append
def Tq.{u}:type_of% @List.drop_eq_getElem_cons.{u}:=@List.drop_eq_getElem_cons
def Tr.{u}:type_of% @Array.getElem?_eq_some_iff.{u}:=@Array.getElem?_eq_some_iff
def Tt.{u}:type_of% @List.mem_cons_of_mem.{u}:=@List.mem_cons_of_mem
def Tu.{u}:type_of% @List.nil_append.{u}:=@List.nil_append
def Tv.{u}:type_of% @List.mem_cons.{u}:=@List.mem_cons
def Tw:type_of% @Nat.le_refl:=@Nat.le_refl
def Tx:type_of% @Bool.false_eq_true:=@Bool.false_eq_true
def Tz.{u,v}:type_of% @List.map_cons.{u,v}:=@List.map_cons
def TA.{u}:type_of% @List.drop_eq_nil_of_le.{u}:=@List.drop_eq_nil_of_le
def TB.{u}:type_of% @Array.getElem?_toList.{u}:=@Array.getElem?_toList
def TC.{u}:type_of% @Array.getElem?_eq_getElem.{u}:=@Array.getElem?_eq_getElem
def TD.{u}:type_of% @List.length_drop.{u}:=@List.length_drop
def TE.{u}:type_of% @List.forall_mem_singleton.{u}:=@List.forall_mem_singleton
def TF.{u,v}:type_of% @Option.map_eq_some_iff.{u,v}:=@Option.map_eq_some_iff
def TG:type_of% @Nat.lt_of_lt_of_le:=@Nat.lt_of_lt_of_le
def TH.{u}:type_of% @List.eq_nil_of_length_eq_zero.{u}:=@List.eq_nil_of_length_eq_zero
def TJ.{u}:type_of% @List.length_singleton.{u}:=@List.length_singleton
def TL.{u}:type_of% @List.append_nil.{u}:=@List.append_nil
def TM.{u}:type_of% @List.getElem_mem.{u}:=@List.getElem_mem
def TN.{u,v}:type_of% @List.map_nil.{u,v}:=@List.map_nil
def TP.{u}:type_of% @List.getElem?_append_left.{u}:=@List.getElem?_append_left
def TQ.{u}:type_of% @List.tail_cons.{u}:=@List.tail_cons
def TT.{u}:type_of% @Array.mem_def.{u}:=@Array.mem_def
def TU.{u}:type_of% @List.drop_drop.{u}:=@List.drop_drop
def TV:type_of% @decide_eq_true_eq:=@decide_eq_true_eq
def TW.{u,v,w}:type_of% @List.map_map.{u,v,w}:=@List.map_map
def TX.{u,v}:type_of% @List.map_congr_left.{u,v}:=@List.map_congr_left
def TY.{u}:type_of% @List.getElem?_cons_succ.{u}:=@List.getElem?_cons_succ
def TZ.{u}:type_of% @List.getElem?_append_right.{u}:=@List.getElem?_append_right
def T1.{u}:type_of% @List.mem_append.{u}:=@List.mem_append
def T2:type_of% @Bool.true_and:=@Bool.true_and
def T3:type_of% @Bool.false_and:=@Bool.false_and
def T4.{u}:type_of% @List.mem_of_getElem?.{u}:=@List.mem_of_getElem?
def T5.{u}:type_of% @List.getD_eq_getElem?_getD.{u}:=@List.getD_eq_getElem?_getD
def T6.{u}:type_of% @Array.getElem?_setIfInBounds.{u}:=@Array.getElem?_setIfInBounds
def T7:type_of% @Int.add_sub_cancel:=@Int.add_sub_cancel
def T9:type_of% @Nat.mul_le_mul_right:=@Nat.mul_le_mul_right
def Sa:type_of% @Bool.not_eq_true':=@Bool.not_eq_true'
def Sb.{u}:type_of% @List.flatten_cons.{u}:=@List.flatten_cons
def Sc:type_of% @Nat.le_trans:=@Nat.le_trans
def Sd:type_of% @Bool.or_eq_false_iff:=@Bool.or_eq_false_iff
def Se:type_of% @Nat.zero_add:=@Nat.zero_add
def Sf.{u}:type_of% @List.length_pos_iff.{u}:=@List.length_pos_iff
def Sg.{u}:type_of% @List.takeWhile_cons.{u}:=@List.takeWhile_cons
def Sh.{u,v}:type_of% @List.mem_map.{u,v}:=@List.mem_map
def Si.{u}:type_of% @List.drop_zero.{u}:=@List.drop_zero
def Sj:type_of% @decide_eq_true:=@decide_eq_true
def Sk.{u}:type_of% @Array.mem_of_getElem?.{u}:=@Array.mem_of_getElem?
def Sl:type_of% @Nat.zero_le:=@Nat.zero_le
def Sm.{u}:type_of% @List.getElem?_replicate.{u}:=@List.getElem?_replicate
def Sn.{u}:type_of% @List.getElem_of_mem.{u}:=@List.getElem_of_mem
def So.{u,v}:type_of% @Option.map_some.{u,v}:=@Option.map_some
def Sp.{u}:type_of% @List.take_length.{u}:=@List.take_length
def Sq.{u}:type_of% @List.length_eq_zero_iff.{u}:=@List.length_eq_zero_iff
def Sr.{u}:type_of% @List.take_zero.{u}:=@List.take_zero
def Ss.{u}:type_of% @List.drop_append_of_le_length.{u}:=@List.drop_append_of_le_length
def Su.{u,v}:type_of% @List.map_append.{u,v}:=@List.map_append
def Sv:type_of% @Nat.add_assoc:=@Nat.add_assoc
def Sw.{u}:type_of% @Option.isSome_iff_exists.{u}:=@Option.isSome_iff_exists
def Sx:type_of% @Nat.add_mul:=@Nat.add_mul
def Sy.{u}:type_of% @Array.length_toList.{u}:=@Array.length_toList
def Sz.{u}:type_of% @List.getElem?_eq_none.{u}:=@List.getElem?_eq_none
def SA:type_of% @of_decide_eq_true:=@of_decide_eq_true
def SB:type_of% @Bool.or_eq_true:=@Bool.or_eq_true
def SC:type_of% @Nat.lt_succ_self:=@Nat.lt_succ_self
def SE.{u}:type_of% @Option.getD_some.{u}:=@Option.getD_some
def SF.{u}:type_of% @List.take_append_drop.{u}:=@List.take_append_drop
def SG:type_of% @Bool.or_false:=@Bool.or_false
def SH.{u}:type_of% @List.drop_length.{u}:=@List.drop_length
def SI.{u}:type_of% @List.getElem?_cons_zero.{u}:=@List.getElem?_cons_zero
def SJ.{u}:type_of% @List.getElem?_set_self.{u}:=@List.getElem?_set_self
def SK.{u}:type_of% @List.length_set.{u}:=@List.length_set
def SL.{u}:type_of% @Array.getElem?_modify.{u}:=@Array.getElem?_modify
def SN.{u}:type_of% @List.getElem?_drop.{u}:=@List.getElem?_drop
def SO.{u}:type_of% @List.length_take.{u}:=@List.length_take
def SP.{u}:type_of% @List.flatten_nil.{u}:=@List.flatten_nil
def SQ:type_of% @Nat.add_zero:=@Nat.add_zero
def SR:type_of% @Bool.not_not:=@Bool.not_not
def SS.{u}:type_of% @List.sum_cons.{u}:=@List.sum_cons
def SU.{u}:type_of% @Array.getElem_of_mem.{u}:=@Array.getElem_of_mem
def SV.{u}:type_of% @List.getElem?_set_ne.{u}:=@List.getElem?_set_ne
def SW.{u}:type_of% @List.getD_cons_zero.{u}:=@List.getD_cons_zero
def SX.{u}:type_of% @List.getD_cons_succ.{u}:=@List.getD_cons_succ
def SY.{u}:type_of% @List.dropWhile_cons.{u}:=@List.dropWhile_cons
def SZ.{u}:type_of% @List.any_cons.{u}:=@List.any_cons
def S0.{u}:type_of% @List.getElem?_take.{u}:=@List.getElem?_take
def S3:type_of% @Nat.ble_eq:=@Nat.ble_eq
def mq0 {P:Prop} (h:P:=by
 rw [U5] at h
 refine ⟨L,ts,rfl,ho,ff,fun x cd=>?_⟩
 rcases x with ⟨v2,ts2⟩ | ⟨r2,e2⟩
 rotate_left
 ·exact mq199
 rw [cd,R.bind_ok] at h
 intro a2 f9 ak
 have ge:=ak.hi
 obtain ⟨v2a,v2b,v2c,v2d,v2e⟩:=v2
 conv=>whnf
 refine ⟨L,ts2,ZU,rfl,ak,Or.inl ⟨rfl,rfl⟩,rfl,rfl,fun j hj bq=>?_,fun hj=>wN ?_⟩
 ·have ph:=ZaU hj
  have agv:j<6:=by simpa [ZU] using ph.2
  have ka:=bq.hi
  clear ph
  rcases j with _ | j
  ·conv=>whnf
   refine U9 ?_
   refine U9 ?_
   refine ⟨L,ts2.tail,Z5,rfl,bq,Or.inr ⟨rfl,rfl⟩,rfl,rfl,fun m hm gd=>?_,fun hm=>wN ?_⟩
   ·rw [Ze9 hj hm,R.bind_ok] at h
    have hml:=ZaU hm
    have agw:m<4:=by simpa [Z5] using hml.2
    have sb:=gd.hi
    clear hml
    rcases m with _ | m
    ·conv=>whnf
     refine U9 ?_
     refine U9 ?_
     rw [Tg rfl] at h
     rw [YV,Tg oM] at h
     refine ⟨L,ts2.tail.tail,rfl,gd,fun x qt=>?_⟩
     exact mq156
    conv=>whnf
    refine U9 ?_
    refine U9 ?_
    refine ZJX (fun _=>wN ?_) (fun g=>absurd g oM)
    rw [Tb oM] at h
    refine ⟨L,ts2.tail.tail,rfl,gd,ff,fun x lc=>?_⟩
    rcases x with ⟨v5,ts5⟩ | ⟨r5,e5⟩
    rotate_left
    ·exact mq184
    rw [lc,R.bind_ok] at h
    intro a5 ma gt
    have ux:=gt.hi
    obtain ⟨v5a,v5b,v5c,v5d,v5e⟩:=v5
    conv=>whnf
    refine ⟨rfl,rfl,Td rfl,Td rfl,wN ?_⟩
    repeat (refine ⟨rfl,?_⟩;conv=>whnf)
    refine ZJU (fun _=>wN ?_) (fun g=>absurd g oM)
    rw [YV,Tg oM] at h
    refine ⟨L,ts5,rfl,gt,fun x qt=>?_⟩
    exact mq156
   rw [ZiD hj hm,R.bind_ok] at h
   rw [Tb oM] at h
   refine ⟨L,ts2.tail,rfl,bq,ff,fun x lc=>?_⟩
   rcases x with ⟨v5,ts5⟩ | ⟨r5,e5⟩
   rotate_left
   ·exact mq184
   rw [lc,R.bind_ok] at h
   intro a5 ma gt
   have ux:=gt.hi
   obtain ⟨v5a,v5b,v5c,v5d,v5e⟩:=v5
   conv=>whnf
   refine ⟨rfl,rfl,Td rfl,Td rfl,wN ?_⟩
   repeat (refine ⟨rfl,?_⟩;conv=>whnf)
   rw [YV,Tb oM] at h
   exact h _ oM gt
  rw [Zfa hj,R.bind_ok] at h
  conv=>whnf
  refine U9 ?_
  refine U9 ?_
  refine ZJU (fun g=>absurd g oM) (fun _=>wN ?_)
  refine ZJX (fun _=>wN ?_) (fun g=>absurd g oM)
  rw [Tb oM] at h
  refine ⟨L,ts2.tail,rfl,bq,ff,fun x lc=>?_⟩
  rcases x with ⟨v5,ts5⟩ | ⟨r5,e5⟩
  rotate_left
  ·exact mq184
  rw [lc,R.bind_ok] at h
  intro a5 ma gt
  have ux:=gt.hi
  obtain ⟨v5a,v5b,v5c,v5d,v5e⟩:=v5
  conv=>whnf
  refine ⟨rfl,rfl,Td rfl,Td rfl,wN ?_⟩
  repeat (refine ⟨rfl,?_⟩;conv=>whnf)
  refine ZJU (fun g=>absurd g oM) (fun _=>wN ?_)
  rw [YV,Tb oM] at h
  exact h _ oM gt
 refine ⟨L,ts2,rfl,ak,wN ?_⟩
 rw [ZcG hj,R.bind_err] at h
 exact h _ _):P:=h
def mq1 {P:Prop} (h:P:=by
 conv=>whnf
 repeat (refine ⟨rfl,?_⟩;conv=>whnf)
 refine ⟨L,ts',rfl,ct,[[116,121,112,101]],rfl,sM,fun b vo=>?_⟩
 cases b with
 | true =>
  rw [Tg vo] at h
  have ak:=ct.tl (Jw vo)
  have ge:=ak.hi
  have fy:=ak.len
  conv=>whnf
  refine ⟨L,ts',rfl,ct,fun g=>wN ?_,fun g=>wN ?_⟩
  ·exact mq175
  have aj:¬tys.length=256:=by rw [Tf] at g;omega
  rw [Tb aj] at h
  refine ⟨L,ts'.tail,rfl,ak,fun x et=>?_⟩
  rcases x with ⟨v3,ts3⟩ | ⟨r3,e3⟩
  rotate_left
  ·exact mq172
  rw [et,R.bind_ok] at h
  intro a3 gk bq
  have ka:=bq.hi
  obtain ⟨v3a,v3b,v3c,v3d,v3e,v3f⟩:=v3
  conv=>whnf
  have jo:=bq.len
  repeat (refine ⟨rfl,?_⟩;conv=>whnf)
  refine ⟨TE.2 rfl,(show ((tys.map (Zv (Zc L en))).length+1) * 96<=2 ^ 47 by rw [Tf];omega),(show (tys.map (Zv (Zc L en))).length+1<=2 ^ 47 by rw [Tf];omega),wN ?_⟩
  repeat (refine ⟨rfl,?_⟩;conv=>whnf)
  refine ⟨⟨tys++[⟨v3a,v3b,v3c,v3d,v3e,v3f⟩],rels,rules,comps,inits,overs,a3,ts3,f,rfl,?_,bq,oM,oM,?_,h⟩,?_⟩
  ·rw [<- ZB (Zv (Zc L en)) tys];rfl
  ·simp only [Ta,TJ];omega
  exact mq166
 | false =>
 rw [Tb (by rw [vo];simp)] at h
 conv=>whnf
 refine ⟨L,ts',rfl,ct,[[100,101,99,108]],rfl,sM,fun b vp=>?_⟩
 cases b with
 | true =>
  rw [Tg vp] at h
  have ak:=ct.tl (Jw vp)
  have ge:=ak.hi
  have fy:=ak.len
  conv=>whnf
  refine ⟨L,ts',rfl,ct,fun g=>wN ?_,fun g=>wN ?_⟩
  ·exact mq175
  have aj:¬rels.length=256:=by rw [Tf] at g;omega
  rw [Tb aj] at h
  refine ⟨L,ts'.tail,rfl,ak,fun x et=>?_⟩
  rcases x with ⟨v3,ts3⟩ | ⟨r3,e3⟩
  rotate_left
  ·exact mq172
  rw [et,R.bind_ok] at h
  intro a3 gk bq
  have ka:=bq.hi
  obtain ⟨v3a,v3b,v3c,v3d,v3e,v3f⟩:=v3
  conv=>whnf
  have jo:=bq.len
  repeat (refine ⟨rfl,?_⟩;conv=>whnf)
  refine ⟨TE.2 rfl,(show ((rels.map (ZO (Zc L en))).length+1) * 56<=2 ^ 47 by rw [Tf];omega),(show (rels.map (ZO (Zc L en))).length+1<=2 ^ 47 by rw [Tf];omega),wN ?_⟩
  repeat (refine ⟨rfl,?_⟩;conv=>whnf)
  refine ⟨⟨tys,rels++[⟨v3a,v3b,v3c,v3d,v3e,v3f⟩],rules,comps,inits,overs,a3,ts3,f,rfl,?_,bq,oM,oM,?_,h⟩,?_⟩
  ·rw [<- ZB (ZO (Zc L en)) rels];rfl
  ·simp only [Ta,TJ];omega
  exact mq166
 | false =>
 rw [Tb (by rw [vp];simp)] at h
 conv=>whnf
 refine ⟨L,ts',rfl,ct,[[99,111,109,112]],rfl,sM,fun b vq=>?_⟩
 cases b with
 | true =>
  rw [Tg vq] at h
  have ak:=ct.tl (Jw vq)
  have ge:=ak.hi
  have fy:=ak.len
  conv=>whnf
  refine ⟨L,ts',rfl,ct,fun g=>wN ?_,fun g=>wN ?_⟩
  ·exact mq175
  have aj:¬comps.length=64:=by rw [Tf] at g;omega
  rw [Tb aj] at h
  refine ⟨L,ts'.tail,rfl,ak,ff,fun x et=>?_⟩
  rcases x with ⟨v3,ts3⟩ | ⟨r3,e3⟩
  rotate_left
  ·exact mq172
  rw [et,R.bind_ok] at h
  intro a3 gk bq
  have ka:=bq.hi
  obtain ⟨v3a,v3b,v3c,v3d,⟨v3g,v3h,v3i,v3j,v3k,v3l⟩,v3f⟩:=v3
  conv=>whnf
  have jo:=bq.len
  repeat (refine ⟨rfl,?_⟩;conv=>whnf)
  refine ⟨TE.2 rfl,(show ((comps.map (Wi (Zc L en))).length+1) * 232<=2 ^ 47 by rw [Tf];omega),(show (comps.map (Wi (Zc L en))).length+1<=2 ^ 47 by rw [Tf];omega),wN ?_⟩
  repeat (refine ⟨rfl,?_⟩;conv=>whnf)
  refine ⟨⟨tys,rels,rules,comps++[.mk v3a v3b v3c v3d (.mk v3g v3h v3i v3j v3k v3l) v3f],inits,overs,a3,ts3,f,rfl,?_,bq,oM,oM,?_,h⟩,?_⟩
  ·rw [<- ZB (Wi (Zc L en)) comps];rfl
  ·simp only [Ta,TJ];omega
  exact mq166
 | false =>
 rw [Tb (by rw [vq];simp)] at h
 conv=>whnf
 refine ⟨L,ts',rfl,ct,[[105,110,105,116]],rfl,sM,fun b vr=>?_⟩
 cases b with
 | true =>
  rw [Tg vr] at h
  have ak:=ct.tl (Jw vr)
  have ge:=ak.hi
  have fy:=ak.len
  conv=>whnf
  refine ⟨L,ts',rfl,ct,fun g=>wN ?_,fun g=>wN ?_⟩
  ·exact mq175
  have aj:¬inits.length=256:=by rw [Tf] at g;omega
  rw [Tb aj] at h
  refine ⟨L,ts'.tail,rfl,ak,wN ?_⟩
  rw [Zsz] at h
  refine ⟨L,ts'.tail,rfl,ak,fun x et=>?_⟩
  rcases x with ⟨v3,ts3⟩ | ⟨r3,e3⟩
  rotate_left
  ·rw [et,R.bind_err,R.bind_err] at h;intro a9 d9;(conv=>whnf);exact h _ _
  rw [et,R.bind_ok] at h
  intro a3 gk bq
  have ka:=bq.hi
  conv=>whnf
  refine ⟨L,ts3,rfl,bq,fun x mt=>?_⟩
  rcases x with ⟨v4,ts4⟩ | ⟨r4,e4⟩
  rotate_left
  ·rw [mt,R.bind_err,R.bind_err] at h;intro a9 d9;(conv=>whnf);exact h _ _
  rw [mt,R.bind_ok] at h
  intro a4 ni gd
  have sb:=gd.hi
  conv=>whnf
  refine ⟨L,ts4,rfl,gd,fun x lc=>?_⟩
  rcases x with ⟨v5,ts5⟩ | ⟨r5,e5⟩
  rotate_left
  ·rw [lc,R.bind_err,R.bind_err] at h;intro a9 d9;(conv=>whnf);exact h _ _
  rw [lc,R.bind_ok] at h
  intro a5 ma gt
  have ux:=gt.hi
  conv=>whnf
  refine ⟨L,ts5,rfl,gt,fun x qt=>?_⟩
  rcases x with ⟨v6,ts6⟩ | ⟨r6,e6⟩
  rotate_left
  ·rw [qt,R.bind_err,R.bind_err] at h;intro a9 d9;(conv=>whnf);exact h _ _
  rw [qt,R.bind_ok] at h
  intro a6 ye nz
  have hb6:=nz.hi
  conv=>whnf
  rw [R.bind_ok] at h
  have aev:=nz.len
  refine ⟨TE.2 rfl,(show ((inits.map (WG (Zc L en))).length+1) * 64<=2 ^ 47 by rw [Tf];omega),(show (inits.map (WG (Zc L en))).length+1<=2 ^ 47 by rw [Tf];omega),wN ?_⟩
  repeat (refine ⟨rfl,?_⟩;conv=>whnf)
  refine ⟨⟨tys,rels,rules,comps,inits++[⟨v3,v5,v6,ts'.tail.length⟩],overs,a6,ts6,f,rfl,?_,nz,oM,oM,?_,h⟩,?_⟩
  ·rw [<- ZB (WG (Zc L en)) inits];rfl
  ·simp only [Ta,TJ];omega
  show ((L.length:Int) - a6).toNat<((L.length:Int) - a').toNat
  omega
 | false =>
 rw [Tb (by rw [vr];simp)] at h
 conv=>whnf
 refine ⟨L,ts',rfl,ct,[[111,118,101,114,114,105,100,101]],rfl,sM,fun b vt=>?_⟩
 cases b with
 | true =>
  rw [Tg vt] at h
  have ak:=ct.tl (Jw vt)
  have ge:=ak.hi
  have fy:=ak.len
  conv=>whnf
  refine ⟨L,ts',rfl,ct,fun g=>wN ?_,fun g=>wN ?_⟩
  ·exact mq175
  have aj:¬overs.length=256:=by rw [Tf] at g;omega
  rw [Tb aj] at h
  refine ⟨L,ts'.tail,rfl,ak,wN ?_⟩
  rw [ZsA] at h
  refine ⟨L,ts'.tail,rfl,ak,fun x et=>?_⟩
  rcases x with ⟨v3,ts3⟩ | ⟨r3,e3⟩
  rotate_left
  ·rw [et,R.bind_err,R.bind_err] at h;intro a9 d9;(conv=>whnf);exact h _ _
  rw [et,R.bind_ok,R.bind_ok] at h
  intro a3 gk bq
  have ka:=bq.hi
  have jo:=bq.len
  conv=>whnf
  refine ⟨TE.2 rfl,(show ((overs.map (WH (Zc L en))).length+1) * 24<=2 ^ 47 by rw [Tf];omega),(show (overs.map (WH (Zc L en))).length+1<=2 ^ 47 by rw [Tf];omega),wN ?_⟩
  repeat (refine ⟨rfl,?_⟩;conv=>whnf)
  refine ⟨⟨tys,rels,rules,comps,inits,overs++[⟨v3,ts'.tail.length⟩],a3,ts3,f,rfl,?_,bq,oM,oM,?_,h⟩,?_⟩
  ·rw [<- ZB (WH (Zc L en)) overs];rfl
  ·simp only [Ta,TJ];omega
  exact mq166
 | false =>
 rw [Tb (by rw [vt];simp)] at h
 conv=>whnf
 refine ⟨L,ts',rfl,ct,fun b hn=>?_⟩
 cases b with
 | false =>
  rw [Tb (by rw [hn];simp)] at h
  conv=>whnf
  refine ⟨L,ts',rfl,ct,wN ?_⟩
  exact h _ _
 | true =>
 rw [Tg hn] at h
 conv=>whnf
 refine ⟨L,ts',rfl,ct,fun g=>wN ?_,fun g=>wN ?_⟩
 ·exact mq175
 have aj:¬rules.length=1024:=by rw [Tf] at g;omega
 rw [Tb aj] at h
 refine Zl ?_
 rw [show a'+1 - 1=a' by omega]
 refine ⟨L,ts',rfl,ct,ff,fun x et=>?_⟩
 rcases x with ⟨v3,ts3⟩ | ⟨r3,e3⟩
 rotate_left
 ·exact mq172
 rw [et,R.bind_ok] at h
 intro a3 gk bq
 have ka:=bq.hi
 obtain ⟨v3a,v3b,v3c,v3d⟩:=v3
 conv=>whnf
 have jo:=bq.len
 repeat (refine ⟨rfl,?_⟩;conv=>whnf)
 refine ⟨TE.2 rfl,(show ((rules.map (ZH (Zc L en))).length+1) * 72<=2 ^ 47 by rw [Tf];omega),(show (rules.map (ZH (Zc L en))).length+1<=2 ^ 47 by rw [Tf];omega),wN ?_⟩
 repeat (refine ⟨rfl,?_⟩;conv=>whnf)
 refine ⟨⟨tys,rels,rules++[⟨v3a,v3b,v3c,v3d⟩],comps,inits,overs,a3,ts3,f,rfl,?_,bq,oM,oM,?_,h⟩,?_⟩
 ·rw [<- ZB (ZH (Zc L en)) rules];rfl
 ·simp only [Ta,TJ];omega
 exact mq166):P:=h
def mq2 {P:Prop} (h:P:=by
 refine ⟨oM,oM,oM,wN ?_⟩
 have f7:cut s (((a:Int)+2)).toNat ((e:Int)).toNat=Zb (s.drop a):=by rw [hst.2];congr 1 <;> omega
 refine ⟨true,⟨⟨?_,?_⟩,rfl,rfl⟩,fun h5 nn=>?_,fun h5=>?_⟩
 ·exact (congrArg (fun l:Bs=>l.all (XT true)=true) f7).mpr ce
 ·exact (congrArg (fun l:Bs=>l.length<4294967281) f7).mpr (show _<_ by omega)
 ·have f8:Zb (s.drop a)=[]\/18446744073709551616<=WP 16 (Zb (s.drop a)):=by rw [<- f7];exact h5
  exact mq159
 have f8:¬(Zb (s.drop a)=[]\/18446744073709551616<=WP 16 (Zb (s.drop a))):=by rw [<- f7];exact h5
 simp only [not_or] at f8
 have uq:=Vu (s.drop (a+Zw (s.drop a)))
 have vu:=Vu (s.drop ((e:Int)).toNat)
 have wc:(pk (s.drop ((e:Int)).toNat)).1=(pk ((s.drop a).drop (Zw (s.drop a)))).1:=by rw [TU,<- hst.1];rfl
 have g6:ZP (s.drop a)=if Ze (pk ((s.drop a).drop (Zw (s.drop a)))).1=true\/Zk (pk ((s.drop a).drop (Zw (s.drop a)))).1=true\/(XZ (s.drop a)=true/\16<(Zb (s.drop a)).length) then none else some (WP 16 (Zb (s.drop a))):=by
  unfold ZP
  simp only [gg,if_true,Tx,if_false]
  rw [Tb f8.1,Tb f8.2]
 conv=>whnf
 refine ⟨⟨oM,oM⟩,wN ?_⟩
 refine ⟨⟨vu.1,oM⟩,wN ?_⟩
 refine ZJY (fun h6=>wN ?_) (fun h6=>wN ?_)
 ·exact mq186
 refine ZJY (fun h7=>wN ?_) (fun h7=>wN ?_)
 ·exact mq185
 have g7:¬Ze (pk ((s.drop a).drop (Zw (s.drop a)))).1=true/\¬Zk (pk ((s.drop a).drop (Zw (s.drop a)))).1=true:=by
  exact mq180
 refine Zl ?_
 refine ZJU (fun h8=>wN ?_) (fun h8=>wN ?_)
 ·(try (refine ⟨rfl,?_⟩;conv=>whnf))
  (try (refine ⟨rfl,?_⟩;conv=>whnf))
  exact dc (by rw [g6,Tg (.inr (.inr ⟨gg,oM⟩))])
 have g9:=dw _ (by rw [g6,Tb (by simp only [not_or];exact ⟨g7.1,g7.2,oM⟩)])
 rw [<- hst.1,<- f7] at g9
 exact Or.inr g9):P:=h
def mq3 {P:Prop} (h:P:=by
 have pb:¬(3<=a1/\a1<=8):=oM
 refine ZJU (fun adb=>wN ?_) (fun adb=>wN ?_)
 ·have h9:a1=9:=by omega
  refine ZJU (fun hr=>?_) (fun hr=>?_)
  rotate_left
  ·have ko:Xk a1 a2 a3.length a4.length=false:=by simp [Xk,h9,hr]
   conv=>whnf
   exact mq187
  conv=>whnf
  refine ZJU (fun hA=>?_) (fun hA=>?_)
  rotate_left
  ·have hA:¬a3.length=1:=fun g=>hA (by show ((Zs pl a3).length:Int)=1;rw [mb,g];rfl)
   have ko:Xk a1 a2 a3.length a4.length=false:=by simp [Xk,h9,hA]
   conv=>whnf
   exact mq187
  have hA:a3.length=1:=by have hA:((Zs pl a3).length:Int)=1:=hA;rw [mb] at hA;omega
  conv=>whnf
  refine ZJU (fun hB=>wN ?_) (fun hB=>wN ?_)
  ·have hB:=sm.1 hB
   have ko:Xk a1 a2 a3.length a4.length=true:=by simp [Xk,h9,hr,hA,hB]
   exact mq157
  have hB:¬0<a4.length:=fun g=>hB (sm.2 g)
  have ko:Xk a1 a2 a3.length a4.length=false:=by simp only [Xk,h9,hr,hA,decide_eq_false hB];simp
  exact mq187
 have zp:¬a1=9:=oM
 refine ZJU (fun hg9=>wN ?_) (fun hg9=>wN ?_)
 ·refine ZJU (fun adc=>wN ?_) (fun adc=>wN ?_)
  ·have vw:9<a1/\a1<=12:=by omega
   refine ZJU (fun hr=>?_) (fun hr=>?_)
   rotate_left
   ·have ko:Xk a1 a2 a3.length a4.length=false:=by simp [Xk,kc,pb,zp,vw,hr]
    conv=>whnf
    exact mq187
   conv=>whnf
   refine ZJU (fun hA=>?_) (fun hA=>?_)
   rotate_left
   ·have hA:¬a3.length=2:=fun g=>hA (by show ((Zs pl a3).length:Int)=2;rw [mb,g];rfl)
    have ko:Xk a1 a2 a3.length a4.length=false:=by simp [Xk,kc,pb,zp,vw,hA]
    conv=>whnf
    exact mq187
   have hA:a3.length=2:=by have hA:((Zs pl a3).length:Int)=2:=hA;rw [mb] at hA;omega
   conv=>whnf
   refine ZJU (fun hB=>wN ?_) (fun hB=>wN ?_)
   ·have hB:=sm.1 hB
    have ko:Xk a1 a2 a3.length a4.length=true:=by simp [Xk,kc,pb,zp,vw,hr,hA,hB]
    exact mq157
   have hB:¬0<a4.length:=fun g=>hB (sm.2 g)
   have ko:Xk a1 a2 a3.length a4.length=false:=by simp only [Xk,kc,pb,zp,vw,hr,hA,decide_eq_false hB];simp
   exact mq187
  have vw:¬(9<a1/\a1<=12):=by omega
  exact mq200
 have vw:¬(9<a1/\a1<=12):=oM
 exact mq200):P:=h
def mq4 {P:Prop} (h:P:=by
 refine ZJU (fun h1=>?_) (fun h1=>?_)
 rotate_left
 ·exact mq197
 conv=>whnf
 refine ZJU (fun h2=>wN ?_) (fun h2=>wN ?_)
 ·refine ZJU (fun h3=>wN ?_) (fun h3=>wN ?_)
  ·exact mq194
  refine ZJU (fun h5=>?_) (fun h5=>?_)
  rotate_left
  ·exact mq165
  have h5:a1=3:=oM
  have i5:(decide (a3=0) || decide (a1=3))=true:=by simp [h5]
  exact mq189
 refine ZJU (fun h6=>?_) (fun h6=>?_)
 rotate_left
 ·exact mq169
 have h6:(a4.length:Int)=a:=by rw [<- ir];exact h6
 conv=>whnf
 refine ZJU (fun h3=>wN ?_) (fun h3=>wN ?_)
 ·exact mq193
 refine ZJU (fun h5=>?_) (fun h5=>?_)
 rotate_left
 ·exact mq165
 have h5:a1=3:=oM
 have i5:(decide (a3=0) || decide (a1=3))=true:=by simp [h5]
 exact mq188):P:=h
def mq5 {P:Prop} (h:P:=by
 refine ⟨oM,oM,oM,wN ?_⟩
 have f7:cut s ((a:Int)).toNat ((e:Int)).toNat=Zb (s.drop a):=by rw [hst.2];congr 1 <;> omega
 refine ⟨false,⟨⟨?_,?_⟩,rfl,rfl⟩,fun h5 nn=>?_,fun h5=>?_⟩
 ·exact (congrArg (fun l:Bs=>l.all (XT false)=true) f7).mpr ce
 ·exact (congrArg (fun l:Bs=>l.length<4294967281) f7).mpr (show _<_ by omega)
 ·have f8:Zb (s.drop a)=[]\/9223372036854775808<=WP 10 (Zb (s.drop a)):=by rw [<- f7];exact h5
  exact mq159
 have f8:¬(Zb (s.drop a)=[]\/9223372036854775808<=WP 10 (Zb (s.drop a))):=by rw [<- f7];exact h5
 simp only [not_or] at f8
 have uq:=Vu (s.drop (a+Zw (s.drop a)))
 have vu:=Vu (s.drop ((e:Int)).toNat)
 have wc:(pk (s.drop ((e:Int)).toNat)).1=(pk ((s.drop a).drop (Zw (s.drop a)))).1:=by rw [TU,<- hst.1];rfl
 have g6:ZP (s.drop a)=if Ze (pk ((s.drop a).drop (Zw (s.drop a)))).1=true\/Zk (pk ((s.drop a).drop (Zw (s.drop a)))).1=true\/(XZ (s.drop a)=true/\16<(Zb (s.drop a)).length) then none else some (WP 10 (Zb (s.drop a))):=by
  unfold ZP
  simp only [gg,if_true,Tx,if_false]
  rw [Tb f8.1,Tb f8.2]
 conv=>whnf
 refine ⟨⟨oM,oM⟩,wN ?_⟩
 refine ⟨⟨vu.1,oM⟩,wN ?_⟩
 refine ZJY (fun h6=>wN ?_) (fun h6=>wN ?_)
 ·exact mq186
 refine ZJY (fun h7=>wN ?_) (fun h7=>wN ?_)
 ·exact mq185
 have g7:¬Ze (pk ((s.drop a).drop (Zw (s.drop a)))).1=true/\¬Zk (pk ((s.drop a).drop (Zw (s.drop a)))).1=true:=by
  exact mq180
 have g9:=dw _ (by rw [g6,Tb (by simp only [not_or];exact ⟨g7.1,g7.2,by rw [gg];simp⟩)])
 rw [<- hst.1,<- f7] at g9
 exact Or.inr g9):P:=h
def mq6 {P:Prop} (h:P:=by
 refine ZJU (fun h1=>?_) (fun h1=>?_)
 rotate_left
 ·exact mq197
 conv=>whnf
 refine ZJU (fun h2=>wN ?_) (fun h2=>wN ?_)
 ·exact mq160
 refine ZJU (fun h6=>?_) (fun h6=>?_)
 rotate_left
 ·exact mq169
 have h6:(a4.length:Int)=a:=by rw [<- ir];exact h6
 conv=>whnf
 exact mq160):P:=h
def mq7 {P:Prop} (h:P:=by
 unfold X3 at h
 split at h
 ·obtain ⟨pl,l,rfl,⟨rfl,hz,hn⟩,h⟩:=h
  refine pwv [] 0 false ?_
  refine ⟨pl,l,rfl,⟨rfl,rfl,hz,hn⟩,fun b hb=>wN ?_⟩
  exact h _ (by rw [<- hb,SR])
 exact h.elim):P:=h
def mq8 {P:Prop} (h:P:=by
 exact mq157):P:=h
def mq9 {P:Prop} (h:P:=by
 conv=>whnf
 refine ⟨⟨0,_,rfl,rfl,oM,oM,oM⟩,?_⟩
 intro vs σ hI
 obtain ⟨i,nn,rfl,rfl,hi,dl,fe⟩:=hI
 conv=>whnf
 refine ZJU (fun af=>?_) (fun af=>?_)
 rotate_left
 ·exact mq163
 have af:i<p2.length:=lzI fc af
 conv=>whnf
 refine ZJU (fun iv=>?_) (fun iv=>?_)
 rotate_left
 ·exact mq163
 conv=>whnf
 obtain ⟨eA,hA⟩:∃e,p2[i]=e:=⟨_,rfl⟩
 have hg:=Zu ZmN p2 i af
 obtain ⟨b1,b2,b3,b4,b5,b6⟩:=eA
 rw [hA] at hg
 simp only [ZmN] at hg
 have bj:(p2.map (ZO pl))[((i:Nat):Int).toNat]?=some (ZO pl ⟨b1,b2,b3,b4,b5,b6⟩):=by simp [af,hA]
 (repeat (first | (refine oiO ?_;conv=>whnf) | (refine ⟨_,oM,bj,?_⟩;conv=>whnf)))
 refine ⟨pl,b2,B,rfl,⟨⟨oM,oM⟩,oM,oM,hB⟩,fun r lv mg=>wN ?_⟩
 unfold bd3 at mg
 (repeat (refine ⟨rfl,?_⟩;conv=>whnf))
 (repeat (first | (refine oiO ?_;conv=>whnf) | (refine ⟨_,oM,bj,?_⟩;conv=>whnf)))
 refine ⟨⟨i+1,_,rfl,rfl,oM,oM,oM⟩,?_⟩
 show ((p2.length:Nat) - ((i:Int)+1)).toNat<((p2.length:Nat) - (i:Int)).toNat
 omega):P:=h
def mq10 {P:Prop} (h:P:=by
 refine ⟨⟨0,n+1,_,rfl,rfl,oM,⟨hM1,by rw [Si];omega⟩,hF⟩,?_⟩
 rintro w σ1 ⟨j,n1,M1,rfl,rfl,hj,⟨vj,ip⟩,ha⟩
 conv=>whnf
 refine ZJU (fun hc=>?_) (fun hc=>?_)
 rotate_left
 ·have hc:¬(j:Int)<((fs.map Zn).length:Int):=hc
  rw [Tf] at hc
  rw [TA oM] at ha
  have ha:M1=F:=ha
  subst ha
  conv=>whnf
  exact h
 have ab:j<fs.length:=by have hc:(j:Int)<((fs.map Zn).length:Int):=hc;rw [Tf] at hc;omega
 have av:j<eargs.length:=oM
 rw [Tq ab,Tq av] at ha
 simp only [Za9] at ha
 have hk:=rk j _ _ (Tc av) (Tc ab)
 have pa:(fs.map Zn)[(j:Int).toNat]?=some (Zn fs[j]):=by rw [Tn,Tk,Tc ab];rfl
 have np:(Zs pl eargs)[(j:Int).toNat]?=some (Z7 pl eargs[j]):=by rw [Zd,Tn,Tk,Tc av];rfl
 have dy:=Zu szE eargs j av
 have ia:=Zea (f:=szE) (Tc av)
 have hμ:((eargs.length:Int) - ((j:Int)+1)).toNat<((eargs.length:Int) - (j:Int)).toNat:=oM
 generalize fs[j]=f0 at ha hk pa
 generalize eargs[j]=x0 at ha hk np dy ia
 obtain ⟨f1,f2⟩:=f0
 obtain ⟨x1,x2,x3,x4,x5⟩:=x0
 conv=>whnf
 refine ⟨_,oM,pa,wN ?_⟩
 refine ⟨_,oM,np,wN ?_⟩
 refine ⟨oM,pl,p,r,vs,more,.mk x1 x2 x3 x4 x5,M1,n1,rfl,rfl,rfl,hp,⟨oM,oM⟩,hk,⟨vj,oM⟩,wN ?_⟩
 have hM3:=Zb8 (wiE p (.mk x1 x2 x3 x4 x5) f2) vj
 have hwl:=Zjb p (.mk x1 x2 x3 x4 x5) f2
 rw [Vi,List.foldl_append] at ha
 (repeat (refine ⟨rfl,?_⟩;conv=>whnf))
 refine Zl ?_
 exact ⟨⟨j+1,n1+(wiE p (.mk x1 x2 x3 x4 x5) f2).length,_,rfl,rfl,oM,⟨hM3,oM⟩,ha⟩,hμ⟩):P:=h
def mq11 {P:Prop} (h:P:=by
 have jd:=Zki hd oM
 conv=>whnf
 refine ZJU (fun g1=>wN ?_) (fun g1=>?_)
 ·refine ZJU (fun g2=>wN ?_) (fun g2=>?_)
  ·refine U9 ?_
   refine U9 ?_
   have hD:(Zip b:Int)=Zh .or .u8 (b.toNat:Int) 32 - 97+10:=oM
   refine U9 ?_
   refine ZJU (fun h6=>?_) (fun h6=>wN ?_)
   ·omega
   refine ZJU (fun h7=>wN ?_) (fun h7=>wN ?_)
   ·exact rz oM
   refine ZeQ ?_
   refine ZeQ ?_
   refine ZeQ ?_
   by_cases cy:(N:Int) * 16+(Zh .or .u8 (b.toNat:Int) 32 - 97+10)<=18446744073709551615
   ·refine ZeQ ?_
    refine ZJU (fun h8=>?_) (fun h8=>wN ?_)
    ·omega
    refine ZJU (fun h9=>wN ?_) (fun h9=>wN ?_)
    ·exact rz oM
    refine Zl ?_
    refine ⟨⟨rfl,i+1,?_,oM,oM⟩,?_⟩
    ·have e:((WP 16 (l.take (i+1)):Nat):Int)=(N:Int) * 16+(Zh .or .u8 (b.toNat:Int) 32 - 97+10):=by omega
     rw [e];rfl
    exact mq182
   have hw:IntKind.u64.wrap ((N:Int) * 16+(Zh .or .u8 (b.toNat:Int) 32 - 97+10))=(N:Int) * 16+(Zh .or .u8 (b.toNat:Int) 32 - 97+10) - 18446744073709551616:=by
    exact mq195
   exact mq192
  omega
 omega):P:=h
def mq12 {P:Prop} (h:P:=by
 refine ⟨⟨0,rfl,rfl,oM,hX⟩,?_⟩
 rintro w σ1 ⟨j,rfl,rfl,hj,ha⟩
 conv=>whnf
 refine ZJU (fun hc=>?_) (fun hc=>?_)
 rotate_left
 ·have hc:¬(j:Int)<((fs.map Zn).length:Int):=hc
  rw [Tf] at hc
  rw [TA oM] at ha
  have ha:none=X:=ha
  subst ha
  conv=>whnf
  exact h
 have ab:j<fs.length:=by have hc:(j:Int)<((fs.map Zn).length:Int):=hc;rw [Tf] at hc;omega
 have av:j<eargs.length:=oM
 rw [Tq ab,Tq av] at ha
 simp only [Za9] at ha
 have hk:=rk j _ _ (Tc av) (Tc ab)
 have pa:(fs.map Zn)[(j:Int).toNat]?=some (Zn fs[j]):=by rw [Tn,Tk,Tc ab];rfl
 have np:(Zs pl eargs)[(j:Int).toNat]?=some (Z7 pl eargs[j]):=by rw [Zd,Tn,Tk,Tc av];rfl
 have dy:=Zu szE eargs j av
 have hμ:((eargs.length:Int) - ((j:Int)+1)).toNat<((eargs.length:Int) - (j:Int)).toNat:=oM
 generalize fs[j]=f0 at ha hk pa
 generalize eargs[j]=x0 at ha hk np dy
 obtain ⟨f1,f2⟩:=f0
 obtain ⟨x1,x2,x3,x4,x5⟩:=x0
 conv=>whnf
 refine ⟨_,oM,pa,wN ?_⟩
 refine ⟨_,oM,np,wN ?_⟩
 refine ⟨oM,pl,p,r,vs,more,.mk x1 x2 x3 x4 x5,M,kn,rfl,rfl,rfl,hp,⟨oM,oM⟩,hk,lx,fun y hy=>?_⟩
 rw [VE,hy] at ha
 cases y with
 | some ae =>
  obtain ⟨a,e⟩:=ae
  simp only [orF] at ha
  subst ha
  simp only [FlK] at h |-
  conv=>whnf
  exact h
 | none =>
 simp only [FlK,orF] at ha |-
 conv=>whnf
 (repeat (refine ⟨rfl,?_⟩;conv=>whnf))
 refine Zl ?_
 exact ⟨⟨j+1,rfl,rfl,oM,ha⟩,hμ⟩):P:=h
def mq13 {P:Prop} (h:P:=by
 refine ⟨⟨0,_,b1,b2,b3,b4,b5,b6,rfl,rfl,⟨oM,oM⟩,oM,oM⟩,?_⟩
 intro vs' σ' za
 obtain ⟨j,n2,c1,c2,c3,c4,c5,c6,rfl,rfl,⟨hj,wa⟩,zb,zd⟩:=za
 conv=>whnf
 have vd:(c5.map Zy).length=c5.length:=Tf ..
 have hs5:=Zo ZlN c5
 refine ZJU (fun iw=>?_) (fun iw=>?_)
 rotate_left
 ·exact mq183
 have iw:j<c5.length:=lzI vd iw
 conv=>whnf
 refine ZJU (fun rt=>?_) (fun rt=>?_)
 rotate_left
 ·exact mq183
 conv=>whnf
 obtain ⟨eC,hC⟩:∃e,c5[j]=e:=⟨_,rfl⟩
 have hgc:=Zu ZlN c5 j iw
 obtain ⟨d1,d2⟩:=eC
 rw [hC] at hgc
 simp only [ZlN] at hgc
 have bj:(c5.map Zy)[((j:Nat):Int).toNat]?=some (Zy ⟨d1,d2⟩):=by simp [iw,hC]
 (repeat (first | (refine oiO ?_;conv=>whnf) | (refine ⟨_,oM,bj,?_⟩;conv=>whnf)))
 refine ⟨pl,d2,B,rfl,⟨⟨oM,oM⟩,oM,oM,hB⟩,fun r lv mg=>wN ?_⟩
 unfold bd3 at mg
 (repeat (refine ⟨rfl,?_⟩;conv=>whnf))
 (repeat (first | (refine oiO ?_;conv=>whnf) | (refine ⟨_,oM,bj,?_⟩;conv=>whnf)))
 refine ⟨⟨j+1,_,c1,c2,c3,c4,c5,c6,rfl,rfl,⟨oM,wa⟩,oM,oM⟩,?_⟩
 show ((B:Nat) - ((j:Int)+1)).toNat<((B:Nat) - (j:Int)).toNat
 omega):P:=h
def mq14 {P:Prop} (h:P:=by
 refine ⟨fun _=>0,a1,rfl,⟨by simp only [wBs];omega,oM⟩,fun b dl=>?_⟩
 cases b with
 | false =>
  conv=>whnf
  exact h _ (by simp [Yy,dl])
 | true =>
 conv=>whnf
 refine ⟨pl,a2,rfl,⟨rfl,oM,oM⟩,fun b ic=>?_⟩
 cases b with
 | false =>
  conv=>whnf
  exact h _ (by simp [Yy,dl,ic])
 | true =>
 conv=>whnf
 refine ⟨pl,a4,rfl,⟨rfl,oM,oM⟩,fun b gz=>?_⟩
 cases b with
 | false =>
  conv=>whnf
  exact h _ (by simp [Yy,dl,ic,gz])
 | true =>
 conv=>whnf
 refine ⟨pl,.mk u1 u2 u3 u4 u5 u6,rfl,⟨oM,oM⟩,fun b hu=>wN ?_⟩
 exact h _ (by simp only [Yy,lu,dl,ic,gz,hu,T2])):P:=h
def mq15 {P:Prop} (h:P:=by
 rcases x with ⟨v3,ts3⟩ | ⟨r3,e3⟩
 rotate_left
 ·exact mq172
 rw [et,R.bind_ok] at h
 intro a3 gk bq
 have ka:=bq.hi
 conv=>whnf
 refine Zl ?_
 rw [T7]
 exact h _ oM bq):P:=h
def mq16 {P:Prop} (h:P:=by
 cases b with
 | false =>
  rw [Zm,Tb (by rw [ek];simp),R.bind_err] at h
  exact mq201
 | true =>
 rw [Zm,Tg ek] at h
 conv=>whnf
 refine ZJU (fun hc=>wN ?_) (fun hc=>wN ?_)
 ·rw [Tg oM,R.bind_err] at h
  refine ⟨L,ts,rfl,ho,wN ?_⟩
  exact h _ _
 rw [Tb oM] at h
 refine ⟨L,ts,rfl,ho,fun x hx=>?_⟩
 rw [ZM,Tg ek] at hx
 subst hx
 intro a1 ee aw
 have cq:=aw.hi
 conv=>whnf
 refine Zl ?_
 refine ⟨_,fun _ _ h=>h,Td rfl,wN ?_⟩
 refine ⟨L,ts.tail,rfl,aw,⟨oM,oM,oM⟩,fun x cd=>?_⟩
 rcases x with ⟨v2,ts2⟩ | ⟨r2,e2⟩
 rotate_left
 ·exact mq199
 rw [cd,R.bind_ok] at h
 intro a2 f9 ak
 have ge:=ak.hi
 obtain ⟨v2a,v2b,v2c,v2d,v2e⟩:=v2
 conv=>whnf
 repeat (refine ⟨rfl,?_⟩;conv=>whnf)
 rw [Tg rfl,R.bind_ok] at h
 refine Zl ?_
 rw [T7]
 exact h _ oM ak):P:=h
def mq17 {P:Prop} (h:P:=by
 refine ⟨L,ts1,rfl,aw,ff,fun x hx=>?_⟩
 rw [hx] at step
 cases x with
 | err r e =>
  exact mq173
 | ok v ts2 =>
 rw [R.bind_ok] at step
 intro a2 am ak
 have fc:=ak.len
 have qv:=ak.hi
 obtain ⟨v1,v2,v3,v4,v5⟩:=v
 conv=>whnf
 refine ⟨TE.2 rfl,(show ((l.map (XD (Zc L en))).length+1) * 80<=2 ^ 47 by rw [Tf];omega),(show (l.map (XD (Zc L en))).length+1<=2 ^ 47 by rw [Tf];omega),wN ?_⟩
 refine ⟨L,ts2,rfl,ak,[[44]],rfl,sM,fun hw bq=>wN ?_,fun hw=>wN ?_⟩
 ·rw [Tg hw] at step
  have mb:=bq.len
  refine ⟨⟨_,a2+1,ts2.tail,f,congrArg (fun r=>[PV.sl 0 75 r]) (ZB (XD (Zc L en)) l (.mk v1 v2 v3 v4 v5)),rfl,bq,by simp only [Ta,TJ];omega,oM,step⟩,?_⟩
  exact mq171
 rw [Tb (by rw [hw];simp)] at step
 rw [step] at h
 exact Zvb (h a2 oM ak) (congrArg (fun r=>PEnd.ret (PV.d (D.sl r))) (ZB (XD (Zc L en)) l (.mk v1 v2 v3 v4 v5)).symm) rfl):P:=h
def mq18 {P:Prop} (h:P:=by
 refine ⟨L,ts1,rfl,aw,ff,fun x hx=>?_⟩
 rw [hx] at step
 cases x with
 | err r e =>
  exact mq173
 | ok v ts2 =>
 rw [R.bind_ok] at step
 intro a2 am ak
 have fc:=ak.len
 have qv:=ak.hi
 obtain ⟨v1,v2,v3,v4,v5⟩:=v
 conv=>whnf
 refine ⟨TE.2 rfl,(show ((l.map (Z7 (Zc L en))).length+1) * 64<=2 ^ 47 by rw [Tf];omega),(show (l.map (Z7 (Zc L en))).length+1<=2 ^ 47 by rw [Tf];omega),wN ?_⟩
 refine ⟨L,ts2,rfl,ak,[[44]],rfl,sM,fun hw bq=>wN ?_,fun hw=>wN ?_⟩
 ·rw [Tg hw] at step
  have mb:=bq.len
  refine ⟨⟨_,a2+1,ts2.tail,f,congrArg (fun r=>[PV.sl 0 59 r]) (ZB (Z7 (Zc L en)) l (.mk v1 v2 v3 v4 v5)),rfl,bq,by simp only [Ta,TJ];omega,oM,step⟩,?_⟩
  exact mq171
 rw [Tb (by rw [hw];simp)] at step
 rw [step] at h
 exact Zvb (h a2 oM ak) (congrArg (fun r=>PEnd.ret (PV.d (D.sl r))) (ZB (Z7 (Zc L en)) l (.mk v1 v2 v3 v4 v5)).symm) rfl):P:=h
def mq19 {P:Prop} (h:P:=by
 exact mq172):P:=h
def mq20 {P:Prop} (h:P:=by
 refine ⟨L,ts1,rfl,aw,fun x hx=>?_⟩
 rw [hx] at step
 cases x with
 | err r e =>
  exact mq173
 | ok v ts2 =>
 rw [R.bind_ok] at step
 intro a2 am ak
 have fc:=ak.len
 have qv:=ak.hi
 obtain ⟨v1,v2⟩:=v
 conv=>whnf
 refine ⟨TE.2 rfl,(show ((l.map (Zy)).length+1) * 40<=2 ^ 47 by rw [Tf];omega),(show (l.map (Zy)).length+1<=2 ^ 47 by rw [Tf];omega),wN ?_⟩
 refine ⟨L,ts2,rfl,ak,[[124]],rfl,sM,fun hw bq=>wN ?_,fun hw=>wN ?_⟩
 ·rw [Tg hw] at step
  have mb:=bq.len
  refine ⟨⟨_,a2+1,ts2.tail,f,congrArg (fun r=>[PV.sl 0 45 r]) (ZB (Zy) l _),rfl,bq,by simp only [Ta,TJ];omega,oM,step⟩,?_⟩
  exact mq171
 rw [Tb (by rw [hw];simp)] at step
 rw [step] at h
 exact Zvb (h a2 oM ak) (congrArg (fun r=>PEnd.ret (PV.d (D.sl r))) (ZB (Zy) l _).symm) rfl):P:=h
def mq21 {P:Prop} (h:P:=by
 refine ⟨L,ts1,rfl,aw,fun x hx=>?_⟩
 rw [hx] at step
 cases x with
 | err r e =>
  exact mq173
 | ok v ts2 =>
 rw [R.bind_ok] at step
 intro a2 am ak
 have fc:=ak.len
 have qv:=ak.hi
 obtain ⟨v1,v2⟩:=v
 conv=>whnf
 refine ⟨TE.2 rfl,(show ((l.map (Zn)).length+1) * 32<=2 ^ 47 by rw [Tf];omega),(show (l.map (Zn)).length+1<=2 ^ 47 by rw [Tf];omega),wN ?_⟩
 refine ⟨L,ts2,rfl,ak,[[44]],rfl,sM,fun hw bq=>wN ?_,fun hw=>wN ?_⟩
 ·rw [Tg hw] at step
  have mb:=bq.len
  refine ⟨⟨_,a2+1,ts2.tail,f,congrArg (fun r=>[PV.sl 0 56 r]) (ZB (Zn) l _),rfl,bq,by simp only [Ta,TJ];omega,oM,step⟩,?_⟩
  exact mq171
 rw [Tb (by rw [hw];simp)] at step
 rw [step] at h
 exact Zvb (h a2 oM ak) (congrArg (fun r=>PEnd.ret (PV.d (D.sl r))) (ZB (Zn) l _).symm) rfl):P:=h
def mq22 {P:Prop} (h:P:=by
 refine ⟨L,ts1,rfl,aw,fun x hx=>?_⟩
 rw [hx] at step
 cases x with
 | err r e =>
  exact mq173
 | ok v ts2 =>
 rw [R.bind_ok] at step
 intro a2 am ak
 have fc:=ak.len
 have qv:=ak.hi
 skip
 conv=>whnf
 refine ⟨TE.2 rfl,(show ((l.map (YF)).length+1) * 16<=2 ^ 47 by rw [Tf];omega),(show (l.map (YF)).length+1<=2 ^ 47 by rw [Tf];omega),wN ?_⟩
 refine ⟨L,ts2,rfl,ak,[[44]],rfl,sM,fun hw bq=>wN ?_,fun hw=>wN ?_⟩
 ·rw [Tg hw] at step
  have mb:=bq.len
  refine ⟨⟨_,a2+1,ts2.tail,f,congrArg (fun r=>[PV.sl 0 9 r]) (ZB (YF) l _),rfl,bq,by simp only [Ta,TJ];omega,oM,step⟩,?_⟩
  exact mq171
 rw [Tb (by rw [hw];simp)] at step
 rw [step] at h
 exact Zvb (h a2 oM ak) (congrArg (fun r=>PEnd.ret (PV.d (D.sl r))) (ZB (YF) l _).symm) rfl):P:=h
def mq23 {P:Prop} (h:P:=by
 refine ⟨fun _=>0,a2,rfl,⟨by simp only [wBs];omega,oM⟩,fun b dl=>?_⟩
 cases b with
 | false =>
  conv=>whnf
  exact h _ (by simp [Yl,mf,dl])
 | true =>
 conv=>whnf
 refine ⟨pl,a4,rfl,⟨rfl,oM,oM⟩,fun b ic=>?_⟩
 cases b with
 | false =>
  conv=>whnf
  exact h _ (by simp [Yl,mf,dl,ic])
 | true =>
 conv=>whnf
 refine ⟨pl,a5,rfl,⟨rfl,oM,oM⟩,fun b gz=>wN ?_⟩
 exact h _ (by simp only [Yl,mf,dl,ic,gz,T2])):P:=h
def mq24 {P:Prop} (h:P:=by
 refine Zl ?_
 exact mq191):P:=h
def mq25 {P:Prop} (h:P:=by
 rw [hp,T2] at hs
 conv=>whnf
 refine Zl ?_
 refine ⟨⟨i+1,rfl,rfl,oM,hs⟩,?_⟩
 exact lzM oM):P:=h
def mq26 {P:Prop} (h:P:=by
 exact ⟨_,h,by rw [Ye,Op.equalIn];simp [Za dz],ZN rfl,rfl⟩):P:=h
def mq27 {P:Prop} (h:P:=by
 refine ⟨sM,fun r hr=>by rw [(List.mem_replicate.1 hr).2],fun a b y u hb hy hu=>?_⟩
 by_cases ha:a<n
 ·have ab:a * zero.length+b<n * zero.length:=by
   calc a * zero.length+b<a * zero.length+zero.length:=by omega
    _=(a+1) * zero.length:=by rw [Sx,Nat.one_mul]
    _<=n * zero.length:=T9 _ ha
  have hm:(a * zero.length+b) % z.cells.size=b:=by rw [wa,Nat.mul_comm,Nat.mul_add_mod,Nat.mod_eq_of_lt hb]
  rw [TB,Array.getElem?_map,Array.getElem?_range,Tg ab] at hu
  simp only [So,hm,Option.some.injEq] at hu
  have y9:b<z.cells.size:=oM
  rw [getElem!_pos z.cells b y9] at hu
  have cm:b<(T.get el).zero.length:=oM
  have:=nd b _ u (Tc cm) (by rw [TB,TC y9,hu])
  rw [Sm,Tg ha] at hy
  simp only [Option.bind_some] at hy
  exact WY (cf b _ y (Tc cm) hy) this.1
 rw [Sm,Tb ha] at hy;cases hy):P:=h
def mq28 {P:Prop} (h:P:=by
 exact mq201):P:=h
def mq29 {P:Prop} (h:P:=by
 have af:l.length<=i:=lzG aa af
 rw [Ve _ af] at hs
 exact h _ (by rw [hs];simp)):P:=h
def mq30 {P:Prop} (h:P:=by
 conv=>whnf
 refine Zl ?_
 refine ⟨⟨i+1,_,rfl,(by rw [fj,hT];simp only [Tj];rfl),.inr rfl,oM⟩,?_⟩
 exact lzM oM):P:=h
def mq31 {P:Prop} (h:P:=by
 generalize l[j]=x at hs hr
 obtain ⟨x1,x2,x3,x4,x5,x6⟩:=x
 conv=>whnf
 refine ⟨_,oM,hr,wN ?_⟩
 refine ⟨pl,_,rfl,wN ?_⟩
 refine ZJ2 (fun v hv=>?_) (fun hv=>wN ?_)
 ·rw [ZX] at hv
  obtain ⟨n,hn,rfl⟩:=TF.1 hv
  rw [Tb (by rw [show lkM _ _=some n from hn];simp)] at hs
  conv=>whnf
  refine Zl ?_
  exact ⟨⟨j+1,rfl,by rw [hs];rfl,oM⟩,by show ((l.length:Int) - ((j:Int)+1)).toNat<((l.length:Int) - (j:Int)).toNat;omega⟩
 rw [ZX,Option.map_eq_none_iff] at hv
 rw [Tg (by rw [show lkM _ _=none from hv];rfl)] at hs
 refine ⟨pl,_,rfl,wN ?_⟩
 refine Zl ?_
 exact ⟨⟨j+1,rfl,by rw [hs,<- UX];rfl,oM⟩,by show ((l.length:Int) - ((j:Int)+1)).toNat<((l.length:Int) - (j:Int)).toNat;omega⟩):P:=h
def mq32 {P:Prop} (h:P:=by
 intro j x hx
 have hj:=(Ti.1 hx).1
 have cj:(Zi l)[j]?=some [.int .u8 x.toNat]:=by simp [Zi,hx]
 generalize hrr:Zi l=rr at hd cj
 have aa:rr.length=l.length:=by rw [<- hrr];simp [Zi]
 generalize hvv:Value.slice (some ⟨g,0,none⟩) l.length cap=vv at hd
 cases hd with
 | slnil=>simp at cj
 | slz=>simp at cj
 | sl _ _ _ _ sz u hcap hsz hc ho hu =>
 simp only [Value.slice.injEq,Option.some.injEq,Addr.mk.injEq] at hvv
 obtain ⟨⟨rfl,rfl,_⟩,_,rfl⟩:=hvv
 have jb:sz=1:=by
  have:=hsz _ (T4 cj);simpa using this.symm
 subst jb
 have h1:=hc j 0 oM oM
 have h2:=hu j 0 (.int .u8 x.toNat) (by rw [cj];rfl)
 generalize huu:u j 0=uu at h1 h2;cases h2
 simpa using h1):P:=h
def mq33 {P:Prop} (h:P:=by
 have h:=h rfl
 conv=>whnf
 refine ⟨_,oM,hr,wN ?_⟩
 refine ZJX (fun hq=>wN ?_) (fun hq=>wN ?_)
 ·have hq:¬d2.length=eargs.length:=by have hq:¬((d2.map Zn).length:Int)=((Zs pl eargs).length:Int):=hq;rw [Tf,am] at hq;omega
  have h:=h _ rfl
  rw [Tg hq] at h
  exact h
 have hq:d2.length=eargs.length:=by have hq:((d2.map Zn).length:Int)=((Zs pl eargs).length:Int):=hq;rw [Tf,am] at hq;omega
 rw [Tb (fun g=>g hq)] at h
 refine ⟨pl,p,r,vs,more,rfl,hp,eargs,rfl,rfl,⟨hz,hm⟩,fun x hx=>?_⟩
 have h:=h x hx
 cases x with
 | none=>simp only [RtK] at h |-;(conv=>whnf);exact h
 | some ae=>obtain ⟨a,e⟩:=ae;simp only [RtK] at h |-;(conv=>whnf);exact h):P:=h
def mq34 {P:Prop} (h:P:=by
 refine ⟨pl,p,r,vs,more,rfl,hp,.mk x1 x2 x3 x4 x5,rfl,⟨dy,hm⟩,fun f hg=>?_⟩
 cases f with
 | none =>
  have:=lj hg
  simp only [RtK]
  conv=>whnf
  refine Zl ?_
  exact ⟨⟨j+1,rfl,rfl,oM,this⟩,hμ⟩
 | some ae =>
 obtain ⟨a,e⟩:=ae
 have:=dc _ hg
 subst this
 simp only [RtK] at h |-
 conv=>whnf
 exact h):P:=h
def mq35 {P:Prop} (h:P:=by
 have hk:=(Ti.1 hx).1
 have gf:k<vs.size:=oM
 have:(vs++Array.replicate (fn.ntmps - vs.size) undef).getD (0+k) Go.undef=vs[k]:=by
  simp [Array.getD,Array.getElem_append,gf]
  intro h;omega
 rw [this]
 exact ah.2 k x _ hx (TC gf)):P:=h
def mq36 {P:Prop} (h:P:=by
 have e:Zi (Lib.encodeRune c)=[[D.int .u8 (Zh .or .u8 224 (IntKind.u8.wrap (c.fdiv (2 ^ min (Int.toNat 12) IntKind.i32.bits))))],[D.int .u8 (Zh .or .u8 128 (Zh .and .u8 (IntKind.u8.wrap (c.fdiv (2 ^ min (Int.toNat 6) IntKind.i32.bits))) 63))],[D.int .u8 (Zh .or .u8 128 (Zh .and .u8 (IntKind.u8.wrap (c)) 63))]]:=by
  rw [WQ,Lib.encodeRuneZ_three oM]
  simp only [e6,e12,e18,wu8,Tz,TN]
  rw [ZIE oM oM,a63 oM oM,a63 oM oM,Zyd oM oM,Zyd oM oM,show c / 4096 % 256=c / 4096 by omega,show c / 64 % 256 % 64=c / 64 % 64 by omega,show c % 256 % 64=c % 64 by omega]
  all_goals (try omega)
  (try (congr 1 <;> omega))
 rw [e] at h;exact h):P:=h
def mq37 {P:Prop} (h:P:=by
 simp only [Znq] at ha
 cases b with
 | true =>
  conv=>whnf
  rw [Tg hb] at ha
  exact h j ha.symm
 | false =>
 conv=>whnf
 rw [Tb (fun g=>Bool.noConfusion (hb.symm.trans g))] at ha
 refine Zl ?_
 exact ⟨⟨j+1,rfl,rfl,oM,ha⟩,by show ((l.length:Int) - ((j:Int)+1)).toNat<((l.length:Int) - (j:Int)).toNat;omega⟩):P:=h
def mq38 {P:Prop} (h:P:=by
 conv=>whnf
 obtain ⟨eC,hC⟩:∃e,ar[j]=e:=⟨_,rfl⟩
 have hgc:=Zu szE ar j iw
 obtain ⟨c1,c2,c3,c4,c5⟩:=eC
 rw [hC] at hgc
 have cu:(Zs pl ar)[((j:Nat):Int).toNat]?=some (Z7 pl (.mk c1 c2 c3 c4 c5)):=by rw [Zd];simp [iw,hC]
 (repeat (first | (refine ⟨_,oM,bj,?_⟩;conv=>whnf) | (refine ⟨_,oM,cu,?_⟩;conv=>whnf) | (refine oiO ?_;conv=>whnf)))
 refine ⟨pl,.mk c1 c2 c3 c4 c5,B,rfl,⟨⟨oM,oM⟩,oM,oM,hB⟩,fun r lv mg=>wN ?_⟩
 unfold bd2 at mg
 refine Zl ?_
 refine Zl ?_
 refine ⟨⟨j+1,_,rfl,rfl,oM,oM,oM⟩,?_⟩
 show ((B:Nat) - ((j:Int)+1)).toNat<((B:Nat) - (j:Int)).toNat
 omega):P:=h
def mq39 {P:Prop} (h:P:=by
 conv=>whnf
 refine ⟨fun _=>0,a1,rfl,⟨by simp only [wBs];omega,oM⟩,fun b dl=>?_⟩
 cases b with
 | false =>
  conv=>whnf
  exact h _ (by simp [Yy,dl])
 | true =>
 conv=>whnf
 refine ⟨pl,a2,rfl,⟨rfl,oM,oM⟩,fun b ic=>?_⟩
 cases b with
 | false =>
  conv=>whnf
  exact h _ (by simp [Yy,dl,ic])
 | true =>
 conv=>whnf
 refine ⟨pl,a4,rfl,⟨rfl,oM,oM⟩,fun b gz=>?_⟩
 cases b with
 | false =>
  conv=>whnf
  exact h _ (by simp [Yy,dl,ic,gz])
 | true =>
 conv=>whnf
 exact h _ (by simp only [Yy,lu,T3,Bool.and_false])):P:=h
def mq40 {P:Prop} (h:P:=by
 have e:YX (s.drop a.toNat)=2:=by
  have:twos.any (Lib.hasPrefix (s.drop a.toNat))=true:=by simp [twos,h2]
  simp [YX,this]
 rw [e] at h
 exact h):P:=h
def mq41 {P:Prop} (h:P:=by
 rcases x with ⟨v8,ts8⟩ | ⟨r8,e8⟩
 rotate_left
 ·rw [wq,R.bind_err] at h;intro a9 d9;(conv=>whnf);exact h _ _
 rw [wq,R.bind_ok] at h
 intro a8 ade zq
 have hb8:=zq.hi
 obtain ⟨v8a,v8b,v8c,v8d,v8e,v8f⟩:=v8
 conv=>whnf
 rw [Tb sM] at h
 refine ⟨L,ts8,rfl,zq,fun x zt=>?_⟩
 rcases x with ⟨v9,ts9⟩ | ⟨r9,e9⟩
 rotate_left
 ·rw [zt,R.bind_err,R.bind_err] at h;intro a9 d9;(conv=>whnf);exact h _ _
 rw [zt,R.bind_ok,R.bind_ok] at h
 intro a9 adf gu
 have sc:=gu.hi
 conv=>whnf
 refine Zl ?_
 rw [T7]
 exact h _ oM gu):P:=h
def mq42 {P:Prop} (h:P:=by
 rw [hp,T3] at hs
 conv=>whnf
 exact h _ (by rw [hs];simp;try omega)):P:=h
def mq43 {P:Prop} (h:P:=by
 exact mq184):P:=h
def mq44 {P:Prop} (h:P:=by
 exact mq199):P:=h
def mq45 {P:Prop} (h:P:=by
 have aq:u.drop i=[]:=TA oM
 have g1:Wl (s.drop a)=.err 0:=by rw [<- ib];simp [ZE,aq]
 (try (refine ⟨rfl,?_⟩;conv=>whnf))
 (try (refine ⟨rfl,?_⟩;conv=>whnf))
 exact dc _ g1):P:=h
def mq46 {P:Prop} (h:P:=by
 rcases x with ⟨v11,ts11⟩ | ⟨r11,e11⟩
 rotate_left
 ·rw [kb,R.bind_err] at h;intro a9 d9;(conv=>whnf);exact h _ _
 rw [kb,R.bind_ok] at h
 intro a11 se lf
 have yk:=lf.hi
 conv=>whnf
 refine ⟨L,ts11,rfl,lf,⟨ff,sM⟩,fun x lg=>?_⟩
 rcases x with ⟨v12,ts12⟩ | ⟨r12,e12⟩
 rotate_left
 ·rw [lg,R.bind_err] at h;intro a9 d9;(conv=>whnf);exact h _ _
 rw [lg,R.bind_ok] at h
 intro a12 si lh
 have ym:=lh.hi
 conv=>whnf
 rw [<- Zd]
 exact h _ oM lh):P:=h
def mq47 {P:Prop} (h:P:=by
 refine ⟨v'::vs',tk2,as2,h2,Ji dm cd,fm,by simp [hl],fun i x y hx hy=>?_⟩
 cases i with
 | zero=>simp at hx hy;subst hx;subst hy;exact hv.ext cd
 | succ i=>exact ca i x y (by simpa using hx) (by simpa using hy)):P:=h
def mq48 {P:Prop} (h:P:=by
 refine ⟨_,_,h,.mkint,?_⟩
 simp only [ho,resolve,invoke,builtin,Sem.run_bind,Sem.run_pure,Result.andThen,Builtin.len_,qe,lp,Za hd]
 rfl):P:=h
def mq49 {P:Prop} (h:P:=by
 unfold Zae at h
 split at h
 ·obtain ⟨pl,⟨a1,a2⟩,rfl,⟨rfl,hz,hn⟩,h⟩:=h
  refine pwv [] 1 false ?_
  refine ⟨pl,⟨a1,a2⟩,rfl,⟨hz,hn⟩,fun b hb=>wN ?_⟩
  exact h _ (by rw [hb])
 exact h.elim):P:=h
def mq50 {P:Prop} (h:P:=by
 rw [dm,R.bind_err] at h;intro a9 d9;(conv=>whnf);exact h _ _):P:=h
def mq51 {P:Prop} (h:P:=by
 conv=>whnf
 (try (refine ⟨rfl,?_⟩;conv=>whnf))
 (try (refine ⟨rfl,?_⟩;conv=>whnf))
 exact dc 3 (by rw [Yr,hn,hc,Tb jx,Tg rfl])):P:=h
def mq52 {P:Prop} (h:P:=by
 conv=>whnf
 exact h):P:=h
def mq53 {P:Prop} (h:P:=by
 exact mq187):P:=h
def mq54 {P:Prop} (h:P:=by
 refine ⟨fun r hr=>by (simp at hr;rcases hr with rfl | rfl | rfl <;> rfl),(show (rows.length+3) * 1<=2 ^ 47 by omega),(show rows.length+3<=2 ^ 47 by omega),?_⟩
 conv=>whnf
 exact g):P:=h
def mq55 {P:Prop} (h:P:=by
 exact mq192):P:=h
def mq56 {P:Prop} (h:P:=by
 subst oa
 refine ⟨?_,⟨.normal,f,e,σ,h,rfl,hS,hF,hL,hN,bh,hZ⟩⟩
 rw [List.eq_nil_iff_forall_not_mem]
 intro i hi
 obtain ⟨h1,o,ho,_⟩:=mem_ready.1 hi
 have ab:=(Tr.1 ho).1
 have:=(dh i ab).2 (fun p hp=>by cases hp)
 have fh:i<listed.size:=by rw [hsz];exact ab
 simp [Array.getD,fh] at this h1
 rw [this] at h1;cases h1):P:=h
def mq57 {P:Prop} (h:P:=by
 simp only [twos,List.take,SZ,List.any_nil,SG,Sd,SW,SX] at hn cz |-
 simp only [hn,cz,and_self]):P:=h
def mq58 {P:Prop} (h:P:=by
 refine ⟨⟨rfl,e+(pk (s.drop e)).2,f,k1,k2,rfl,k3,k4⟩,?_⟩
 exact (show ((s.length:Int) - ((e:Int)+((pk (s.drop e)).2:Int))).toNat<((s.length:Int) - (e:Int)).toNat by omega)):P:=h
def mq59 {P:Prop} (h:P:=by
 refine ⟨pl,p,r,v,b,rfl,hp,.mk x1 x2 x3 x4 x5,rfl,⟨dy,hm⟩,fun v' b' hg=>wN ?_⟩
 have:=lj v' b' hg
 refine Zl ?_
 exact ⟨⟨j+1,v',b',rfl,rfl,oM,this⟩,hμ⟩):P:=h
def mq60 {P:Prop} (h:P:=by
 exact mq195):P:=h
def mq61 {P:Prop} (h:P:=by
 split at h;· cases h;rename_i h;subst h;exact .inl ⟨dM,rfl⟩
 split at h;· cases h;rename_i h;subst h;exact .inr (.inl ⟨dM,rfl⟩)
 split at h;· cases h;rename_i h;subst h;exact .inr (.inr (.inl ⟨dM,rfl⟩))
 split at h;· cases h;rename_i h;subst h;exact .inr (.inr (.inr ⟨dM,rfl⟩))
 cases h):P:=h
def mq62 {P:Prop} (h:P:=by
 refine Zl ?_
 exact ⟨⟨j+1,rfl,by rw [e1,kl];rfl,oM⟩,by show ((p.types.length:Int) - ((j:Int)+1)).toNat<((p.types.length:Int) - (j:Int)).toNat;omega⟩):P:=h
def mq63 {P:Prop} (h:P:=by
 unfold anc
 have:(WV ops.toList []).length=ops.size:=by
  have:∀(l:List Oper) (acc:List Nat),(WV l acc).length=acc.length+l.length:=by
   intro l
   induction l with
   | nil=>intro acc;rfl
   | cons o l ih=>intro acc;rw [WV,ih];simp;omega
  rw [this];simp
 rw [T5,Sz oM]
 simp):P:=h
def mq64 {P:Prop} (h:P:=by
 rw [Lib.decodeL_N]
 have k0:=(r.getD 0 0).toNat_lt
 rcases Lib.decodeN_shape r.length (r.getD 0 0).toNat (r.getD 1 0).toNat (r.getD 2 0).toNat (r.getD 3 0).toNat with ⟨c,e⟩ | ⟨c1,c2,c3,cv,e⟩ | ⟨c1,c2,c3,c4,cv,cs,e⟩ | ⟨c1,c2,c3,c4,c5,cv,cw,e⟩ | e
 all_goals (rw [e];dsimp only;omega)):P:=h
def mq65 {P:Prop} (h:P:=by
 refine Zl ?_
 refine ⟨⟨1,rfl,(by rw [cp];simp only [Sr,TN,Zf,TL];rfl),oM⟩,?_⟩
 exact lzM oM):P:=h
def mq66 {P:Prop} (h:P:=by
 simp only [Instr.storeAt,Instr.sureAddr,storeVar,Sem.run_bind,Sem.run_pure,Result.andThen,ZA hi]
 rw [Tb (by rw [mz];simp)]
 exact ai):P:=h
def mq67 {P:Prop} (h:P:=by
 refine Go.Lib.run_unsafeString_row w.drew (ρ.t 127) (ρ.t 3) (ρ.t 9) (ρ.t 5) L.t127 X.cellsByte g cur.size (by have qd:w.drew.heap[g]?=some (.cells cur (ρ.t 5) fz):=hg;simp [World.shape?,qd]) l h0 hn cy ?_
 intro j x hx
 have:=bf j x hx
 rw [Yd,Se];exact this):P:=h
def mq68 {P:Prop} (h:P:=by
 rw [hm,Tg ⟨hb,hc⟩] at h
 refine ⟨L,ts1,rfl,aw,wN ?_⟩
 exact h _ _):P:=h
def mq69 {P:Prop} (h:P:=by
 refine Zl ?_
 refine ⟨⟨i+1,rfl,(by rw [cp];simp only [Tj];rfl),oM⟩,?_⟩
 exact lzM oM):P:=h
def mq70 {P:Prop} (h:P:=by
 unfold ZcF at h
 split at h
 ·rename_i w t0 t rows a en dp
  obtain ⟨L,ts,rfl,ho,h1,h2⟩:=h
  refine pwv [] 2 false ?_
  refine ⟨L,ts,rfl,ho,[w],rfl,sM,fun hw ak=>wN ?_,fun hw=>wN ?_⟩
  ·exact h1 hw ak
  exact h2 hw
 exact h.elim):P:=h
def mq71 {P:Prop} (h:P:=by
 unfold Zhs at h
 split at h
 ·obtain ⟨pl,p,l,rfl,rfl,hc,h⟩:=h
  refine pwv [] 6 false ?_
  refine ⟨pl,p,l,rfl,rfl,hc,fun i hi=>wN ?_⟩
  exact h _ (by rw [Bool.eq_iff_iff,decide_eq_true_iff,<- hi];exact (Zi8 l 0).symm)
 exact h.elim):P:=h
def mq72 {P:Prop} (h:P:=by
 refine ⟨L,ts,rfl,ho,wN ?_⟩
 exact h _ _):P:=h
def mq73 {P:Prop} (h:P:=by
 rw [Zn6 hE] at mj
 subst mj
 have g1:Wl (s.drop a)=.err (1+i - 1):=by rw [<- ib];simp [ZE,aj,hE]
 conv=>whnf
 refine Zl ?_
 have g2:=dc _ g1
 rw [show ((a+(1+i - 1):Nat):Int)=(a:Int)+1+(i:Int) - 1 by omega] at g2
 exact g2):P:=h
def mq74 {P:Prop} (h:P:=by
 rename_i t m x v ho
 obtain ⟨σ1,w1,hK,ai,hst,gq⟩:=Zet hT hS (hρ m) (hρ x) (hρ v) h
 refine ⟨_,_,Go.undef,w1,e,hK,.inr ⟨?_,rfl⟩,hst,gq,.undef _⟩
 unfold execOp
 simp only [ho,Sem.run_bind,ai,Result.andThen,Sem.run_pure]):P:=h
def mq75 {P:Prop} (h:P:=by
 cases r with
 | tmp t=>simp only [pres,Z0] at h |-;exact ih (fun vs h=>hK _ h) h
 | cell a t =>
 simp only [pres] at h |-
 obtain ⟨v,h1,h2⟩:=Zh4 h
 refine h2 _ ?_
 rw [Z0] at h1 |-
 exact ih (fun vs h=>hK _ h) h1):P:=h
def mq76 {P:Prop} (h:P:=by
 unfold Zae at h
 split at h
 ·obtain ⟨pl,⟨a1,a2,a3,a4,a5,a6⟩,rfl,⟨rfl,hz,hn⟩,h⟩:=h
  refine pwv [] 1 false ?_
  refine ⟨pl,⟨a1,a2,a3,a4,a5,a6⟩,rfl,⟨hz,hn⟩,fun b hb=>wN ?_⟩
  exact h _ (by rw [hb])
 exact h.elim):P:=h
def mq77 {P:Prop} (h:P:=by
 refine Zl ?_
 refine ⟨⟨rfl,e+1,rfl,oM,oM,bl (by have eg:Zk ((s.getD e 0).toNat:Int)=true:=h3;simp only [XT,eg,Bool.true_or])⟩,?_⟩
 exact (show ((s.length:Int) - ((e:Int)+1)).toNat<((s.length:Int) - (e:Int)).toNat by omega)):P:=h
def mq78 {P:Prop} (h:P:=by
 have f8:(pk (u.drop i)).1<32:=by rw [qe,wl] at h5;exact h5
 have g1:Wl (s.drop a)=.err (1+i):=by rw [<- ib];simp [ZE,aj,eg,j9,f8]
 have g2:=dc _ g1
 rw [show ((a+(1+i):Nat):Int)=(a:Int)+1+(i:Int) by omega] at g2
 exact g2):P:=h
def mq79 {P:Prop} (h:P:=by
 unfold Zae at h
 split at h
 ·obtain ⟨pl,⟨a1,a2,a3,a4,a5⟩,rfl,⟨rfl,hz,hn⟩,h⟩:=h
  refine pwv [] 1 false ?_
  refine ⟨pl,(.mk a1 a2 a3 a4 a5),rfl,⟨hz,hn⟩,fun b hb=>wN ?_⟩
  exact h _ (by rw [hb])
 exact h.elim):P:=h
def mq80 {P:Prop} (h:P:=by
 rcases x with ⟨v1,ts1⟩ | ⟨r1,e1⟩
 rotate_left
 ·rw [dm] at h;intro a9 d9;(conv=>whnf);exact h _ _
 rw [dm] at h
 intro a1 ee aw
 have cq:=aw.hi
 obtain ⟨v1a,v1b,v1c,v1d,v1e⟩:=v1
 conv=>whnf
 exact h _ oM aw):P:=h
def mq81 {P:Prop} (h:P:=by
 have fh:i<listed.size:=by rw [hsz];exact hi
 simp [Array.getD,fh]):P:=h
def mq82 {P:Prop} (h:P:=by
 unfold wpOpIn
 rw [ho]
 dsimp only
 split at bl
 ·rename_i hw
  rw [Tg hw]
  exact Oper.wpIn_mono (fun a w h=>next a w (hK a w h)) bl
 rename_i hw
 rw [Tb hw]
 exact ⟨fun _ _=>trivial,next _ _ (hK _ _ bl)⟩):P:=h
def mq83 {P:Prop} (h:P:=by
 unfold Zae at h
 split at h
 ·obtain ⟨pl,⟨a1,a2,a3,a4⟩,rfl,⟨rfl,hz,hn⟩,h⟩:=h
  refine pwv [] 1 false ?_
  refine ⟨pl,⟨a1,a2,a3,a4⟩,rfl,⟨hz,hn⟩,fun b hb=>wN ?_⟩
  exact h _ (by rw [hb])
 exact h.elim):P:=h
def mq84 {P:Prop} (h:P:=by
 cases lv with
 | ptr _ _ _ =>
 refine Calls.mono (Zkf (e.β 0) w (by simp [World.cell?,dg,ji])) fun en w' ⟨h1,h2⟩=>?_
 rw [h2]
 exact ⟨h1,.tuple [] #[] rfl (fun i x u hx=>by simp at hx),hS,Later.refl _ _ _⟩):P:=h
def mq85 {P:Prop} (h:P:=by
 refine Zl ?_
 exact ⟨⟨j+1,rfl,rfl,oM,ha⟩,hμ⟩):P:=h
def mq86 {P:Prop} (h:P:=by
 obtain ⟨pvs,r,hlv,hr,hvr⟩:=WD (C:=C) (by rw [hC.T];exact hT) h1 h2 (by rw [hC.T];exact hl)
 obtain ⟨pv',σ2,e2,hK,_,jn,mo⟩:=W3 h1 h3 hk hvr hlv
 exact ⟨r,hr,rfl,⟨r,rfl⟩,σ2,e2,hK,jn,mo⟩):P:=h
def mq87 {P:Prop} (h:P:=by
 refine ⟨oM,pl,p,r,v,b,rfl,hp,.mk x1 x2 x3 x4 x5,rfl,⟨oM,oM⟩,fun v' b' hg=>wN ?_⟩
 rw [hg] at ha
 (repeat (refine ⟨rfl,?_⟩;conv=>whnf))
 refine Zl ?_
 exact ⟨⟨j+1,v',b',rfl,rfl,oM,ha⟩,hμ⟩):P:=h
def mq88 {P:Prop} (h:P:=by
 cases hy
 obtain ⟨q1,q2⟩:=h3 0 p u rfl hu
 refine ⟨?_,q2⟩
 rcases hp with rfl | rfl
 ·cases q1 with
  | d _ _ hd=>exact .d _ _ (hd.later hL)
 cases q1 with
 | ptr b o hb=>exact .ptr 0 0 sM):P:=h
def mq89 {P:Prop} (h:P:=by
 rcases h.ftok t1 fk p1 pg with h2 | ⟨t0,n4,p0,n5,h2⟩ | h2
 ·exact .inl (by rw [<- h1];exact h2)
 ·exact .inr (.inl ⟨t0,n4,p0,n5,h2.trans h1⟩)
 exact .inr (.inr (by rw [<- h1];exact h2))):P:=h
def mq90 {P:Prop} (h:P:=by
 split at h
 ·rename_i ht
  exact ⟨_,_,as++[some t],by simpa using h,⟨[some t],rfl⟩,hI.add ((YJ _ _).1 ht),.sl t el rows _ sM⟩
 exact ⟨_,tk,as,h,⟨[],sM⟩,hI,.cl (.sl t el rows) rfl⟩):P:=h
def mq91 {P:Prop} (h:P:=by
 subst h0
 cases hk:(T.get t).kind <;> rw [hk] at az <;> first | (cases az.1;done) | (cases az;done) | (exact ei hk) | (obtain ⟨_,h1,_⟩:=az;cases h1;done) | (obtain ⟨_,_,_,h1⟩:=az;cases h1;done)):P:=h
def mq92 {P:Prop} (h:P:=by
 rw [Zd] at hr
 simp only [Tz,TN,Tv,List.not_mem_nil,or_false] at hr
 rcases hr with rfl | rfl <;> rfl):P:=h
def mq93 {P:Prop} (h:P:=by
 rename_i t1 σ1 ai
 split at hr
 ·rename_i vs' hp
  obtain ⟨keep,ei,bm⟩:=Zjs hr
  exact go keep (fun e2 t2 σ2 h=>by rw [ai] at h;cases h;exact Zef hp (bm hK)) ei
 cases hr):P:=h
def mq94 {P:Prop} (h:P:=by
 simp only [Ta,Te,Th];omega):P:=h
def mq95 {P:Prop} (h:P:=by
 exact ⟨pv,_,hK,hr,Xy hd dj mi g1 q2⟩):P:=h
def mq96 {P:Prop} (h:P:=by
 simp only [Sem.run_bind,newRow,run_newObj,Result.andThen,Sem.run_pure]
 rfl):P:=h
def mq97 {P:Prop} (h:P:=by
 rcases h.ex with ⟨a,ha,h⟩ | ⟨ha,h⟩
 ·exact ⟨_,h,fun K' h'=>by simp only [YY,hk,hz,hb];exact .yes ha h'⟩
 exact ⟨_,h,fun K' h'=>by simp only [YY,hk,hz,hb];exact .no ha h'⟩):P:=h
def mq98 {P:Prop} (h:P:=by
 show LeavesIn _ _ _ _ _ _ _ _ _
 rw [km]
 refine go _ sM ((hd.ret _ _ _ hq _ _ _ _ h1 yd).mono fun en u2 w2 hh=>?_)
 obtain ⟨rfl,⟨r,rfl⟩,σ2,e2,hK,jn,je⟩:=hh
 exact after jn je hK):P:=h
def mq99 {P:Prop} (h:P:=by
 rw [mt,R.bind_err] at h;intro a9 d9;(conv=>whnf);exact h _ _):P:=h
def mq100 {P:Prop} (h:P:=by
 rename_i hx
 simp only [hx,toD]
 split at h
 ·rename_i r hr
  split at h
  ·rename_i hb;cases h;exact ⟨r,Int.natCast_nonneg _,hr,by simp only [hb];exact hK⟩
  cases h
 cases h):P:=h
def mq101 {P:Prop} (h:P:=by
 rw [hl] at h
 refine ⟨_,_,h,.mkint,?_⟩
 simp only [ho,resolve,invoke,builtin,Sem.run_bind,Sem.run_pure,Result.andThen,Builtin.len_,qe,lp,Za hd,getObj,Sem.run,g1]
 rfl):P:=h
def mq102 {P:Prop} (h:P:=by
 refine ⟨⟨false,_,_,f,_,rfl,?_,.inr rfl,⟨g3,oM,?_⟩,g1.symm⟩,?_⟩
 ·rw [V7];rfl
 ·rw [Ta];omega
 exact mq196):P:=h
def mq103 {P:Prop} (h:P:=by
 have b3:=Js (n:=n) (k:=34) oM oM h3
 have b4:=Js (n:=n) (k:=92) oM oM h4
 simp only [List.contains_cons,List.contains_nil,SG,Sd,beq_eq_false_iff_ne]
 exact ⟨b1,b2,b3,b4⟩):P:=h
def mq104 {P:Prop} (h:P:=by
 (try (refine ⟨rfl,?_⟩;conv=>whnf))
 (try (refine ⟨rfl,?_⟩;conv=>whnf))
 have g2:=dw _ _ g1
 rw [show ((a+(1+i+1):Nat):Int)=(a:Int)+1+(i:Int)+1 by omega] at g2
 exact g2):P:=h
def mq105 {P:Prop} (h:P:=by
 obtain ⟨h4,h5,hK⟩:=h
 refine ⟨_,hK,fun K' h'=>?_⟩
 simp only [qop,hi,hk,hx]
 cases gc:(T.get el).kind
 case other=>exact absurd gc ho
 all_goals exact ⟨h4,h5,h'⟩):P:=h
def mq106 {P:Prop} (h:P:=by
 rw [et,R.bind_ok] at h
 intro a3 gk bq
 have ka:=bq.hi
 conv=>whnf
 exact h _ oM bq):P:=h
def mq107 {P:Prop} (h:P:=by
 have:(Array.replicate ops.size false).getD k false=false:=by simp [Array.getD]
 rw [this]
 simp only [Tx,false_iff]
 obtain ⟨p,hp,he⟩:=jy k hk
 exact fun hh=>hh p hp he):P:=h
def mq108 {P:Prop} (h:P:=by
 simp only [RtK]
 conv=>whnf
 refine ⟨Td rfl,wN ?_⟩
 exact h):P:=h
def mq109 {P:Prop} (h:P:=by
 repeat' ((conv=>whnf);refine ZJU (fun hc=>?_) (fun hc=>?_))
 all_goals (conv=>whnf)
 all_goals exact h _ _ (by rw [VR,Tb hn];simp [*]) (by rw [VR,Tb hn];simp [*])):P:=h
def mq110 {P:Prop} (h:P:=by
 intro b off u hu
 by_cases hbg:b=g
 ·subst hbg
  simp only [World.cell?,qq,g6] at hu |-
  exact hu
 simpa [World.cell?,UJ w g l.length b hbg] using hu):P:=h
def mq111 {P:Prop} (h:P:=by
 rw [List.take_add_one,Tc ab,Option.toList_some,Su,Tz,TN]
 unfold Xi
 rw [UZ,show (((0:Nat):Int)+(((l.take j).map (·.name)).length:Int))=j by simp;omega]):P:=h
def mq112 {P:Prop} (h:P:=by
 refine ⟨_,ρ' x,h,hx,?_⟩
 cases hv:ρ' x <;> rw [hv] at hx <;> cases hx
 simp [ho,hv]):P:=h
def mq113 {P:Prop} (h:P:=by
 cases hE:Xe o.op with
 | true=>simp only [hE] at hk |-;rw [chkL_iff] at hk |-;exact ⟨hk.1,hK _ _ _ hk.2⟩
 | false=>simp only [hE] at hk |-;exact hK _ _ _ hk):P:=h
def mq114 {P:Prop} (h:P:=by
 by_cases fd:∃m',m'<m/\Mu a1 w1 m'
 ·obtain ⟨m',h1,h2⟩:=fd;exact ihm m' h1 h2
 exact ⟨m,hm,fun m' xz=>Nat.le_of_not_lt fun ab=>fd ⟨m',ab,xz⟩⟩):P:=h
def mq115 {P:Prop} (h:P:=by
 cases ts with
 | nil =>
  constructor
  ·intro g;exact absurd g.2 (ZkK hm)
  intro g;exact absurd g.2.1 (by simp [hd])
 | cons t2 ts=>exact Iff.rfl):P:=h
def mq116 {P:Prop} (h:P:=by
 unfold execOp
 simp only [ho,Sem.run_bind]
 rw [show (Array.map (fun x=>match x with | (i,x)=>(i,ρ' x)) ps)=(ps.map fun p=>(p.1,ρ' p.2)) from rfl,ai]
 rfl):P:=h
def mq117 {P:Prop} (h:P:=by
 have hk:k<l.length:=(Ti.1 hy).1
 rw [Array.getElem?_extract] at hu
 split at hu
 ·exact hr (off+k) y u (by rw [(hb k hk).2];exact hy) hu
 cases hu):P:=h
def mq118 {P:Prop} (h:P:=by
 rcases T1.1 hy with hy | hy
 ·exact hj y (by simp [hy])
 rcases Tv.1 hy with rfl | hy
 ·exact fun e=>hji e.symm
 exact hj y (by simp [hy])):P:=h
def mq119 {P:Prop} (h:P:=by
 exact ZeO (fun vs s hh=>⟨hh.1,fun vs σ1 hI=>ih (fun e f σ h=>by cases e with | normal=>exact h | _=>exact hQ _ _ _ h) (hh.2 vs σ1 hI)⟩) h):P:=h
def mq120 {P:Prop} (h:P:=by
 exact h _ (by simp [Yl,mf])):P:=h
def mq121 {P:Prop} (h:P:=by
 unfold J7 at h
 split at h
 ·obtain ⟨pl,⟨x1,x2,x3,x4,x5,x6⟩,rfl,h⟩:=h
  refine pwv [] 0 false ?_
  exact h
 exact h.elim):P:=h
def mq122 {P:Prop} (h:P:=by
 split at h
 ·split at h
  ·rename_i hb;cases h;have:=Td hb;exact ⟨Int.natCast_nonneg _,Int.ofNat_le.2 this,hK⟩
  cases h
 cases h):P:=h
def mq123 {P:Prop} (h:P:=by
 simp only [bsP_cons,bs_sp,Tp,Tu];exact aftsp _):P:=h
def mq124 {P:Prop} (h:P:=by
 rcases Tv.1 jf with rfl | jf
 ·exact fun e=>h1.2 e.symm
 exact fun e=>(List.rel_of_pairwise_cons hp jf).2.1 ed (TT.1 im) hb e.symm):P:=h
def mq125 {P:Prop} (h:P:=by
 (repeat (refine ⟨rfl,?_⟩;conv=>whnf))
 cases more with
 | true=>(conv=>whnf);exact yes true sM
 | false=>(conv=>whnf);exact yes _ sM):P:=h
def mq126 {P:Prop} (h:P:=by
 repeat (refine ⟨rfl,?_⟩;conv=>whnf)
 refine Zl ?_
 exact h _ oM wp):P:=h
def mq127 {P:Prop} (h:P:=by
 rename_i h1 h2
 obtain ⟨v,g1,g2⟩:=UC h
 exact ⟨_,g1,fun K' h'=>by simp only [Y4,h1,h2];exact g2 (fun r=>K' _) h'⟩):P:=h
def mq128 {P:Prop} (h:P:=by
 subst h3
 exact ⟨.ret .undef,σ,e,hK,⟨_,rfl,.undef _⟩,hS.grow (ZJ0 h4),((ZJ0 h4).stepped e σ).toLater⟩):P:=h
def mq129 {P:Prop} (h:P:=by
 have cz:¬i<l.length:=fun g=>h2 (by simpa using g)
 have v7:i=l.length:=oM
 rw [v7,Sp] at hNN
 rw [hNN] at kj
 exact kj oM):P:=h
def mq130 {P:Prop} (h:P:=by
 rename_i f hf;rw [hf] at h;exact h):P:=h
def mq131 {P:Prop} (h:P:=by
 obtain ⟨i,eu,hiu⟩:=SU hu
 have ab:i<cs'.length:=by rw [<- n7];exact eu
 exact (nt i _ u (Tc ab) (by rw [TC eu,hiu])).2):P:=h
def mq132 {P:Prop} (h:P:=by
 rw [show (Array.map (fun x=>match x with | (i,x)=>(i,ρ' x)) ps).toList=(ps.map fun p=>(p.1,ρ' p.2)).toList from rfl,n9]
 rfl):P:=h
def mq133 {P:Prop} (h:P:=by
 rw [nj,R.bind_err,R.bind_err] at h;intro a9 d9;(conv=>whnf);exact h _ _):P:=h
def mq134 {P:Prop} (h:P:=by
 obtain ⟨d,rfl⟩:∃k,d=k+1:=⟨d - 1,oM⟩
 exact Zfx (Sf.1 hb) (Zah dM r) (ZK r dM) fun z hz t ht=>ih z hz d t ht):P:=h
def mq135 {P:Prop} (h:P:=by
 rw [show off+k=off+rows.length * (T.get el).size+(k - olds.length) by rw [<- aw.len];omega,this]
 rw [Tc lx] at hk
 exact hk):P:=h
def mq136 {P:Prop} (h:P:=by
 have nu:G.P.info? f.type=some j:=by rw [ht];exact hj
 have:j.size≠0:=oM
 simp [fieldPlace,ZA nu,this,Yd,ct]):P:=h
def mq137 {P:Prop} (h:P:=by
 apply Classical.byContradiction
 intro jx
 have:=(dh i ab).2 (fun p hp e=>jx ⟨p,hp,e⟩)
 rw [h1] at this;cases this):P:=h
def mq138 {P:Prop} (h:P:=by
 rw [Tb (by rw [gl];simp)] at h
 exact h _ oM ct):P:=h
def mq139 {P:Prop} (h:P:=by
 rw [List.drop_nil] at ha
 cases hd:eargs.drop j with
 | nil=>rw [hd] at ha;exact ha
 | cons x l=>rw [hd] at ha;exact ha):P:=h
def mq140 {P:Prop} (h:P:=by
 unfold execOp
 simp only [ho,Instr.makeMap,Sem.run_bind,Result.andThen,Sem.run_pure,run_newObj,Option.map_none]
 rfl):P:=h
def mq141 {P:Prop} (h:P:=by
 simp only [show IntKind.i64.bits=64 from rfl,show IntKind.i64.signed=true from rfl,T2]
 split <;> simp at * <;> omega):P:=h
def mq142 {P:Prop} (h:P:=by
 rw [et,R.bind_ok] at h
 intro a3 gk bq
 have ka:=bq.hi
 conv=>whnf
 rw [<- Zd]
 exact h _ oM bq):P:=h
def mq143 {P:Prop} (h:P:=by
 rw [Tb sM] at h
 conv=>whnf
 exact h _ oM ct):P:=h
def mq144 {P:Prop} (h:P:=by
 rename_i h1 h2;cases h;simp only [h1,h2];exact hK):P:=h
def mq145 {P:Prop} (h:P:=by
 conv=>whnf
 exact h _ oM oM):P:=h
def mq146 {P:Prop} (h:P:=by
 rw [hq] at hu
 rw [TB,hq] at hx
 cases hx;cases hu;exact hρ q):P:=h
def mq147 {P:Prop} (h:P:=by
 have h2:=sr k oM
 rw [SN,Tc hk] at h2
 have:=(Ti.1 h2).1
 exact ⟨by rw [hsz];exact this,by rw [h2,Tc hk]⟩):P:=h
def mq148 {P:Prop} (h:P:=by
 unfold IntKind.wrap
 simp [IntKind.signed,IntKind.bits];omega):P:=h
def mq149 {P:Prop} (h:P:=by
 obtain ⟨k,h1,h2⟩:=Zho h
 rw [Tk] at h2
 obtain ⟨t,h3,h4⟩:=TF.1 h2
 exact ⟨k,t,h1,h3,h4⟩):P:=h
def mq150 {P:Prop} (h:P:=by
 obtain ⟨j,hj,rfl⟩:=Sn hu
 have h1:j<l.length:=oM
 exact (bw j l[j] _ (Tc h1) (by rw [<- TB,Tc hj])).2):P:=h
def mq151 {P:Prop} (h:P:=by
 (conv=>whnf);exact h _ (by simp [Yb,me,h4])):P:=h
def mq152 {P:Prop} (h:P:=by
 unfold World.freeze;split <;> rfl):P:=h
def mq153 {P:Prop} (h:P:=by
 simp only [qop]
 split at h <;> rename_i hx <;> first | (cases h;simp only [hx];exact hK) | (cases h;done)):P:=h
def mq154 {P:Prop} (h:P:=by
 rw [Yz]
 by_cases h:isW (t::ts) [w]=true
 ·rw [Tg h,Tg h];exact h1 h
 rw [Tb h,Tb h];exact h2):P:=h
def mq155 {P:Prop} (h:P:=by
 rcases T1.1 hx with hx | hx
 ·exact (pj.2.2 x hx (i,o') sM).1
 exact fun e=>(fq.1 x hx).1 e.symm):P:=h
def mq156 {P:Prop} (h:P:=by
 rcases x with ⟨v6,ts6⟩ | ⟨r6,e6⟩
 rotate_left
 ·rw [qt,R.bind_err] at h;intro a9 d9;(conv=>whnf);exact h _ _
 rw [qt,R.bind_ok] at h
 intro a6 ye nz
 have hb6:=nz.hi
 conv=>whnf
 refine ⟨_,fun _ _ h=>h,Td rfl,wN ?_⟩
 refine ⟨L,ts6,rfl,nz,[[123]],rfl,sM,fun b mw=>?_⟩
 cases b with
 | false =>
  rw [Zm,Tb (by rw [mw];simp),R.bind_err] at h
  conv=>whnf
  refine ⟨L,ts6,rfl,nz,fun x hx=>?_⟩
  rw [ZM,Tb (by rw [mw];simp)] at hx
  subst hx
  intro a9 d9
  conv=>whnf
  exact h _ _
 | true =>
 rw [Zm,Tg mw] at h
 conv=>whnf
 refine ZJU (fun hc=>wN ?_) (fun hc=>wN ?_)
 ·rw [Tg oM,R.bind_err] at h
  refine ⟨L,ts6,rfl,nz,wN ?_⟩
  exact h _ _
 rw [Tb oM] at h
 refine ⟨L,ts6,rfl,nz,fun x hx=>?_⟩
 rw [ZM,Tg mw] at hx
 subst hx
 intro a7 yy sk
 have hb7:=sk.hi
 conv=>whnf
 refine Zl ?_
 refine ⟨_,fun _ _ h=>h,Td rfl,wN ?_⟩
 refine ⟨L,ts6.tail,rfl,sk,⟨oM,oM,oM⟩,fun x wq=>?_⟩
 rcases x with ⟨v8,ts8⟩ | ⟨r8,e8⟩
 rotate_left
 ·rw [wq,R.bind_err] at h;intro a9 d9;(conv=>whnf);exact h _ _
 rw [wq,R.bind_ok] at h
 intro a8 ade zq
 have hb8:=zq.hi
 conv=>whnf
 rw [Tb sM] at h
 refine ⟨L,ts8,rfl,zq,fun x zt=>?_⟩
 rcases x with ⟨v9,ts9⟩ | ⟨r9,e9⟩
 rotate_left
 ·rw [zt,R.bind_err,R.bind_err] at h;intro a9 d9;(conv=>whnf);exact h _ _
 rw [zt,R.bind_ok,R.bind_ok] at h
 intro a9 adf gu
 have sc:=gu.hi
 conv=>whnf
 refine Zl ?_
 rw [T7]
 rw [<- Zp]
 exact h _ oM gu):P:=h
def mq157 {P:Prop} (h:P:=by
 refine ⟨pl,a3,Zd _ _,⟨rfl,oM,oM⟩,fun b hb=>?_⟩
 cases b with
 | false =>
  conv=>whnf
  exact h _ (by simp [YT,Zz,hb])
 | true =>
 conv=>whnf
 refine ⟨oM,pl,a4,Zp _ _,⟨rfl,oM,oM⟩,fun b ge=>wN ?_⟩
 exact h _ (by simp [YT,Zz,XM,ko,hb,ge])):P:=h
def mq158 {P:Prop} (h:P:=by
 refine ⟨fun _=>0,a2,rfl,⟨by simp only [wBs];omega,oM⟩,fun b ew=>?_⟩
 cases b with
 | false =>
  have ko:Xk a1 a2 a3.length a4.length=false:=by simp [Xk,fp,ew]
  conv=>whnf
  conv=>whnf
  exact mq53
 | true =>
 conv=>whnf
 refine ZJX (fun hB=>wN ?_) (fun hB=>wN ?_)
 ·have hB:¬0<a4.length:=fun g=>hB (sm.2 g)
  have ko:Xk a1 a2 a3.length a4.length=true:=by simp only [Xk,fp,ew,decide_eq_false hB];simp
  exact mq8
 have hB:=sm.1 hB
 have ko:Xk a1 a2 a3.length a4.length=false:=by simp [Xk,fp,hB]
 exact mq53):P:=h
def mq159 {P:Prop} (h:P:=by
 have g5:ZP (s.drop a)=none:=by
  unfold ZP
  simp only [gg,if_true,Tx,if_false]
  rcases f8 with g | g
  ·rw [Tg g]
  by_cases g0:Zb (s.drop a)=[]
  ·rw [Tg g0]
  rw [Tb g0,Tg g]
 conv=>whnf
 refine ⟨⟨oM,oM⟩,wN ?_⟩
 (try (refine ⟨rfl,?_⟩;conv=>whnf))
 (try (refine ⟨rfl,?_⟩;conv=>whnf))
 exact dc g5):P:=h
def mq160 {P:Prop} (h:P:=by
 refine ZJU (fun h3=>wN ?_) (fun h3=>wN ?_)
 ·exact h _ (by simp [Yb,me])
 refine ZJU (fun h5=>?_) (fun h5=>?_)
 rotate_left
 ·have h5:¬a1=3:=by omega
  (conv=>whnf);exact h _ (by simp [Yb,h3,h5])
 have h5:a1=3:=oM
 have i5:(decide (a3=0) || decide (a1=3))=true:=by simp [h5]
 conv=>whnf
 exact h _ (by simp [Yb,me])):P:=h
def mq161 {P:Prop} (h:P:=by
 refine ⟨fun r hr=>by (simp at hr;rcases hr with rfl <;> rfl),(show (rows.length+1) * 1<=2 ^ 47 by omega),(show rows.length+1<=2 ^ 47 by omega),?_⟩
 exact mq52):P:=h
def mq162 {P:Prop} (h:P:=by
 conv=>whnf
 refine ZJU (fun am=>wN ?_) (fun am=>wN ?_)
 ·(repeat (first | (refine oiO ?_;conv=>whnf) | (refine ⟨_,oM,bj,?_⟩;conv=>whnf)))
  refine ⟨oM,pl,b4,B,Zp _ _,⟨⟨oM,oM⟩,oM,oM,hB⟩,fun r lv mg=>wN ?_⟩
  unfold bd2 at mg
  refine Zl ?_
  exact mq24
 exact mq24):P:=h
def mq163 {P:Prop} (h:P:=by
 conv=>whnf
 refine ZJU (fun am=>wN ?_) (fun am=>wN ?_)
 ·(repeat (first | (refine oiO ?_;conv=>whnf) | (refine ⟨_,oM,bj,?_⟩;conv=>whnf)))
  refine ⟨pl,p3,B,rfl,⟨⟨oM,oM⟩,oM,oM,hB⟩,fun r lv mg=>wN ?_⟩
  unfold bd2 at mg
  refine Zl ?_
  exact h _ oM oM
 exact h _ oM oM):P:=h
def mq164 {P:Prop} (h:P:=by
 conv=>whnf
 refine ZJU (fun am=>wN ?_) (fun am=>wN ?_)
 ·(repeat (first | (refine oiO ?_;conv=>whnf) | (refine ⟨_,oM,bj,?_⟩;conv=>whnf)))
  refine ⟨pl,b4,B,Zp _ _,⟨⟨oM,oM⟩,oM,oM,hB⟩,fun r lv mg=>wN ?_⟩
  unfold bd2 at mg
  refine Zl ?_
  exact mq24
 exact mq24):P:=h
def mq165 {P:Prop} (h:P:=by
 have h5:¬a1=3:=by omega
 (conv=>whnf);exact h _ (by simp [Yb,h3,h5])):P:=h
def mq166 {P:Prop} (h:P:=by
 show ((L.length:Int) - a3).toNat<((L.length:Int) - a').toNat
 omega):P:=h
def mq167 {P:Prop} (h:P:=by
 refine ⟨fun _=>0,a2,rfl,⟨by simp only [wBs];omega,oM⟩,fun b ew=>?_⟩
 cases b with
 | false =>
  have me:WJ a1 a2=false:=by simp [WJ,fp,ew]
  conv=>whnf
  exact mq6
 | true =>
 have me:WJ a1 a2=true:=by simp [WJ,fp,ew]
 conv=>whnf
 exact mq4):P:=h
def mq168 {P:Prop} (h:P:=by
 rcases x with ⟨v2,ts2⟩ | ⟨r2,e2⟩
 rotate_left
 ·exact mq44
 rw [cd,R.bind_ok] at h
 intro a2 f9 ak
 have ge:=ak.hi
 conv=>whnf
 refine ⟨L,ts2,rfl,ak,fun x et=>?_⟩
 rcases x with ⟨v3,ts3⟩ | ⟨r3,e3⟩
 rotate_left
 ·exact mq19
 exact mq106):P:=h
def mq169 {P:Prop} (h:P:=by
 have h6:¬(a4.length:Int)=a:=fun g=>h6 (by show ((Zs pl a4).length:Int)=a;rw [ir];exact g)
 (conv=>whnf);exact h _ (by simp [Yb,ha,h2,h6])):P:=h
def mq170 {P:Prop} (h:P:=by
 obtain ⟨a,e⟩:=ae
 simp only [orF] at ha
 subst ha
 simp only [RtK] at h |-
 exact mq52):P:=h
def mq171 {P:Prop} (h:P:=by
 show ((L.length:Int) - (a2+1)).toNat<((L.length:Int) - a1).toNat
 omega):P:=h
def mq172 {P:Prop} (h:P:=by
 rw [et,R.bind_err] at h;intro a9 d9;(conv=>whnf);exact h _ _):P:=h
def mq173 {P:Prop} (h:P:=by
 rw [step,R.bind_err] at h
 intro a2 dp2
 conv=>whnf
 exact h _ _):P:=h
def mq174 {P:Prop} (h:P:=by
 subst hx
 intro a9 d9
 conv=>whnf
 exact h _ _):P:=h
def mq175 {P:Prop} (h:P:=by
 rw [Tg (by rw [Tf] at g;omega)] at h
 exact h _ _):P:=h
def mq176 {P:Prop} (h:P:=by
 have af:i=xs.length:=lzE du oM af
 subst af
 rw [Sp]
 exact mq52):P:=h
def mq177 {P:Prop} (h:P:=by
 rw [Tb sM] at h
 refine ⟨L,ts2,rfl,ak,fun x et=>?_⟩
 exact mq15):P:=h
def mq178 {P:Prop} (h:P:=by
 obtain ⟨a,e⟩:=ae
 simp only [orF] at hX
 subst hX
 simp only [FlK] at h |-
 exact mq52):P:=h
def mq179 {P:Prop} (h:P:=by
 refine V5 ?_
 refine ⟨B.1,B.2,wN ?_⟩
 refine ⟨dM,dM,wN ?_⟩
 refine ⟨dM,dM,wN ?_⟩
 refine ⟨?_,?_,?_,?_⟩
 rotate_left 3
 ·exact mq52
 ·rfl
 rfl):P:=h
def mq180 {P:Prop} (h:P:=by
 rw [<- wc];exact ⟨by have h6':Ze (pk (s.drop ((e:Int)).toNat)).1=false:=h6;rw [h6'];simp,by have h7':Zk (pk (s.drop ((e:Int)).toNat)).1=false:=h7;rw [h7'];simp⟩):P:=h
def mq181 {P:Prop} (h:P:=by
 rw [Zm,Tb (by rw [ek];simp)] at h
 exact mq28):P:=h
def mq182 {P:Prop} (h:P:=by
 exact (show ((l.length:Int) - ((i:Int)+1)).toNat<((l.length:Int) - (i:Int)).toNat by omega)):P:=h
def mq183 {P:Prop} (h:P:=by
 conv=>whnf
 refine Zl ?_
 refine ⟨⟨i+1,_,rfl,rfl,oM,oM,oM⟩,?_⟩
 show ((p1.length:Nat) - ((i:Int)+1)).toNat<((p1.length:Nat) - (i:Int)).toNat
 omega):P:=h
def mq184 {P:Prop} (h:P:=by
 rw [lc,R.bind_err] at h;intro a9 d9;(conv=>whnf);exact h _ _):P:=h
def mq185 {P:Prop} (h:P:=by
 (try (refine ⟨rfl,?_⟩;conv=>whnf))
 (try (refine ⟨rfl,?_⟩;conv=>whnf))
 exact dc (by rw [g6,Tg (.inr (.inl (by rw [<- wc];exact h7)))])):P:=h
def mq186 {P:Prop} (h:P:=by
 (try (refine ⟨rfl,?_⟩;conv=>whnf))
 (try (refine ⟨rfl,?_⟩;conv=>whnf))
 exact dc (by rw [g6,Tg (.inl (by rw [<- wc];exact h6))])):P:=h
def mq187 {P:Prop} (h:P:=by
 exact h _ (by simp [YT,ko])):P:=h
def mq188 {P:Prop} (h:P:=by
 conv=>whnf
 refine ⟨oM,pl,a4,Zd _ _,⟨rfl,oM,oM⟩,fun b hb=>wN ?_⟩
 exact h _ (by simp [Yb,Zz,ha,me,hb,h1,h6,i5])):P:=h
def mq189 {P:Prop} (h:P:=by
 conv=>whnf
 refine ⟨oM,pl,a4,Zd _ _,⟨rfl,oM,oM⟩,fun b hb=>wN ?_⟩
 exact h _ (by simp [Yb,Zz,ha,me,hb,h1,h2,i5])):P:=h
def mq190 {P:Prop} (h:P:=by
 refine ⟨dM,wN ?_⟩
 refine Or.inr (wN ?_)
 refine ⟨dM,wN ?_⟩
 refine Or.inr (wN ?_)
 refine Or.inr (wN ?_)
 exact mq54):P:=h
def mq191 {P:Prop} (h:P:=by
 refine ⟨⟨i+1,_,rfl,rfl,oM,oM,oM⟩,?_⟩
 show ((l.length:Nat) - ((i:Int)+1)).toNat<((l.length:Nat) - (i:Int)).toNat
 omega):P:=h
def mq192 {P:Prop} (h:P:=by
 refine Or.inr (wN ?_)
 refine ZJU (fun h8=>wN ?_) (fun h8=>?_)
 ·exact rz oM
 exfalso;exact h8 (by rw [hw];omega)):P:=h
def mq193 {P:Prop} (h:P:=by
 refine ⟨oM,pl,a4,Zd _ _,⟨rfl,oM,oM⟩,fun b hb=>wN ?_⟩
 exact h _ (by simp [Yb,Zz,ha,me,hb,h1,h6,h3])):P:=h
def mq194 {P:Prop} (h:P:=by
 refine ⟨oM,pl,a4,Zd _ _,⟨rfl,oM,oM⟩,fun b hb=>wN ?_⟩
 exact h _ (by simp [Yb,Zz,ha,me,hb,h1,h2,h3])):P:=h
def mq195 {P:Prop} (h:P:=by
 simp only [IntKind.wrap,show IntKind.u64.bits=64 from rfl,show IntKind.u64.signed=false from rfl,T3,Tx,if_false]
 omega):P:=h
def mq196 {P:Prop} (h:P:=by
 exact (show u.length - (i+(decodeL u i).2)<u.length - i by omega)):P:=h
def mq197 {P:Prop} (h:P:=by
 have h1:¬-2<a:=h1;(conv=>whnf);exact h _ (by simp [Yb,ha,h1])):P:=h
def mq198 {P:Prop} (h:P:=by
 conv=>whnf
 refine ⟨_,oM,hr,wN ?_⟩
 refine ⟨pl,p,_,rfl,rfl,⟨hp,vh⟩,fun b hb=>?_⟩
 exact mq37):P:=h
def mq199 {P:Prop} (h:P:=by
 rw [cd,R.bind_err] at h;intro a9 d9;(conv=>whnf);exact h _ _):P:=h
def mq200 {P:Prop} (h:P:=by
 have ko:Xk a1 a2 a3.length a4.length=false:=by simp only [Xk,kc,pb,zp,vw,if_false]
 exact mq187):P:=h
def mq201 {P:Prop} (h:P:=by
 conv=>whnf
 refine ⟨L,ts,rfl,ho,fun x hx=>?_⟩
 rw [ZM,Tb (by rw [ek];simp)] at hx
 exact mq174):P:=h
end

section
namespace Go.PM
def wN {P Q:Prop} (k:Q) (h:Q->P:=by intro k;(conv=>whnf);exact k):P:=h k
def oM {P:Prop} (h:P:=by omega):P:=h
def sM {P:Prop} (h:P:=by simp):P:=h
def dM {P:Prop} (h:P:=by decide):P:=h
def iM {P:Prop} (h:P:=by first | exact .inl rfl | exact .inr rfl):P:=h
def sO {P:Prop} (h:P:=by simp;omega):P:=h
def hD {P:Prop} (h:P:=by rw [TD];omega):P:=h
def tN {P:Prop} (h:P:=by simp only [Tn];omega):P:=h
def oP {P:Prop} (h:P:=by simp [Op.operands]):P:=h
def zN {P:Prop} (h:P:=by simp only [Sr,TN,SP,TL];rfl):P:=h
inductive D where
 | bool (b:Bool) | int (k:IntKind) (n:Int) | str (s:List UInt8) | sl (rows:List (List D)) | nilp | nilf | nili
 deriving Inhabited
inductive PV where
 | d (x:D) | undef | ptr (b off:Nat) | elem (r:List D) (off:Nat) | sl (tok e:Nat) (rows:List (List D)) | nils (e:Nat) | asl (b off n:Nat)
 | func (f:FuncId) (first caps:List PV) | iface (t:TypeId) (v:PV) | agg (cs:List PV) | tuple (vs:List PV) | raw (v:Value) | mp (b:Nat) | nilm
 deriving Inhabited
inductive MV where
 | one (x:D) | agg (l:List D)
 deriving Inhabited
def MV.pv:MV->PV | .one x=>.d x | .agg l=>.agg (l.map .d)
inductive Box where
 | dmap (m:List (List UInt8×MV)) | smap (el:Nat) (m:List (List UInt8×List (List D))) (fo:Option (List UInt8×PV)) | cells (t:TypeId) (cs:List PV) | iter (s:List UInt8) (pos:Nat) | loop (st:LoopState) (pd:Option Code) (r:Loop) | map (cs:List PV) (bn:List Nat) (ck:Nat)
 deriving Inhabited
structure St where
 bx:List Box
 tk:List Nat
 nx:Nat
inductive TK where
 | other | int (k:IntKind) | bool | string | ptr (e:Nat) | slice (e:Nat) | array (n e:Nat) | struct (fs:List (Nat×Nat)) | func | iface | map (k e:Nat)
structure TI where
 size:Nat
 bytes:Nat
 kind:TK
 zero:List PV
 eqok:Bool
def TI.no:TI:=⟨0,0,.other,[],false⟩
inductive Tab where
 | leaf | node (l:Tab) (k:Nat) (v:TI) (r:Tab)
def Tab.get:Tab->Nat->TI
 | .leaf,_=>TI.no
 | .node l k v r,n=>match Nat.beq n k with
  | true=>v
  | false=>match Nat.ble n k with
   | true=>l.get n
   | false=>r.get n
def TK.isAgg:TK->Bool | .array _ _ | .struct _=>true | _=>false
abbrev Frame:=Nat->PV
def U6 (f:Frame) (i:Nat) (v:PV):Frame:=fun n=>match Nat.beq i n with
 | true=>v
 | false=>f n
def ZdO:Value->PV
 | .bool b=>.d (.bool b)
 | .int k n=>.d (.int k n)
 | .string s=>.d (.str s.data.toList)
 | .pointer none=>.d .nilp
 | .slice none 0 0=>.nils 0
 | .nilFunc=>.d .nilf
 | .nilIface=>.d .nili
 | .map none=>.nilm
 | v=>.raw v
def ZG5:Value->Bool
 | .agg _=>false
 | .tuple _=>false
 | _=>true
def ZlS:Value->PV
 | .agg cs=>match cs.toList.all ZG5 with | true=>.agg (cs.toList.map ZdO) | false=>.raw (.agg cs)
 | v=>ZdO v
def ev (f:Frame):Operand->PV
 | .tmp t=>f t
 | .const v=>ZlS v
 | .global _=>.undef
 | .func g=>.func g [] []
def CondP:Bool->Prop->Prop->Prop
 | true,X,_=>X
 | false,_,Y=>Y
def YA:Nat->(Nat->Prop)->Prop
 | 0,K=>K 0
 | n+1,K=>YA n fun m=>K (m+1)
def Zrm (v:PV) (K:PV->Prop):Prop:=match v with
 | .d x=>K (.d x) | .undef=>K .undef | .ptr b off=>YA b fun b=>YA off fun off=>K (.ptr b off) | .elem r off=>YA off fun off=>K (.elem r off) | .sl t z r=>YA t fun t=>K (.sl t z r) | .nils z=>K (.nils z)
 | .asl b off n=>YA b fun b=>YA off fun off=>K (.asl b off n) | .func f a c=>K (.func f a c) | .iface t v=>K (.iface t v) | .agg cs=>K (.agg cs) | .tuple vs=>K (.tuple vs) | .raw v=>K (.raw v) | .mp b=>YA b fun b=>K (.mp b) | .nilm=>K .nilm
def Ux:List PV->(List PV->Prop)->Prop
 | [],K=>K []
 | v::l,K=>Zrm v fun v=>Ux l fun l=>K (v::l)
def ZnN (v:PV) (K:PV->Prop):Prop:=match v with
 | .d x=>K (.d x) | .undef=>K .undef | .ptr b off=>YA b fun b=>YA off fun off=>K (.ptr b off) | .elem r off=>YA off fun off=>K (.elem r off) | .sl t z r=>YA t fun t=>K (.sl t z r) | .nils z=>K (.nils z)
 | .asl b off n=>YA b fun b=>YA off fun off=>K (.asl b off n) | .raw v=>K (.raw v) | .mp b=>YA b fun b=>K (.mp b) | .nilm=>K .nilm
 | .func f a c=>Ux a fun a=>Ux c fun c=>K (.func f a c) | .iface t v=>K (.iface t v) | .agg cs=>Ux cs fun cs=>K (.agg cs) | .tuple vs=>K (.tuple vs)
def ZhX:List PV->(List PV->Prop)->Prop
 | [],K=>K []
 | v::l,K=>ZnN v fun v=>ZhX l fun l=>K (v::l)
def Zac (v:PV) (K:PV->Prop):Prop:=match v with
 | .d x=>K (.d x) | .undef=>K .undef | .ptr b off=>YA b fun b=>YA off fun off=>K (.ptr b off) | .elem r off=>YA off fun off=>K (.elem r off) | .sl t z r=>YA t fun t=>K (.sl t z r) | .nils z=>K (.nils z)
 | .asl b off n=>YA b fun b=>YA off fun off=>K (.asl b off n) | .raw v=>K (.raw v) | .mp b=>YA b fun b=>K (.mp b) | .nilm=>K .nilm
 | .func f a c=>Ux a fun a=>Ux c fun c=>K (.func f a c) | .iface t v=>ZnN v fun v=>K (.iface t v) | .agg cs=>Ux cs fun cs=>K (.agg cs) | .tuple vs=>ZhX vs fun vs=>K (.tuple vs)
def ZjH (f:Frame) (d:Option Nat) (v:PV) (K:Frame->Prop):Prop:=match d with
 | some i=>Zac v fun v=>K (U6 f i v)
 | none=>K f
def ZJY {t:Bool} {X Y:Prop} (h1:t=true->X) (h2:t=false->Y):CondP t X Y:=by cases t;exact h2 rfl;exact h1 rfl
def VT {α:Type}:Nat->List α->Option (List α)
 | 0,_=>some []
 | n+1,x::l=>match VT n l with | some r=>some (x::r) | none=>none
 | _+1,[]=>none
def Z9 {α:Type}:List α->Nat->List α->List α
 | l,_,[]=>l
 | [],_,_=>[]
 | _::l,0,v::vs=>v::Z9 l 0 vs
 | x::l,n+1,vs=>x::Z9 l n vs
def Zgm (t:Nat):List Nat->Bool
 | []=>false
 | x::l=>match Nat.beq x t with | true=>true | false=>Zgm t l
def JM (t:Nat):List Nat->List Nat
 | []=>[]
 | x::l=>match Nat.beq x t with | true=>JM t l | false=>x::JM t l
def PV.cells:PV->Option (List PV)
 | .agg cs=>some cs | .undef=>none | .tuple _=>none | .raw (.func f a c)=>some [.raw (.func f a c)] | .raw _=>none | v=>some [v]
def toD:PV->Option D | .d x=>some x | .sl _ _ rows=>some (.sl rows) | .nils _=>some (.sl []) | _=>none
def ZpG:List PV->Option (List D)
 | []=>some []
 | v::l=>match toD v with | some x=>(match ZpG l with | some r=>some (x::r) | none=>none) | none=>none
def keq:IntKind->IntKind->Bool
 | .i8,.i8 | .i16,.i16 | .i32,.i32 | .i64,.i64 | .u8,.u8 | .u16,.u16 | .u32,.u32 | .u64,.u64=>true
 | _,_=>false
def Uy (op:BinOp) (k:IntKind) (a b:Int):Int:=match (Op.intBits op k a b:Sem Value) with | .pure (.int _ n)=>n | _=>0
def Zh:BinOp->IntKind->Int->Int->Int:=Classical.choose (⟨Uy,rfl⟩:∃f,f=Uy)
def YB:Zh=Uy:=Classical.choose_spec (⟨Uy,rfl⟩:∃f,f=Uy)
def InR (k:IntKind) (n:Int):Prop:=k.wrap n=n
def ZdA (k:IntKind) (n:Int) (K:PV->Prop):Prop:=(InR k n/\K (.d (.int k n)))\/K (.d (.int k (k.wrap n)))
def Zx6 (op:BinOp) (k:IntKind) (a b:Int) (K:PV->Prop):Prop:=match op with
 | .add=>ZdA k (a+b) K | .sub=>ZdA k (a - b) K | .mul=>ZdA k (a * b) K
 | .quo=>b≠0/\ZdA k (a.tdiv b) K | .rem=>b≠0/\K (.d (.int k (a.tmod b)))
 | .and=>K (.d (.int k (Zh .and k a b))) | .or=>K (.d (.int k (Zh .or k a b))) | .xor=>K (.d (.int k (Zh .xor k a b))) | .andNot=>K (.d (.int k (Zh .andNot k a b)))
 | .eql=>K (.d (.bool (decide (a=b)))) | .neq=>K (.d (.bool (!decide (a=b)))) | .lss=>K (.d (.bool (decide (a<b)))) | .leq=>K (.d (.bool (decide (a<=b))))
 | .gtr=>K (.d (.bool (decide (b<a)))) | .geq=>K (.d (.bool (decide (b<=a))))
 | _=>False
def Zx7:Operand->Bool | .const _=>true | _=>false
def Y4 (T:Tab):Nat->List (Nat×Nat)->List PV->List PV->(Bool->Prop)->Prop
 | _,[],[],[],K=>K true
 | i,(o,t)::fs,x::xs,y::ys,K=>match Nat.beq o i,(T.get t).kind,x,y with
  | true,.int _,.d (.int k a),.d (.int k' b)=>(match keq k k' with | true=>Y4 T (i+1) fs xs ys fun r=>K (decide (a=b) && r) | false=>False)
  | true,.string,.d (.str a),.d (.str b)=>Y4 T (i+1) fs xs ys fun r=>K (decide (a=b) && r)
  | true,.bool,.d (.bool a),.d (.bool b)=>Y4 T (i+1) fs xs ys fun r=>K (decide (a=b) && r)
  | _,_,_,_=>False
 | _,_,_,_,_=>False
def peq (T:Tab) (t:TypeId) (x y:Operand) (px py:PV) (K:Bool->Prop):Prop:=match (T.get t).kind with
 | .bool=>match px,py with
  | .d (.bool a),.d (.bool b)=>K (decide (a=b))
  | _,_=>False
 | .ptr _=>match px,py with
  | .d .nilp,.d .nilp=>K true
  | .d .nilp,.ptr _ _=>K false
  | .d .nilp,.elem _ _=>K false
  | .ptr _ _,.d .nilp=>K false
  | .elem _ _,.d .nilp=>K false
  | _,_=>False
 | .func=>match px,py with
  | .d .nilf,.d .nilf=>K true
  | .d .nilf,.func _ _ _=>K false
  | .func _ _ _,.d .nilf=>K false
  | _,_=>False
 | .iface=>match px,py with
  | .d .nili,.d .nili=>match Zx7 x || Zx7 y with | true=>K true | false=>False
  | .d .nili,.iface _ _=>K false
  | .iface _ _,.d .nili=>K false
  | .iface t (.d (.int k a)),.iface t' (.d (.int k' b))=>match Nat.beq t t',(T.get t).kind,(T.get t).eqok with
   | true,.int _,true=>(match keq k k' with | true=>K (decide (a=b)) | false=>False)
   | false,_,_=>K false
   | _,_,_=>False
  | _,_=>False
 | .map _ _=>match px,py with
  | .nilm,.nilm=>K true
  | .mp _,.nilm=>K false
  | .nilm,.mp _=>K false
  | _,_=>False
 | .slice _=>match px,py with
  | .nils _,.nils _=>K true
  | .d (.sl (_::_)),.nils _=>K false
  | .sl _ _ (_::_),.nils _=>K false
  | _,_=>False
 | .struct fs=>match (T.get t).eqok with
  | true=>match px,py with
   | .agg xs,.agg ys=>Y4 T 0 fs xs ys K
   | _,_=>False
  | false=>False
 | _=>False
def Zu8 (T:Tab) (op:BinOp) (t:TypeId) (x y:Operand) (px py:PV) (K:PV->Prop):Prop :=
 match px,py with
 | .d (.int k a),.d (.int k' b)=>match op with
  | .shl=>0<=b/\ZdA k (a * 2 ^ (min b.toNat k.bits)) K
  | .shr=>0<=b/\K (.d (.int k (a.fdiv (2 ^ (min b.toNat k.bits)))))
  | op=>match keq k k' with | true=>Zx6 op k a b K | false=>False
 | .d (.str a),.d (.str b)=>match op with
  | .add=>a.length+b.length<2 ^ 62/\K (.d (.str (a++b))) | .eql=>K (.d (.bool (decide (a=b)))) | .neq=>K (.d (.bool (!decide (a=b))))
  | .lss=>K (.d (.bool (Op.bytesLess a b))) | .geq=>K (.d (.bool (!Op.bytesLess a b)))
  | .leq=>K (.d (.bool (Op.bytesLess a b || decide (a=b)))) | .gtr=>K (.d (.bool (!(Op.bytesLess a b || decide (a=b)))))
  | _=>False
 | px,py=>match op with
  | .eql=>peq T t x y px py fun b=>K (.d (.bool b))
  | .neq=>peq T t x y px py fun b=>K (.d (.bool (!b)))
  | _=>False
def decodeL (s:List UInt8) (pos:Nat):Nat×Nat:=Utf8.decode ⟨s.toArray⟩ pos
def Yp (T:Tab) (fs:List (Nat×Nat)) (ρ:Operand->PV):List (Nat×Operand)->List PV->(List PV->Prop)->Prop
 | [],cs,K=>K cs
 | (i,x)::ps,cs,K=>match fs[i]?,(ρ x).cells with
  | some (o,t),some l=>match Nat.beq l.length (T.get t).size,Nat.ble (o+l.length) cs.length,(T.get t).kind with
   | _,_,.other=>False
   | true,true,_=>Yp T fs ρ ps (Z9 cs o l) K
   | _,_,_=>False
  | _,_=>False
def ZyU (s e:Nat):Nat->Nat->List (Nat×Nat)
 | 0,_=>[]
 | n+1,i=>(i * s,e)::ZyU s e n (i+1)
def Wu (lo hi:Option PV) (len:Nat) (K:Nat->Nat->Prop):Prop :=
 match lo,hi with
 | none,none=>K 0 len
 | some x,none=>match x with
  | .d (.int _ n)=>0<=n/\n<=len/\K n.toNat len
  | _=>False
 | none,some y=>match y with
  | .d (.int _ m)=>0<=m/\m<=len/\K 0 m.toNat
  | _=>False
 | some x,some y=>match x,y with
  | .d (.int _ n),.d (.int _ m)=>0<=n/\n<=m/\m<=len/\K n.toNat m.toNat
  | _,_=>False
def cut {α:Type} (l:List α) (a b:Nat):List α:=(l.take b).drop a
def U1 (T:Tab) (t:TypeId) (x:PV) (lo hi:Option PV) (K:PV->Prop):Prop:=match (T.get t).kind with
 | .string=>match x with
  | .d (.str s)=>Wu lo hi s.length fun a b=>K (.d (.str (cut s a b)))
  | _=>False
 | .slice e=>match (T.get e).kind with
  | .other=>False
  | _=>match toD x with
   | some (.sl rows)=>(∀r∈rows,r.length=(T.get e).size)/\Wu lo hi rows.length fun a b=>K (.d (.sl (cut rows a b)))
   | _=>False
 | .array n e=>match (T.get e).kind with
  | .other=>False
  | _=>match x,lo,hi with
   | .ptr b off,none,none=>K (.asl b off n)
   | .ptr b off,some (.d (.int _ a)),none=>0<=a/\a<n/\K (.asl b (off+a.toNat * (T.get e).size) (n - a.toNat))
   | _,_,_=>False
 | _=>False
def ZaA (T:Tab) (t:TypeId) (x:PV) (bx:List Box) (K:PV->Prop):Prop:=match x with
 | .ptr b off=>match bx[b]? with
  | some (.cells _ cs)=>match (T.get t).kind.isAgg with
   | true=>match VT (T.get t).size (cs.drop off) with | some l=>K (.agg l) | none=>False
   | false=>match (T.get t).kind with | .other=>False | _=>match cs[off]? with | some v=>K v | none=>False
  | _=>False
 | .elem r off=>match (T.get t).kind.isAgg with
   | true=>match VT (T.get t).size (r.drop off) with | some l=>K (.agg (l.map .d)) | none=>False
   | false=>match (T.get t).kind with | .other=>False | _=>match r[off]? with | some v=>K (.d v) | none=>False
 | _=>False
def Zrn (v:TI):Option PV:=match v.kind.isAgg,v.zero with | true,z=>some (.agg z) | false,[z]=>some z | _,_=>none
def findM (key:List UInt8):List PV->Option PV
 | .d (.str k)::v::l=>match decide (key=k) with | true=>some v | false=>findM key l
 | _=>none
def optK {α:Type} (o:Option α) (A:α->Prop) (B:Prop):Prop:=match o with | some a=>A a | none=>B
def optK.yes {α:Type} {o:Option α} {A:α->Prop} {B:Prop} {a:α} (h:o=some a) (k:A a):optK o A B:=by subst h;exact k
def optK.no {α:Type} {o:Option α} {A:α->Prop} {B:Prop} (h:o=none) (k:B):optK o A B:=by subst h;exact k
def ZJ2 {α:Type} {o:Option α} {A:α->Prop} {B:Prop} (h1:∀a,o=some a->A a) (h2:o=none->B):optK o A B:=by cases o with | some a=>exact h1 a rfl | none=>exact h2 rfl
def lkM {α:Type} (k:List UInt8):List (List UInt8×α)->Option α
 | []=>none
 | (x,v)::l=>match decide (k=x) with | true=>some v | false=>lkM k l
def Y5 {α:Type} (k:List UInt8) (v:α):List (List UInt8×α)->List (List UInt8×α)
 | []=>[(k,v)]
 | (x,u)::l=>match decide (k=x) with | true=>(x,v)::l | false=>(x,u)::Y5 k v l
def ZjI (k:List UInt8) (rows:List (List D)):Option (List UInt8×PV)->PV
 | none=>.d (.sl rows)
 | some (k',v)=>match decide (k=k') with | true=>v | false=>.d (.sl rows)
def U2:List (List UInt8×List (List D))->Option (List UInt8×PV)->List PV
 | [],_=>[]
 | (k,rows)::l,fo=>.d (.str k)::ZjI k rows fo::U2 l fo
def ZGP (m:List (List UInt8×List (List D))) (fo:Option (List UInt8×PV)):List PV :=
 (match fo with | none=>.nilm | some (k,v)=>.tuple [.d (.str k),v])::m.map fun x=>.tuple [.d (.str x.1),.d (.sl x.2)]
def Zeg:List (List UInt8×MV)->List PV
 | []=>[]
 | (k,v)::l=>.d (.str k)::v.pv::Zeg l
def ZG6:PV->Option MV
 | .agg cs=>match ZpG cs with | some l=>some (.agg l) | none=>none
 | v=>match toD v with | some x=>some (.one x) | none=>none
def YY (T:Tab) (t:TypeId) (m key:PV) (ok:Bool) (bx:List Box) (K:PV->Prop):Prop:=match (T.get t).kind with
 | .map _ e=>match (T.get e).kind with
  | .other=>False
  | _=>match key with
   | .d (.str k) =>
    match Zrn (T.get e) with
    | some z=>match m with
     | .nilm=>K (match ok with | true=>.tuple [z,.d (.bool false)] | false=>z)
     | .mp b=>match bx[b]? with
      | some (.map cs _ _)=>match findM k cs with
       | some v=>K (match ok with | true=>.tuple [v,.d (.bool true)] | false=>v)
       | none=>K (match ok with | true=>.tuple [z,.d (.bool false)] | false=>z)
      | some (.dmap l)=>optK (lkM k l) (fun v=>K (match ok with | true=>.tuple [v.pv,.d (.bool true)] | false=>v.pv)) (K (match ok with | true=>.tuple [z,.d (.bool false)] | false=>z))
      | some (.smap _ l fo)=>match fo with
       | none=>optK (lkM k l) (fun v=>K (match ok with | true=>.tuple [.d (.sl v),.d (.bool true)] | false=>.d (.sl v))) (K (match ok with | true=>.tuple [z,.d (.bool false)] | false=>z))
       | some (k',v)=>match ok,z with | false,.nils _=>k=k'/\K v | _,_=>False
      | _=>False
     | _=>False
    | none=>False
   | _=>False
 | _=>False
def qop (T:Tab) (o:Op) (ty:TypeId) (ρ:Operand->PV) (bx:List Box) (K:PV->Prop):Prop :=
 match o with
 | .move x | .assign x=>match ρ x with
  | .nils _=>match (T.get ty).kind with | .slice e=>K (.nils e) | _=>K (.nils 0)
  | v=>K v
 | .pick c a b=>match ρ c with | .d (.bool t)=>CondP t (K (ρ a)) (K (ρ b)) | _=>False
 | .build t ps=>match (T.get t).kind with
  | .struct fs=>Yp T fs ρ ps.toList (T.get t).zero fun cs=>K (.agg cs)
  | .array n e=>match (T.get e).kind with
   | .other=>False
   | _=>match Nat.ble 1 (T.get e).size with
    | true=>Yp T (ZyU (T.get e).size e n 0) ρ ps.toList (T.get t).zero fun cs=>K (.agg cs)
    | false=>False
  | _=>False
 | .load t a=>ZaA T t (ρ a) bx K
 | .lookup t m x ok=>YY T t (ρ m) (ρ x) ok bx K
 | .nilCheck x=>match ρ x with
  | .ptr b off=>K (.ptr b off)
  | .elem r off=>K (.elem r off)
  | .func g a c=>K (.func g a c)
  | _=>False
 | .binOp op t x y _=>Zu8 T op t x y (ρ x) (ρ y) K
 | .unOp op _ x=>match op,ρ x with
  | .not,.d (.bool b)=>K (.d (.bool (!b)))
  | .neg,.d (.int k a)=>ZdA k (0 - a) K
  | .xor,.d (.int k a)=>K (.d (.int k (Zh .xor k (if k.signed then -1 else k.max) a)))
  | _,_=>False
 | .convert s d x=>match (T.get s).kind with
  | .other=>False
  | .slice e=>match (T.get d).kind with
   | .string=>match (T.get e).kind with
    | .int .u8=>match toD (ρ x) with
     | some (.sl rows)=>∃l:List UInt8,rows=l.map (fun b=>[.int .u8 b.toNat])/\K (.d (.str l))
     | _=>False
    | _=>False
   | _=>False
  | _=>match (T.get d).kind with
   | .int k=>match ρ x with | .d (.int _ n)=>ZdA k n K | _=>False
   | .string=>match ρ x with | .d (.str s)=>K (.d (.str s)) | .d (.int _ n)=>K (.d (.str (Utf8.encode n).data.toList)) | _=>False
   | _=>False
 | .fieldAddr s x i=>match (T.get s).kind with
  | .struct fs=>match fs[i]? with
   | some (o,_)=>match ρ x with
    | .ptr b off=>K (.ptr b (off+o))
    | .elem r off=>K (.elem r (off+o))
    | _=>False
   | none=>False
  | _=>False
 | .field s x i=>match (T.get s).kind with
  | .struct fs=>match fs[i]? with
   | some (o,t)=>match ρ x with
    | .agg cs=>match (T.get t).kind.isAgg with
     | true=>match VT (T.get t).size (cs.drop o) with | some l=>K (.agg l) | none=>False
     | false=>match (T.get t).kind with | .other=>False | _=>match cs[o]? with | some v=>K v | none=>False
    | _=>False
   | none=>False
  | _=>False
 | .index t x i=>match ρ i with
  | .d (.int _ n)=>match (T.get t).kind with
   | .string=>match ρ x with
    | .d (.str s)=>0<=n/\n<s.length/\K (.d (.int .u8 (s.getD n.toNat 0).toNat))
    | _=>False
   | .array m e=>match ρ x with
    | .agg cs=>match (T.get e).kind.isAgg with
     | true=>match VT (T.get e).size (cs.drop (n.toNat * (T.get e).size)) with
      | some l=>0<=n/\n<m/\K (.agg l)
      | none=>False
     | false=>match (T.get e).kind with
      | .other=>False
      | _=>match Nat.beq (T.get e).size 1 with
       | true=>match cs[n.toNat]? with | some v=>0<=n/\n<m/\K v | none=>False
       | false=>False
    | _=>False
   | _=>False
  | _=>False
 | .indexAddr t x i=>match ρ i with
  | .d (.int _ n)=>match (T.get t).kind with
   | .slice e=>match (T.get e).kind with
    | .other=>False
    | _=>match ρ x with
     | .asl b off m=>0<=n/\n<m/\K (.ptr b (off+n.toNat * (T.get e).size))
     | px=>match toD px with
      | some (.sl rows)=>∃r,0<=n/\rows[n.toNat]?=some r/\(match Nat.beq r.length (T.get e).size with | true=>K (.elem r 0) | false=>False)
      | _=>False
   | .array m e=>match (T.get e).kind with
    | .other=>False
    | _=>match ρ x with
     | .ptr b off=>0<=n/\n<m/\K (.ptr b (off+n.toNat * (T.get e).size))
     | _=>False
   | _=>False
  | _=>False
 | .slice t x lo hi none=>U1 T t (ρ x) (lo.map ρ) (hi.map ρ) K
 | .extract x i=>match ρ x with
  | .tuple vs=>match vs[i]? with | some v=>K v | none=>False
  | _=>False
 | .makeFunc (.func g) a c=>K (.func g (a.toList.map ρ) (c.toList.map ρ))
 | .makeInterface t x=>match (T.get t).kind with
  | .iface=>False
  | .other=>False
  | _=>K (.iface t (ρ x))
 | .typeAssert x _ t true=>match (T.get t).kind with
  | .iface=>False
  | .other=>False
  | _=>match ρ x with
   | .iface t' v=>match Nat.beq t' t with
    | true=>K (.tuple [v,.d (.bool true)])
    | false=>False
   | _=>False
 | .call { callee:=.builtin b,args,argTypes }=>match b,argTypes.toList,args.toList.map ρ with
  | .len,t::_,[v]=>match (T.get t).kind with
   | .string=>match v with | .d (.str s)=>K (.d (.int .i64 s.length)) | _=>False
   | .slice _=>match v with
    | .asl _ _ n=>K (.d (.int .i64 n))
    | v=>match toD v with | some (.sl rows)=>K (.d (.int .i64 rows.length)) | _=>False
   | .map _ _=>match v with
    | .nilm=>K (.d (.int .i64 (0:Nat)))
    | .mp b=>match bx[b]? with | some (.map cs _ _)=>K (.d (.int .i64 (cs.length / 2:Nat))) | some (.dmap l)=>K (.d (.int .i64 l.length)) | _=>False
    | _=>False
   | _=>False
  | .min,_,[.d (.int k a),.d (.int k' b)]=>match keq k k' with | true=>K (.d (.int k (min a b))) | false=>False
  | .max,_,[.d (.int k a),.d (.int k' b)]=>match keq k k' with | true=>K (.d (.int k (max a b))) | false=>False
  | _,_,_=>False
 | _=>False
def ZlT (T:Tab) (o:Op):Option Operand:=match o with
 | .convert s d x=>match (T.get s).kind with
  | .string=>match (T.get d).kind with
   | .slice e=>match (T.get e).kind with
    | .int .u8=>some x
    | _=>none
   | _=>none
  | _=>none
 | _=>none
def ZlU (v:PV):Option (List D):=match v.cells with | some l=>ZpG l | none=>none
def Wv (w:Nat) (ρ:Operand->PV):List (Nat×Operand)->List (List D)->Option (List (List D))
 | [],rows=>some rows
 | (i,x)::ps,rows=>match ZlU (ρ x) with
  | some r=>(match Nat.beq r.length w,Nat.ble (i+1) rows.length with | true,true=>Wv w ρ ps (rows.set i r) | _,_=>none)
  | none=>none
def Zcf (zero:List D) (ρ:Operand->PV) (n:Nat) (ps:List (Nat×Operand)):Option (List (List D)):=Wv zero.length ρ ps (List.replicate n zero)
def ZhY (T:Tab) (o:Op) (ty:TypeId) (ρ:Operand->PV) (bx:List Box) (K:PV->Prop):Prop:=match ZlT T o with
 | some x=>match ρ x with
  | .d (.str s)=>K (.d (.sl (s.map fun b=>[.int .u8 b.toNat])))
  | _=>False
 | none=>match o with
  | .buildSlice t n ps=>match (T.get t).kind with
   | .slice e=>match (T.get e).kind with
    | .other=>False
    | _=>match ZpG (T.get e).zero with
     | some zero=>match Nat.ble 1 zero.length,Nat.ble (n * zero.length) 16777216,Zcf zero ρ n ps.toList with
      | true,true,some rows=>K (.d (.sl rows))
      | _,_,_=>False
     | none=>False
   | _=>False
  | .makeSlice t l c=>match (T.get t).kind with
   | .slice e=>match (T.get e).kind with
    | .other=>False
    | _=>match ZpG (T.get e).zero,ρ l,ρ c with
     | some zero,.d (.int .i64 (.ofNat n)),.d (.int .i64 (.ofNat m))=>n=m/\1<=zero.length/\n * zero.length<=16777216/\n * (T.get e).bytes<=16777216/\K (.d (.sl (List.replicate n zero)))
     | _,_,_=>False
   | _=>False
  | o=>qop T o ty ρ bx K
def St.set (σ:St) (b:Nat) (x:Box):St:={ σ with bx:=σ.bx.set b x }
def St.new (σ:St) (x:Box):St:={ σ with bx:=σ.bx++[x] }
def Vn (T:Tab) (tx el:Nat) (x:PV):Option (List (List D)):=match (T.get tx).kind with
 | .string=>match (T.get el).kind with
  | .int .u8=>match x with
   | .d (.str s)=>some (s.map fun b=>[.int .u8 b.toNat])
   | _=>none
  | _=>none
 | .slice _=>match toD x with
  | some (.sl rows)=>some rows
  | _=>none
 | _=>none
def ZpH (key:List UInt8) (v:PV):List PV->Option (List PV)
 | .d (.str k)::u::l=>match decide (key=k) with
  | true=>some (.d (.str k)::v::l)
  | false=>match ZpH key v l with | some l=>some (.d (.str k)::u::l) | none=>none
 | _=>none
def Zeh (T:Tab) (t:TypeId) (m key v:PV) (σ:St) (K:PV->St->Prop):Prop:=match (T.get t).kind with
 | .map _ _=>match key,m with
  | .d (.str k),.mp b=>match σ.bx[b]? with
   | some (.map cs bn ck)=>match ZpH k v cs with
    | some cs=>K .undef (σ.set b (.map cs bn ck))
    | none=>K .undef (σ.set b (.map (cs++[.d (.str k),v]) (bn++[ck]) (ck+1)))
   | some (.dmap l)=>match ZG6 v with
    | some x=>K .undef (σ.set b (.dmap (Y5 k x l)))
    | none=>False
   | some (.smap el l (some (k',_)))=>k=k'/\K .undef (σ.set b (.smap el (Y5 k [] l) (some (k,v))))
   | _=>False
  | _,_=>False
 | _=>False
def eop (T:Tab) (o:Op) (ρ:Operand->PV) (σ:St) (K:PV->St->Prop):Prop :=
 match o with
 | .alloc e=>match (T.get e).kind with | .other=>False | _=>K (.ptr σ.bx.length 0) (σ.new (.cells e (T.get e).zero))
 | .box e x=>match (ρ x).cells with | some l=>K (.ptr σ.bx.length 0) (σ.new (.cells e l)) | none=>False
 | .store t a x=>match ρ a with
  | .ptr b off=>match σ.bx[b]? with
   | some (.cells ty cs)=>match (ρ x).cells with
    | some l=>match Nat.beq l.length (T.get t).size,Nat.ble (off+l.length) cs.length,(T.get t).kind with
     | _,_,.other=>False
     | true,true,_=>K .undef (σ.set b (.cells ty (Z9 cs off l)))
     | _,_,_=>False
    | none=>False
   | _=>False
  | _=>False
 | .range t x=>match (T.get t).kind with
  | .string=>match ρ x with
   | .d (.str s)=>K (.ptr σ.bx.length 0) (σ.new (.iter s 0))
   | _=>False
  | _=>False
 | .makeMap t none=>match (T.get t).kind with
  | .map _ e=>match (T.get e).kind with
   | .slice _=>K (.mp σ.bx.length) (σ.new (.map [] [] 0))
   | .map _ _=>K (.mp σ.bx.length) (σ.new (.map [] [] 0))
   | _=>K (.mp σ.bx.length) (σ.new (.dmap []))
  | _=>False
 | .mapUpdate t m x v=>Zeh T t (ρ m) (ρ x) (ρ v) σ K
 | .insert t m x v=>Zeh T t (ρ m) (ρ x) (ρ v) σ K
 | .next x true=>match ρ x with
  | .ptr b 0=>match σ.bx[b]? with
   | some (.iter s pos)=>CondP (decide (pos<s.length)) (K (.tuple [.d (.bool true),.d (.int .i64 pos),.d (.int .i32 (decodeL s pos).1)]) (σ.set b (.iter s (pos+(decodeL s pos).2)))) (K (.tuple [.d (.bool false)]) σ)
   | _=>False
  | _=>False
 | .call { callee:=.builtin .append,args,argTypes }=>match argTypes.toList,args.toList.map ρ with
  | [t,tx],[s,x]=>match (T.get t).kind with
   | .slice el=>match (T.get el).kind with
    | .other=>False
    | _=>match Nat.ble 1 (T.get el).size,Vn T tx el x with
     | true,some more=>match s with
      | .nils _=>(∀r∈more,r.length=(T.get el).size)/\more.length * (T.get el).bytes<=2 ^ 47/\more.length<=2 ^ 47/\K (.sl σ.nx el more) { σ with tk:=σ.nx::σ.tk,nx:=σ.nx+1 }
      | .sl tok e2 rows=>match Zgm tok σ.tk,Nat.beq e2 el with
       | true,true=>(∀r∈more,r.length=(T.get el).size)/\(rows.length+more.length) * (T.get el).bytes<=2 ^ 47/\rows.length+more.length<=2 ^ 47 /\
         K (.sl σ.nx el (rows++more)) { σ with tk:=σ.nx::JM tok σ.tk,nx:=σ.nx+1 }
       | _,_=>False
      | _=>False
     | _,_=>False
   | _=>False
  | _,_=>False
 | _=>False
def Xe:Op->Bool
 | .alloc _ | .box _ _ | .store _ _ _ | .range _ _ | .next _ _ | .makeMap _ _ | .mapUpdate _ _ _ _ | .insert _ _ _ _=>true
 | .call { callee:=.builtin .append,.. }=>true
 | .call { callee:=.builtin _,.. }=>false
 | .call _=>true
 | .panic _=>true
 | _=>false
mutual
def bnd (n:Nat):PV->Bool
 | .ptr b _=>Nat.ble (b+1) n
 | .asl b _ _=>Nat.ble (b+1) n
 | .mp b=>Nat.ble (b+1) n
 | .func _ a c=>Zro n a && Zro n c
 | .iface _ v=>bnd n v
 | .agg cs=>Zro n cs
 | .tuple vs=>Zro n vs
 | _=>true
def Zro (n:Nat):List PV->Bool
 | []=>true
 | v::l=>bnd n v && Zro n l
end
mutual
def clean:PV->PV
 | .sl _ _ rows=>.d (.sl rows)
 | .nils _=>.d (.sl [])
 | .func f a c=>.func f (XE a) (XE c)
 | .iface t v=>.iface t (clean v)
 | .agg cs=>.agg (XE cs)
 | .tuple vs=>.tuple (XE vs)
 | .d x=>.d x
 | .undef=>.undef
 | .ptr b o=>.ptr b o
 | .elem r o=>.elem r o
 | .asl b o n=>.asl b o n
 | .raw v=>.raw v
 | .mp b=>.mp b
 | .nilm=>.nilm
def XE:List PV->List PV
 | []=>[]
 | v::l=>clean v::XE l
end
def Ja (f:Frame):Frame:=fun i=>clean (f i)
mutual
def cleanN:PV->PV
 | .sl _ _ rows=>.d (.sl rows)
 | .nils e=>.nils e
 | .func f a c=>.func f (XE a) (XE c)
 | .iface t v=>.iface t (clean v)
 | .agg cs=>.agg (cleanNL cs)
 | .tuple vs=>.tuple (XE vs)
 | .d x=>.d x
 | .undef=>.undef
 | .ptr b o=>.ptr b o
 | .elem r o=>.elem r o
 | .asl b o n=>.asl b o n
 | .raw v=>.raw v
 | .mp b=>.mp b
 | .nilm=>.nilm
def cleanNL:List PV->List PV
 | []=>[]
 | v::l=>cleanN v::cleanNL l
end
inductive PEnd where | ret (v:PV) | panic (v:PV)
inductive PExit where | normal | exit (id:Nat) | goto (l:Nat) | ret | panic (v:PV)
abbrev PQ:=PExit->Frame->St->Prop
structure LoopAnn where
 live:List Nat
 keep:List Nat
 I:List PV->St->Prop
 μ:List PV->St->Nat
structure Cx where
 T:Tab
 call:FuncId->List PV->St->(PEnd->St->Prop)->Prop
 raw:Value->List PV->St->(PEnd->St->Prop)->Prop
 iter:FuncId->List PV->(Value->List PV->St->(PEnd->St->Prop)->Prop)->St->(PEnd->St->Prop)->Prop
 loop:Nat->LoopAnn
 unr:Nat->Nat:=fun _=>0
 tie:Nat->Bool:=fun _=>false
 bsl:Nat->Bool:=fun _=>false
 pk:Bool:=true
 cut:Nat->Option (List Nat×(List PV->St->Prop)):=fun _=>none
 ag:Nat->Bool:=fun _=>false
 foc:Nat->Bool:=fun _=>false
def LoopAnn.tied (A:LoopAnn) (f:Frame):LoopAnn:=⟨A.live,A.keep,fun vs σ=>A.I (A.keep.map (fun i=>clean (f i))++vs) σ,fun vs σ=>A.μ (A.keep.map (fun i=>clean (f i))++vs) σ⟩
def Cx.inner (C:Cx):Cx:={ C with iter:=fun _ _ _ _ _=>False }
def Cx.calm (C:Cx):Cx:={ C with raw:=fun _ _ _ _=>False,pk:=false }
def Cx.pf (C:Cx) (f:Frame):Frame:=match C.pk with | true=>Ja f | false=>fun _=>.undef
def ZjJ:List PV->(List PV->Prop)->Prop
 | [],K=>K []
 | v::l,K=>Zac v fun v=>ZjJ l fun l=>K (v::l)
def Zei:List Nat->(List Nat->Prop)->Prop
 | [],K=>K []
 | t::l,K=>YA t fun t=>Zei l fun l=>K (t::l)
def Wq:List Box->(List Box->Prop)->Prop
 | [],K=>K []
 | .cells t cs::l,K=>ZjJ cs fun cs=>Wq l fun l=>K (.cells t cs::l)
 | .iter s p::l,K=>Wq l fun l=>K (.iter s p::l)
 | .loop st pd r::l,K=>Wq l fun l=>K (.loop st pd r::l)
 | .dmap m::l,K=>Wq l fun l=>K (.dmap m::l)
 | .smap el m none::l,K=>Wq l fun l=>K (.smap el m none::l)
 | .smap el m (some (k,v))::l,K=>Zac v fun v=>Wq l fun l=>K (.smap el m (some (k,v))::l)
 | .map cs bn ck::l,K=>ZjJ cs fun cs=>Zei bn fun bn=>YA ck fun ck=>Wq l fun l=>K (.map cs bn ck::l)
def XW (σ:St) (K:St->Prop):Prop:=Wq σ.bx fun bx=>Zei σ.tk fun tk=>YA σ.nx fun nx=>K ⟨bx,tk,nx⟩
def Zej (C:Cx) (fv:PV) (args:List PV) (f:Frame) (σ:St) (K:PEnd->Frame->St->Prop):Prop:=match fv with
 | .func g first caps=>C.call g (first++args++caps) σ fun e σ=>K e f σ
 | .raw v=>C.raw v args σ fun e σ=>K e (Ja f) σ
 | _=>False
def Wj (C:Cx) (o:Oper) (f:Frame) (σ:St) (Q:PQ) (K:Frame->St->Prop):Prop :=
 match Xe o.op with
 | false=>ZhY C.T o.op o.type (ev f) σ.bx fun v=>ZjH f o.dst v fun f=>K f σ
 | true=>match o.op with
  | .call { callee:=.value x,args,.. }=>Zej C (ev f x) (args.toList.map (ev f)) f σ fun e f σ'=>match e with
    | .ret v=>XW σ' fun σ'=>ZjH f o.dst v fun f=>K f σ'
    | .panic v=>XW σ' fun σ'=>Zac v fun v=>Q (.panic v) (C.pf f) σ'
  | .panic x=>match ev f x with
    | .iface t v=>Q (.panic (.iface t v)) (C.pf f) σ
    | _=>False
  | op=>eop C.T op (ev f) σ fun v σ'=>XW σ' fun σ'=>ZjH f o.dst v fun f=>K f σ'
def WU (all:List Oper) (j:Nat):Option Nat:=match all[j]? with | some o=>o.dst | none=>none
def VU (C:Cx) (all:List Oper) (Q:PQ) (o:Oper) (f:Frame) (σ:St) (K:Frame->St->Prop):Prop :=
 match o.guard with
 | none=>Wj C o f σ Q K
 | some (j,want)=>match WU all j with
  | some s=>match f s with
   | .d (.bool t)=>CondP t
     (match want with | true=>Wj C o (U6 f s (.d (.bool true))) σ Q K | false=>ZjH (U6 f s (.d (.bool true))) o.dst (.raw Go.undef) fun f=>K f σ)
     (match want with | false=>Wj C o (U6 f s (.d (.bool false))) σ Q K | true=>ZjH (U6 f s (.d (.bool false))) o.dst (.raw Go.undef) fun f=>K f σ)
   | .raw (.tuple _)=>ZjH f o.dst (.raw Go.undef) fun f=>K f σ
   | _=>False
  | none=>False
def ZgE (C:Cx) (o:Oper):Bool:=match o.dst with
 | some d=>match o.guard with | none=>C.bsl d | _=>false
 | none=>false
def ZDj (T:Tab) (o:Op) (ρ:Operand->PV) (σ:St) (K:PV->St->Prop):Prop:=match o with
 | .buildSlice t n ps=>match (T.get t).kind with
   | .slice e=>match (T.get e).kind with
    | .other=>False
    | _=>match ZpG (T.get e).zero with
     | some zero=>match Nat.ble 1 zero.length,Nat.ble (n * zero.length) 16777216,Nat.ble 1 n,Zcf zero ρ n ps.toList with
      | true,true,true,some rows=>K (.sl σ.nx e rows) { σ with tk:=σ.nx::σ.tk,nx:=σ.nx+1 }
      | _,_,_,_=>False
     | none=>False
   | _=>False
 | .convert s d x=>match (T.get s).kind with
   | .slice e=>match (T.get d).kind,(T.get e).kind,ρ x with
    | .string,.int .u8,.asl b off n=>match σ.bx[b]? with
     | some (.cells _ cs)=>∃l:List UInt8,l.length=n/\VT n (cs.drop off)=some (l.map fun b=>.d (.int .u8 b.toNat))/\K (.d (.str l)) σ
     | _=>False
    | _,_,_=>False
   | _=>False
 | .makeMap t none=>match (T.get t).kind with
  | .map _ e=>match (T.get e).kind with
   | .slice el=>K (.mp σ.bx.length) (σ.new (.smap el [] none))
   | _=>False
  | _=>False
 | _=>False
def ZjK (C:Cx) (all:List Oper) (Q:PQ) (o:Oper) (f:Frame) (σ:St) (K:Frame->St->Prop):Prop:=match ZgE C o with
 | true=>ZDj C.T o.op (ev f) σ fun v σ'=>XW σ' fun σ'=>ZjH f o.dst v fun f=>K f σ'
 | false=>VU C all Q o f σ K
def Zrj (C:Cx) (all:List Oper) (Q:PQ):List Oper->Frame->St->Prop
 | [],f,σ=>Q .normal f σ
 | o::rest,f,σ=>ZjK C all Q o f σ (Zrj C all Q rest)
structure Ld where
 i:Nat
 b:Nat
 off:Nat
 n:Nat
def Yc (bx:List Box) (b off n:Nat):Option (Nat×List PV×List (List UInt8×MV)):=match bx[b]? with
 | some (.cells _ cs)=>some (0,(cs.drop off).take n,[])
 | some (.map cs _ _)=>some (1,cs,[])
 | some (.dmap m)=>some (2,[],m)
 | some (.smap _ m fo)=>some (3,ZGP m fo,[])
 | _=>none
def Zak (acc:List Nat):List Edge->Nat->Nat
 | [],s=>s
 | e::l,s=>match Region.binds .any e with
  | true=>Zak acc l (s ||| 2 ^ e.on ||| acc.getD e.on 0)
  | false=>Zak acc l s
def WV:List Oper->List Nat->List Nat
 | [],acc=>acc
 | o::l,acc=>WV l (acc++[Zak acc o.after.toList 0])
def anc (ms:List Nat) (i j:Nat):Bool:=(ms.getD j 0).testBit i
def VG (o:Oper) (left:List (Nat×Oper)):Bool:=match left with
 | []=>false
 | (i,_)::l=>(o.after.toList.any fun e=>Region.binds .any e && Nat.beq e.on i) || VG o l
def ZhZ:List (Nat×Oper)->List (Nat×Oper)->Option (Nat×Oper)
 | _,[]=>none
 | left,(i,o)::l=>match Xe o.op,VG o left with
  | false,false=>some (i,o)
  | _,_=>ZhZ left l
def YI (i:Nat):List (Nat×Oper)->List (Nat×Oper)
 | []=>[]
 | (j,o)::l=>match Nat.beq i j with | true=>l | false=>(j,o)::YI i l
def U3:Nat->List (Nat×Oper)->List (Nat×Oper)
 | 0,l=>l
 | _+1,[]=>[]
 | n+1,x::l=>match ZhZ (x::l) (x::l) with
  | some (i,o)=>(i,o)::U3 n (YI i (x::l))
  | none=>x::U3 n l
def ZI:Nat->List Oper->List (Nat×Oper)
 | _,[]=>[]
 | i,o::l=>(i,o)::ZI (i+1) l
def Zh0 (ops:List Oper):List (Nat×Oper):=U3 ops.length (ZI 0 ops)
def Zrp (ms:List Nat) (j:Nat) (pre post:List Box):List Ld->Prop->Prop
 | [],X=>X
 | ⟨i,b,off,n⟩::l,X=>match anc ms i j with
  | true=>Zrp ms j pre post l X
  | false=>Yc pre b off n=Yc post b off n/\Zrp ms j pre post l X
def Zu9 (T:Tab) (o:Op) (ρ:Operand->PV):Option (Nat×Nat×Nat):=match o with
 | .load t a=>match ρ a with
  | .ptr b off=>some (b,off,(T.get t).size)
  | _=>none
 | .lookup _ x _ _=>match ρ x with
  | .mp b=>some (b,0,0)
  | _=>none
 | .call { callee:=.builtin .len,args,.. }=>match args.toList.map ρ with
  | [.mp b]=>some (b,0,0)
  | _=>none
 | _=>none
def U7 (T:Tab) (o:Oper) (i:Nat) (f:Frame) (ctx:List Ld):List Ld:=match Zu9 T o.op (ev f) with
 | some (b,off,n)=>⟨i,b,off,n⟩::ctx
 | none=>ctx
def Ww (C:Cx) (all:List Oper) (ms:List Nat) (Q:PQ) (i:Nat) (o:Oper) (ctx:List Ld) (f:Frame) (σ:St) (K:List Ld->Frame->St->Prop):Prop :=
 VU C all Q o f σ fun f' σ'=>match Xe o.op with
  | true=>Zrp ms i σ.bx σ'.bx ctx (K ctx f' σ')
  | false=>K (U7 C.T o i f ctx) f' σ'
def Wx (C:Cx) (all:List Oper) (ms:List Nat) (Q:PQ):List (Nat×Oper)->List Ld->Frame->St->Prop
 | [],_,f,σ=>Q .normal f σ
 | (i,o)::rest,ctx,f,σ=>Ww C all ms Q i o ctx f σ (Wx C all ms Q rest)
def ZpI (left:List (Nat×Oper)):List (Nat×Oper)->(Nat->Oper->Prop)->Prop
 | [],_=>True
 | (i,o)::l,X=>match VG o left with
  | true=>ZpI left l X
  | false=>X i o/\ZpI left l X
def WX (C:Cx) (all:List Oper) (ms:List Nat) (Q:PQ):Nat->List (Nat×Oper)->List Ld->Frame->St->Prop
 | _,[],_,f,σ=>Q .normal f σ
 | 0,_::_,_,_,_=>False
 | n+1,x::l,ctx,f,σ=>match ZhZ (x::l) (x::l) with
  | some (i,o)=>Ww C all ms Q i o ctx f σ (WX C all ms Q n (YI i (x::l)))
  | none=>ZpI (x::l) (x::l) fun i o=>Ww C all ms Q i o ctx f σ (WX C all ms Q n (YI i (x::l)))
def ZgF (ms:List Nat):Option Nat->List (Nat×Oper)->Bool
 | _,[]=>true
 | prev,(i,o)::l=>match Xe o.op with
  | false=>ZgF ms prev l
  | true=>(match prev with | none=>true | some j=>anc ms j i) && ZgF ms (some i) l
def toks:Nat->List Nat
 | 0=>[]
 | k+1=>k::toks k
def Zvl (n:Nat) (tk:List Nat) (k:Nat) (v:PV) (K:PV->List Nat->Nat->Prop):Prop:=match v with
 | .sl t e rows=>match Zgm t tk with
  | true=>K (.sl k e rows) (JM t tk) (k+1)
  | false=>K (.d (.sl rows)) tk k
 | .nils e=>K (.sl k e []) tk (k+1)
 | v=>match bnd n v with
  | true=>Zac (clean v) fun v=>K v tk k
  | false=>K .undef tk k
def Zvm (n:Nat):List PV->List Nat->Nat->(List PV->List Nat->Nat->Prop)->Prop
 | [],tk,k,K=>K [] tk k
 | v::l,tk,k,K=>Zvl n tk k v fun v tk k=>Zvm n l tk k fun l tk k=>K (v::l) tk k
def Zek (n:Nat) (tk:List Nat) (k:Nat) (v:PV) (K:PV->List Nat->Nat->Prop):Prop:=match v with
 | .sl t e rows=>match Zgm t tk with
  | true=>K (.sl k e rows) (JM t tk) (k+1)
  | false=>K (.d (.sl rows)) tk k
 | .nils e=>K (.sl k e []) tk (k+1)
 | v=>match bnd n v with
  | true=>Zac (cleanN v) fun v=>K v tk k
  | false=>K .undef tk k
def ZlV (n:Nat):List PV->List Nat->Nat->(List PV->List Nat->Nat->Prop)->Prop
 | [],tk,k,K=>K [] tk k
 | v::l,tk,k,K=>Zek n tk k v fun v tk k=>ZlV n l tk k fun l tk k=>K (v::l) tk k
def ZjL (n:Nat) (tk:List Nat) (k:Nat) (v:PV) (K:PV->List Nat->Nat->Prop):Prop:=match v with
 | .agg cs=>ZlV n cs tk k fun cs tk k=>K (.agg cs) tk k
 | v=>Zek n tk k v K
def ZlW (n:Nat):List PV->List Nat->Nat->(List PV->List Nat->Nat->Prop)->Prop
 | [],tk,k,K=>K [] tk k
 | v::l,tk,k,K=>ZjL n tk k v fun v tk k=>ZlW n l tk k fun l tk k=>K (v::l) tk k
def Zrq (md n:Nat) (vs:List PV) (tk:List Nat) (k:Nat) (K:List PV->List Nat->Nat->Prop):Prop:=match md with
 | 0=>Zvm n vs tk k K
 | 1=>ZlV n vs tk k K
 | _=>ZlW n vs tk k K
def Zel (n:Nat):Nat->List Box->List Nat->Nat->(List Box->List Nat->Nat->Prop)->Prop
 | 0,_,tk,k,K=>K [] tk k
 | _+1,[],_,_,_=>False
 | m+1,.cells t cs::l,tk,k,K=>Zvm n cs tk k fun cs tk k=>Zel n m l tk k fun l tk k=>K (.cells t cs::l) tk k
 | m+1,.iter s p::l,tk,k,K=>Zel n m l tk k fun l tk k=>K (.iter s p::l) tk k
 | m+1,.loop st pd r::l,tk,k,K=>Zel n m l tk k fun l tk k=>K (.loop st pd r::l) tk k
 | m+1,.dmap c::l,tk,k,K=>Zel n m l tk k fun l tk k=>K (.dmap c::l) tk k
 | m+1,.smap el c none::l,tk,k,K=>Zel n m l tk k fun l tk k=>K (.smap el c none::l) tk k
 | _+1,.smap _ _ (some _)::_,_,_,_=>False
 | m+1,.map cs bn ck::l,tk,k,K=>Zvm n cs tk k fun cs tk k=>Zel n m l tk k fun l tk k=>K (.map cs bn ck::l) tk k
def Zrr (n:Nat) (vs:List PV) (σ:St) (K:List PV->St->Prop):Prop :=
 Zvm n vs σ.tk 0 fun vs tk k=>Zel n n σ.bx tk k fun bs _ k=>K vs ⟨bs,toks k,k⟩
def Jb (ag:Bool) (n:Nat) (vs:List PV) (σ:St) (K:List PV->St->Prop):Prop:=match ag with
 | true=>ZlW n vs σ.tk 0 fun vs tk k=>Zel n n σ.bx tk k fun bs _ k=>K vs ⟨bs,toks k,k⟩
 | false=>Zrr n vs σ K
def Zh1 (f:Frame):List Nat->List PV->Frame
 | i::is,v::vs=>U6 (Zh1 f is vs) i v
 | _,_=>f
def ZlX (f:Frame):List Nat->Frame
 | []=>fun _=>.undef
 | i::is=>U6 (ZlX f is) i (clean (f i))
def Xl:List Oper->List Nat->Bool
 | [],_=>true
 | o::l,ks=>(match o.dst with | some d=>!(Zgm d ks) | none=>true) && Xl l ks
def Yu (ks:List Nat):Code->Bool
 | .region _ ops _=>Xl ops.toList ks
 | .seq a b=>Yu ks a && Yu ks b
 | .cond _ a b=>Yu ks a && Yu ks b
 | .block _ b=>Yu ks b
 | .loop b=>Yu ks b
 | .rangeFunc ..=>true
 | .scope b=>Yu ks b
 | _=>true
def YW:Code->Nat
 | .region id _ _=>id
 | .seq a _=>YW a
 | .cond _ a _=>YW a
 | .block _ b=>YW b
 | .loop b=>YW b
 | .scope b=>YW b
 | _=>0
def Zrs:Frame->List Nat->List PV->Frame
 | f,i::is,v::vs=>Zrs (U6 f i v) is vs
 | f,_,_=>f
def ZDw (i:Nat) (r:Loop) (st:LoopState) (pd:Option Code) (b:Bool) (σ:St) (K:PEnd->St->Prop):Prop :=
 σ.bx[i]?=some (.loop .busy none r)/\K (.ret (.d (.bool b))) (σ.set i (.loop st pd r))
def ZyV (i l:Nat) (r:Loop) (ps:List Nat) (WA WB:PQ->Frame->St->Prop) (f:Frame) (v:Value) (args:List PV) (σ:St) (K:PEnd->St->Prop):Prop :=
 v=.func (.yield l) #[] #[]/\σ.bx[i]?=some (.loop .ready none r)/\args.length=ps.length /\
  WA (fun e f1 σ1=>match e with
   | .normal=>σ1.bx[i]?=some (.loop .ready none r)/\WB (fun e _ σ2=>match e with
     | .normal=>ZDw i r .ready none true σ2 K
     | .ret=>ZDw i r .done (some .ret) false σ2 K
     | .exit id=>ZDw i r .done (some (.exit id)) false σ2 K
     | .goto t=>ZDw i r .done (some (.goto t)) false σ2 K
     | .panic _=>False) f1 (σ1.set i (.loop .busy none r))
   | _=>False) (Zrs f ps args) σ
def Zrt (i:Nat) (r:Loop) (f:Frame) (Q:PQ) (σ:St):Option Code->Prop
 | none=>Q .normal f (σ.set i (.loop .exhausted none r))
 | some .ret=>Q .ret f (σ.set i (.loop .exhausted (some .ret) r))
 | some (.exit id)=>Q (.exit id) f (σ.set i (.loop .exhausted (some (.exit id)) r))
 | some (.goto t)=>Q (.goto t) f (σ.set i (.loop .exhausted (some (.goto t)) r))
 | _=>False
def Zgn (i:Nat):List Oper->Bool
 | []=>false
 | o::l=>match o.dst with
  | some d=>(match Nat.beq d i with | true=>true | false=>Zgn i l)
  | none=>Zgn i l
def Cx.pd (C:Cx) (ops:List Oper) (f:Frame):Frame:=match C.pk with
 | true=>fun i=>match Zgn i ops with | true=>.undef | false=>clean (f i)
 | false=>fun _=>.undef
def ZlY (C:Cx) (ops:List Oper) (f0:Frame) (Q:PQ):PQ:=fun e f σ=>match e with
 | .panic v=>Q (.panic v) (C.pd ops f0) σ
 | e=>Q e f σ
structure Hole where
 pre:List Oper
 A:Oper
 I:Oper
 S:Oper
 F:Oper
 H:Oper
def Zem (ops:List Oper):Option Hole:=match ops.reverse with
 | H::F::S::I::A::pre=>match A.op,I.op,S.op,F.op,H.op with
  | .call { callee:=.builtin .append,.. },.indexAddr _ _ _,.store _ _ _,.fieldAddr _ _ _,.store _ _ _=>some ⟨pre.reverse,A,I,S,F,H⟩
  | _,_,_,_,_=>none
 | _=>none
def ZpJ (T:Tab) (h:Hole) (f:Frame) (σ:St) (K:Frame->St->Prop):Prop:=match h.A.op,h.I.op,h.S.op with
 | .call { callee:=.builtin .append,args,argTypes },.indexAddr _ _ ix,.store ts _ x=>match argTypes.toList,args.toList,h.A.dst,h.I.dst with
  | [t,tx],[s,z],some da,some di=>match (T.get t).kind with
   | .slice el=>match (T.get el).kind with
    | .other=>False
    | _=>match Nat.ble 1 (T.get el).size,Nat.beq ts el,Vn T tx el (ev f z),ZlU (ev f x),ev f ix with
     | true,true,some [zr],some row,.d (.int _ n)=>match Nat.beq zr.length (T.get el).size,Nat.beq row.length (T.get el).size with
      | true,true=>match ev f s with
       | .nils _=>n=0/\1 * (T.get el).bytes<=2 ^ 47/\XW ⟨σ.bx,(σ.nx+1)::σ.tk,σ.nx+2⟩ fun σ'=>ZjH f (some da) (.sl (σ.nx+1) el [row]) fun f=>ZjH f (some di) .undef fun f=>K f σ'
       | .sl tok e2 rows=>match Zgm tok σ.tk,Nat.beq e2 el with
        | true,true=>n=rows.length/\(rows.length+1) * (T.get el).bytes<=2 ^ 47/\rows.length+1<=2 ^ 47 /\
          XW ⟨σ.bx,(σ.nx+1)::JM tok σ.tk,σ.nx+2⟩ fun σ'=>ZjH f (some da) (.sl (σ.nx+1) el (rows++[row])) fun f=>ZjH f (some di) .undef fun f=>K f σ'
        | _,_=>False
       | _=>False
      | _,_=>False
     | _,_,_,_,_=>False
   | _=>False
  | _,_,_,_=>False
 | _,_,_=>False
def Zru (C:Cx) (all:List Oper) (h:Hole) (Q:PQ):PQ:=fun e f σ=>match e with
 | .normal=>ZpJ C.T h f σ fun f σ=>VU C all Q h.F f σ fun f σ=>VU C all Q h.H f σ fun f σ=>Q .normal f σ
 | e=>Q e f σ
def ZnO (i:Nat) (f:Frame) (Q:PQ) (e:PEnd) (σ:St):Prop:=match e with
 | .ret _=>match σ.bx[i]? with
  | some (.loop st pd r)=>match st with
   | .busy=>False
   | _=>Zrt i r f Q σ pd
  | _=>False
 | .panic v=>Q (.panic v) (fun _=>.undef) σ
def ZcZ (S:PQ->Frame->St->Prop) (Q:PQ):Nat->Frame->St->Prop
 | 0,_,_=>False
 | n+1,f,σ=>S (fun e f σ=>match e with | .normal=>ZcZ S Q n f σ | e=>Q e f σ) f σ
def ZgG (b:Nat) (k:List UInt8) (σ:St) (K:St->Prop):Prop:=match σ.bx[b]? with
 | some (.smap el m none)=>optK (lkM k m) (fun rows=>K { σ.set b (.smap el m (some (k,.sl σ.nx el rows))) with tk:=σ.nx::σ.tk,nx:=σ.nx+1 }) (K (σ.set b (.smap el m (some (k,.nils el)))))
 | _=>False
def JN (b:Nat) (σ:St) (K:St->Prop):Prop:=match σ.bx[b]? with
 | some (.smap el m (some (k,.sl t e2 rows)))=>match Zgm t σ.tk,Nat.beq e2 el with
  | true,true=>K { σ.set b (.smap el (Y5 k rows m) none) with tk:=JM t σ.tk }
  | _,_=>False
 | _=>False
def ZJb (b:Nat) (Q:PQ):PQ:=fun e f σ=>match e with
 | .normal=>JN b σ fun σ=>XW σ fun σ=>Q .normal f σ
 | _=>False
def WR (C:Cx) (ops:List Oper) (draw:Bool) (Q:PQ) (f:Frame) (σ:St):Prop:=match draw with
  | false=>Zrj C ops Q ops f σ
  | true=>match Zem ops with
   | none=>match ZgF (WV ops []) none (ZI 0 ops) with
    | true=>Wx C.calm ops (WV ops []) (ZlY C ops f Q) (Zh0 ops) [] f σ
    | false=>WX C.calm ops (WV ops []) (ZlY C ops f Q) ops.length (ZI 0 ops) [] f σ
   | some h=>Wx C.calm ops (WV ops []) (Zru C.calm ops h (ZlY C ops f Q)) (U3 h.pre.length (ZI 0 h.pre)) [] f σ
def W:Cx->Code->PQ->Frame->St->Prop
 | _,.skip,Q,f,σ=>Q .normal f σ
 | C,.region id ops draw,Q,f,σ=>match C.foc id with
  | false=>WR C ops.toList draw Q f σ
  | true=>∃b k,ZgG b k σ fun σ=>XW σ fun σ=>WR C ops.toList draw (ZJb b Q) f σ
 | C,.seq a b,Q,f,σ=>match C.cut (YW b) with
  | none=>W C a (fun e f σ=>match e with | .normal=>W C b Q f σ | e=>Q e f σ) f σ
  | some (live,I)=>W C a (fun e f σ=>match e with | .normal=>Zrr σ.bx.length (live.map f) σ I | e=>Q e f σ) f σ/\∀vs σ1,I vs σ1->W C b Q (Zh1 (fun _=>.undef) live vs) σ1
 | C,.cond c x y,Q,f,σ=>match ev f c with | .d (.bool t)=>CondP t (W C x Q f σ) (W C y Q f σ) | _=>False
 | C,.block id b,Q,f,σ=>W C b (fun e f σ=>match e with | .exit i=>(match Nat.beq i id with | true=>Q .normal f σ | false=>Q (.exit i) f σ) | e=>Q e f σ) f σ
 | C,.scope b,Q,f,σ=>W C b (fun e f σ=>match e with | .goto _=>False | e=>Q e f σ) f σ
 | _,.exit id,Q,f,σ=>Q (.exit id) f σ
 | _,.goto l,Q,f,σ=>Q (.goto l) f σ
 | _,.label _,Q,f,σ=>Q .normal f σ
 | _,.ret,Q,f,σ=>Q .ret f σ
 | C,.loop b,Q,f,σ=>match C.unr (YW b) with
  | n+1=>ZcZ (fun Q f σ=>W C b Q f σ) Q (n+1) f σ
  | 0=>match Yu (C.loop (YW b)).keep b with
   | true=>match C.tie (YW b) with
    | false => Jb (C.ag (YW b)) σ.bx.length ((C.loop (YW b)).live.map f) σ fun vs σ0 => (C.loop (YW b)).I vs σ0 /\
       ∀vs σ1,(C.loop (YW b)).I vs σ1->W C b (fun e f' σ'=>match e with
        | .normal=>Jb (C.ag (YW b)) σ1.bx.length ((C.loop (YW b)).live.map f') σ' fun vs' σ''=>(C.loop (YW b)).I vs' σ''/\(C.loop (YW b)).μ vs' σ''<(C.loop (YW b)).μ vs σ1
        | e=>Q e f' σ') (Zh1 (ZlX f (C.loop (YW b)).keep) (C.loop (YW b)).live vs) σ1
    | true => Jb (C.ag (YW b)) σ.bx.length (((C.loop (YW b)).tied f).live.map f) σ fun vs σ0 => ((C.loop (YW b)).tied f).I vs σ0 /\
       ∀vs σ1,((C.loop (YW b)).tied f).I vs σ1->W C b (fun e f' σ'=>match e with
        | .normal=>Jb (C.ag (YW b)) σ1.bx.length (((C.loop (YW b)).tied f).live.map f') σ' fun vs' σ''=>((C.loop (YW b)).tied f).I vs' σ''/\((C.loop (YW b)).tied f).μ vs' σ''<((C.loop (YW b)).tied f).μ vs σ1
        | e=>Q e f' σ') (Zh1 (ZlX f ((C.loop (YW b)).tied f).keep) ((C.loop (YW b)).tied f).live vs) σ1
   | false=>False
 | C,.rangeFunc g ps asg body,Q,f,σ=>match ev f g with
  | .func gid first caps=>∀(l:Nat) (r:Loop),
    C.iter gid (first++.raw (.func (.yield l) #[] #[])::caps) (ZyV σ.bx.length l r ps.toList (fun Q f σ=>W C.inner asg Q f σ) (fun Q f σ=>W C.inner body Q f σ) (Ja f)) (σ.new (.loop .ready none r))
     (ZnO σ.bx.length (Ja f) Q)
  | _=>False
 | _,_,_,_,_=>False
def pres (T:Tab) (f:Frame) (bx:List Box):List ResultVar->(List PV->Prop)->Prop
 | [],K=>K []
 | .tmp t::l,K=>Zac (f t) fun v=>pres T f bx l fun vs=>K (v::vs)
 | .cell a t::l,K=>ZaA T t (f a) bx fun v=>Zac v fun v=>pres T f bx l fun vs=>K (v::vs)
def Jc:List PV->PV
 | [v]=>v
 | vs=>.tuple vs
def Zbj (ag:Bool) (keep:Nat) (own:Bool) (v:PV) (σ:St) (K:PV->St->Prop):Prop :=
 match bnd keep v with
 | true=>match own with
  | true=>Jb ag keep [v] σ fun vs σ'=>match vs with | [v]=>K v σ' | _=>False
  | false=>Zel keep keep σ.bx [] 0 fun bs _ k=>K (clean v) ⟨bs,toks k,k⟩
 | false=>False
abbrev ZjM (keep:Nat) (own:Bool) (v:PV) (σ:St) (K:PV->St->Prop):Prop:=Zbj false keep own v σ K
def Zrv (ag:Bool) (T:Tab) (fn:Func) (keep:Nat) (own:Bool) (R:PEnd->St->Prop):PQ:=fun e f σ=>match e with
 | .normal | .ret=>pres T f σ.bx fn.results.toList fun vs=>Zbj ag keep own (Jc vs) σ fun v σ'=>R (.ret v) σ'
 | .panic v=>Zbj ag keep own v σ fun v σ'=>R (.panic v) σ'
 | _=>False
abbrev ZDx (T:Tab) (fn:Func) (keep:Nat) (own:Bool) (R:PEnd->St->Prop):PQ:=Zrv false T fn keep own R
def Zen:Nat->List PV->Frame
 | _,[]=>fun _=>.undef
 | i,v::vs=>U6 (Zen (i+1) vs) i v
def Xm (fn : Func) : Code := match fn.body with | some c => c | none => .refuse ""
def WFG (ag:Bool) (C:Cx) (fn:Func) (keep:Nat) (own:Bool) (args:List PV) (σ:St) (R:PEnd->St->Prop):Prop :=
 W C (Xm fn) (Zrv ag C.T fn keep own R) (Zen 0 args) σ
abbrev WF (C:Cx) (fn:Func) (keep:Nat) (own:Bool) (args:List PV) (σ:St) (R:PEnd->St->Prop):Prop:=WFG false C fn keep own args σ R
end Go.PM
end
