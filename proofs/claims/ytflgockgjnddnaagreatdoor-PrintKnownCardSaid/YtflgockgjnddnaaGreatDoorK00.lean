/- A part of the proof: plain logic, contracts and laws over the given program. -/
import GoSem.Core.Program
import GoSem.Core.Utf8
import GoSem.Op.IntBits
import Derived.CallsIn
import Derived.Laws.AppendOwn
import Derived.Below
import Derived.Laws.StructEq
import Derived.Laws.Pointers
import Derived.Laws.Cover3
set_option linter.unusedVariables false
set_option linter.unusedSimpArgs false
set_option linter.all false
set_option maxRecDepth 100000
set_option maxHeartbeats 16000000
section
theorem Ta.{u}:type_of% @List.length_append.{u}:=@List.length_append
theorem Tb:type_of% @Nat.le_of_ble_eq_true:=@Nat.le_of_ble_eq_true
theorem Tc.{u}:type_of% @List.length_cons.{u}:=@List.length_cons
theorem Td.{u}:type_of% @List.length_nil.{u}:=@List.length_nil
theorem Te.{u}:type_of% @if_neg.{u}:=@if_neg
theorem Tf.{u,v}:type_of% @List.length_map.{u,v}:=@List.length_map
theorem Tg.{u}:type_of% @List.getElem?_eq_some_iff.{u}:=@List.getElem?_eq_some_iff
theorem Th.{u}:type_of% @List.getElem?_eq_getElem.{u}:=@List.getElem?_eq_getElem
theorem Ti.{u}:type_of% @if_pos.{u}:=@if_pos
theorem Tj:type_of% @Bool.and_eq_true:=@Bool.and_eq_true
theorem Tk.{u}:type_of% @List.append_assoc.{u}:=@List.append_assoc
theorem Tl.{u}:type_of% @List.all_eq_true.{u}:=@List.all_eq_true
theorem Tm:type_of% @Nat.eq_of_beq_eq_true:=@Nat.eq_of_beq_eq_true
theorem Tn.{u}:type_of% @Array.getElem?_eq_some_iff.{u}:=@Array.getElem?_eq_some_iff
theorem To:type_of% @Bool.false_eq_true:=@Bool.false_eq_true
theorem Tp:type_of% @Nat.le_refl:=@Nat.le_refl
theorem Tq.{u}:type_of% @List.mem_cons.{u}:=@List.mem_cons
theorem Tr.{u}:type_of% @List.mem_cons_of_mem.{u}:=@List.mem_cons_of_mem
theorem Tt.{u}:type_of% @List.length_drop.{u}:=@List.length_drop
theorem Tu.{u}:type_of% @Array.getElem?_toList.{u}:=@Array.getElem?_toList
theorem Tv.{u}:type_of% @List.forall_mem_singleton.{u}:=@List.forall_mem_singleton
theorem Tw.{u}:type_of% @List.length_singleton.{u}:=@List.length_singleton
theorem Tx.{u}:type_of% @Array.getElem?_eq_getElem.{u}:=@Array.getElem?_eq_getElem
theorem Tz:type_of% @decide_eq_true_eq:=@decide_eq_true_eq
theorem TA.{u,v}:type_of% @List.map_cons.{u,v}:=@List.map_cons
theorem TB:type_of% @Nat.lt_of_lt_of_le:=@Nat.lt_of_lt_of_le
theorem TC.{u}:type_of% @Array.mem_def.{u}:=@Array.mem_def
theorem TD.{u,v,w}:type_of% @List.map_map.{u,v,w}:=@List.map_map
theorem TE.{u}:type_of% @List.getElem_mem.{u}:=@List.getElem_mem
theorem TF:type_of% @Int.toNat_natCast:=@Int.toNat_natCast
theorem TG.{u}:type_of% @List.getElem?_append_left.{u}:=@List.getElem?_append_left
theorem TH.{u,v}:type_of% @List.getElem?_map.{u,v}:=@List.getElem?_map
theorem TJ:type_of% @Bool.true_and:=@Bool.true_and
theorem TL.{u}:type_of% @List.drop_drop.{u}:=@List.drop_drop
theorem TM.{u}:type_of% @List.append_nil.{u}:=@List.append_nil
theorem TN.{u,v}:type_of% @List.map_nil.{u,v}:=@List.map_nil
theorem TO.{u,v}:type_of% @List.map_congr_left.{u,v}:=@List.map_congr_left
theorem TP.{u}:type_of% @List.drop_eq_nil_of_le.{u}:=@List.drop_eq_nil_of_le
theorem TQ.{u}:type_of% @List.eq_nil_of_length_eq_zero.{u}:=@List.eq_nil_of_length_eq_zero
theorem TS:type_of% @Bool.not_eq_true':=@Bool.not_eq_true'
theorem TT:type_of% @Bool.false_and:=@Bool.false_and
theorem TU.{u}:type_of% @List.mem_append.{u}:=@List.mem_append
theorem TV:type_of% @Int.add_sub_cancel:=@Int.add_sub_cancel
theorem TW:type_of% @Nat.mul_le_mul_right:=@Nat.mul_le_mul_right
theorem TX.{u}:type_of% @Array.getElem?_setIfInBounds.{u}:=@Array.getElem?_setIfInBounds
theorem TY.{u}:type_of% @List.take_zero.{u}:=@List.take_zero
theorem TZ.{u}:type_of% @List.getElem?_append_right.{u}:=@List.getElem?_append_right
theorem T2.{u}:type_of% @List.getD_eq_getElem?_getD.{u}:=@List.getD_eq_getElem?_getD
theorem T3.{u}:type_of% @List.getElem?_cons_succ.{u}:=@List.getElem?_cons_succ
theorem T4:type_of% @Nat.zero_le:=@Nat.zero_le
theorem T5.{u}:type_of% @List.length_pos_iff.{u}:=@List.length_pos_iff
theorem T6.{u}:type_of% @List.nil_append.{u}:=@List.nil_append
theorem T7.{u}:type_of% @Array.mem_of_getElem?.{u}:=@Array.mem_of_getElem?
theorem T8.{u}:type_of% @List.take_length.{u}:=@List.take_length
theorem T9.{u}:type_of% @List.length_take.{u}:=@List.length_take
theorem Sa.{u}:type_of% @List.takeWhile_cons.{u}:=@List.takeWhile_cons
theorem Sb.{u}:type_of% @List.getElem_of_mem.{u}:=@List.getElem_of_mem
theorem Sc:type_of% @Nat.le_trans:=@Nat.le_trans
theorem Sd.{u}:type_of% @List.mem_of_getElem?.{u}:=@List.mem_of_getElem?
theorem Se:type_of% @Bool.or_eq_false_iff:=@Bool.or_eq_false_iff
theorem Sf:type_of% @Nat.zero_add:=@Nat.zero_add
theorem Sg:type_of% @Nat.add_assoc:=@Nat.add_assoc
theorem Sh:type_of% @Nat.add_mul:=@Nat.add_mul
theorem Si.{u}:type_of% @List.getElem?_eq_none.{u}:=@List.getElem?_eq_none
theorem Sj:type_of% @Bool.or_eq_true:=@Bool.or_eq_true
theorem Sk.{u}:type_of% @Array.length_toList.{u}:=@Array.length_toList
theorem Sl:type_of% @Bool.or_false:=@Bool.or_false
theorem Sm.{u}:type_of% @List.mem_singleton.{u}:=@List.mem_singleton
theorem Sn:type_of% @Nat.add_sub_cancel_left:=@Nat.add_sub_cancel_left
theorem So.{u,v}:type_of% @Option.map_some.{u,v}:=@Option.map_some
theorem Sp.{u}:type_of% @List.length_set.{u}:=@List.length_set
theorem Sq.{u}:type_of% @List.drop_eq_getElem_cons.{u}:=@List.drop_eq_getElem_cons
theorem Sr.{u}:type_of% @List.cons_append.{u}:=@List.cons_append
theorem Ss:type_of% @Bool.not_not:=@Bool.not_not
theorem Su.{u}:type_of% @List.length_eq_zero_iff.{u}:=@List.length_eq_zero_iff
theorem Sv.{u}:type_of% @List.getD_cons_zero.{u}:=@List.getD_cons_zero
theorem Sw.{u}:type_of% @List.getD_cons_succ.{u}:=@List.getD_cons_succ
theorem Sx.{u,v}:type_of% @List.mem_map.{u,v}:=@List.mem_map
theorem Sy.{u}:type_of% @List.any_eq_true.{u}:=@List.any_eq_true
theorem Sz.{u}:type_of% @List.flatten_nil.{u}:=@List.flatten_nil
theorem SA.{u}:type_of% @List.getElem?_drop.{u}:=@List.getElem?_drop
theorem SB:type_of% @decide_eq_true:=@decide_eq_true
theorem SC:type_of% @Nat.add_zero:=@Nat.add_zero
theorem m0 {P:Prop} (h:P:=by
 conv=>whnf
 rw [ZiQ] at h
 refine ⟨L,ts,rfl,ho,hdp,fun x hx2=>?_⟩
 rcases x with ⟨v2,ts2⟩ | ⟨r2,e2⟩
 rotate_left
 ·exact m180
 rw [hx2,R.bind_ok] at h
 intro a2 hle2 ho2
 have hb2:=ho2.hi
 obtain ⟨v2a,v2b,v2c,v2d,v2e⟩:=v2
 conv=>whnf
 refine ⟨L,ts2,ZQ,rfl,ho2,Or.inl ⟨rfl,rfl⟩,rfl,rfl,fun j hj ho3=>?_,fun hj=>?_⟩
 ·have hjl:=JM hj
  have hjl2:j<6:=by simpa [ZQ] using hjl.2
  have hb3:=ho3.hi
  clear hjl
  rcases j with _ | j
  ·conv=>whnf
   refine oiB ?_
   conv=>whnf
   refine oiB ?_
   conv=>whnf
   refine ⟨L,ts2.tail,Yc,rfl,ho3,Or.inr ⟨rfl,rfl⟩,rfl,rfl,fun m hm ho4=>?_,fun hm=>?_⟩
   ·rw [Zc0 hj hm,R.bind_ok] at h
    have hml:=JM hm
    have hml2:m<4:=by simpa [Yc] using hml.2
    have hb4:=ho4.hi
    clear hml
    rcases m with _ | m
    ·conv=>whnf
     refine oiB ?_
     conv=>whnf
     refine oiB ?_
     conv=>whnf
     rw [Ti rfl] at h
     rw [X5,Ti (by omega)] at h
     refine ⟨L,ts2.tail.tail,rfl,ho4,fun x hx6=>?_⟩
     exact m138
    conv=>whnf
    refine oiB ?_
    conv=>whnf
    refine oiB ?_
    conv=>whnf
    refine Zyv (fun _=>?_) (fun g=>absurd g (by omega))
    conv=>whnf
    rw [Te (by omega)] at h
    refine ⟨L,ts2.tail.tail,rfl,ho4,hdp,fun x hx5=>?_⟩
    rcases x with ⟨v5,ts5⟩ | ⟨r5,e5⟩
    rotate_left
    ·exact m171
    rw [hx5,R.bind_ok] at h
    intro a5 hle5 ho5
    have hb5:=ho5.hi
    obtain ⟨v5a,v5b,v5c,v5d,v5e⟩:=v5
    conv=>whnf
    refine ⟨rfl,rfl,Tb rfl,Tb rfl,?_⟩
    conv=>whnf
    repeat (refine ⟨rfl,?_⟩;conv=>whnf)
    refine Zyq (fun _=>?_) (fun g=>absurd g (by omega))
    conv=>whnf
    rw [X5,Ti (by omega)] at h
    refine ⟨L,ts5,rfl,ho5,fun x hx6=>?_⟩
    exact m138
   rw [Zff hj hm,R.bind_ok] at h
   conv=>whnf
   rw [Te (by omega)] at h
   refine ⟨L,ts2.tail,rfl,ho3,hdp,fun x hx5=>?_⟩
   rcases x with ⟨v5,ts5⟩ | ⟨r5,e5⟩
   rotate_left
   ·exact m171
   rw [hx5,R.bind_ok] at h
   intro a5 hle5 ho5
   have hb5:=ho5.hi
   obtain ⟨v5a,v5b,v5c,v5d,v5e⟩:=v5
   conv=>whnf
   refine ⟨rfl,rfl,Tb rfl,Tb rfl,?_⟩
   conv=>whnf
   repeat (refine ⟨rfl,?_⟩;conv=>whnf)
   rw [X5,Te (by omega)] at h
   exact h _ (by omega) ho5
  rw [Zc1 hj,R.bind_ok] at h
  conv=>whnf
  refine oiB ?_
  conv=>whnf
  refine oiB ?_
  conv=>whnf
  refine Zyq (fun g=>absurd g (by omega)) (fun _=>?_)
  conv=>whnf
  refine Zyv (fun _=>?_) (fun g=>absurd g (by omega))
  conv=>whnf
  rw [Te (by omega)] at h
  refine ⟨L,ts2.tail,rfl,ho3,hdp,fun x hx5=>?_⟩
  rcases x with ⟨v5,ts5⟩ | ⟨r5,e5⟩
  rotate_left
  ·exact m171
  rw [hx5,R.bind_ok] at h
  intro a5 hle5 ho5
  have hb5:=ho5.hi
  obtain ⟨v5a,v5b,v5c,v5d,v5e⟩:=v5
  conv=>whnf
  refine ⟨rfl,rfl,Tb rfl,Tb rfl,?_⟩
  conv=>whnf
  repeat (refine ⟨rfl,?_⟩;conv=>whnf)
  refine Zyq (fun g=>absurd g (by omega)) (fun _=>?_)
  conv=>whnf
  rw [X5,Te (by omega)] at h
  exact h _ (by omega) ho5
 conv=>whnf
 refine ⟨L,ts2,rfl,ho2,?_⟩
 conv=>whnf
 rw [Za6 hj,R.bind_err] at h
 exact h _ _):P:=h
theorem m1 {P:Prop} (h:P:=by
 conv=>whnf
 repeat (refine ⟨rfl,?_⟩;conv=>whnf)
 refine ⟨L,ts',rfl,ho',[[116,121,112,101]],rfl,by simp,fun b hw21=>?_⟩
 cases b with
 | true =>
  rw [Ti hw21] at h
  have ho2:=ho'.tl (UD hw21)
  have hb2:=ho2.hi
  have hlen2:=ho2.len
  conv=>whnf
  refine ⟨L,ts',rfl,ho',fun g=>?_,fun g=>?_⟩
  ·exact m152
  have hne:¬tys.length=256:=by rw [Tf] at g;omega
  rw [Te hne] at h
  conv=>whnf
  refine ⟨L,ts'.tail,rfl,ho2,fun x hx3=>?_⟩
  rcases x with ⟨v3,ts3⟩ | ⟨r3,e3⟩
  rotate_left
  ·exact m155
  rw [hx3,R.bind_ok] at h
  intro a3 hle3 ho3
  have hb3:=ho3.hi
  obtain ⟨v3a,v3b,v3c,v3d,v3e,v3f⟩:=v3
  conv=>whnf
  have hlen3:=ho3.len
  repeat (refine ⟨rfl,?_⟩;conv=>whnf)
  refine ⟨Tv.2 rfl,(show ((tys.map (Y4 (Zd L en))).length+1) * 96≤2 ^ 47 by rw [Tf];omega),(show (tys.map (Y4 (Zd L en))).length+1≤2 ^ 47 by rw [Tf];omega),?_⟩
  conv=>whnf
  repeat (refine ⟨rfl,?_⟩;conv=>whnf)
  refine ⟨⟨tys++[⟨v3a,v3b,v3c,v3d,v3e,v3f⟩],rels,rules,comps,inits,overs,a3,ts3,f,rfl,?_,ho3,by omega,by omega,?_,h⟩,?_⟩
  ·rw [← Zr (Y4 (Zd L en)) tys];rfl
  ·simp only [Ta,Tw];omega
  exact m147
 | false =>
  rw [Te (by rw [hw21];simp)] at h
  conv=>whnf
  refine ⟨L,ts',rfl,ho',[[100,101,99,108]],rfl,by simp,fun b hw22=>?_⟩
  cases b with
  | true =>
   rw [Ti hw22] at h
   have ho2:=ho'.tl (UD hw22)
   have hb2:=ho2.hi
   have hlen2:=ho2.len
   conv=>whnf
   refine ⟨L,ts',rfl,ho',fun g=>?_,fun g=>?_⟩
   ·exact m152
   have hne:¬rels.length=256:=by rw [Tf] at g;omega
   rw [Te hne] at h
   conv=>whnf
   refine ⟨L,ts'.tail,rfl,ho2,fun x hx3=>?_⟩
   rcases x with ⟨v3,ts3⟩ | ⟨r3,e3⟩
   rotate_left
   ·exact m155
   rw [hx3,R.bind_ok] at h
   intro a3 hle3 ho3
   have hb3:=ho3.hi
   obtain ⟨v3a,v3b,v3c,v3d,v3e,v3f⟩:=v3
   conv=>whnf
   have hlen3:=ho3.len
   repeat (refine ⟨rfl,?_⟩;conv=>whnf)
   refine ⟨Tv.2 rfl,(show ((rels.map (Y1 (Zd L en))).length+1) * 56≤2 ^ 47 by rw [Tf];omega),(show (rels.map (Y1 (Zd L en))).length+1≤2 ^ 47 by rw [Tf];omega),?_⟩
   conv=>whnf
   repeat (refine ⟨rfl,?_⟩;conv=>whnf)
   refine ⟨⟨tys,rels++[⟨v3a,v3b,v3c,v3d,v3e,v3f⟩],rules,comps,inits,overs,a3,ts3,f,rfl,?_,ho3,by omega,by omega,?_,h⟩,?_⟩
   ·rw [← Zr (Y1 (Zd L en)) rels];rfl
   ·simp only [Ta,Tw];omega
   exact m147
  | false =>
   rw [Te (by rw [hw22];simp)] at h
   conv=>whnf
   refine ⟨L,ts',rfl,ho',[[99,111,109,112]],rfl,by simp,fun b hw23=>?_⟩
   cases b with
   | true =>
    rw [Ti hw23] at h
    have ho2:=ho'.tl (UD hw23)
    have hb2:=ho2.hi
    have hlen2:=ho2.len
    conv=>whnf
    refine ⟨L,ts',rfl,ho',fun g=>?_,fun g=>?_⟩
    ·exact m152
    have hne:¬comps.length=64:=by rw [Tf] at g;omega
    rw [Te hne] at h
    conv=>whnf
    refine ⟨L,ts'.tail,rfl,ho2,hdp,fun x hx3=>?_⟩
    rcases x with ⟨v3,ts3⟩ | ⟨r3,e3⟩
    rotate_left
    ·exact m155
    rw [hx3,R.bind_ok] at h
    intro a3 hle3 ho3
    have hb3:=ho3.hi
    obtain ⟨v3a,v3b,v3c,v3d,⟨v3g,v3h,v3i,v3j,v3k,v3l⟩,v3f⟩:=v3
    conv=>whnf
    have hlen3:=ho3.len
    repeat (refine ⟨rfl,?_⟩;conv=>whnf)
    refine ⟨Tv.2 rfl,(show ((comps.map (YM (Zd L en))).length+1) * 232≤2 ^ 47 by rw [Tf];omega),(show (comps.map (YM (Zd L en))).length+1≤2 ^ 47 by rw [Tf];omega),?_⟩
    conv=>whnf
    repeat (refine ⟨rfl,?_⟩;conv=>whnf)
    refine ⟨⟨tys,rels,rules,comps++[.mk v3a v3b v3c v3d (.mk v3g v3h v3i v3j v3k v3l) v3f],inits,overs,a3,ts3,f,rfl,?_,ho3,by omega,by omega,?_,h⟩,?_⟩
    ·rw [← Zr (YM (Zd L en)) comps];rfl
    ·simp only [Ta,Tw];omega
    exact m147
   | false =>
    rw [Te (by rw [hw23];simp)] at h
    conv=>whnf
    refine ⟨L,ts',rfl,ho',[[105,110,105,116]],rfl,by simp,fun b hw24=>?_⟩
    cases b with
    | true =>
     rw [Ti hw24] at h
     have ho2:=ho'.tl (UD hw24)
     have hb2:=ho2.hi
     have hlen2:=ho2.len
     conv=>whnf
     refine ⟨L,ts',rfl,ho',fun g=>?_,fun g=>?_⟩
     ·exact m152
     have hne:¬inits.length=256:=by rw [Tf] at g;omega
     rw [Te hne] at h
     conv=>whnf
     refine ⟨L,ts'.tail,rfl,ho2,?_⟩
     conv=>whnf
     rw [Zj6] at h
     refine ⟨L,ts'.tail,rfl,ho2,fun x hx3=>?_⟩
     rcases x with ⟨v3,ts3⟩ | ⟨r3,e3⟩
     rotate_left
     ·rw [hx3,R.bind_err,R.bind_err] at h;intro a9 d9;(conv=>whnf);exact h _ _
     rw [hx3,R.bind_ok] at h
     intro a3 hle3 ho3
     have hb3:=ho3.hi
     conv=>whnf
     refine ⟨L,ts3,rfl,ho3,fun x hx4=>?_⟩
     rcases x with ⟨v4,ts4⟩ | ⟨r4,e4⟩
     rotate_left
     ·rw [hx4,R.bind_err,R.bind_err] at h;intro a9 d9;(conv=>whnf);exact h _ _
     rw [hx4,R.bind_ok] at h
     intro a4 hle4 ho4
     have hb4:=ho4.hi
     conv=>whnf
     refine ⟨L,ts4,rfl,ho4,fun x hx5=>?_⟩
     rcases x with ⟨v5,ts5⟩ | ⟨r5,e5⟩
     rotate_left
     ·rw [hx5,R.bind_err,R.bind_err] at h;intro a9 d9;(conv=>whnf);exact h _ _
     rw [hx5,R.bind_ok] at h
     intro a5 hle5 ho5
     have hb5:=ho5.hi
     conv=>whnf
     refine ⟨L,ts5,rfl,ho5,fun x hx6=>?_⟩
     rcases x with ⟨v6,ts6⟩ | ⟨r6,e6⟩
     rotate_left
     ·rw [hx6,R.bind_err,R.bind_err] at h;intro a9 d9;(conv=>whnf);exact h _ _
     rw [hx6,R.bind_ok] at h
     intro a6 hle6 ho6
     have hb6:=ho6.hi
     conv=>whnf
     rw [R.bind_ok] at h
     have hlen6:=ho6.len
     refine ⟨Tv.2 rfl,(show ((inits.map (Y9 (Zd L en))).length+1) * 64≤2 ^ 47 by rw [Tf];omega),(show (inits.map (Y9 (Zd L en))).length+1≤2 ^ 47 by rw [Tf];omega),?_⟩
     conv=>whnf
     repeat (refine ⟨rfl,?_⟩;conv=>whnf)
     refine ⟨⟨tys,rels,rules,comps,inits++[⟨v3,v5,v6,ts'.tail.length⟩],overs,a6,ts6,f,rfl,?_,ho6,by omega,by omega,?_,h⟩,?_⟩
     ·rw [← Zr (Y9 (Zd L en)) inits];rfl
     ·simp only [Ta,Tw];omega
     show ((L.length:Int) - a6).toNat<((L.length:Int) - a').toNat
     omega
    | false =>
     rw [Te (by rw [hw24];simp)] at h
     conv=>whnf
     refine ⟨L,ts',rfl,ho',[[111,118,101,114,114,105,100,101]],rfl,by simp,fun b hw25=>?_⟩
     cases b with
     | true =>
      rw [Ti hw25] at h
      have ho2:=ho'.tl (UD hw25)
      have hb2:=ho2.hi
      have hlen2:=ho2.len
      conv=>whnf
      refine ⟨L,ts',rfl,ho',fun g=>?_,fun g=>?_⟩
      ·exact m152
      have hne:¬overs.length=256:=by rw [Tf] at g;omega
      rw [Te hne] at h
      conv=>whnf
      refine ⟨L,ts'.tail,rfl,ho2,?_⟩
      conv=>whnf
      rw [Zj7] at h
      refine ⟨L,ts'.tail,rfl,ho2,fun x hx3=>?_⟩
      rcases x with ⟨v3,ts3⟩ | ⟨r3,e3⟩
      rotate_left
      ·rw [hx3,R.bind_err,R.bind_err] at h;intro a9 d9;(conv=>whnf);exact h _ _
      rw [hx3,R.bind_ok,R.bind_ok] at h
      intro a3 hle3 ho3
      have hb3:=ho3.hi
      have hlen3:=ho3.len
      conv=>whnf
      refine ⟨Tv.2 rfl,(show ((overs.map (Xa (Zd L en))).length+1) * 24≤2 ^ 47 by rw [Tf];omega),(show (overs.map (Xa (Zd L en))).length+1≤2 ^ 47 by rw [Tf];omega),?_⟩
      conv=>whnf
      repeat (refine ⟨rfl,?_⟩;conv=>whnf)
      refine ⟨⟨tys,rels,rules,comps,inits,overs++[⟨v3,ts'.tail.length⟩],a3,ts3,f,rfl,?_,ho3,by omega,by omega,?_,h⟩,?_⟩
      ·rw [← Zr (Xa (Zd L en)) overs];rfl
      ·simp only [Ta,Tw];omega
      exact m147
     | false =>
      rw [Te (by rw [hw25];simp)] at h
      conv=>whnf
      refine ⟨L,ts',rfl,ho',fun b hn=>?_⟩
      cases b with
      | false =>
       rw [Te (by rw [hn];simp)] at h
       conv=>whnf
       refine ⟨L,ts',rfl,ho',?_⟩
       conv=>whnf
       exact h _ _
      | true =>
       rw [Ti hn] at h
       conv=>whnf
       refine ⟨L,ts',rfl,ho',fun g=>?_,fun g=>?_⟩
       ·exact m152
       have hne:¬rules.length=1024:=by rw [Tf] at g;omega
       rw [Te hne] at h
       conv=>whnf
       refine oiO ?_
       conv=>whnf
       rw [show a'+1 - 1=a' by omega]
       refine ⟨L,ts',rfl,ho',hdp,fun x hx3=>?_⟩
       rcases x with ⟨v3,ts3⟩ | ⟨r3,e3⟩
       rotate_left
       ·exact m155
       rw [hx3,R.bind_ok] at h
       intro a3 hle3 ho3
       have hb3:=ho3.hi
       obtain ⟨v3a,v3b,v3c,v3d⟩:=v3
       conv=>whnf
       have hlen3:=ho3.len
       repeat (refine ⟨rfl,?_⟩;conv=>whnf)
       refine ⟨Tv.2 rfl,(show ((rules.map (Yp (Zd L en))).length+1) * 72≤2 ^ 47 by rw [Tf];omega),(show (rules.map (Yp (Zd L en))).length+1≤2 ^ 47 by rw [Tf];omega),?_⟩
       conv=>whnf
       repeat (refine ⟨rfl,?_⟩;conv=>whnf)
       refine ⟨⟨tys,rels,rules++[⟨v3a,v3b,v3c,v3d⟩],comps,inits,overs,a3,ts3,f,rfl,?_,ho3,by omega,by omega,?_,h⟩,?_⟩
       ·rw [← Zr (Yp (Zd L en)) rules];rfl
       ·simp only [Ta,Tw];omega
       exact m147):P:=h
theorem m2 {P:Prop} (h:P:=by
 conv=>whnf
 refine ⟨by omega,by omega,by omega,?_⟩
 conv=>whnf
 have hcut:cut s (((a:Int)+2)).toNat ((e:Int)).toNat=Ze (s.drop a):=by rw [hst.2];congr 1 <;> omega
 refine ⟨true,⟨⟨?_,?_⟩,rfl,rfl⟩,fun h5 nn=>?_,fun h5=>?_⟩
 ·exact (congrArg (fun l:Bs=>l.all (Wl true)=true) hcut).mpr hall
 ·exact (congrArg (fun l:Bs=>l.length<4294967281) hcut).mpr (show _<_ by omega)
 ·have h5':Ze (s.drop a)=[]∨18446744073709551616≤Wz 16 (Ze (s.drop a)):=by rw [← hcut];exact h5
  exact m142
 ·have h5':¬(Ze (s.drop a)=[]∨18446744073709551616≤Wz 16 (Ze (s.drop a))):=by rw [← hcut];exact h5
  simp only [not_or] at h5'
  have hpr:=W5 (s.drop (a+Zm (s.drop a)))
  have hpr':=W5 (s.drop ((e:Int)).toNat)
  have hee:(pk (s.drop ((e:Int)).toNat)).1=(pk ((s.drop a).drop (Zm (s.drop a)))).1:=by rw [TL,← hst.1];rfl
  have g6:ZE (s.drop a)=if Zg (pk ((s.drop a).drop (Zm (s.drop a)))).1=true∨Zl (pk ((s.drop a).drop (Zm (s.drop a)))).1=true∨(Xq (s.drop a)=true∧16<(Ze (s.drop a)).length) then none else some (Wz 16 (Ze (s.drop a))):=by
   unfold ZE
   simp only [hx',if_true,To,if_false]
   rw [Te h5'.1,Te h5'.2]
  conv=>whnf
  refine ⟨⟨by omega,by omega⟩,?_⟩
  conv=>whnf
  refine ⟨⟨hpr'.1,by omega⟩,?_⟩
  conv=>whnf
  refine Zyu (fun h6=>?_) (fun h6=>?_)
  ·exact m170
  ·conv=>whnf
   refine Zyu (fun h7=>?_) (fun h7=>?_)
   ·exact m168
   ·have g7:¬Zg (pk ((s.drop a).drop (Zm (s.drop a)))).1=true∧¬Zl (pk ((s.drop a).drop (Zm (s.drop a)))).1=true:=by
     exact m161
    conv=>whnf
    refine oiO ?_
    conv=>whnf
    refine Zyq (fun h8=>?_) (fun h8=>?_)
    ·conv=>whnf
     (try (refine ⟨rfl,?_⟩;conv=>whnf))
     (try (refine ⟨rfl,?_⟩;conv=>whnf))
     exact hbad (by rw [g6,Ti (.inr (.inr ⟨hx',by omega⟩))])
    ·conv=>whnf
     have g9:=hgood _ (by rw [g6,Te (by simp only [not_or];exact ⟨g7.1,g7.2,by omega⟩)])
     rw [← hst.1,← hcut] at g9
     exact Or.inr g9):P:=h
theorem m3 {P:Prop} (h:P:=by
 conv=>whnf
 refine Zyq (fun h1=>?_) (fun h1=>?_)
 rotate_left
 ·exact m178
 conv=>whnf
 refine Zyq (fun h2=>?_) (fun h2=>?_)
 ·conv=>whnf
  refine Zyq (fun h3=>?_) (fun h3=>?_)
  ·exact m166
  conv=>whnf
  refine Zyq (fun h5=>?_) (fun h5=>?_)
  rotate_left
  ·exact m145
  have h5:a1=3:=by omega
  have hor:(decide (a3=0) || decide (a1=3))=true:=by simp [h5]
  exact m164
 conv=>whnf
 refine Zyq (fun h6=>?_) (fun h6=>?_)
 rotate_left
 ·exact m150
 have h6:(a4.length:Int)=a:=by rw [← hl4];exact h6
 conv=>whnf
 refine Zyq (fun h3=>?_) (fun h3=>?_)
 ·exact m165
 conv=>whnf
 refine Zyq (fun h5=>?_) (fun h5=>?_)
 rotate_left
 ·exact m145
 have h5:a1=3:=by omega
 have hor:(decide (a3=0) || decide (a1=3))=true:=by simp [h5]
 exact m163):P:=h
theorem m4 {P:Prop} (h:P:=by
 have hn38:¬(3≤a1∧a1≤8):=by omega
 conv=>whnf
 refine Zyq (fun hop9=>?_) (fun hop9=>?_)
 ·have h9:a1=9:=by omega
  conv=>whnf
  refine Zyq (fun hr=>?_) (fun hr=>?_)
  rotate_left
  ·have hlb:Y3 a1 a2 a3.length a4.length=false:=by simp [Y3,h9,hr]
   exact m153
  conv=>whnf
  refine Zyq (fun hA=>?_) (fun hA=>?_)
  rotate_left
  ·have hA:¬a3.length=1:=fun g=>hA (by show ((Y0 pl a3).length:Int)=1;rw [hl3,g];rfl)
   have hlb:Y3 a1 a2 a3.length a4.length=false:=by simp [Y3,h9,hA]
   exact m153
  have hA:a3.length=1:=by have hA:((Y0 pl a3).length:Int)=1:=hA;rw [hl3] at hA;omega
  conv=>whnf
  refine Zyq (fun hB=>?_) (fun hB=>?_)
  ·have hB:=hbd.1 hB
   have hlb:Y3 a1 a2 a3.length a4.length=true:=by simp [Y3,h9,hr,hA,hB]
   exact m139
  ·have hB:¬0<a4.length:=fun g=>hB (hbd.2 g)
   have hlb:Y3 a1 a2 a3.length a4.length=false:=by simp only [Y3,h9,hr,hA,decide_eq_false hB];simp
   exact m153
 have hn9:¬a1=9:=by omega
 conv=>whnf
 refine Zyq (fun hg9=>?_) (fun hg9=>?_)
 ·conv=>whnf
  refine Zyq (fun hl12=>?_) (fun hl12=>?_)
  ·have h12:9<a1∧a1≤12:=by omega
   conv=>whnf
   refine Zyq (fun hr=>?_) (fun hr=>?_)
   rotate_left
   ·have hlb:Y3 a1 a2 a3.length a4.length=false:=by simp [Y3,hn12,hn38,hn9,h12,hr]
    exact m153
   conv=>whnf
   refine Zyq (fun hA=>?_) (fun hA=>?_)
   rotate_left
   ·have hA:¬a3.length=2:=fun g=>hA (by show ((Y0 pl a3).length:Int)=2;rw [hl3,g];rfl)
    have hlb:Y3 a1 a2 a3.length a4.length=false:=by simp [Y3,hn12,hn38,hn9,h12,hA]
    exact m153
   have hA:a3.length=2:=by have hA:((Y0 pl a3).length:Int)=2:=hA;rw [hl3] at hA;omega
   conv=>whnf
   refine Zyq (fun hB=>?_) (fun hB=>?_)
   ·have hB:=hbd.1 hB
    have hlb:Y3 a1 a2 a3.length a4.length=true:=by simp [Y3,hn12,hn38,hn9,h12,hr,hA,hB]
    exact m139
   ·have hB:¬0<a4.length:=fun g=>hB (hbd.2 g)
    have hlb:Y3 a1 a2 a3.length a4.length=false:=by simp only [Y3,hn12,hn38,hn9,h12,hr,hA,decide_eq_false hB];simp
    exact m153
  ·exact m181
 exact m181):P:=h
theorem m5 {P:Prop} (h:P:=by
 have ends:∀{f':Frame} {tm:Array Value} {e':Env} {σ':St} {w':World},SRel G e' σ' w'→FRel G e' σ' w' f' tm→Later e σ w e' σ' w' →
   (pres T f' σ'.bx fn.results.toList fun vs=>Jr keep own (Uh vs) σ' fun v σ''=>K (.ret v) σ'')→∃v,(results fn tm).run G.P w'=.ok v w'∧YA G e σ w K (.returned v) w':=fun h1 h2 h3 hl=>by
  obtain ⟨pvs,r,hlv,hr,hvr⟩:=Xv (C:=ctx T tbl loops) hT h1 h2 hl
  obtain ⟨pv',σ2,e2,hK,hv2,hS2,hL2⟩:=Xe h1 h3 hk hvr hlv
  exact ⟨r,hr,.ret pv',σ2,e2,hK,⟨r,rfl,hv2⟩,hS2,hL2⟩
 rcases hp with ⟨pe,f',e',σ',hq,hx,h1,h2,h3,h4,⟨_,rs,h5,h5f,_⟩,h6⟩ | ⟨fa,va,vc,e1,σ1,w1,hL1,hfa,pe,f',e',σ',hq,hx,h1,h2,h3,h4,⟨_,rs,h5,h5f,_⟩,h6⟩
 ·have hd0:a'.defers=[]:=by rw [h5,h5f rfl];rfl
  cases pe with
  | normal=>obtain rfl:x=.normal:=hx;show LeavesIn _ _ _ _ _ _ _ _ _;rw [hd0];exact ends h1 h2 h3 hq
  | ret=>obtain rfl:x=.ret:=hx;show LeavesIn _ _ _ _ _ _ _ _ _;rw [hd0];exact ends h1 h2 h3 hq
  | panic p =>
   obtain ⟨v,rfl,hv⟩:=hx
   show LeavesIn _ _ _ _ _ _ _ _ _
   rw [hd0]
   obtain ⟨pv',σ2,e2,hK,hv2,hS2,hL2⟩:=Xe h1 h3 hk hv hq
   exact ⟨.panic pv',σ2,e2,hK,⟨v,rfl,hv2⟩,hS2,hL2⟩
  | exit id=>exact hq.elim
  | goto l=>exact hq.elim
 ·have hd0:a'.defers=[Zy g0 va vc]:=by rw [h5,h5f rfl];rfl
  have hL2:Later e σ w e' σ' w':=hL1.trans h3
  have hinv:(invoke (Zy g0 va vc).target (Zy g0 va vc).args).run G.P w'=.ok (.enter g0 (va++vc)) w':=by
   show (callFunc g0 (va++vc)).run G.P w'=_
   exact hd.enters _ _
  have after:∀{e2:Env} {σ2:St} {w2:World},SRel G e2 σ2 w2→Later e' σ' w' e2 σ2 w2→(pres T (V5 f') σ2.bx fn.results.toList fun vs=>Jr keep own (Uh vs) σ2 fun v σ''=>K (.ret v) σ'')→∃v,(results fn a'.tmps).run G.P w2=.ok v w2∧YA G e σ w K (.returned v) w2 :=
   fun h1' hL' hl=>ends h1' (h2.clean hL') (hL2.trans hL') hl
  have hfa':ArgsRel G e' σ' w' (Xm fa) (va++vc):=hfa.clean h3
  have go:∀u,u≠.run→CallsDIn (fw none) (n - 1) G.P g0 (va++vc) u w' (fun
    | .returned _,u',w'=>LeavesIn (fw none) n G.P fn a'.tmps (YA G e σ w K) [] (settle u') w'
    | .panicked chain,u',w'=>LeavesIn (fw none) n G.P fn a'.tmps (YA G e σ w K) [] (raised u' chain) w'
    | .outgrown,_,w'=>YA G e σ w K .outgrown w')→LeavesIn (fw none) n G.P fn a'.tmps (YA G e σ w K) [Zy g0 va vc] u w':=fun u hu hc =>
   ⟨hu,(fun h=>by cases h),.func g0,vc,g0,va++vc,rfl,hinv,fun _ _=>trivial,hc⟩
  cases pe with
  | normal =>
   obtain rfl:x=.normal:=hx
   exact m157
  | ret =>
   obtain rfl:x=.ret:=hx
   exact m157
  | panic p =>
   obtain ⟨v,rfl,hv⟩:=hx
   show LeavesIn _ _ _ _ _ _ _ _ _
   rw [hd0]
   refine go _ (by simp) ((hd.pan _ _ _ _ hq _ _ _ _ v h1 hfa' hv).mono fun en u2 w2 hh=>?_)
   obtain ⟨rfl,⟨r,rfl⟩,σ2,e2,hK,hS2,hL'⟩:=hh
   exact after hS2 hL' hK
  | exit id=>exact hq.elim
  | goto l=>exact hq.elim):P:=h
theorem m6 {P:Prop} (h:P:=by
 obtain ⟨cb',rest,as2,hv,hx2,hI2,hbl,hble,hbs⟩:=Jy hI1 hv
 have hnodup:=JC hnd
 have hbslt:∀b,b∈bs→b<σ.bx.length:=fun b hb=>by
  obtain ⟨k,hk,he⟩:=Sb hb
  obtain ⟨x,hx,_⟩:=hcg k b (by rw [Th hk,he])
  exact (Tg.1 hx).1
 have backOf:∀(pe:PEnd) (σ3:St),(ZcC (JB bs bs.length σ.bx.length σ.nx) bs σ3.bx σ.bx fun bx=>K (ZjT bs bs.length σ.bx.length σ.nx pe) (V8 σ rest σ3 bx))→∃bx,Backed σ bs σ3 bx∧K (ZjT bs bs.length σ.bx.length σ.nx pe) (V8 σ rest σ3 bx):=fun pe σ3 hb=>by
  obtain ⟨bx,h1,h2,h3,h4,h5,h6⟩:=ZeW hnodup hbslt hb
  exact ⟨bx,⟨h2,h3,h4,h5,h6⟩,h1⟩
 refine ⟨hP.enters,fun ro n e w vs hS hargs=>?_⟩
 ·have hmemP:∀t,t∈as2.filterMap id↔some t∈as2:=fun t=>by simp
  have hpass:∀t,t∈as2.filterMap id→t∈σ.tk∧t∉rest:=fun t ht=>by
   obtain ⟨i,hi,he⟩:=Sb ((hmemP t).1 ht)
   exact hI2.mem i t (by rw [Th hi,he])
  have hH:Hand σ bs rest (as2.filterMap id) cb:=⟨hnodup,hcl,hcg,hI2.sub,hpass⟩
  have hS1:=hS.ren hH
  have hIP:NInv (as2.filterMap id) [] as2:=⟨(fun t ht=>by cases ht),(fun i t hi=>⟨(hmemP t).2 (Sd hi),by simp⟩),hI2.inj⟩
  have hn1:bs.length≤(St.mk cb (as2.filterMap id) σ.nx).bx.length:=Nat.le_of_eq hcl.symm
  have hS2:=ZeR hS1 hn1 hIP hbl hbs
  have hD:=Zcu (e:=e.handed σ bs rest) hn1 hIP hbl
  have hA2:ArgsRel G ((e.handed σ bs rest).re as2) ⟨cb',toks as2.length,as2.length⟩ w args' vs:=by
   refine ⟨by rw [hargs.1,hal,YK],fun i x u hx hu=>?_⟩
   have hi:=(Tg.1 hx).1
   rw [hal] at hi
   have hy:=Th hi
   obtain ⟨z,hz,hze⟩:=W2 i _ hy
   have h1:=(hargs.2 i z u hz hu).ren hS hH
   rw [← hze] at h1
   exact ((hav i _ x hy hx).ext hx2).rel hn1 hIP hbl h1
  have hHd:Handed e σ w bs rest ((e.handed σ bs rest).re as2) ⟨cb',toks as2.length,as2.length⟩:={
   nodup:=hnodup
   lt:=hbslt
   len:=hbl
   beta:=fun j b hj=>by simp [Env.re,Env.handed,hj]
   X:=rfl
   okc:=fun b off ho=>hD.okc b off (ZiL hS hH ho)
   tok:=fun t ht p hp=>by
    obtain ⟨t0,h1,h2⟩:=hD.tok t ht p hp
    exact ⟨t0,(hpass t0 h1).1,(hpass t0 h1).2,h2⟩
   restIn:=hI2.sub }
  have hcall:=hP.calls _ _ _ hv n _ w vs hS2 hA2
  have hro:∀R,CallsIn (fw none) n G.P g vs w R→CallsIn (fw ro) n G.P g vs w R:=fun R h=>by
   cases ro with
   | none=>exact h
   | some l=>exact h.inRound l
  refine (hro _ hcall).mono fun en w' hA=>?_
  obtain ⟨pe,σ3,e3,hk,hE,hS3,hL⟩:=hA
  obtain ⟨bx,hB,hK⟩:=backOf pe σ3 hk
  refine ⟨_,_,e.back σ.bx.length bs.length σ.nx e3,hK,?_,hS.back hHd hS3 hL hB,Up hS hHd hS3 hL hB⟩
  cases pe with
  | ret x=>obtain ⟨v,rfl,hr⟩:=hE;exact ⟨v,rfl,hr.back hS hHd hL hB⟩
  | panic x=>obtain ⟨v,rfl,hr⟩:=hE;exact ⟨v,rfl,hr.back hS hHd hL hB⟩):P:=h
theorem m7 {P:Prop} (h:P:=by
 intro args σ K h
 unfold XI at h
 split at h
 ·obtain ⟨pl,l,rfl,⟨rfl,hz,hn⟩,h⟩:=h
  refine ⟨Zb [],0,false,by simp,Tb rfl,?_⟩
  conv=>whnf
  refine ⟨pl,l,rfl,⟨rfl,rfl,hz,hn⟩,fun b hb=>?_⟩
  conv=>whnf
  exact h _ (by rw [← hb,Ss])
 ·exact h.elim):P:=h
theorem m8 {P:Prop} (h:P:=by
 conv=>whnf
 refine ⟨by omega,by omega,by omega,?_⟩
 conv=>whnf
 have hcut:cut s ((a:Int)).toNat ((e:Int)).toNat=Ze (s.drop a):=by rw [hst.2];congr 1 <;> omega
 refine ⟨false,⟨⟨?_,?_⟩,rfl,rfl⟩,fun h5 nn=>?_,fun h5=>?_⟩
 ·exact (congrArg (fun l:Bs=>l.all (Wl false)=true) hcut).mpr hall
 ·exact (congrArg (fun l:Bs=>l.length<4294967281) hcut).mpr (show _<_ by omega)
 ·have h5':Ze (s.drop a)=[]∨9223372036854775808≤Wz 10 (Ze (s.drop a)):=by rw [← hcut];exact h5
  exact m142
 ·have h5':¬(Ze (s.drop a)=[]∨9223372036854775808≤Wz 10 (Ze (s.drop a))):=by rw [← hcut];exact h5
  simp only [not_or] at h5'
  have hpr:=W5 (s.drop (a+Zm (s.drop a)))
  have hpr':=W5 (s.drop ((e:Int)).toNat)
  have hee:(pk (s.drop ((e:Int)).toNat)).1=(pk ((s.drop a).drop (Zm (s.drop a)))).1:=by rw [TL,← hst.1];rfl
  have g6:ZE (s.drop a)=if Zg (pk ((s.drop a).drop (Zm (s.drop a)))).1=true∨Zl (pk ((s.drop a).drop (Zm (s.drop a)))).1=true∨(Xq (s.drop a)=true∧16<(Ze (s.drop a)).length) then none else some (Wz 10 (Ze (s.drop a))):=by
   unfold ZE
   simp only [hx',if_true,To,if_false]
   rw [Te h5'.1,Te h5'.2]
  conv=>whnf
  refine ⟨⟨by omega,by omega⟩,?_⟩
  conv=>whnf
  refine ⟨⟨hpr'.1,by omega⟩,?_⟩
  conv=>whnf
  refine Zyu (fun h6=>?_) (fun h6=>?_)
  ·exact m170
  ·conv=>whnf
   refine Zyu (fun h7=>?_) (fun h7=>?_)
   ·exact m168
   ·have g7:¬Zg (pk ((s.drop a).drop (Zm (s.drop a)))).1=true∧¬Zl (pk ((s.drop a).drop (Zm (s.drop a)))).1=true:=by
     exact m161
    conv=>whnf
    have g9:=hgood _ (by rw [g6,Te (by simp only [not_or];exact ⟨g7.1,g7.2,by rw [hx'];simp⟩)])
    rw [← hst.1,← hcut] at g9
    exact Or.inr g9):P:=h
theorem m9 {P:Prop} (h:P:=by
 conv=>whnf
 refine Zyq (fun h1=>?_) (fun h1=>?_)
 rotate_left
 ·exact m178
 conv=>whnf
 refine Zyq (fun h2=>?_) (fun h2=>?_)
 ·exact m141
 conv=>whnf
 refine Zyq (fun h6=>?_) (fun h6=>?_)
 rotate_left
 ·exact m150
 have h6:(a4.length:Int)=a:=by rw [← hl4];exact h6
 exact m141):P:=h
theorem m10 {P:Prop} (h:P:=by
 exact m139):P:=h
theorem m11 {P:Prop} (h:P:=by
 have hlow:=Zgk hd (by omega)
 conv=>whnf
 refine Zyq (fun g1=>?_) (fun g1=>?_)
 ·conv=>whnf
  refine Zyq (fun g2=>?_) (fun g2=>?_)
  ·conv=>whnf
   refine oiB ?_
   conv=>whnf
   refine oiB ?_
   have hD:(Ze0 b:Int)=Zh .or .u8 (b.toNat:Int) 32 - 97+10:=by omega
   conv=>whnf
   refine oiB ?_
   conv=>whnf
   refine Zyq (fun h6=>?_) (fun h6=>?_)
   ·omega
   ·conv=>whnf
    refine Zyq (fun h7=>?_) (fun h7=>?_)
    ·exact m172
    ·conv=>whnf
     refine oiU ?_
     conv=>whnf
     refine oiU ?_
     conv=>whnf
     refine oiU ?_
     conv=>whnf
     by_cases hbig:(N:Int) * 16+(Zh .or .u8 (b.toNat:Int) 32 - 97+10)≤18446744073709551615
     ·refine oiU ?_
      conv=>whnf
      refine Zyq (fun h8=>?_) (fun h8=>?_)
      ·omega
      ·conv=>whnf
       refine Zyq (fun h9=>?_) (fun h9=>?_)
       ·exact m172
       ·conv=>whnf
        refine oiO ?_
        conv=>whnf
        refine ⟨⟨rfl,i+1,?_,by omega,by omega⟩,?_⟩
        ·have e:((Wz 16 (l.take (i+1)):Nat):Int)=(N:Int) * 16+(Zh .or .u8 (b.toNat:Int) 32 - 97+10):=by omega
         rw [e];rfl
        ·exact m162
     ·have hw:IntKind.u64.wrap ((N:Int) * 16+(Zh .or .u8 (b.toNat:Int) 32 - 97+10))=(N:Int) * 16+(Zh .or .u8 (b.toNat:Int) 32 - 97+10) - 18446744073709551616:=by
       exact m175
      exact m169
  ·omega
 ·omega):P:=h
theorem m12 {P:Prop} (h:P:=by
 rw [hp,TJ] at hs
 conv=>whnf
 refine oiO ?_
 conv=>whnf
 refine ⟨⟨i+1,rfl,rfl,by omega,hs⟩,?_⟩
 show ((l.length:Int) - ((i:Int)+1)).toNat<((l.length:Int) - (i:Int)).toNat
 omega):P:=h
theorem m13 {P:Prop} (h:P:=by
 have g:K (.ret (.sl 0 5 (rows++[[D.int .u8 (Zh .or .u8 224 (IntKind.u8.wrap (c.fdiv (2 ^ min (Int.toNat 12) IntKind.i32.bits))))],[D.int .u8 (Zh .or .u8 128 (Zh .and .u8 (IntKind.u8.wrap (c.fdiv (2 ^ min (Int.toNat 6) IntKind.i32.bits))) 63))],[D.int .u8 (Zh .or .u8 128 (Zh .and .u8 (IntKind.u8.wrap (c)) 63))]]))) ⟨[],[0],1⟩:=by
  have e:Zi (Lib.encodeRune c)=[[D.int .u8 (Zh .or .u8 224 (IntKind.u8.wrap (c.fdiv (2 ^ min (Int.toNat 12) IntKind.i32.bits))))],[D.int .u8 (Zh .or .u8 128 (Zh .and .u8 (IntKind.u8.wrap (c.fdiv (2 ^ min (Int.toNat 6) IntKind.i32.bits))) 63))],[D.int .u8 (Zh .or .u8 128 (Zh .and .u8 (IntKind.u8.wrap (c)) 63))]]:=by
   rw [Wt,Lib.encodeRuneZ_three (by omega)]
   simp only [e6,e12,e18,wu8,TA,TN]
   rw [ZxF (by omega) (by omega),a63 (by omega) (by omega),a63 (by omega) (by omega),Zpa (by omega) (by omega),Zpa (by omega) (by omega),show c / 4096 % 256=c / 4096 by omega,show c / 64 % 256 % 64=c / 64 % 64 by omega,show c % 256 % 64=c % 64 by omega]
   all_goals (try omega)
   (try (congr 1 <;> omega))
  rw [e] at h;exact h
 conv=>whnf
 refine ⟨by decide,?_⟩
 conv=>whnf
 refine Or.inr ?_
 conv=>whnf
 refine ⟨by decide,?_⟩
 conv=>whnf
 refine Or.inr ?_
 conv=>whnf
 refine Or.inr ?_
 exact m159):P:=h
theorem m14 {P:Prop} (h:P:=by
 conv=>whnf
 refine ⟨fun _=>0,a1,rfl,⟨by simp only [wBs];omega,by omega⟩,fun b hn0=>?_⟩
 cases b with
 | false =>
  conv=>whnf
  exact h _ (by simp [ZP,hn0])
 | true =>
  conv=>whnf
  refine ⟨pl,a2,rfl,⟨rfl,by omega,by omega⟩,fun b ha1=>?_⟩
  cases b with
  | false =>
   conv=>whnf
   exact h _ (by simp [ZP,hn0,ha1])
  | true =>
   conv=>whnf
   refine ⟨pl,a4,rfl,⟨rfl,by omega,by omega⟩,fun b ha2=>?_⟩
   cases b with
   | false =>
    conv=>whnf
    exact h _ (by simp [ZP,hn0,ha1,ha2])
   | true =>
    conv=>whnf
    refine ⟨pl,.mk u1 u2 u3 u4 u5 u6,rfl,⟨by omega,by omega⟩,fun b hu=>?_⟩
    conv=>whnf
    exact h _ (by simp only [ZP,hbs,hn0,ha1,ha2,hu,TJ])):P:=h
theorem m15 {P:Prop} (h:P:=by
 conv=>whnf
 refine oiO ?_
 conv=>whnf
 refine ⟨⟨i+1,_,rfl,(by rw [hfin,hT];simp only [Tk];rfl),.inr rfl,by omega⟩,?_⟩
 show ((rels.length:Int) - ((i:Int)+1)).toNat<((rels.length:Int) - (i:Int)).toNat
 omega):P:=h
theorem m16 {P:Prop} (h:P:=by
 rcases x with ⟨v3,ts3⟩ | ⟨r3,e3⟩
 rotate_left
 ·exact m155
 rw [hx3,R.bind_ok] at h
 intro a3 hle3 ho3
 have hb3:=ho3.hi
 conv=>whnf
 refine oiO ?_
 conv=>whnf
 rw [TV]
 exact h _ (by omega) ho3):P:=h
theorem m17 {P:Prop} (h:P:=by
 cases b with
 | false =>
  rw [Zo,Te (by rw [hw1];simp),R.bind_err] at h
  exact m173
 | true =>
  rw [Zo,Ti hw1] at h
  conv=>whnf
  refine Zyq (fun hc=>?_) (fun hc=>?_)
  ·rw [Ti (by omega),R.bind_err] at h
   conv=>whnf
   refine ⟨L,ts,rfl,ho,?_⟩
   conv=>whnf
   exact h _ _
  ·rw [Te (by omega)] at h
   conv=>whnf
   refine ⟨L,ts,rfl,ho,fun x hx=>?_⟩
   rw [ZT,Ti hw1] at hx
   subst hx
   intro a1 hle1 ho1
   have hb1:=ho1.hi
   conv=>whnf
   refine oiO ?_
   conv=>whnf
   refine ⟨_,fun _ _ h=>h,Tb rfl,?_⟩
   conv=>whnf
   refine ⟨L,ts.tail,rfl,ho1,⟨by omega,by omega,by omega⟩,fun x hx2=>?_⟩
   rcases x with ⟨v2,ts2⟩ | ⟨r2,e2⟩
   rotate_left
   ·exact m180
   rw [hx2,R.bind_ok] at h
   intro a2 hle2 ho2
   have hb2:=ho2.hi
   obtain ⟨v2a,v2b,v2c,v2d,v2e⟩:=v2
   conv=>whnf
   repeat (refine ⟨rfl,?_⟩;conv=>whnf)
   rw [Ti rfl,R.bind_ok] at h
   refine oiO ?_
   conv=>whnf
   rw [TV]
   exact h _ (by omega) ho2):P:=h
theorem m18 {P:Prop} (h:P:=by
 conv=>whnf
 refine ⟨L,ts1,rfl,ho1,hdp,fun x hx=>?_⟩
 rw [hx] at step
 cases x with
 | err r e =>
  exact m156
 | ok v ts2 =>
  rw [R.bind_ok] at step
  intro a2 hle ho2
  have hl2:=ho2.len
  have hhi2:=ho2.hi
  obtain ⟨v1,v2,v3,v4,v5⟩:=v
  conv=>whnf
  refine ⟨Tv.2 rfl,(show ((l.map (WR (Zd L en))).length+1) * 80≤2 ^ 47 by rw [Tf];omega),(show (l.map (WR (Zd L en))).length+1≤2 ^ 47 by rw [Tf];omega),?_⟩
  conv=>whnf
  refine ⟨L,ts2,rfl,ho2,[[44]],rfl,by simp,fun hw ho3=>?_,fun hw=>?_⟩
  ·conv=>whnf
   rw [Ti hw] at step
   have hl3:=ho3.len
   refine ⟨⟨_,a2+1,ts2.tail,f,congrArg (fun r=>[PV.sl 0 60 r]) (Zr (WR (Zd L en)) l (.mk v1 v2 v3 v4 v5)),rfl,ho3,by simp only [Ta,Tw];omega,by omega,step⟩,?_⟩
   exact m154
  ·conv=>whnf
   rw [Te (by rw [hw];simp)] at step
   rw [step] at h
   exact Znq (h a2 (by omega) ho2) (congrArg (fun r=>PEnd.ret (PV.d (D.sl r))) (Zr (WR (Zd L en)) l (.mk v1 v2 v3 v4 v5)).symm) rfl):P:=h
theorem m19 {P:Prop} (h:P:=by
 conv=>whnf
 refine ⟨L,ts1,rfl,ho1,hdp,fun x hx=>?_⟩
 rw [hx] at step
 cases x with
 | err r e =>
  exact m156
 | ok v ts2 =>
  rw [R.bind_ok] at step
  intro a2 hle ho2
  have hl2:=ho2.len
  have hhi2:=ho2.hi
  obtain ⟨v1,v2,v3,v4,v5⟩:=v
  conv=>whnf
  refine ⟨Tv.2 rfl,(show ((l.map (YU (Zd L en))).length+1) * 64≤2 ^ 47 by rw [Tf];omega),(show (l.map (YU (Zd L en))).length+1≤2 ^ 47 by rw [Tf];omega),?_⟩
  conv=>whnf
  refine ⟨L,ts2,rfl,ho2,[[44]],rfl,by simp,fun hw ho3=>?_,fun hw=>?_⟩
  ·conv=>whnf
   rw [Ti hw] at step
   have hl3:=ho3.len
   refine ⟨⟨_,a2+1,ts2.tail,f,congrArg (fun r=>[PV.sl 0 24 r]) (Zr (YU (Zd L en)) l (.mk v1 v2 v3 v4 v5)),rfl,ho3,by simp only [Ta,Tw];omega,by omega,step⟩,?_⟩
   exact m154
  ·conv=>whnf
   rw [Te (by rw [hw];simp)] at step
   rw [step] at h
   exact Znq (h a2 (by omega) ho2) (congrArg (fun r=>PEnd.ret (PV.d (D.sl r))) (Zr (YU (Zd L en)) l (.mk v1 v2 v3 v4 v5)).symm) rfl):P:=h
theorem m20 {P:Prop} (h:P:=by
 conv=>whnf
 refine ⟨fun _=>0,a2,rfl,⟨by simp only [wBs];omega,by omega⟩,fun b hn0=>?_⟩
 cases b with
 | false =>
  conv=>whnf
  exact h _ (by simp [Z0,htb,hn0])
 | true =>
  conv=>whnf
  refine ⟨pl,a4,rfl,⟨rfl,by omega,by omega⟩,fun b ha1=>?_⟩
  cases b with
  | false =>
   conv=>whnf
   exact h _ (by simp [Z0,htb,hn0,ha1])
  | true =>
   conv=>whnf
   refine ⟨pl,a5,rfl,⟨rfl,by omega,by omega⟩,fun b ha2=>?_⟩
   conv=>whnf
   exact h _ (by simp only [Z0,htb,hn0,ha1,ha2,TJ])):P:=h
theorem m21 {P:Prop} (h:P:=by
 conv=>whnf
 refine ⟨L,ts1,rfl,ho1,fun x hx=>?_⟩
 rw [hx] at step
 cases x with
 | err r e =>
  exact m156
 | ok v ts2 =>
  rw [R.bind_ok] at step
  intro a2 hle ho2
  have hl2:=ho2.len
  have hhi2:=ho2.hi
  obtain ⟨v1,v2⟩:=v
  conv=>whnf
  refine ⟨Tv.2 rfl,(show ((l.map (Z6)).length+1) * 40≤2 ^ 47 by rw [Tf];omega),(show (l.map (Z6)).length+1≤2 ^ 47 by rw [Tf];omega),?_⟩
  conv=>whnf
  refine ⟨L,ts2,rfl,ho2,[[124]],rfl,by simp,fun hw ho3=>?_,fun hw=>?_⟩
  ·conv=>whnf
   rw [Ti hw] at step
   have hl3:=ho3.len
   refine ⟨⟨_,a2+1,ts2.tail,f,congrArg (fun r=>[PV.sl 0 148 r]) (Zr (Z6) l _),rfl,ho3,by simp only [Ta,Tw];omega,by omega,step⟩,?_⟩
   exact m154
  ·conv=>whnf
   rw [Te (by rw [hw];simp)] at step
   rw [step] at h
   exact Znq (h a2 (by omega) ho2) (congrArg (fun r=>PEnd.ret (PV.d (D.sl r))) (Zr (Z6) l _).symm) rfl):P:=h
theorem m22 {P:Prop} (h:P:=by
 conv=>whnf
 refine ⟨L,ts1,rfl,ho1,fun x hx=>?_⟩
 rw [hx] at step
 cases x with
 | err r e =>
  exact m156
 | ok v ts2 =>
  rw [R.bind_ok] at step
  intro a2 hle ho2
  have hl2:=ho2.len
  have hhi2:=ho2.hi
  obtain ⟨v1,v2⟩:=v
  conv=>whnf
  refine ⟨Tv.2 rfl,(show ((l.map (ZN)).length+1) * 32≤2 ^ 47 by rw [Tf];omega),(show (l.map (ZN)).length+1≤2 ^ 47 by rw [Tf];omega),?_⟩
  conv=>whnf
  refine ⟨L,ts2,rfl,ho2,[[44]],rfl,by simp,fun hw ho3=>?_,fun hw=>?_⟩
  ·conv=>whnf
   rw [Ti hw] at step
   have hl3:=ho3.len
   refine ⟨⟨_,a2+1,ts2.tail,f,congrArg (fun r=>[PV.sl 0 66 r]) (Zr (ZN) l _),rfl,ho3,by simp only [Ta,Tw];omega,by omega,step⟩,?_⟩
   exact m154
  ·conv=>whnf
   rw [Te (by rw [hw];simp)] at step
   rw [step] at h
   exact Znq (h a2 (by omega) ho2) (congrArg (fun r=>PEnd.ret (PV.d (D.sl r))) (Zr (ZN) l _).symm) rfl):P:=h
theorem m23 {P:Prop} (h:P:=by
 exact m155):P:=h
theorem m24 {P:Prop} (h:P:=by
 conv=>whnf
 refine ⟨L,ts1,rfl,ho1,fun x hx=>?_⟩
 rw [hx] at step
 cases x with
 | err r e =>
  exact m156
 | ok v ts2 =>
  rw [R.bind_ok] at step
  intro a2 hle ho2
  have hl2:=ho2.len
  have hhi2:=ho2.hi
  skip
  conv=>whnf
  refine ⟨Tv.2 rfl,(show ((l.map (ZM)).length+1) * 16≤2 ^ 47 by rw [Tf];omega),(show (l.map (ZM)).length+1≤2 ^ 47 by rw [Tf];omega),?_⟩
  conv=>whnf
  refine ⟨L,ts2,rfl,ho2,[[44]],rfl,by simp,fun hw ho3=>?_,fun hw=>?_⟩
  ·conv=>whnf
   rw [Ti hw] at step
   have hl3:=ho3.len
   refine ⟨⟨_,a2+1,ts2.tail,f,congrArg (fun r=>[PV.sl 0 9 r]) (Zr (ZM) l _),rfl,ho3,by simp only [Ta,Tw];omega,by omega,step⟩,?_⟩
   exact m154
  ·conv=>whnf
   rw [Te (by rw [hw];simp)] at step
   rw [step] at h
   exact Znq (h a2 (by omega) ho2) (congrArg (fun r=>PEnd.ret (PV.d (D.sl r))) (Zr (ZM) l _).symm) rfl):P:=h
theorem m25 {P:Prop} (h:P:=by
 have hk:=(Tg.1 hx).1
 have hkv:k<vs.size:=by omega
 have:(vs++Array.replicate (fn.ntmps - vs.size) undef).getD (0+k) Go.undef=vs[k]:=by
  simp [Array.getD,Array.getElem_append,hkv]
  intro h;omega
 rw [this]
 exact hargs.2 k x _ hx (Tx hkv)):P:=h
theorem m26 {P:Prop} (h:P:=by
 refine ⟨by simp,fun r hr=>by rw [(List.mem_replicate.1 hr).2],fun a b y u hb hy hu=>?_⟩
 by_cases ha:a<n
 ·have hlt:a * zero.length+b<n * zero.length:=by
   calc a * zero.length+b<a * zero.length+zero.length:=by omega
    _=(a+1) * zero.length:=by rw [Sh,Nat.one_mul]
    _≤n * zero.length:=TW _ ha
  have hm:(a * zero.length+b) % z.cells.size=b:=by rw [hzc,Nat.mul_comm,Nat.mul_add_mod,Nat.mod_eq_of_lt hb]
  rw [Tu,Array.getElem?_map,Array.getElem?_range,Ti hlt] at hu
  simp only [So,hm,Option.some.injEq] at hu
  have hbz:b<z.cells.size:=by omega
  rw [getElem!_pos z.cells b hbz] at hu
  have hbl:b<(T.get el).zero.length:=by omega
  have:=hz4 b _ u (Th hbl) (by rw [Tu,Tx hbz,hu])
  rw [List.getElem?_replicate,Ti ha] at hy
  simp only [Option.bind_some] at hy
  exact VN (hd2 b _ y (Th hbl) hy) this.1
 ·rw [List.getElem?_replicate,Te ha] at hy;cases hy):P:=h
theorem m27 {P:Prop} (h:P:=by
 exact m173):P:=h
theorem m28 {P:Prop} (h:P:=by
 intro j x hx
 have hj:=(Tg.1 hx).1
 have hrow:(Zi l)[j]?=some [.int .u8 x.toNat]:=by simp [Zi,hx]
 generalize hrr:Zi l=rr at hd hrow
 have hlen:rr.length=l.length:=by rw [← hrr];simp [Zi]
 generalize hvv:Value.slice (some ⟨g,0,none⟩) l.length cap=vv at hd
 cases hd with
 | slnil=>simp at hrow
 | slz=>simp at hrow
 | sl _ _ _ _ sz u hcap hsz hc ho hu =>
  simp only [Value.slice.injEq,Option.some.injEq,Addr.mk.injEq] at hvv
  obtain ⟨⟨rfl,rfl,_⟩,_,rfl⟩:=hvv
  have hsz':sz=1:=by
   have:=hsz _ (Sd hrow);simpa using this.symm
  subst hsz'
  have h1:=hc j 0 (by omega) (by omega)
  have h2:=hu j 0 (.int .u8 x.toNat) (by rw [hrow];rfl)
  generalize huu:u j 0=uu at h1 h2;cases h2
  simpa using h1):P:=h
theorem m29 {P:Prop} (h:P:=by
 exact m153):P:=h
theorem m30 {P:Prop} (h:P:=by
 conv=>whnf
 refine ⟨fun _=>0,a1,rfl,⟨by simp only [wBs];omega,by omega⟩,fun b hn0=>?_⟩
 cases b with
 | false =>
  conv=>whnf
  exact h _ (by simp [ZP,hn0])
 | true =>
  conv=>whnf
  refine ⟨pl,a2,rfl,⟨rfl,by omega,by omega⟩,fun b ha1=>?_⟩
  cases b with
  | false =>
   conv=>whnf
   exact h _ (by simp [ZP,hn0,ha1])
  | true =>
   conv=>whnf
   refine ⟨pl,a4,rfl,⟨rfl,by omega,by omega⟩,fun b ha2=>?_⟩
   cases b with
   | false =>
    conv=>whnf
    exact h _ (by simp [ZP,hn0,ha1,ha2])
   | true =>
    conv=>whnf
    exact h _ (by simp only [ZP,hbs,TT,Bool.and_false])):P:=h
theorem m31 {P:Prop} (h:P:=by
 conv=>whnf
 have e:YF (s.drop a.toNat)=2:=by
  have:twos.any (Lib.hasPrefix (s.drop a.toNat))=true:=by simp [twos,h2]
  simp [YF,this]
 rw [e] at h
 exact h):P:=h
theorem m32 {P:Prop} (h:P:=by
 have hnil:u.drop i=[]:=TP (by omega)
 have g1:Wf (s.drop a)=.err 0:=by rw [← hgo];simp [ZD,hnil]
 conv=>whnf
 (try (refine ⟨rfl,?_⟩;conv=>whnf))
 (try (refine ⟨rfl,?_⟩;conv=>whnf))
 exact hbad _ g1):P:=h
theorem m33 {P:Prop} (h:P:=by
 exact ⟨_,h,by rw [Ya,Op.equalIn];simp [Za hd1],ZR rfl,rfl⟩):P:=h
theorem m34 {P:Prop} (h:P:=by
 conv=>whnf
 refine oiO ?_
 conv=>whnf
 refine ⟨⟨1,rfl,(by rw [htk];simp only [TY,TN,Zf,TM];rfl),by omega⟩,?_⟩
 show ((xs.length:Int) - ((0:Int)+1)).toNat<((xs.length:Int) - (0:Int)).toNat
 omega):P:=h
theorem m35 {P:Prop} (h:P:=by
 rcases x with ⟨v8,ts8⟩ | ⟨r8,e8⟩
 rotate_left
 ·rw [hx8,R.bind_err] at h;intro a9 d9;(conv=>whnf);exact h _ _
 rw [hx8,R.bind_ok] at h
 intro a8 hle8 ho8
 have hb8:=ho8.hi
 obtain ⟨v8a,v8b,v8c,v8d,v8e,v8f⟩:=v8
 conv=>whnf
 rw [Te (by simp)] at h
 refine ⟨L,ts8,rfl,ho8,fun x hx9=>?_⟩
 rcases x with ⟨v9,ts9⟩ | ⟨r9,e9⟩
 rotate_left
 ·rw [hx9,R.bind_err,R.bind_err] at h;intro a9 d9;(conv=>whnf);exact h _ _
 rw [hx9,R.bind_ok,R.bind_ok] at h
 intro a9 hle9 ho9
 have hb9:=ho9.hi
 conv=>whnf
 refine oiO ?_
 conv=>whnf
 rw [TV]
 exact h _ (by omega) ho9):P:=h
theorem m36 {P:Prop} (h:P:=by
 conv=>whnf
 refine oiO ?_
 conv=>whnf
 refine ⟨⟨i+1,rfl,(by rw [htk];simp only [Tk];rfl),by omega⟩,?_⟩
 show ((xs.length:Int) - ((i:Int)+1)).toNat<((xs.length:Int) - (i:Int)).toNat
 omega):P:=h
theorem m37 {P:Prop} (h:P:=by
 rw [hp,TT] at hs
 conv=>whnf
 exact h _ (by rw [hs];simp;try omega)):P:=h
theorem m38 {P:Prop} (h:P:=by
 intro args σ K h
 unfold UI at h
 split at h
 ·obtain ⟨pl,⟨a1,a2⟩,rfl,⟨rfl,hz,hn⟩,h⟩:=h
  refine ⟨Zb [],1,false,by simp,Tb rfl,?_⟩
  conv=>whnf
  refine ⟨pl,⟨a1,a2⟩,rfl,⟨hz,hn⟩,fun b hb=>?_⟩
  exact m174
 ·exact h.elim):P:=h
theorem m39 {P:Prop} (h:P:=by
 exact m171):P:=h
theorem m40 {P:Prop} (h:P:=by
 exact m180):P:=h
theorem m41 {P:Prop} (h:P:=by
 rw [WM _ hi2] at hs
 conv=>whnf
 exact h _ (by rw [hs];simp)):P:=h
theorem m42 {P:Prop} (h:P:=by
 split at h
 ·obtain ⟨h0,L,ts,h1,h2,h3⟩:=h
  exact ⟨h0,L,ts,h1,h2,fun x hx=>ZZ (fun _ _ _ hk=>hK _ _ hk) (h3 x hx)⟩
 ·exact h.elim):P:=h
theorem m43 {P:Prop} (h:P:=by
 rcases x with ⟨v11,ts11⟩ | ⟨r11,e11⟩
 rotate_left
 ·rw [hx11,R.bind_err] at h;intro a9 d9;(conv=>whnf);exact h _ _
 rw [hx11,R.bind_ok] at h
 intro a11 hle11 ho11
 have hb11:=ho11.hi
 conv=>whnf
 refine ⟨L,ts11,rfl,ho11,⟨hdp,by simp⟩,fun x hx12=>?_⟩
 rcases x with ⟨v12,ts12⟩ | ⟨r12,e12⟩
 rotate_left
 ·rw [hx12,R.bind_err] at h;intro a9 d9;(conv=>whnf);exact h _ _
 rw [hx12,R.bind_ok] at h
 intro a12 hle12 ho12
 have hb12:=ho12.hi
 conv=>whnf
 rw [← Zk]
 exact h _ (by omega) ho12):P:=h
theorem m44 {P:Prop} (h:P:=by
 conv=>whnf
 exact h _ _):P:=h
theorem m45 {P:Prop} (h:P:=by
 split at h
 ·exact ⟨h.1,fun x hx=>ZZ hK (h.2 x hx)⟩
 ·exact h.elim):P:=h
theorem m46 {P:Prop} (h:P:=by
 conv=>whnf
 exact h):P:=h
theorem m47 {P:Prop} (h:P:=by
 exact m169):P:=h
theorem m48 {P:Prop} (h:P:=by
 rw [hx1,R.bind_err] at h;intro a9 d9;(conv=>whnf);exact h _ _):P:=h
theorem m49 {P:Prop} (h:P:=by
 conv=>whnf
 (try (refine ⟨rfl,?_⟩;conv=>whnf))
 (try (refine ⟨rfl,?_⟩;conv=>whnf))
 exact hbad 3 (by rw [ZU,hn,hc,Te hno,Ti rfl])):P:=h
theorem m50 {P:Prop} (h:P:=by
 split at h
 ·obtain ⟨pl,x,h1,h2,h3⟩:=h;exact ⟨pl,x,h1,h2,fun b hb=>hK _ _ (h3 b hb)⟩
 ·exact h.elim):P:=h
theorem m51 {P:Prop} (h:P:=by
 simp only [twos,List.take,List.any_cons,List.any_nil,Sl,Se,Sv,Sw] at hn h2' ⊢
 simp only [hn,h2',and_self]):P:=h
theorem m52 {P:Prop} (h:P:=by
 subst hl0
 refine ⟨?_,⟨.normal,f,e,σ,h,rfl,hS,hF,hL,hN,hds,hZ⟩⟩
 rw [List.eq_nil_iff_forall_not_mem]
 intro i hi
 obtain ⟨h1,o,ho,_⟩:=mem_ready.1 hi
 have hlt:=(Tn.1 ho).1
 have:=(hli i hlt).2 (fun p hp=>by cases hp)
 have hlt':i<listed.size:=by rw [hsz];exact hlt
 simp [Array.getD,hlt'] at this h1
 rw [this] at h1;cases h1):P:=h
theorem m53 {P:Prop} (h:P:=by
 intro args σ K h
 unfold UG at h
 split at h
 ·rename_i w t0 t rows a en dp
  obtain ⟨L,ts,rfl,ho,h1,h2⟩:=h
  refine ⟨Zb [],2,false,by simp,Tb rfl,?_⟩
  conv=>whnf
  refine ⟨L,ts,rfl,ho,[w],rfl,by simp,fun hw ho2=>?_,fun hw=>?_⟩
  ·conv=>whnf
   exact h1 hw ho2
  ·conv=>whnf
   exact h2 hw
 ·exact h.elim):P:=h
theorem m54 {P:Prop} (h:P:=by
 simp only [Zdx,XU] at g3 ⊢;dsimp only at k3;exact ⟨g1,g2,by omega⟩):P:=h
theorem m55 {P:Prop} (h:P:=by
 refine ⟨⟨rfl,e+(pk (s.drop e)).2,f,k1,k2,rfl,k3,k4⟩,?_⟩
 exact (show ((s.length:Int) - ((e:Int)+((pk (s.drop e)).2:Int))).toNat<((s.length:Int) - (e:Int)).toNat by omega)):P:=h
theorem m56 {P:Prop} (h:P:=by
 split at h;· cases h;rename_i h;subst h;exact .inl ⟨by decide,rfl⟩
 split at h;· cases h;rename_i h;subst h;exact .inr (.inl ⟨by decide,rfl⟩)
 split at h;· cases h;rename_i h;subst h;exact .inr (.inr (.inl ⟨by decide,rfl⟩))
 split at h;· cases h;rename_i h;subst h;exact .inr (.inr (.inr ⟨by decide,rfl⟩))
 cases h):P:=h
theorem m57 {P:Prop} (h:P:=by
 conv=>whnf
 refine ⟨fun g=>?_,fun g=>?_⟩
 ·conv=>whnf
  rw [Yy,Ti (by omega)] at hb
  exact hb
 ·conv=>whnf
  rw [Yy,Te (by omega)] at hb
  exact hb):P:=h
theorem m58 {P:Prop} (h:P:=by
 exact m175):P:=h
theorem m59 {P:Prop} (h:P:=by
 intro args σ K h
 unfold UI at h
 split at h
 ·obtain ⟨pl,⟨a1,a2,a3,a4,a5,a6⟩,rfl,⟨rfl,hz,hn⟩,h⟩:=h
  refine ⟨Zb [],1,false,by simp,Tb rfl,?_⟩
  conv=>whnf
  refine ⟨pl,⟨a1,a2,a3,a4,a5,a6⟩,rfl,⟨hz,hn⟩,fun b hb=>?_⟩
  exact m174
 ·exact h.elim):P:=h
theorem m60 {P:Prop} (h:P:=by
 intro args σ K h
 unfold UI at h
 split at h
 ·obtain ⟨pl,⟨a1,a2,a3,a4,a5⟩,rfl,⟨rfl,hz,hn⟩,h⟩:=h
  refine ⟨Zb [],1,false,by simp,Tb rfl,?_⟩
  conv=>whnf
  refine ⟨pl,(.mk a1 a2 a3 a4 a5),rfl,⟨hz,hn⟩,fun b hb=>?_⟩
  exact m174
 ·exact h.elim):P:=h
theorem m61 {P:Prop} (h:P:=by
 unfold anc
 have:(Vh ops.toList []).length=ops.size:=by
  have:∀(l:List Oper) (acc:List Nat),(Vh l acc).length=acc.length+l.length:=by
   intro l
   induction l with
   | nil=>intro acc;rfl
   | cons o l ih=>intro acc;rw [Vh,ih];simp;omega
  rw [this];simp
 rw [T2,Si (by omega)]
 simp):P:=h
theorem m62 {P:Prop} (h:P:=by
 intro args σ K h
 unfold UI at h
 split at h
 ·obtain ⟨pl,⟨a1,a2,a3,a4⟩,rfl,⟨rfl,hz,hn⟩,h⟩:=h
  refine ⟨Zb [],1,false,by simp,Tb rfl,?_⟩
  conv=>whnf
  refine ⟨pl,⟨a1,a2,a3,a4⟩,rfl,⟨hz,hn⟩,fun b hb=>?_⟩
  exact m174
 ·exact h.elim):P:=h
theorem m63 {P:Prop} (h:P:=by
 rw [Lib.decodeL_N]
 have k0:=(r.getD 0 0).toNat_lt
 rcases Lib.decodeN_shape r.length (r.getD 0 0).toNat (r.getD 1 0).toNat (r.getD 2 0).toNat (r.getD 3 0).toNat with ⟨c,e⟩ | ⟨c1,c2,c3,cv,e⟩ | ⟨c1,c2,c3,c4,cv,cs,e⟩ | ⟨c1,c2,c3,c4,c5,cv,cw,e⟩ | e
 all_goals (rw [e];dsimp only;omega)):P:=h
theorem m64 {P:Prop} (h:P:=by
 refine ⟨_,_,h,.mkint,?_⟩
 simp only [ho,resolve,invoke,builtin,Sem.run_bind,Sem.run_pure,Result.andThen,Builtin.len_,hat,ha0,Za hd]
 rfl):P:=h
theorem m65 {P:Prop} (h:P:=by
 obtain ⟨l,t1,h1,e⟩:=Zys e
 obtain ⟨t2,h2,h3,h4,h5⟩:=We ha h1
 cases e
 obtain ⟨k1,k2,k3⟩:=h _ _ _ h3 h2
 obtain ⟨g1,g2⟩:=h5 k2
 refine ⟨Ue (by decide) (.inr rfl) (.inl rfl) (by decide) Zjy (Ziw k1),g1,?_⟩
 simp only [Zb0,szS,Td] at *;omega):P:=h
theorem m66 {P:Prop} (h:P:=by
 conv=>whnf
 refine oiO ?_
 conv=>whnf
 refine ⟨⟨rfl,e+1,rfl,by omega,by omega,hstep (by have h3':Zl ((s.getD e 0).toNat:Int)=true:=h3;simp only [Wl,h3',Bool.true_or])⟩,?_⟩
 exact (show ((s.length:Int) - ((e:Int)+1)).toNat<((s.length:Int) - (e:Int)).toNat by omega)):P:=h
theorem m67 {P:Prop} (h:P:=by
 simp only [Instr.storeAt,Instr.sureAddr,storeVar,Sem.run_bind,Sem.run_pure,Result.andThen,Zp hi]
 rw [Te (by rw [h1'];simp)]
 exact hrun):P:=h
theorem m68 {P:Prop} (h:P:=by
 refine Go.Lib.run_unsafeString_row w.drew (ρ.t 127) (ρ.t 3) (ρ.t 9) (ρ.t 5) L.t127 X.cellsByte g cur.size (by have hg':w.drew.heap[g]?=some (.cells cur (ρ.t 5) fz):=hg;simp [World.shape?,hg']) l h0 hn hbig ?_
 intro j x hx
 have:=hcell j x hx
 rw [Z4,Sf];exact this):P:=h
theorem m69 {P:Prop} (h:P:=by
 rw [ZiO hE] at hk'
 subst hk'
 have g1:Wf (s.drop a)=.err (1+i - 1):=by rw [← hgo];simp [ZD,hne,hE]
 conv=>whnf
 refine oiO ?_
 conv=>whnf
 have g2:=hbad _ g1
 rw [show ((a+(1+i - 1):Nat):Int)=(a:Int)+1+(i:Int) - 1 by omega] at g2
 exact g2):P:=h
theorem m70 {P:Prop} (h:P:=by
 split at h
 ·obtain ⟨pl,e,h1,h2,h3,h4⟩:=h;exact ⟨pl,e,h1,h2,fun g=>hK _ _ (h3 g),fun g x hx=>hK _ _ (h4 g x hx)⟩
 ·exact h.elim):P:=h
theorem m71 {P:Prop} (h:P:=by
 obtain ⟨v1,v2,v3,v4,v5,v6⟩:=v
 unfold Zoc
 dsimp only
 conv=>whnf
 refine ⟨T,⟨rfl,rfl,rfl,(by first | exact .inl rfl | exact .inr rfl),by omega⟩,?_⟩
 conv=>whnf
 refine ⟨fun g=>absurd g (by decide),fun _=>?_⟩
 conv=>whnf
 exact hb):P:=h
theorem m72 {P:Prop} (h:P:=by
 conv=>whnf
 exact h _ (by simp [Z0,htb])):P:=h
theorem m73 {P:Prop} (h:P:=by
 have h5':(pk (u.drop i)).1<32:=by rw [hat,hsd] at h5;exact h5
 have g1:Wf (s.drop a)=.err (1+i):=by rw [← hgo];simp [ZD,hne,h3',h4',h5']
 conv=>whnf
 have g2:=hbad _ g1
 rw [show ((a+(1+i):Nat):Int)=(a:Int)+1+(i:Int) by omega] at g2
 exact g2):P:=h
theorem m74 {P:Prop} (h:P:=by
 cases r with
 | tmp t=>simp only [pres,Yb] at h ⊢;exact ih (fun vs h=>hK _ h) h
 | cell a t =>
  simp only [pres] at h ⊢
  obtain ⟨v,h1,h2⟩:=ZeM h
  refine h2 _ ?_
  rw [Yb] at h1 ⊢
  exact ih (fun vs h=>hK _ h) h1):P:=h
theorem m75 {P:Prop} (h:P:=by
 rcases x with ⟨v1,ts1⟩ | ⟨r1,e1⟩
 rotate_left
 ·rw [hx1] at h;intro a9 d9;(conv=>whnf);exact h _ _
 rw [hx1] at h
 intro a1 hle1 ho1
 have hb1:=ho1.hi
 obtain ⟨v1a,v1b,v1c,v1d,v1e⟩:=v1
 conv=>whnf
 exact h _ (by omega) ho1):P:=h
theorem m76 {P:Prop} (h:P:=by
 cases x with
 | normal=>exact absurd rfl hx
 | _ =>
  obtain ⟨pe,f',e',σ',hq,hxr,hrest⟩:=hp
  refine .inl ⟨pe,f',e',σ',?_,hxr,hrest⟩
  cases pe <;> first | exact hq | (cases hxr;done) | (obtain ⟨_,hxr,_⟩:=hxr;cases hxr)):P:=h
theorem m77 {P:Prop} (h:P:=by
 have hlt':i<listed.size:=by rw [hsz];exact hi
 simp [Array.getD,hlt']):P:=h
theorem m78 {P:Prop} (h:P:=by
 unfold wpOpIn
 rw [ho]
 dsimp only
 split at hstep
 ·rename_i hw
  rw [Ti hw]
  exact Oper.wpIn_mono (fun a w h=>next a w (hK a w h)) hstep
 ·rename_i hw
  rw [Te hw]
  exact ⟨fun _ _=>trivial,next _ _ (hK _ _ hstep)⟩):P:=h
theorem m79 {P:Prop} (h:P:=by
 refine ⟨v'::vs',tk2,as2,h2,Zct hx1 hx2,hI2,by simp [hl],fun i x y hx hy=>?_⟩
 cases i with
 | zero=>simp at hx hy;subst hx;subst hy;exact hv.ext hx2
 | succ i=>exact hvs i x y (by simpa using hx) (by simpa using hy)):P:=h
theorem m80 {P:Prop} (h:P:=by
 cases hr0 with
 | ptr _ _ _ =>
 refine Calls.mono (Zgf (e.β 0) w (by simp [World.cell?,hc1,hx0])) fun en w' ⟨h1,h2⟩=>?_
 rw [h2]
 exact ⟨h1,.tuple [] #[] rfl (fun i x u hx=>by simp at hx),hS,Later.refl _ _ _⟩):P:=h
theorem m81 {P:Prop} (h:P:=by
 conv=>whnf
 exact h _ (by omega) ho'):P:=h
theorem m82 {P:Prop} (h:P:=by
 split at h
 ·rename_i ht
  exact ⟨_,_,as++[some t],by simpa using h,⟨[some t],rfl⟩,hI.add ((Yz _ _).1 ht),.sl t el rows _ (by simp)⟩
 ·exact ⟨_,tk,as,h,⟨[],by simp⟩,hI,.cl (.sl t el rows) rfl⟩):P:=h
theorem m83 {P:Prop} (h:P:=by
 split at h
 ·obtain ⟨l,pl,x,h1,h2,h3,h4,h5,h6⟩:=h;exact ⟨l,pl,x,h1,h2,h3,h4,h5,hK _ _ h6⟩
 ·exact h.elim):P:=h
theorem m84 {P:Prop} (h:P:=by
 have hy':σ.bx[k]?=some y:=by
  simp only [St.set] at hy
  rwa [List.getElem?_set_ne (fun h=>hkb h.symm)] at hy
 have hkl:=(Tg.1 hy').1
 exact (hS.box k y hy').step hst (hoth _ (fun h=>hkb (hS.inj k b hkl hbl h)))):P:=h
theorem m85 {P:Prop} (h:P:=by
 have b3:=UA (n:=n) (k:=34) (by omega) (by omega) h3
 have b4:=UA (n:=n) (k:=92) (by omega) (by omega) h4
 simp only [List.contains_cons,List.contains_nil,Sl,Se,beq_eq_false_iff_ne]
 exact ⟨b1,b2,b3,b4⟩):P:=h
theorem m86 {P:Prop} (h:P:=by
 cases hy
 obtain ⟨q1,q2⟩:=h3 0 p u rfl hu
 refine ⟨?_,q2⟩
 rcases hp with rfl | rfl
 ·cases q1 with
  | d _ _ hd=>exact .d _ _ (hd.later hL)
 ·cases q1 with
  | ptr b o hb=>exact .ptr 0 0 (by simp)):P:=h
theorem m87 {P:Prop} (h:P:=by
 conv=>whnf
 repeat (refine ⟨rfl,?_⟩;conv=>whnf)
 refine oiO ?_
 conv=>whnf
 exact h _ (by omega) hot):P:=h
theorem m88 {P:Prop} (h:P:=by
 conv=>whnf
 refine ⟨⟨false,_,_,f,_,rfl,?_,.inr rfl,⟨g3,by omega,?_⟩,g1.symm⟩,?_⟩
 ·rw [Vw];rfl
 ·rw [Ta];omega
 ·exact m176):P:=h
theorem m89 {P:Prop} (h:P:=by
 rw [Zk] at hr
 simp only [TA,TN,Tq,List.not_mem_nil,or_false] at hr
 rcases hr with rfl | rfl <;> rfl):P:=h
theorem m90 {P:Prop} (h:P:=by
 simp only [Ta,Tc,Td];omega):P:=h
theorem m91 {P:Prop} (h:P:=by
 simp only [Sem.run_bind,newRow,run_newObj,Result.andThen,Sem.run_pure]
 rfl):P:=h
theorem m92 {P:Prop} (h:P:=by
 rw [hx4,R.bind_err] at h;intro a9 d9;(conv=>whnf);exact h _ _):P:=h
theorem m93 {P:Prop} (h:P:=by
 conv=>whnf
 (try (refine ⟨rfl,?_⟩;conv=>whnf))
 (try (refine ⟨rfl,?_⟩;conv=>whnf))
 have g2:=hgood _ _ g1
 rw [show ((a+(1+i+1):Nat):Int)=(a:Int)+1+(i:Int)+1 by omega] at g2
 exact g2):P:=h
theorem m94 {P:Prop} (h:P:=by
 obtain ⟨cb,h1,h2,h3⟩:=ZeV h
 refine ⟨_,h1,by simp [h2],fun j b' hj=>?_⟩
 cases j with
 | zero=>simp at hj;subst hj;exact ⟨_,hb,rfl⟩
 | succ j=>exact h3 j b' (by simpa using hj)):P:=h
theorem m95 {P:Prop} (h:P:=by
 rw [hx3,R.bind_ok] at h
 intro a3 hle3 ho3
 have hb3:=ho3.hi
 conv=>whnf
 exact h _ (by omega) ho3):P:=h
theorem m96 {P:Prop} (h:P:=by
 subst h0
 cases hk:(T.get t).kind <;> rw [hk] at hkd <;> first | (cases hkd;done) | (exact hk1 hk) | (obtain ⟨_,h1,_⟩:=hkd;cases h1;done) | (obtain ⟨_,_,_,h1⟩:=hkd;cases h1;done)):P:=h
theorem m97 {P:Prop} (h:P:=by
 obtain ⟨h4,h5,hK⟩:=h
 refine ⟨_,hK,fun K' h'=>?_⟩
 simp only [qop,hi,hk,hx]
 cases hk3:(T.get el).kind
 case other=>exact absurd hk3 ho
 all_goals exact ⟨h4,h5,h'⟩):P:=h
theorem m98 {P:Prop} (h:P:=by
 have hm:=Zb3 (G:=G) (e:=e') (σ:=σ') (w:=w1) (a:=a1) (f:=f') (args:=as) (fun x=>U9 h2 x)
 rw [has] at hm
 exact ArgsRel.append (ArgsRel.append ⟨ha,k1⟩ hm) ⟨hc,k2⟩):P:=h
theorem m99 {P:Prop} (h:P:=by
 split at h
 ·exact fun x hx=>ZZ hK (h x hx)
 ·exact h.elim):P:=h
theorem m100 {P:Prop} (h:P:=by
 have:(Array.replicate ops.size false).getD k false=false:=by simp [Array.getD]
 rw [this]
 simp only [To,false_iff]
 obtain ⟨p,hp,he⟩:=hcov k hk
 exact fun hh=>hh p hp he):P:=h
theorem m101 {P:Prop} (h:P:=by
 repeat' ((conv=>whnf);refine Zyq (fun hc=>?_) (fun hc=>?_))
 all_goals (conv=>whnf)
 all_goals exact h _ _ (by rw [U3,Te hn];simp [*]) (by rw [U3,Te hn];simp [*])):P:=h
theorem m102 {P:Prop} (h:P:=by
 intro b off u hu
 by_cases hbg:b=g
 ·subst hbg
  simp only [World.cell?,hfz',g6] at hu ⊢
  exact hu
 ·simpa [World.cell?,VU w g l.length b hbg] using hu):P:=h
theorem m103 {P:Prop} (h:P:=by
 refine ⟨_,ρ' x,h,hx,?_⟩
 cases hv:ρ' x <;> rw [hv] at hx <;> cases hx
 simp [ho,hv]):P:=h
theorem m104 {P:Prop} (h:P:=by
 obtain ⟨q1,q2,cs2,ty2,fz2,q3⟩:=hS.own t' ht p hp
 refine ⟨q1,fun i hi=>q2 i (by rw [hsl] at hi;exact hi),cs2,ty2,fz2,(hoth _ (fun h=>q2 b hbl h.symm)).trans q3⟩):P:=h
theorem m105 {P:Prop} (h:P:=by
 by_cases hex:∃m',m'<m∧Mu a1 w1 m'
 ·obtain ⟨m',h1,h2⟩:=hex;exact ihm m' h1 h2
 ·exact ⟨m,hm,fun m' hm'=>Nat.le_of_not_lt fun hlt=>hex ⟨m',hlt,hm'⟩⟩):P:=h
theorem m106 {P:Prop} (h:P:=by
 have h1:args.toList.map ρ=args.toList.map ρ':=TO fun x hx=>hρ x (by simp only [Op.operands,Call.operands,Array.empty_append];exact TC.2 hx)
 rw [← h1];exact h):P:=h
theorem m107 {P:Prop} (h:P:=by
 unfold execOp
 simp only [ho,Sem.run_bind]
 rw [show (Array.map (fun x=>match x with | (i,x)=>(i,ρ' x)) ps)=(ps.map fun p=>(p.1,ρ' p.2)) from rfl,hrun]
 rfl):P:=h
theorem m108 {P:Prop} (h:P:=by
 have h2':¬i<l.length:=fun g=>h2 (by simpa using g)
 have hil:i=l.length:=by omega
 rw [hil,T8] at hNN
 conv=>whnf
 rw [hNN] at hgd
 exact hgd (by omega)):P:=h
theorem m109 {P:Prop} (h:P:=by
 simp only [St.set,List.getElem?_set_self hbl] at hy
 exact (Option.some.inj hy).symm):P:=h
theorem m110 {P:Prop} (h:P:=by
 have hk:k<l.length:=(Tg.1 hy).1
 rw [Array.getElem?_extract] at hu
 split at hu
 ·exact hr (off+k) y u (by rw [(hb k hk).2];exact hy) hu
 ·cases hu):P:=h
theorem m111 {P:Prop} (h:P:=by
 unfold Lib.decodeN
 rw [Te (by omega),Te (by omega),Te (by omega),Ti ⟨c1,⟨by omega,c3⟩,⟨by omega,c4⟩,by omega,c5⟩,Ti ⟨by omega,by omega⟩]):P:=h
theorem m112 {P:Prop} (h:P:=by
 rcases TU.1 hy with hy | hy
 ·exact hj y (by simp [hy])
 ·rcases Tq.1 hy with rfl | hy
  ·exact fun e=>hji e.symm
  ·exact hj y (by simp [hy])):P:=h
theorem m113 {P:Prop} (h:P:=by
 obtain ⟨i,hi',hiu⟩:=Array.getElem_of_mem hu
 have hlt:i<cs'.length:=by rw [← hs'];exact hi'
 exact (hr' i _ u (Th hlt) (by rw [Tx hi',hiu])).2):P:=h
theorem m114 {P:Prop} (h:P:=by
 rcases Tq.1 hp' with rfl | hp'
 ·exact fun e=>h1.2 e.symm
 ·exact fun e=>(List.rel_of_pairwise_cons hp hp').2.1 ed (TC.1 hed') hb e.symm):P:=h
theorem m115 {P:Prop} (h:P:=by
 rename_i h1 h2
 obtain ⟨v,g1,g2⟩:=VQ h
 exact ⟨_,g1,fun K' h'=>by simp only [YV,h1,h2];exact g2 (fun r=>K' _) h'⟩):P:=h
theorem m116 {P:Prop} (h:P:=by
 split at h
 ·obtain ⟨L,ts,h1,h2,h3⟩:=h
  exact ⟨L,ts,h1,h2,hb _ _ _ _ _ _ _ _ (fun pe a d hk=>hK _ _ hk) h3⟩
 ·exact h.elim):P:=h
theorem m117 {P:Prop} (h:P:=by
 have hft:G.P.info? f.type=some j:=by rw [ht];exact hj
 have:j.size≠0:=by omega
 simp [fieldPlace,Zp hft,this,Z4,ho']):P:=h
theorem m118 {P:Prop} (h:P:=by
 subst h3
 exact ⟨.ret .undef,σ,e,hK,⟨_,rfl,.undef _⟩,hS.grow (Zyx h4),((Zyx h4).stepped e σ).toLater⟩):P:=h
theorem m119 {P:Prop} (h:P:=by
 rw [show (Array.map (fun x=>match x with | (i,x)=>(i,ρ' x)) ps).toList=(ps.map fun p=>(p.1,ρ' p.2)).toList from rfl,hfill']
 rfl):P:=h
theorem m120 {P:Prop} (h:P:=by
 rw [hx10,R.bind_err,R.bind_err] at h;intro a9 d9;(conv=>whnf);exact h _ _):P:=h
theorem m121 {P:Prop} (h:P:=by
 rw [show off+k=off+rows.length * (T.get el).size+(k - olds.length) by rw [← ho1.len];omega,this]
 rw [Th hkn] at hk
 exact hk):P:=h
theorem m122 {P:Prop} (h:P:=by
 apply Classical.byContradiction
 intro hno
 have:=(hli i hlt).2 (fun p hp e=>hno ⟨p,hp,e⟩)
 rw [h1] at this;cases this):P:=h
theorem m123 {P:Prop} (h:P:=by
 rw [hx3,R.bind_ok] at h
 intro a3 hle3 ho3
 have hb3:=ho3.hi
 conv=>whnf
 rw [← Zk]
 exact h _ (by omega) ho3):P:=h
theorem m124 {P:Prop} (h:P:=by
 cases e;exact ⟨Ue (by decide) (.inr rfl) (.inl rfl) (by decide) Zjy Yg,ha.tail,by simp only [Zb0,szS,Td];omega⟩):P:=h
theorem m125 {P:Prop} (h:P:=by
 have h2:=hlg k (by omega)
 rw [SA,Th hk] at h2
 have:=(Tg.1 h2).1
 exact ⟨by rw [hsz];exact this,by rw [h2,Th hk]⟩):P:=h
theorem m126 {P:Prop} (h:P:=by
 unfold Lib.decodeN
 rw [Te (by omega),Te (by omega),Ti ⟨c1,⟨by omega,c3⟩,by omega,c4⟩,Ti ⟨by omega,by omega⟩]):P:=h
theorem m127 {P:Prop} (h:P:=by
 (repeat' split at h) <;> first
  | exact h.elim
  | (refine ⟨_,h,fun K' h'=>?_⟩;unfold ZfO;rw [hx];simp only [*])):P:=h
theorem m128 {P:Prop} (h:P:=by
 obtain ⟨pv',σ2,e2,hK,_,hS2,hL2⟩:=Xe h1 h3 hk hvr hlv
 exact ⟨r,hr,rfl,⟨r,rfl⟩,σ2,e2,hK,hS2,hL2⟩):P:=h
theorem m129 {P:Prop} (h:P:=by
 simp only [show IntKind.i64.bits=64 from rfl,show IntKind.i64.signed=true from rfl,TJ]
 split <;> simp at * <;> omega):P:=h
theorem m130 {P:Prop} (h:P:=by
 rw [hq] at hu
 rw [Tu,hq] at hx
 cases hx;cases hu;exact hρ q):P:=h
theorem m131 {P:Prop} (h:P:=by
 obtain ⟨j,hj,rfl⟩:=Sb hu
 have h1:j<l.length:=by omega
 exact (hc2 j l[j] _ (Th h1) (by rw [← Tu,Th hj])).2):P:=h
theorem m132 {P:Prop} (h:P:=by
 rcases TU.1 hx with hx | hx
 ·exact (hpw.2.2 x hx (i,o') (by simp)).1
 ·exact fun e=>(hpost.1 x hx).1 e.symm):P:=h
theorem m133 {P:Prop} (h:P:=by
 obtain ⟨k,hk,rfl⟩:=Array.getElem_of_mem hu
 rw [Array.getElem_extract]
 exact h1 _ (Array.getElem_mem _)):P:=h
theorem m134 {P:Prop} (h:P:=by
 (conv=>whnf);exact h _ (by simp [ZO,htx,h4])):P:=h
theorem m135 {P:Prop} (h:P:=by
 unfold execOp
 simp only [hop,resolve,hgv,Deferred.ofValue,Sem.run_bind,Sem.run_pure,Result.andThen]
 rfl):P:=h
theorem m136 {P:Prop} (h:P:=by
 unfold World.freeze;split <;> rfl):P:=h
theorem m137 {P:Prop} (h:P:=by
 rw [hblk b (TB hb hS.big) fun q hq=>fun h=>by have:=(hS.own 0 (by simp) q hq).1;omega]
 exact hS.glob b hb):P:=h
theorem m138 {P:Prop} (h:P:=by
 rcases x with ⟨v6,ts6⟩ | ⟨r6,e6⟩
 rotate_left
 ·rw [hx6,R.bind_err] at h;intro a9 d9;(conv=>whnf);exact h _ _
 rw [hx6,R.bind_ok] at h
 intro a6 hle6 ho6
 have hb6:=ho6.hi
 conv=>whnf
 refine ⟨_,fun _ _ h=>h,Tb rfl,?_⟩
 conv=>whnf
 refine ⟨L,ts6,rfl,ho6,[[123]],rfl,by simp,fun b hw7=>?_⟩
 cases b with
 | false =>
  rw [Zo,Te (by rw [hw7];simp),R.bind_err] at h
  conv=>whnf
  refine ⟨L,ts6,rfl,ho6,fun x hx=>?_⟩
  rw [ZT,Te (by rw [hw7];simp)] at hx
  subst hx
  intro a9 d9
  conv=>whnf
  exact h _ _
 | true =>
  rw [Zo,Ti hw7] at h
  conv=>whnf
  refine Zyq (fun hc=>?_) (fun hc=>?_)
  ·rw [Ti (by omega),R.bind_err] at h
   conv=>whnf
   refine ⟨L,ts6,rfl,ho6,?_⟩
   conv=>whnf
   exact h _ _
  ·rw [Te (by omega)] at h
   conv=>whnf
   refine ⟨L,ts6,rfl,ho6,fun x hx=>?_⟩
   rw [ZT,Ti hw7] at hx
   subst hx
   intro a7 hle7 ho7
   have hb7:=ho7.hi
   conv=>whnf
   refine oiO ?_
   conv=>whnf
   refine ⟨_,fun _ _ h=>h,Tb rfl,?_⟩
   conv=>whnf
   refine ⟨L,ts6.tail,rfl,ho7,⟨by omega,by omega,by omega⟩,fun x hx8=>?_⟩
   rcases x with ⟨v8,ts8⟩ | ⟨r8,e8⟩
   rotate_left
   ·rw [hx8,R.bind_err] at h;intro a9 d9;(conv=>whnf);exact h _ _
   rw [hx8,R.bind_ok] at h
   intro a8 hle8 ho8
   have hb8:=ho8.hi
   conv=>whnf
   rw [Te (by simp)] at h
   refine ⟨L,ts8,rfl,ho8,fun x hx9=>?_⟩
   rcases x with ⟨v9,ts9⟩ | ⟨r9,e9⟩
   rotate_left
   ·rw [hx9,R.bind_err,R.bind_err] at h;intro a9 d9;(conv=>whnf);exact h _ _
   rw [hx9,R.bind_ok,R.bind_ok] at h
   intro a9 hle9 ho9
   have hb9:=ho9.hi
   conv=>whnf
   refine oiO ?_
   conv=>whnf
   rw [TV]
   rw [← ZF]
   exact h _ (by omega) ho9):P:=h
theorem m139 {P:Prop} (h:P:=by
 conv=>whnf
 refine ⟨pl,a3,Zk _ _,⟨rfl,by omega,by omega⟩,fun b hb=>?_⟩
 cases b with
 | false =>
  conv=>whnf
  exact h _ (by simp [YI,Zn,hb])
 | true =>
  conv=>whnf
  refine ⟨by omega,pl,a4,ZF _ _,⟨rfl,by omega,by omega⟩,fun b hb2=>?_⟩
  conv=>whnf
  exact h _ (by simp [YI,Zn,Wp,hlb,hb,hb2])):P:=h
theorem m140 {P:Prop} (h:P:=by
 conv=>whnf
 refine ⟨fun _=>0,a2,rfl,⟨by simp only [wBs];omega,by omega⟩,fun b hb0=>?_⟩
 cases b with
 | false =>
  have hlb:Y3 a1 a2 a3.length a4.length=false:=by simp [Y3,hop,hb0]
  conv=>whnf
  exact m29
 | true =>
  conv=>whnf
  refine Zyv (fun hB=>?_) (fun hB=>?_)
  ·have hB:¬0<a4.length:=fun g=>hB (hbd.2 g)
   have hlb:Y3 a1 a2 a3.length a4.length=true:=by simp only [Y3,hop,hb0,decide_eq_false hB];simp
   exact m10
  ·have hB:=hbd.1 hB
   have hlb:Y3 a1 a2 a3.length a4.length=false:=by simp [Y3,hop,hB]
   exact m29):P:=h
theorem m141 {P:Prop} (h:P:=by
 conv=>whnf
 refine Zyq (fun h3=>?_) (fun h3=>?_)
 ·conv=>whnf
  exact h _ (by simp [ZO,htx])
 conv=>whnf
 refine Zyq (fun h5=>?_) (fun h5=>?_)
 rotate_left
 ·have h5:¬a1=3:=by omega
  (conv=>whnf);exact h _ (by simp [ZO,h3,h5])
 have h5:a1=3:=by omega
 have hor:(decide (a3=0) || decide (a1=3))=true:=by simp [h5]
 conv=>whnf
 exact h _ (by simp [ZO,htx])):P:=h
theorem m142 {P:Prop} (h:P:=by
 have g5:ZE (s.drop a)=none:=by
  unfold ZE
  simp only [hx',if_true,To,if_false]
  rcases h5' with g | g
  ·rw [Ti g]
  ·by_cases g0:Ze (s.drop a)=[]
   ·rw [Ti g0]
   ·rw [Te g0,Ti g]
 conv=>whnf
 refine ⟨⟨by omega,by omega⟩,?_⟩
 conv=>whnf
 (try (refine ⟨rfl,?_⟩;conv=>whnf))
 (try (refine ⟨rfl,?_⟩;conv=>whnf))
 exact hbad g5):P:=h
theorem m143 {P:Prop} (h:P:=by
 conv=>whnf
 refine ⟨fun r hr=>by (simp at hr;rcases hr with rfl <;> rfl),(show (rows.length+1) * 1≤2 ^ 47 by omega),(show rows.length+1≤2 ^ 47 by omega),?_⟩
 exact m46):P:=h
theorem m144 {P:Prop} (h:P:=by
 have hb:=ZxS hu0 G g
 have B:=ZxT G g
 rw [hb] at h
 conv=>whnf
 refine oiD ?_
 conv=>whnf
 refine ⟨B.1,B.2,?_⟩
 conv=>whnf
 refine ⟨by decide,by decide,?_⟩
 conv=>whnf
 refine ⟨by decide,by decide,?_⟩
 conv=>whnf
 refine ⟨?_,?_,?_,?_⟩
 rotate_left 3
 ·exact m46
 ·rfl
 ·rfl):P:=h
theorem m145 {P:Prop} (h:P:=by
 have h5:¬a1=3:=by omega
 (conv=>whnf);exact h _ (by simp [ZO,h3,h5])):P:=h
theorem m146 {P:Prop} (h:P:=by
 rw [hm,Ti ⟨hb,hc⟩] at h
 conv=>whnf
 refine ⟨L,ts1,rfl,ho1,?_⟩
 exact m44):P:=h
theorem m147 {P:Prop} (h:P:=by
 show ((L.length:Int) - a3).toNat<((L.length:Int) - a').toNat
 omega):P:=h
theorem m148 {P:Prop} (h:P:=by
 rcases x with ⟨v2,ts2⟩ | ⟨r2,e2⟩
 rotate_left
 ·exact m40
 rw [hx2,R.bind_ok] at h
 intro a2 hle2 ho2
 have hb2:=ho2.hi
 conv=>whnf
 refine ⟨L,ts2,rfl,ho2,fun x hx3=>?_⟩
 rcases x with ⟨v3,ts3⟩ | ⟨r3,e3⟩
 rotate_left
 ·exact m23
 exact m95):P:=h
theorem m149 {P:Prop} (h:P:=by
 rw [Ti (by omega)] at h
 conv=>whnf
 refine ⟨L,ts,rfl,ho,?_⟩
 exact m44):P:=h
theorem m150 {P:Prop} (h:P:=by
 have h6:¬(a4.length:Int)=a:=fun g=>h6 (by show ((Y0 pl a4).length:Int)=a;rw [hl4];exact g)
 (conv=>whnf);exact h _ (by simp [ZO,ha,h2,h6])):P:=h
theorem m151 {P:Prop} (h:P:=by
 conv=>whnf
 refine ⟨fun _=>0,a2,rfl,⟨by simp only [wBs];omega,by omega⟩,fun b hb0=>?_⟩
 cases b with
 | false =>
  have htx:X9 a1 a2=false:=by simp [X9,hop,hb0]
  exact m9
 | true =>
  have htx:X9 a1 a2=true:=by simp [X9,hop,hb0]
  exact m3):P:=h
theorem m152 {P:Prop} (h:P:=by
 conv=>whnf
 rw [Ti (by rw [Tf] at g;omega)] at h
 exact h _ _):P:=h
theorem m153 {P:Prop} (h:P:=by
 conv=>whnf
 exact h _ (by simp [YI,hlb])):P:=h
theorem m154 {P:Prop} (h:P:=by
 show ((L.length:Int) - (a2+1)).toNat<((L.length:Int) - a1).toNat
 omega):P:=h
theorem m155 {P:Prop} (h:P:=by
 rw [hx3,R.bind_err] at h;intro a9 d9;(conv=>whnf);exact h _ _):P:=h
theorem m156 {P:Prop} (h:P:=by
 rw [step,R.bind_err] at h
 intro a2 dp2
 conv=>whnf
 exact h _ _):P:=h
theorem m157 {P:Prop} (h:P:=by
 show LeavesIn _ _ _ _ _ _ _ _ _
 rw [hd0]
 refine go _ (by simp) ((hd.ret _ _ _ hq _ _ _ _ h1 hfa').mono fun en u2 w2 hh=>?_)
 obtain ⟨rfl,⟨r,rfl⟩,σ2,e2,hK,hS2,hL'⟩:=hh
 exact after hS2 hL' hK):P:=h
theorem m158 {P:Prop} (h:P:=by
 rw [Te (by simp)] at h
 refine ⟨L,ts2,rfl,ho2,fun x hx3=>?_⟩
 exact m16):P:=h
theorem m159 {P:Prop} (h:P:=by
 conv=>whnf
 refine ⟨fun r hr=>by (simp at hr;rcases hr with rfl | rfl | rfl <;> rfl),(show (rows.length+3) * 1≤2 ^ 47 by omega),(show rows.length+3≤2 ^ 47 by omega),?_⟩
 conv=>whnf
 exact g):P:=h
theorem m160 {P:Prop} (h:P:=by
 have hc3:¬a2<l.length:=by have hc3:¬a2<((ZG l).length:Int):=hc3;rw [Y8] at hc3;exact hc3
 obtain rfl:ts2=[]:=TQ (by omega)
 conv=>whnf
 refine ⟨Tb rfl,?_⟩
 exact m46):P:=h
theorem m161 {P:Prop} (h:P:=by
 rw [← hee];exact ⟨by have h6':Zg (pk (s.drop ((e:Int)).toNat)).1=false:=h6;rw [h6'];simp,by have h7':Zl (pk (s.drop ((e:Int)).toNat)).1=false:=h7;rw [h7'];simp⟩):P:=h
theorem m162 {P:Prop} (h:P:=by
 exact (show ((l.length:Int) - ((i:Int)+1)).toNat<((l.length:Int) - (i:Int)).toNat by omega)):P:=h
theorem m163 {P:Prop} (h:P:=by
 conv=>whnf
 refine ⟨by omega,pl,a4,Zk _ _,⟨rfl,by omega,by omega⟩,fun b hb=>?_⟩
 conv=>whnf
 exact h _ (by simp [ZO,Zn,ha,htx,hb,h1,h6,hor])):P:=h
theorem m164 {P:Prop} (h:P:=by
 conv=>whnf
 refine ⟨by omega,pl,a4,Zk _ _,⟨rfl,by omega,by omega⟩,fun b hb=>?_⟩
 conv=>whnf
 exact h _ (by simp [ZO,Zn,ha,htx,hb,h1,h2,hor])):P:=h
theorem m165 {P:Prop} (h:P:=by
 conv=>whnf
 refine ⟨by omega,pl,a4,Zk _ _,⟨rfl,by omega,by omega⟩,fun b hb=>?_⟩
 conv=>whnf
 exact h _ (by simp [ZO,Zn,ha,htx,hb,h1,h6,h3])):P:=h
theorem m166 {P:Prop} (h:P:=by
 conv=>whnf
 refine ⟨by omega,pl,a4,Zk _ _,⟨rfl,by omega,by omega⟩,fun b hb=>?_⟩
 conv=>whnf
 exact h _ (by simp [ZO,Zn,ha,htx,hb,h1,h2,h3])):P:=h
theorem m167 {P:Prop} (h:P:=by
 rw [Zo,Te (by rw [hw1];simp)] at h
 exact m27):P:=h
theorem m168 {P:Prop} (h:P:=by
 conv=>whnf
 (try (refine ⟨rfl,?_⟩;conv=>whnf))
 (try (refine ⟨rfl,?_⟩;conv=>whnf))
 exact hbad (by rw [g6,Ti (.inr (.inl (by rw [← hee];exact h7)))])):P:=h
theorem m169 {P:Prop} (h:P:=by
 refine Or.inr ?_
 conv=>whnf
 refine Zyq (fun h8=>?_) (fun h8=>?_)
 ·conv=>whnf
  exact hov (by omega)
 ·exfalso;exact h8 (by rw [hw];omega)):P:=h
theorem m170 {P:Prop} (h:P:=by
 conv=>whnf
 (try (refine ⟨rfl,?_⟩;conv=>whnf))
 (try (refine ⟨rfl,?_⟩;conv=>whnf))
 exact hbad (by rw [g6,Ti (.inl (by rw [← hee];exact h6))])):P:=h
theorem m171 {P:Prop} (h:P:=by
 rw [hx5,R.bind_err] at h;intro a9 d9;(conv=>whnf);exact h _ _):P:=h
theorem m172 {P:Prop} (h:P:=by
 conv=>whnf
 exact hov (by omega)):P:=h
theorem m173 {P:Prop} (h:P:=by
 conv=>whnf
 refine ⟨L,ts,rfl,ho,fun x hx=>?_⟩
 rw [ZT,Te (by rw [hw1];simp)] at hx
 subst hx
 intro a9 d9
 conv=>whnf
 exact h _ _):P:=h
theorem m174 {P:Prop} (h:P:=by
 conv=>whnf
 exact h _ (by rw [hb])):P:=h
theorem m175 {P:Prop} (h:P:=by
 simp only [IntKind.wrap,show IntKind.u64.bits=64 from rfl,show IntKind.u64.signed=false from rfl,TT,To,if_false]
 omega):P:=h
theorem m176 {P:Prop} (h:P:=by
 exact (show u.length - (i+(decodeL u i).2)<u.length - i by omega)):P:=h
theorem m177 {P:Prop} (h:P:=by
 conv=>whnf
 refine ⟨T,⟨rfl,rfl,rfl,(by first | exact .inl rfl | exact .inr rfl),by omega⟩,?_⟩
 exact m57):P:=h
theorem m178 {P:Prop} (h:P:=by
 have h1:¬-2<a:=h1;(conv=>whnf);exact h _ (by simp [ZO,ha,h1])):P:=h
theorem m179 {P:Prop} (h:P:=by
 refine Or.inl ⟨InR.i64 (by simp only [TF];omega) (by simp only [TF];omega),?_⟩
 conv=>whnf
 exact m55):P:=h
theorem m180 {P:Prop} (h:P:=by
 rw [hx2,R.bind_err] at h;intro a9 d9;(conv=>whnf);exact h _ _):P:=h
theorem m181 {P:Prop} (h:P:=by
 have h12:¬(9<a1∧a1≤12):=by omega
 have hlb:Y3 a1 a2 a3.length a4.length=false:=by simp only [Y3,hn12,hn38,hn9,h12,if_false]
 exact m153):P:=h
end

section
namespace Go.PM
inductive D where
 | bool (b:Bool) | int (k:IntKind) (n:Int) | str (s:List UInt8) | sl (rows:List (List D)) | nilp | nilf | nili
 deriving Inhabited
inductive PV where
 | d (x:D) | undef | ptr (b off:Nat) | elem (r:List D) (off:Nat) | sl (tok e:Nat) (rows:List (List D)) | nils (e:Nat) | asl (b off n:Nat)
 | func (f:FuncId) (first caps:List PV) | iface (t:TypeId) (v:PV) | agg (cs:List PV) | tuple (vs:List PV) | raw (v:Value)
 deriving Inhabited
inductive Box where
 | cells (t:TypeId) (cs:List PV) | iter (s:List UInt8) (pos:Nat) | loop (st:LoopState) (pd:Option Code) (r:Loop)
 deriving Inhabited
structure St where
 bx:List Box
 tk:List Nat
 nx:Nat
inductive TK where
 | other | int (k:IntKind) | bool | string | ptr (e:Nat) | slice (e:Nat) | array (n e:Nat) | struct (fs:List (Nat×Nat)) | func | iface
structure TI where
 size:Nat
 bytes:Nat
 kind:TK
 zero:List PV
 eqok:Bool
def TI.no:TI:=⟨0,0,.other,[],false⟩
inductive Tab where
 | leaf | node (l:Tab) (k:Nat) (v:TI) (r:Tab)
def Tab.get:Tab→Nat→TI
 | .leaf,_=>TI.no
 | .node l k v r,n=>match Nat.beq n k with
  | true=>v
  | false=>match Nat.ble n k with
   | true=>l.get n
   | false=>r.get n
def TK.isAgg:TK→Bool | .array _ _ | .struct _=>true | _=>false
abbrev Frame:=Nat→PV
def U6 (f:Frame) (i:Nat) (v:PV):Frame:=fun n=>match Nat.beq i n with
 | true=>v
 | false=>f n
def Zb2:Value→PV
 | .bool b=>.d (.bool b)
 | .int k n=>.d (.int k n)
 | .string s=>.d (.str s.data.toList)
 | .pointer none=>.d .nilp
 | .slice none 0 0=>.nils 0
 | .nilFunc=>.d .nilf
 | .nilIface=>.d .nili
 | v=>.raw v
def ZwB:Value→Bool
 | .agg _=>false
 | .tuple _=>false
 | _=>true
def Zhk:Value→PV
 | .agg cs=>match cs.toList.all ZwB with | true=>.agg (cs.toList.map Zb2) | false=>.raw (.agg cs)
 | v=>Zb2 v
def ev (f:Frame):Operand→PV
 | .tmp t=>f t
 | .const v=>Zhk v
 | .global _=>.undef
 | .func g=>.func g [] []
def CondP:Bool→Prop→Prop→Prop
 | true,X,_=>X
 | false,_,Y=>Y
def YJ:Nat→(Nat→Prop)→Prop
 | 0,K=>K 0
 | n+1,K=>YJ n fun m=>K (m+1)
def ZkS (v:PV) (K:PV→Prop):Prop:=match v with
 | .d x=>K (.d x) | .undef=>K .undef | .ptr b off=>YJ b fun b=>YJ off fun off=>K (.ptr b off) | .elem r off=>YJ off fun off=>K (.elem r off) | .sl t z r=>YJ t fun t=>K (.sl t z r) | .nils z=>K (.nils z)
 | .asl b off n=>YJ b fun b=>YJ off fun off=>K (.asl b off n) | .func f a c=>K (.func f a c) | .iface t v=>K (.iface t v) | .agg cs=>K (.agg cs) | .tuple vs=>K (.tuple vs) | .raw v=>K (.raw v)
def VI:List PV→(List PV→Prop)→Prop
 | [],K=>K []
 | v::l,K=>ZkS v fun v=>VI l fun l=>K (v::l)
def ZiA (v:PV) (K:PV→Prop):Prop:=match v with
 | .d x=>K (.d x) | .undef=>K .undef | .ptr b off=>YJ b fun b=>YJ off fun off=>K (.ptr b off) | .elem r off=>YJ off fun off=>K (.elem r off) | .sl t z r=>YJ t fun t=>K (.sl t z r) | .nils z=>K (.nils z)
 | .asl b off n=>YJ b fun b=>YJ off fun off=>K (.asl b off n) | .raw v=>K (.raw v)
 | .func f a c=>VI a fun a=>VI c fun c=>K (.func f a c) | .iface t v=>K (.iface t v) | .agg cs=>VI cs fun cs=>K (.agg cs) | .tuple vs=>K (.tuple vs)
def ZeH:List PV→(List PV→Prop)→Prop
 | [],K=>K []
 | v::l,K=>ZiA v fun v=>ZeH l fun l=>K (v::l)
def Jq (v:PV) (K:PV→Prop):Prop:=match v with
 | .d x=>K (.d x) | .undef=>K .undef | .ptr b off=>YJ b fun b=>YJ off fun off=>K (.ptr b off) | .elem r off=>YJ off fun off=>K (.elem r off) | .sl t z r=>YJ t fun t=>K (.sl t z r) | .nils z=>K (.nils z)
 | .asl b off n=>YJ b fun b=>YJ off fun off=>K (.asl b off n) | .raw v=>K (.raw v)
 | .func f a c=>VI a fun a=>VI c fun c=>K (.func f a c) | .iface t v=>ZiA v fun v=>K (.iface t v) | .agg cs=>VI cs fun cs=>K (.agg cs) | .tuple vs=>ZeH vs fun vs=>K (.tuple vs)
def Zhc (f:Frame) (d:Option Nat) (v:PV) (K:Frame→Prop):Prop:=match d with
 | some i=>Jq v fun v=>K (U6 f i v)
 | none=>K f
theorem Zyu {t:Bool} {X Y:Prop} (h1:t=true→X) (h2:t=false→Y):CondP t X Y:=by cases t;exact h2 rfl;exact h1 rfl
def Uf {α:Type}:Nat→List α→Option (List α)
 | 0,_=>some []
 | n+1,x::l=>match Uf n l with | some r=>some (x::r) | none=>none
 | _+1,[]=>none
def ZJ {α:Type}:List α→Nat→List α→List α
 | l,_,[]=>l
 | [],_,_=>[]
 | _::l,0,v::vs=>v::ZJ l 0 vs
 | x::l,n+1,vs=>x::ZJ l n vs
def Zhd (t:Nat):List Nat→Bool
 | []=>false
 | x::l=>match Nat.beq x t with | true=>true | false=>Zhd t l
def J0 (t:Nat):List Nat→List Nat
 | []=>[]
 | x::l=>match Nat.beq x t with | true=>J0 t l | false=>x::J0 t l
def PV.cells:PV→Option (List PV)
 | .agg cs=>some cs | .undef=>none | .tuple _=>none | .raw (.func f a c)=>some [.raw (.func f a c)] | .raw _=>none | v=>some [v]
def toD:PV→Option D | .d x=>some x | .sl _ _ rows=>some (.sl rows) | .nils _=>some (.sl []) | _=>none
def Zno:List PV→Option (List D)
 | []=>some []
 | v::l=>match toD v with | some x=>(match Zno l with | some r=>some (x::r) | none=>none) | none=>none
def keq:IntKind→IntKind→Bool
 | .i8,.i8 | .i16,.i16 | .i32,.i32 | .i64,.i64 | .u8,.u8 | .u16,.u16 | .u32,.u32 | .u64,.u64=>true
 | _,_=>false
def Zcf (op:BinOp) (k:IntKind) (a b:Int):Int:=match (Op.intBits op k a b:Sem Value) with | .pure (.int _ n)=>n | _=>0
noncomputable def Zh:BinOp→IntKind→Int→Int→Int:=Classical.choose (⟨Zcf,rfl⟩:∃f,f=Zcf)
theorem Yl:Zh=Zcf:=Classical.choose_spec (⟨Zcf,rfl⟩:∃f,f=Zcf)
def InR (k:IntKind) (n:Int):Prop:=k.wrap n=n
def Zcg (k:IntKind) (n:Int) (K:PV→Prop):Prop:=(InR k n∧K (.d (.int k n)))∨K (.d (.int k (k.wrap n)))
def Ztu (op:BinOp) (k:IntKind) (a b:Int) (K:PV→Prop):Prop:=match op with
 | .add=>Zcg k (a+b) K | .sub=>Zcg k (a - b) K | .mul=>Zcg k (a * b) K
 | .quo=>b≠0∧Zcg k (a.tdiv b) K | .rem=>b≠0∧K (.d (.int k (a.tmod b)))
 | .and=>K (.d (.int k (Zh .and k a b))) | .or=>K (.d (.int k (Zh .or k a b))) | .xor=>K (.d (.int k (Zh .xor k a b))) | .andNot=>K (.d (.int k (Zh .andNot k a b)))
 | .eql=>K (.d (.bool (decide (a=b)))) | .neq=>K (.d (.bool (!decide (a=b)))) | .lss=>K (.d (.bool (decide (a<b)))) | .leq=>K (.d (.bool (decide (a≤b))))
 | .gtr=>K (.d (.bool (decide (b<a)))) | .geq=>K (.d (.bool (decide (b≤a))))
 | _=>False
def Zo3:Operand→Bool | .const _=>true | _=>false
def YV (T:Tab):Nat→List (Nat×Nat)→List PV→List PV→(Bool→Prop)→Prop
 | _,[],[],[],K=>K true
 | i,(o,t)::fs,x::xs,y::ys,K=>match Nat.beq o i,(T.get t).kind,x,y with
  | true,.int _,.d (.int k a),.d (.int k' b)=>(match keq k k' with | true=>YV T (i+1) fs xs ys fun r=>K (decide (a=b) && r) | false=>False)
  | true,.string,.d (.str a),.d (.str b)=>YV T (i+1) fs xs ys fun r=>K (decide (a=b) && r)
  | true,.bool,.d (.bool a),.d (.bool b)=>YV T (i+1) fs xs ys fun r=>K (decide (a=b) && r)
  | _,_,_,_=>False
 | _,_,_,_,_=>False
def peq (T:Tab) (t:TypeId) (x y:Operand) (px py:PV) (K:Bool→Prop):Prop:=match (T.get t).kind with
 | .bool=>match px,py with
  | .d (.bool a),.d (.bool b)=>K (decide (a=b))
  | _,_=>False
 | .ptr _=>match px,py with
  | .d .nilp,.d .nilp=>K true
  | .d .nilp,.ptr _ _=>K false
  | .d .nilp,.elem _ _=>K false
  | .ptr _ _,.d .nilp=>K false
  | .elem _ _,.d .nilp=>K false
  | _,_=>False
 | .func=>match px,py with
  | .d .nilf,.d .nilf=>K true
  | .d .nilf,.func _ _ _=>K false
  | .func _ _ _,.d .nilf=>K false
  | _,_=>False
 | .iface=>match px,py with
  | .d .nili,.d .nili=>match Zo3 x || Zo3 y with | true=>K true | false=>False
  | .d .nili,.iface _ _=>K false
  | .iface _ _,.d .nili=>K false
  | .iface t (.d (.int k a)),.iface t' (.d (.int k' b))=>match Nat.beq t t',(T.get t).kind,(T.get t).eqok with
   | true,.int _,true=>(match keq k k' with | true=>K (decide (a=b)) | false=>False)
   | false,_,_=>K false
   | _,_,_=>False
  | _,_=>False
 | .slice _=>match px,py with
  | .nils _,.nils _=>K true
  | .d (.sl (_::_)),.nils _=>K false
  | .sl _ _ (_::_),.nils _=>K false
  | _,_=>False
 | .struct fs=>match (T.get t).eqok with
  | true=>match px,py with
   | .agg xs,.agg ys=>YV T 0 fs xs ys K
   | _,_=>False
  | false=>False
 | _=>False
def Zo4 (T:Tab) (op:BinOp) (t:TypeId) (x y:Operand) (px py:PV) (K:PV→Prop):Prop :=
 match px,py with
 | .d (.int k a),.d (.int k' b)=>match op with
  | .shl=>0≤b∧Zcg k (a * 2 ^ (min b.toNat k.bits)) K
  | .shr=>0≤b∧K (.d (.int k (a.fdiv (2 ^ (min b.toNat k.bits)))))
  | op=>match keq k k' with | true=>Ztu op k a b K | false=>False
 | .d (.str a),.d (.str b)=>match op with
  | .add=>a.length+b.length<2 ^ 62∧K (.d (.str (a++b))) | .eql=>K (.d (.bool (decide (a=b)))) | .neq=>K (.d (.bool (!decide (a=b))))
  | .lss=>K (.d (.bool (Op.bytesLess a b))) | .geq=>K (.d (.bool (!Op.bytesLess a b)))
  | .leq=>K (.d (.bool (Op.bytesLess a b || decide (a=b)))) | .gtr=>K (.d (.bool (!(Op.bytesLess a b || decide (a=b)))))
  | _=>False
 | px,py=>match op with
  | .eql=>peq T t x y px py fun b=>K (.d (.bool b))
  | .neq=>peq T t x y px py fun b=>K (.d (.bool (!b)))
  | _=>False
def decodeL (s:List UInt8) (pos:Nat):Nat×Nat:=Utf8.decode ⟨s.toArray⟩ pos
def Ym (T:Tab) (fs:List (Nat×Nat)) (ρ:Operand→PV):List (Nat×Operand)→List PV→(List PV→Prop)→Prop
 | [],cs,K=>K cs
 | (i,x)::ps,cs,K=>match fs[i]?,(ρ x).cells with
  | some (o,t),some l=>match Nat.beq l.length (T.get t).size,Nat.ble (o+l.length) cs.length,(T.get t).kind with
   | _,_,.other=>False
   | true,true,_=>Ym T fs ρ ps (ZJ cs o l) K
   | _,_,_=>False
  | _,_=>False
def ZpE (s e:Nat):Nat→Nat→List (Nat×Nat)
 | 0,_=>[]
 | n+1,i=>(i * s,e)::ZpE s e n (i+1)
def VJ (lo hi:Option PV) (len:Nat) (K:Nat→Nat→Prop):Prop :=
 match lo,hi with
 | none,none=>K 0 len
 | some x,none=>match x with
  | .d (.int _ n)=>0≤n∧n≤len∧K n.toNat len
  | _=>False
 | none,some y=>match y with
  | .d (.int _ m)=>0≤m∧m≤len∧K 0 m.toNat
  | _=>False
 | some x,some y=>match x,y with
  | .d (.int _ n),.d (.int _ m)=>0≤n∧n≤m∧m≤len∧K n.toNat m.toNat
  | _,_=>False
def cut {α:Type} (l:List α) (a b:Nat):List α:=(l.take b).drop a
def U7 (T:Tab) (t:TypeId) (x:PV) (lo hi:Option PV) (K:PV→Prop):Prop:=match (T.get t).kind with
 | .string=>match x with
  | .d (.str s)=>VJ lo hi s.length fun a b=>K (.d (.str (cut s a b)))
  | _=>False
 | .slice e=>match (T.get e).kind with
  | .other=>False
  | _=>match toD x with
   | some (.sl rows)=>(∀r∈rows,r.length=(T.get e).size)∧VJ lo hi rows.length fun a b=>K (.d (.sl (cut rows a b)))
   | _=>False
 | .array n e=>match (T.get e).kind with
  | .other=>False
  | _=>match x,lo,hi with
   | .ptr b off,none,none=>K (.asl b off n)
   | .ptr b off,some (.d (.int _ a)),none=>0≤a∧a<n∧K (.asl b (off+a.toNat * (T.get e).size) (n - a.toNat))
   | _,_,_=>False
 | _=>False
def ZaH (T:Tab) (t:TypeId) (x:PV) (bx:List Box) (K:PV→Prop):Prop:=match x with
 | .ptr b off=>match bx[b]? with
  | some (.cells _ cs)=>match (T.get t).kind.isAgg with
   | true=>match Uf (T.get t).size (cs.drop off) with | some l=>K (.agg l) | none=>False
   | false=>match (T.get t).kind with | .other=>False | _=>match cs[off]? with | some v=>K v | none=>False
  | _=>False
 | .elem r off=>match (T.get t).kind.isAgg with
   | true=>match Uf (T.get t).size (r.drop off) with | some l=>K (.agg (l.map .d)) | none=>False
   | false=>match (T.get t).kind with | .other=>False | _=>match r[off]? with | some v=>K (.d v) | none=>False
 | _=>False
def qop (T:Tab) (o:Op) (ty:TypeId) (ρ:Operand→PV) (bx:List Box) (K:PV→Prop):Prop :=
 match o with
 | .move x | .assign x=>match ρ x with
  | .nils _=>match (T.get ty).kind with | .slice e=>K (.nils e) | _=>K (.nils 0)
  | v=>K v
 | .pick c a b=>match ρ c with | .d (.bool t)=>CondP t (K (ρ a)) (K (ρ b)) | _=>False
 | .build t ps=>match (T.get t).kind with
  | .struct fs=>Ym T fs ρ ps.toList (T.get t).zero fun cs=>K (.agg cs)
  | .array n e=>match (T.get e).kind with
   | .other=>False
   | _=>match Nat.ble 1 (T.get e).size with
    | true=>Ym T (ZpE (T.get e).size e n 0) ρ ps.toList (T.get t).zero fun cs=>K (.agg cs)
    | false=>False
  | _=>False
 | .load t a=>ZaH T t (ρ a) bx K
 | .nilCheck x=>match ρ x with
  | .ptr b off=>K (.ptr b off)
  | .elem r off=>K (.elem r off)
  | .func g a c=>K (.func g a c)
  | _=>False
 | .binOp op t x y _=>Zo4 T op t x y (ρ x) (ρ y) K
 | .unOp op _ x=>match op,ρ x with
  | .not,.d (.bool b)=>K (.d (.bool (!b)))
  | .neg,.d (.int k a)=>Zcg k (0 - a) K
  | .xor,.d (.int k a)=>K (.d (.int k (Zh .xor k (if k.signed then -1 else k.max) a)))
  | _,_=>False
 | .convert s d x=>match (T.get s).kind with
  | .other=>False
  | .slice e=>match (T.get d).kind with
   | .string=>match (T.get e).kind with
    | .int .u8=>match toD (ρ x) with
     | some (.sl rows)=>∃l:List UInt8,rows=l.map (fun b=>[.int .u8 b.toNat])∧K (.d (.str l))
     | _=>False
    | _=>False
   | _=>False
  | _=>match (T.get d).kind with
   | .int k=>match ρ x with | .d (.int _ n)=>Zcg k n K | _=>False
   | .string=>match ρ x with | .d (.str s)=>K (.d (.str s)) | .d (.int _ n)=>K (.d (.str (Utf8.encode n).data.toList)) | _=>False
   | _=>False
 | .fieldAddr s x i=>match (T.get s).kind with
  | .struct fs=>match fs[i]? with
   | some (o,_)=>match ρ x with
    | .ptr b off=>K (.ptr b (off+o))
    | .elem r off=>K (.elem r (off+o))
    | _=>False
   | none=>False
  | _=>False
 | .field s x i=>match (T.get s).kind with
  | .struct fs=>match fs[i]? with
   | some (o,t)=>match ρ x with
    | .agg cs=>match (T.get t).kind.isAgg with
     | true=>match Uf (T.get t).size (cs.drop o) with | some l=>K (.agg l) | none=>False
     | false=>match (T.get t).kind with | .other=>False | _=>match cs[o]? with | some v=>K v | none=>False
    | _=>False
   | none=>False
  | _=>False
 | .index t x i=>match ρ i with
  | .d (.int _ n)=>match (T.get t).kind with
   | .string=>match ρ x with
    | .d (.str s)=>0≤n∧n<s.length∧K (.d (.int .u8 (s.getD n.toNat 0).toNat))
    | _=>False
   | .array m e=>match ρ x with
    | .agg cs=>match (T.get e).kind.isAgg with
     | true=>match Uf (T.get e).size (cs.drop (n.toNat * (T.get e).size)) with
      | some l=>0≤n∧n<m∧K (.agg l)
      | none=>False
     | false=>match (T.get e).kind with
      | .other=>False
      | _=>match Nat.beq (T.get e).size 1 with
       | true=>match cs[n.toNat]? with | some v=>0≤n∧n<m∧K v | none=>False
       | false=>False
    | _=>False
   | _=>False
  | _=>False
 | .indexAddr t x i=>match ρ i with
  | .d (.int _ n)=>match (T.get t).kind with
   | .slice e=>match (T.get e).kind with
    | .other=>False
    | _=>match ρ x with
     | .asl b off m=>0≤n∧n<m∧K (.ptr b (off+n.toNat * (T.get e).size))
     | px=>match toD px with
      | some (.sl rows)=>∃r,0≤n∧rows[n.toNat]?=some r∧(match Nat.beq r.length (T.get e).size with | true=>K (.elem r 0) | false=>False)
      | _=>False
   | .array m e=>match (T.get e).kind with
    | .other=>False
    | _=>match ρ x with
     | .ptr b off=>0≤n∧n<m∧K (.ptr b (off+n.toNat * (T.get e).size))
     | _=>False
   | _=>False
  | _=>False
 | .slice t x lo hi none=>U7 T t (ρ x) (lo.map ρ) (hi.map ρ) K
 | .extract x i=>match ρ x with
  | .tuple vs=>match vs[i]? with | some v=>K v | none=>False
  | _=>False
 | .makeFunc (.func g) a c=>K (.func g (a.toList.map ρ) (c.toList.map ρ))
 | .makeInterface t x=>match (T.get t).kind with
  | .iface=>False
  | .other=>False
  | _=>K (.iface t (ρ x))
 | .typeAssert x _ t true=>match (T.get t).kind with
  | .iface=>False
  | .other=>False
  | _=>match ρ x with
   | .iface t' v=>match Nat.beq t' t with
    | true=>K (.tuple [v,.d (.bool true)])
    | false=>False
   | _=>False
 | .call { callee:=.builtin b,args,argTypes }=>match b,argTypes.toList,args.toList.map ρ with
  | .len,t::_,[v]=>match (T.get t).kind with
   | .string=>match v with | .d (.str s)=>K (.d (.int .i64 s.length)) | _=>False
   | .slice _=>match v with
    | .asl _ _ n=>K (.d (.int .i64 n))
    | v=>match toD v with | some (.sl rows)=>K (.d (.int .i64 rows.length)) | _=>False
   | _=>False
  | .min,_,[.d (.int k a),.d (.int k' b)]=>match keq k k' with | true=>K (.d (.int k (min a b))) | false=>False
  | .max,_,[.d (.int k a),.d (.int k' b)]=>match keq k k' with | true=>K (.d (.int k (max a b))) | false=>False
  | _,_,_=>False
 | _=>False
def ZjB (T:Tab) (o:Op):Option Operand:=match o with
 | .convert s d x=>match (T.get s).kind with
  | .string=>match (T.get d).kind with
   | .slice e=>match (T.get e).kind with
    | .int .u8=>some x
    | _=>none
   | _=>none
  | _=>none
 | _=>none
def Zhl (v:PV):Option (List D):=match v.cells with | some l=>Zno l | none=>none
def Wk (w:Nat) (ρ:Operand→PV):List (Nat×Operand)→List (List D)→Option (List (List D))
 | [],rows=>some rows
 | (i,x)::ps,rows=>match Zhl (ρ x) with
  | some r=>(match Nat.beq r.length w,Nat.ble (i+1) rows.length with | true,true=>Wk w ρ ps (rows.set i r) | _,_=>none)
  | none=>none
def Zch (zero:List D) (ρ:Operand→PV) (n:Nat) (ps:List (Nat×Operand)):Option (List (List D)):=Wk zero.length ρ ps (List.replicate n zero)
def ZfO (T:Tab) (o:Op) (ty:TypeId) (ρ:Operand→PV) (bx:List Box) (K:PV→Prop):Prop:=match ZjB T o with
 | some x=>match ρ x with
  | .d (.str s)=>K (.d (.sl (s.map fun b=>[.int .u8 b.toNat])))
  | _=>False
 | none=>match o with
  | .buildSlice t n ps=>match (T.get t).kind with
   | .slice e=>match (T.get e).kind with
    | .other=>False
    | _=>match Zno (T.get e).zero with
     | some zero=>match Nat.ble 1 zero.length,Nat.ble (n * zero.length) 16777216,Zch zero ρ n ps.toList with
      | true,true,some rows=>K (.d (.sl rows))
      | _,_,_=>False
     | none=>False
   | _=>False
  | .makeSlice t l c=>match (T.get t).kind with
   | .slice e=>match (T.get e).kind with
    | .other=>False
    | _=>match Zno (T.get e).zero,ρ l,ρ c with
     | some zero,.d (.int .i64 (.ofNat n)),.d (.int .i64 (.ofNat m))=>match Nat.beq n m,Nat.ble 1 zero.length,Nat.ble (n * zero.length) 16777216,Nat.ble (n * (T.get e).bytes) 16777216 with
      | true,true,true,true=>K (.d (.sl (List.replicate n zero)))
      | _,_,_,_=>False
     | _,_,_=>False
   | _=>False
  | o=>qop T o ty ρ bx K
def St.set (σ:St) (b:Nat) (x:Box):St:={ σ with bx:=σ.bx.set b x }
def St.new (σ:St) (x:Box):St:={ σ with bx:=σ.bx++[x] }
def VK (T:Tab) (tx el:Nat) (x:PV):Option (List (List D)):=match (T.get tx).kind with
 | .string=>match (T.get el).kind with
  | .int .u8=>match x with
   | .d (.str s)=>some (s.map fun b=>[.int .u8 b.toNat])
   | _=>none
  | _=>none
 | .slice _=>match toD x with
  | some (.sl rows)=>some rows
  | _=>none
 | _=>none
def eop (T:Tab) (o:Op) (ρ:Operand→PV) (σ:St) (K:PV→St→Prop):Prop :=
 match o with
 | .alloc e=>match (T.get e).kind with | .other=>False | _=>K (.ptr σ.bx.length 0) (σ.new (.cells e (T.get e).zero))
 | .box e x=>match (ρ x).cells with | some l=>K (.ptr σ.bx.length 0) (σ.new (.cells e l)) | none=>False
 | .store t a x=>match ρ a with
  | .ptr b off=>match σ.bx[b]? with
   | some (.cells ty cs)=>match (ρ x).cells with
    | some l=>match Nat.beq l.length (T.get t).size,Nat.ble (off+l.length) cs.length,(T.get t).kind with
     | _,_,.other=>False
     | true,true,_=>K .undef (σ.set b (.cells ty (ZJ cs off l)))
     | _,_,_=>False
    | none=>False
   | _=>False
  | _=>False
 | .range t x=>match (T.get t).kind with
  | .string=>match ρ x with
   | .d (.str s)=>K (.ptr σ.bx.length 0) (σ.new (.iter s 0))
   | _=>False
  | _=>False
 | .next x true=>match ρ x with
  | .ptr b 0=>match σ.bx[b]? with
   | some (.iter s pos)=>CondP (decide (pos<s.length)) (K (.tuple [.d (.bool true),.d (.int .i64 pos),.d (.int .i32 (decodeL s pos).1)]) (σ.set b (.iter s (pos+(decodeL s pos).2)))) (K (.tuple [.d (.bool false)]) σ)
   | _=>False
  | _=>False
 | .call { callee:=.builtin .append,args,argTypes }=>match argTypes.toList,args.toList.map ρ with
  | [t,tx],[s,x]=>match (T.get t).kind with
   | .slice el=>match (T.get el).kind with
    | .other=>False
    | _=>match Nat.ble 1 (T.get el).size,VK T tx el x with
     | true,some more=>match s with
      | .nils _=>(∀r∈more,r.length=(T.get el).size)∧more.length * (T.get el).bytes≤2 ^ 47∧more.length≤2 ^ 47∧K (.sl σ.nx el more) { σ with tk:=σ.nx::σ.tk,nx:=σ.nx+1 }
      | .sl tok e2 rows=>match Zhd tok σ.tk,Nat.beq e2 el with
       | true,true=>(∀r∈more,r.length=(T.get el).size)∧(rows.length+more.length) * (T.get el).bytes≤2 ^ 47∧rows.length+more.length≤2 ^ 47 ∧
         K (.sl σ.nx el (rows++more)) { σ with tk:=σ.nx::J0 tok σ.tk,nx:=σ.nx+1 }
       | _,_=>False
      | _=>False
     | _,_=>False
   | _=>False
  | _,_=>False
 | _=>False
def Xp:Op→Bool
 | .alloc _ | .box _ _ | .store _ _ _ | .range _ _ | .next _ _=>true
 | .call { callee:=.builtin .append,.. }=>true
 | .call { callee:=.builtin _,.. }=>false
 | .call _=>true
 | .panic _=>true
 | _=>false
mutual
def bnd (n:Nat):PV→Bool
 | .ptr b _=>Nat.ble (b+1) n
 | .asl b _ _=>Nat.ble (b+1) n
 | .func _ a c=>Znp n a && Znp n c
 | .iface _ v=>bnd n v
 | .agg cs=>Znp n cs
 | .tuple vs=>Znp n vs
 | _=>true
def Znp (n:Nat):List PV→Bool
 | []=>true
 | v::l=>bnd n v && Znp n l
end
mutual
def clean:PV→PV
 | .sl _ _ rows=>.d (.sl rows)
 | .nils _=>.d (.sl [])
 | .func f a c=>.func f (Xm a) (Xm c)
 | .iface t v=>.iface t (clean v)
 | .agg cs=>.agg (Xm cs)
 | .tuple vs=>.tuple (Xm vs)
 | .d x=>.d x
 | .undef=>.undef
 | .ptr b o=>.ptr b o
 | .elem r o=>.elem r o
 | .asl b o n=>.asl b o n
 | .raw v=>.raw v
def Xm:List PV→List PV
 | []=>[]
 | v::l=>clean v::Xm l
end
def V5 (f:Frame):Frame:=fun i=>clean (f i)
mutual
def cleanN:PV→PV
 | .sl _ _ rows=>.d (.sl rows)
 | .nils e=>.nils e
 | .func f a c=>.func f (Xm a) (Xm c)
 | .iface t v=>.iface t (clean v)
 | .agg cs=>.agg (cleanNL cs)
 | .tuple vs=>.tuple (Xm vs)
 | .d x=>.d x
 | .undef=>.undef
 | .ptr b o=>.ptr b o
 | .elem r o=>.elem r o
 | .asl b o n=>.asl b o n
 | .raw v=>.raw v
def cleanNL:List PV→List PV
 | []=>[]
 | v::l=>cleanN v::cleanNL l
end
inductive PEnd where | ret (v:PV) | panic (v:PV)
inductive PExit where | normal | exit (id:Nat) | goto (l:Nat) | ret | panic (v:PV)
abbrev PQ:=PExit→Frame→St→Prop
structure LoopAnn where
 live:List Nat
 keep:List Nat
 I:List PV→St→Prop
 μ:List PV→St→Nat
structure Cx where
 T:Tab
 call:FuncId→List PV→St→(PEnd→St→Prop)→Prop
 raw:Value→List PV→St→(PEnd→St→Prop)→Prop
 iter:FuncId→List PV→(Value→List PV→St→(PEnd→St→Prop)→Prop)→St→(PEnd→St→Prop)→Prop
 loop:Nat→LoopAnn
 unr:Nat→Nat:=fun _=>0
 tie:Nat→Bool:=fun _=>false
 bsl:Nat→Bool:=fun _=>false
 pk:Bool:=true
 cut:Nat→Option (List Nat×(List PV→St→Prop)):=fun _=>none
def LoopAnn.tied (A:LoopAnn) (f:Frame):LoopAnn:=⟨A.live,A.keep,fun vs σ=>A.I (A.keep.map (fun i=>clean (f i))++vs) σ,fun vs σ=>A.μ (A.keep.map (fun i=>clean (f i))++vs) σ⟩
def Cx.inner (C:Cx):Cx:={ C with iter:=fun _ _ _ _ _=>False }
def Cx.calm (C:Cx):Cx:={ C with raw:=fun _ _ _ _=>False,pk:=false }
def Cx.pf (C:Cx) (f:Frame):Frame:=match C.pk with | true=>V5 f | false=>fun _=>.undef
def ZiB:List PV→(List PV→Prop)→Prop
 | [],K=>K []
 | v::l,K=>Jq v fun v=>ZiB l fun l=>K (v::l)
def Zbn:List Box→(List Box→Prop)→Prop
 | [],K=>K []
 | .cells t cs::l,K=>ZiB cs fun cs=>Zbn l fun l=>K (.cells t cs::l)
 | .iter s p::l,K=>Zbn l fun l=>K (.iter s p::l)
 | .loop st pd r::l,K=>Zbn l fun l=>K (.loop st pd r::l)
def Zd6:List Nat→(List Nat→Prop)→Prop
 | [],K=>K []
 | t::l,K=>YJ t fun t=>Zd6 l fun l=>K (t::l)
def Ug (σ:St) (K:St→Prop):Prop:=Zbn σ.bx fun bx=>Zd6 σ.tk fun tk=>YJ σ.nx fun nx=>K ⟨bx,tk,nx⟩
def ZfP (C:Cx) (fv:PV) (args:List PV) (f:Frame) (σ:St) (K:PEnd→Frame→St→Prop):Prop:=match fv with
 | .func g first caps=>C.call g (first++args++caps) σ fun e σ=>K e f σ
 | .raw v=>C.raw v args σ fun e σ=>K e (V5 f) σ
 | _=>False
def Vf (C:Cx) (o:Oper) (f:Frame) (σ:St) (Q:PQ) (K:Frame→St→Prop):Prop :=
 match Xp o.op with
 | false=>ZfO C.T o.op o.type (ev f) σ.bx fun v=>Zhc f o.dst v fun f=>K f σ
 | true=>match o.op with
  | .call { callee:=.value x,args,.. }=>ZfP C (ev f x) (args.toList.map (ev f)) f σ fun e f σ'=>match e with
    | .ret v=>Ug σ' fun σ'=>Zhc f o.dst v fun f=>K f σ'
    | .panic v=>Ug σ' fun σ'=>Jq v fun v=>Q (.panic v) (C.pf f) σ'
  | .panic x=>match ev f x with
    | .iface t v=>Q (.panic (.iface t v)) (C.pf f) σ
    | _=>False
  | op=>eop C.T op (ev f) σ fun v σ'=>Ug σ' fun σ'=>Zhc f o.dst v fun f=>K f σ'
def Vg (all:List Oper) (j:Nat):Option Nat:=match all[j]? with | some o=>o.dst | none=>none
def U2 (C:Cx) (all:List Oper) (Q:PQ) (o:Oper) (f:Frame) (σ:St) (K:Frame→St→Prop):Prop :=
 match o.guard with
 | none=>Vf C o f σ Q K
 | some (j,want)=>match Vg all j with
  | some s=>match f s with
   | .d (.bool t)=>CondP t
     (match want with | true=>Vf C o (U6 f s (.d (.bool true))) σ Q K | false=>Zhc (U6 f s (.d (.bool true))) o.dst (.raw Go.undef) fun f=>K f σ)
     (match want with | false=>Vf C o (U6 f s (.d (.bool false))) σ Q K | true=>Zhc (U6 f s (.d (.bool false))) o.dst (.raw Go.undef) fun f=>K f σ)
   | .raw (.tuple _)=>Zhc f o.dst (.raw Go.undef) fun f=>K f σ
   | _=>False
  | none=>False
def Zo5 (C:Cx) (o:Oper):Bool:=match o.dst with
 | some d=>match o.guard with | none=>C.bsl d | _=>false
 | none=>false
def ZwC (T:Tab) (o:Op) (ρ:Operand→PV) (σ:St) (K:PV→St→Prop):Prop:=match o with
 | .buildSlice t n ps=>match (T.get t).kind with
   | .slice e=>match (T.get e).kind with
    | .other=>False
    | _=>match Zno (T.get e).zero with
     | some zero=>match Nat.ble 1 zero.length,Nat.ble (n * zero.length) 16777216,Nat.ble 1 n,Zch zero ρ n ps.toList with
      | true,true,true,some rows=>K (.sl σ.nx e rows) { σ with tk:=σ.nx::σ.tk,nx:=σ.nx+1 }
      | _,_,_,_=>False
     | none=>False
   | _=>False
 | .convert s d x=>match (T.get s).kind with
   | .slice e=>match (T.get d).kind,(T.get e).kind,ρ x with
    | .string,.int .u8,.asl b off n=>match σ.bx[b]? with
     | some (.cells _ cs)=>∃l:List UInt8,l.length=n∧Uf n (cs.drop off)=some (l.map fun b=>.d (.int .u8 b.toNat))∧K (.d (.str l)) σ
     | _=>False
    | _,_,_=>False
   | _=>False
 | _=>False
def ZkT (C:Cx) (all:List Oper) (Q:PQ) (o:Oper) (f:Frame) (σ:St) (K:Frame→St→Prop):Prop:=match Zo5 C o with
 | true=>ZwC C.T o.op (ev f) σ fun v σ'=>Ug σ' fun σ'=>Zhc f o.dst v fun f=>K f σ'
 | false=>U2 C all Q o f σ K
def Zo6 (C:Cx) (all:List Oper) (Q:PQ):List Oper→Frame→St→Prop
 | [],f,σ=>Q .normal f σ
 | o::rest,f,σ=>ZkT C all Q o f σ (Zo6 C all Q rest)
structure Ld where
 i:Nat
 b:Nat
 off:Nat
 n:Nat
def Xd (bx:List Box) (b off n:Nat):Option (List PV):=match bx[b]? with
 | some (.cells _ cs)=>some ((cs.drop off).take n)
 | _=>none
def U8 (acc:List Nat):List Edge→Nat→Nat
 | [],s=>s
 | e::l,s=>match Region.binds .any e with
  | true=>U8 acc l (s ||| 2 ^ e.on ||| acc.getD e.on 0)
  | false=>U8 acc l s
def Vh:List Oper→List Nat→List Nat
 | [],acc=>acc
 | o::l,acc=>Vh l (acc++[U8 acc o.after.toList 0])
def anc (ms:List Nat) (i j:Nat):Bool:=(ms.getD j 0).testBit i
def W8 (o:Oper) (left:List (Nat×Oper)):Bool:=match left with
 | []=>false
 | (i,_)::l=>(o.after.toList.any fun e=>Region.binds .any e && Nat.beq e.on i) || W8 o l
def ZeI:List (Nat×Oper)→List (Nat×Oper)→Option (Nat×Oper)
 | _,[]=>none
 | left,(i,o)::l=>match Xp o.op,W8 o left with
  | false,false=>some (i,o)
  | _,_=>ZeI left l
def Yi (i:Nat):List (Nat×Oper)→List (Nat×Oper)
 | []=>[]
 | (j,o)::l=>match Nat.beq i j with | true=>l | false=>(j,o)::Yi i l
def V6:Nat→List (Nat×Oper)→List (Nat×Oper)
 | 0,l=>l
 | _+1,[]=>[]
 | n+1,x::l=>match ZeI (x::l) (x::l) with
  | some (i,o)=>(i,o)::V6 n (Yi i (x::l))
  | none=>x::V6 n l
def ZA:Nat→List Oper→List (Nat×Oper)
 | _,[]=>[]
 | i,o::l=>(i,o)::ZA (i+1) l
def ZfQ (ops:List Oper):List (Nat×Oper):=V6 ops.length (ZA 0 ops)
def Znu (ms:List Nat) (j:Nat) (pre post:List Box):List Ld→Prop→Prop
 | [],X=>X
 | ⟨i,b,off,n⟩::l,X=>match anc ms i j with
  | true=>Znu ms j pre post l X
  | false=>Xd pre b off n=Xd post b off n∧Znu ms j pre post l X
def VL (T:Tab) (o:Oper) (i:Nat) (f:Frame) (ctx:List Ld):List Ld:=match o.op with
 | .load t a=>match ev f a with
  | .ptr b off=>⟨i,b,off,(T.get t).size⟩::ctx
  | _=>ctx
 | _=>ctx
def Vi (C:Cx) (all:List Oper) (ms:List Nat) (Q:PQ) (i:Nat) (o:Oper) (ctx:List Ld) (f:Frame) (σ:St) (K:List Ld→Frame→St→Prop):Prop :=
 U2 C all Q o f σ fun f' σ'=>match Xp o.op with
  | true=>Znu ms i σ.bx σ'.bx ctx (K ctx f' σ')
  | false=>K (VL C.T o i f ctx) f' σ'
def Vj (C:Cx) (all:List Oper) (ms:List Nat) (Q:PQ):List (Nat×Oper)→List Ld→Frame→St→Prop
 | [],_,f,σ=>Q .normal f σ
 | (i,o)::rest,ctx,f,σ=>Vi C all ms Q i o ctx f σ (Vj C all ms Q rest)
def ZjC (left:List (Nat×Oper)):List (Nat×Oper)→(Nat→Oper→Prop)→Prop
 | [],_=>True
 | (i,o)::l,X=>match W8 o left with
  | true=>ZjC left l X
  | false=>X i o∧ZjC left l X
def Vk (C:Cx) (all:List Oper) (ms:List Nat) (Q:PQ):Nat→List (Nat×Oper)→List Ld→Frame→St→Prop
 | _,[],_,f,σ=>Q .normal f σ
 | 0,_::_,_,_,_=>False
 | n+1,x::l,ctx,f,σ=>match ZeI (x::l) (x::l) with
  | some (i,o)=>Vi C all ms Q i o ctx f σ (Vk C all ms Q n (Yi i (x::l)))
  | none=>ZjC (x::l) (x::l) fun i o=>Vi C all ms Q i o ctx f σ (Vk C all ms Q n (Yi i (x::l)))
def ZiC (ms:List Nat):Option Nat→List (Nat×Oper)→Bool
 | _,[]=>true
 | prev,(i,o)::l=>match Xp o.op with
  | false=>ZiC ms prev l
  | true=>(match prev with | none=>true | some j=>anc ms j i) && ZiC ms (some i) l
def toks:Nat→List Nat
 | 0=>[]
 | k+1=>k::toks k
def ZpF (n:Nat) (tk:List Nat) (k:Nat) (v:PV) (K:PV→List Nat→Nat→Prop):Prop:=match v with
 | .sl t e rows=>match Zhd t tk with
  | true=>K (.sl k e rows) (J0 t tk) (k+1)
  | false=>K (.d (.sl rows)) tk k
 | .nils e=>K (.sl k e []) tk (k+1)
 | v=>match bnd n v with
  | true=>Jq (clean v) fun v=>K v tk k
  | false=>K .undef tk k
def ZpG (n:Nat):List PV→List Nat→Nat→(List PV→List Nat→Nat→Prop)→Prop
 | [],tk,k,K=>K [] tk k
 | v::l,tk,k,K=>ZpF n tk k v fun v tk k=>ZpG n l tk k fun l tk k=>K (v::l) tk k
def Zhm (n:Nat) (tk:List Nat) (k:Nat) (v:PV) (K:PV→List Nat→Nat→Prop):Prop:=match v with
 | .sl t e rows=>match Zhd t tk with
  | true=>K (.sl k e rows) (J0 t tk) (k+1)
  | false=>K (.d (.sl rows)) tk k
 | .nils e=>K (.sl k e []) tk (k+1)
 | v=>match bnd n v with
  | true=>Jq (cleanN v) fun v=>K v tk k
  | false=>K .undef tk k
def ZkU (n:Nat):List PV→List Nat→Nat→(List PV→List Nat→Nat→Prop)→Prop
 | [],tk,k,K=>K [] tk k
 | v::l,tk,k,K=>Zhm n tk k v fun v tk k=>ZkU n l tk k fun l tk k=>K (v::l) tk k
def Zhn (n:Nat):Nat→List Box→List Nat→Nat→(List Box→List Nat→Nat→Prop)→Prop
 | 0,_,tk,k,K=>K [] tk k
 | _+1,[],_,_,_=>False
 | m+1,.cells t cs::l,tk,k,K=>ZpG n cs tk k fun cs tk k=>Zhn n m l tk k fun l tk k=>K (.cells t cs::l) tk k
 | m+1,.iter s p::l,tk,k,K=>Zhn n m l tk k fun l tk k=>K (.iter s p::l) tk k
 | m+1,.loop st pd r::l,tk,k,K=>Zhn n m l tk k fun l tk k=>K (.loop st pd r::l) tk k
def ZeJ (n:Nat) (vs:List PV) (σ:St) (K:List PV→St→Prop):Prop :=
 ZpG n vs σ.tk 0 fun vs tk k=>Zhn n n σ.bx tk k fun bs _ k=>K vs ⟨bs,toks k,k⟩
def ZeK (f:Frame):List Nat→List PV→Frame
 | i::is,v::vs=>U6 (ZeK f is vs) i v
 | _,_=>f
def Zho (f:Frame):List Nat→Frame
 | []=>fun _=>.undef
 | i::is=>U6 (Zho f is) i (clean (f i))
def Y5:List Oper→List Nat→Bool
 | [],_=>true
 | o::l,ks=>(match o.dst with | some d=>!(Zhd d ks) | none=>true) && Y5 l ks
def Yd (ks:List Nat):Code→Bool
 | .region _ ops _=>Y5 ops.toList ks
 | .seq a b=>Yd ks a && Yd ks b
 | .cond _ a b=>Yd ks a && Yd ks b
 | .block _ b=>Yd ks b
 | .loop b=>Yd ks b
 | .rangeFunc ..=>true
 | .scope b=>Yd ks b
 | _=>true
def XD:Code→Nat
 | .region id _ _=>id
 | .seq a _=>XD a
 | .cond _ a _=>XD a
 | .block _ b=>XD b
 | .loop b=>XD b
 | .scope b=>XD b
 | _=>0
def ZkV:Frame→List Nat→List PV→Frame
 | f,i::is,v::vs=>ZkV (U6 f i v) is vs
 | f,_,_=>f
def ZtE (i:Nat) (r:Loop) (st:LoopState) (pd:Option Code) (b:Bool) (σ:St) (K:PEnd→St→Prop):Prop :=
 σ.bx[i]?=some (.loop .busy none r)∧K (.ret (.d (.bool b))) (σ.set i (.loop st pd r))
def ZpH (i l:Nat) (r:Loop) (ps:List Nat) (WA WB:PQ→Frame→St→Prop) (f:Frame) (v:Value) (args:List PV) (σ:St) (K:PEnd→St→Prop):Prop :=
 v=.func (.yield l) #[] #[]∧σ.bx[i]?=some (.loop .ready none r)∧args.length=ps.length ∧
  WA (fun e f1 σ1=>match e with
   | .normal=>σ1.bx[i]?=some (.loop .ready none r)∧WB (fun e _ σ2=>match e with
     | .normal=>ZtE i r .ready none true σ2 K
     | .ret=>ZtE i r .done (some .ret) false σ2 K
     | .exit id=>ZtE i r .done (some (.exit id)) false σ2 K
     | .goto t=>ZtE i r .done (some (.goto t)) false σ2 K
     | .panic _=>False) f1 (σ1.set i (.loop .busy none r))
   | _=>False) (ZkV f ps args) σ
def ZkW (i:Nat) (r:Loop) (f:Frame) (Q:PQ) (σ:St):Option Code→Prop
 | none=>Q .normal f (σ.set i (.loop .exhausted none r))
 | some .ret=>Q .ret f (σ.set i (.loop .exhausted (some .ret) r))
 | some (.exit id)=>Q (.exit id) f (σ.set i (.loop .exhausted (some (.exit id)) r))
 | some (.goto t)=>Q (.goto t) f (σ.set i (.loop .exhausted (some (.goto t)) r))
 | _=>False
structure Hole where
 pre:List Oper
 A:Oper
 I:Oper
 S:Oper
 F:Oper
 H:Oper
def ZfR (ops:List Oper):Option Hole:=match ops.reverse with
 | H::F::S::I::A::pre=>match A.op,I.op,S.op,F.op,H.op with
  | .call { callee:=.builtin .append,.. },.indexAddr _ _ _,.store _ _ _,.fieldAddr _ _ _,.store _ _ _=>some ⟨pre.reverse,A,I,S,F,H⟩
  | _,_,_,_,_=>none
 | _=>none
def ZpI (T:Tab) (h:Hole) (f:Frame) (σ:St) (K:Frame→St→Prop):Prop:=match h.A.op,h.I.op,h.S.op with
 | .call { callee:=.builtin .append,args,argTypes },.indexAddr _ _ ix,.store ts _ x=>match argTypes.toList,args.toList,h.A.dst,h.I.dst with
  | [t,tx],[s,z],some da,some di=>match (T.get t).kind with
   | .slice el=>match (T.get el).kind with
    | .other=>False
    | _=>match Nat.ble 1 (T.get el).size,Nat.beq ts el,VK T tx el (ev f z),Zhl (ev f x),ev f ix with
     | true,true,some [zr],some row,.d (.int _ n)=>match Nat.beq zr.length (T.get el).size,Nat.beq row.length (T.get el).size with
      | true,true=>match ev f s with
       | .nils _=>n=0∧1 * (T.get el).bytes≤2 ^ 47∧Ug ⟨σ.bx,(σ.nx+1)::σ.tk,σ.nx+2⟩ fun σ'=>Zhc f (some da) (.sl (σ.nx+1) el [row]) fun f=>Zhc f (some di) .undef fun f=>K f σ'
       | .sl tok e2 rows=>match Zhd tok σ.tk,Nat.beq e2 el with
        | true,true=>n=rows.length∧(rows.length+1) * (T.get el).bytes≤2 ^ 47∧rows.length+1≤2 ^ 47 ∧
          Ug ⟨σ.bx,(σ.nx+1)::J0 tok σ.tk,σ.nx+2⟩ fun σ'=>Zhc f (some da) (.sl (σ.nx+1) el (rows++[row])) fun f=>Zhc f (some di) .undef fun f=>K f σ'
        | _,_=>False
       | _=>False
      | _,_=>False
     | _,_,_,_,_=>False
   | _=>False
  | _,_,_,_=>False
 | _,_,_=>False
def ZpJ (C:Cx) (all:List Oper) (h:Hole) (Q:PQ):PQ:=fun e f σ=>match e with
 | .normal=>ZpI C.T h f σ fun f σ=>U2 C all Q h.F f σ fun f σ=>U2 C all Q h.H f σ fun f σ=>Q .normal f σ
 | e=>Q e f σ
def ZiD (i:Nat) (f:Frame) (Q:PQ) (e:PEnd) (σ:St):Prop:=match e with
 | .ret _=>match σ.bx[i]? with
  | some (.loop st pd r)=>match st with
   | .busy=>False
   | _=>ZkW i r f Q σ pd
  | _=>False
 | .panic v=>Q (.panic v) (fun _=>.undef) σ
def ZiE (S:PQ→Frame→St→Prop) (Q:PQ):Nat→Frame→St→Prop
 | 0,_,_=>False
 | n+1,f,σ=>S (fun e f σ=>match e with | .normal=>ZiE S Q n f σ | e=>Q e f σ) f σ
def W:Cx→Code→PQ→Frame→St→Prop
 | _,.skip,Q,f,σ=>Q .normal f σ
 | C,.region _ ops draw,Q,f,σ=>match draw with
  | false=>Zo6 C ops.toList Q ops.toList f σ
  | true=>match ZfR ops.toList with
   | none=>match ZiC (Vh ops.toList []) none (ZA 0 ops.toList) with
    | true=>Vj C.calm ops.toList (Vh ops.toList []) Q (ZfQ ops.toList) [] f σ
    | false=>Vk C.calm ops.toList (Vh ops.toList []) Q ops.toList.length (ZA 0 ops.toList) [] f σ
   | some h=>Vj C.calm ops.toList (Vh ops.toList []) (ZpJ C.calm ops.toList h Q) (V6 h.pre.length (ZA 0 h.pre)) [] f σ
 | C,.seq a b,Q,f,σ=>match C.cut (XD b) with
  | none=>W C a (fun e f σ=>match e with | .normal=>W C b Q f σ | e=>Q e f σ) f σ
  | some (live,I)=>W C a (fun e f σ=>match e with | .normal=>ZeJ σ.bx.length (live.map f) σ I | e=>Q e f σ) f σ∧∀vs σ1,I vs σ1→W C b Q (ZeK (fun _=>.undef) live vs) σ1
 | C,.cond c x y,Q,f,σ=>match ev f c with | .d (.bool t)=>CondP t (W C x Q f σ) (W C y Q f σ) | _=>False
 | C,.block id b,Q,f,σ=>W C b (fun e f σ=>match e with | .exit i=>(match Nat.beq i id with | true=>Q .normal f σ | false=>Q (.exit i) f σ) | e=>Q e f σ) f σ
 | C,.scope b,Q,f,σ=>W C b (fun e f σ=>match e with | .goto _=>False | e=>Q e f σ) f σ
 | _,.exit id,Q,f,σ=>Q (.exit id) f σ
 | _,.goto l,Q,f,σ=>Q (.goto l) f σ
 | _,.label _,Q,f,σ=>Q .normal f σ
 | _,.ret,Q,f,σ=>Q .ret f σ
 | C,.loop b,Q,f,σ=>match C.unr (XD b) with
  | n+1=>ZiE (fun Q f σ=>W C b Q f σ) Q (n+1) f σ
  | 0=>match Yd (C.loop (XD b)).keep b with
   | true=>match C.tie (XD b) with
    | false => ZeJ σ.bx.length ((C.loop (XD b)).live.map f) σ fun vs σ0 => (C.loop (XD b)).I vs σ0 ∧
       ∀vs σ1,(C.loop (XD b)).I vs σ1→W C b (fun e f' σ'=>match e with
        | .normal=>ZeJ σ1.bx.length ((C.loop (XD b)).live.map f') σ' fun vs' σ''=>(C.loop (XD b)).I vs' σ''∧(C.loop (XD b)).μ vs' σ''<(C.loop (XD b)).μ vs σ1
        | e=>Q e f' σ') (ZeK (Zho f (C.loop (XD b)).keep) (C.loop (XD b)).live vs) σ1
    | true => ZeJ σ.bx.length (((C.loop (XD b)).tied f).live.map f) σ fun vs σ0 => ((C.loop (XD b)).tied f).I vs σ0 ∧
       ∀vs σ1,((C.loop (XD b)).tied f).I vs σ1→W C b (fun e f' σ'=>match e with
        | .normal=>ZeJ σ1.bx.length (((C.loop (XD b)).tied f).live.map f') σ' fun vs' σ''=>((C.loop (XD b)).tied f).I vs' σ''∧((C.loop (XD b)).tied f).μ vs' σ''<((C.loop (XD b)).tied f).μ vs σ1
        | e=>Q e f' σ') (ZeK (Zho f ((C.loop (XD b)).tied f).keep) ((C.loop (XD b)).tied f).live vs) σ1
   | false=>False
 | C,.rangeFunc g ps asg body,Q,f,σ=>match ev f g with
  | .func gid first caps=>∀(l:Nat) (r:Loop),
    C.iter gid (first++.raw (.func (.yield l) #[] #[])::caps) (ZpH σ.bx.length l r ps.toList (fun Q f σ=>W C.inner asg Q f σ) (fun Q f σ=>W C.inner body Q f σ) (V5 f)) (σ.new (.loop .ready none r))
     (ZiD σ.bx.length (V5 f) Q)
  | _=>False
 | _,_,_,_,_=>False
def pres (T:Tab) (f:Frame) (bx:List Box):List ResultVar→(List PV→Prop)→Prop
 | [],K=>K []
 | .tmp t::l,K=>Jq (f t) fun v=>pres T f bx l fun vs=>K (v::vs)
 | .cell a t::l,K=>ZaH T t (f a) bx fun v=>Jq v fun v=>pres T f bx l fun vs=>K (v::vs)
def Uh:List PV→PV
 | [v]=>v
 | vs=>.tuple vs
def Jr (keep:Nat) (own:Bool) (v:PV) (σ:St) (K:PV→St→Prop):Prop :=
 match bnd keep v with
 | true=>match own with
  | true=>ZeJ keep [v] σ fun vs σ'=>match vs with | [v]=>K v σ' | _=>False
  | false=>Zhn keep keep σ.bx [] 0 fun bs _ k=>K (clean v) ⟨bs,toks k,k⟩
 | false=>False
def Znv (T:Tab) (fn:Func) (keep:Nat) (own:Bool) (R:PEnd→St→Prop):PQ:=fun e f σ=>match e with
 | .normal | .ret=>pres T f σ.bx fn.results.toList fun vs=>Jr keep own (Uh vs) σ fun v σ'=>R (.ret v) σ'
 | .panic v=>Jr keep own v σ fun v σ'=>R (.panic v) σ'
 | _=>False
def Zdy:Nat→List PV→Frame
 | _,[]=>fun _=>.undef
 | i,v::vs=>U6 (Zdy (i+1) vs) i v
def WU (fn : Func) : Code := match fn.body with | some c => c | none => .refuse ""
def WF (C:Cx) (fn:Func) (keep:Nat) (own:Bool) (args:List PV) (σ:St) (R:PEnd→St→Prop):Prop :=
 W C (WU fn) (Znv C.T fn keep own R) (Zdy 0 args) σ
end Go.PM
end

section
namespace Go.PM
open Go.RowKit
inductive DRel (ok:Nat→Nat→Prop) (w:World):D→Value→Prop
 | bool (b:Bool):DRel ok w (.bool b) (.bool b)
 | int (k:IntKind) (n:Int):DRel ok w (.int k n) (.int k n)
 | str (s:List UInt8):DRel ok w (.str s) (.string ⟨s.toArray⟩)
 | nilp:DRel ok w .nilp (.pointer none)
 | nilf:DRel ok w .nilf .nilFunc
 | nili:DRel ok w .nili .nilIface
 | slnil:DRel ok w (.sl []) (.slice none 0 0)
 | slz (a:Addr):DRel ok w (.sl []) (.slice (some a) 0 0)
 | sl (rows:List (List D)) (b off cap sz:Nat) (u:Nat→Nat→Value) (hcap:rows.length≤cap) (hsz:∀r∈rows,r.length=sz)
   (hc:∀i j,i<rows.length→j<sz→w.cell? ⟨b,off+i * sz+j,none⟩=some (u i j))
   (ho:∀i j,i<rows.length→j<sz→ok b (off+i * sz+j))
   (hu:∀(i j:Nat) (x:D),(rows[i]?.bind (·[j]?))=some x→DRel ok w x (u i j)):DRel ok w (.sl rows) (.slice (some ⟨b,off,none⟩) rows.length cap)
structure GE where
 P:Program
 w0:World
 nG:Nat
structure Env where
 β:Nat→Nat
 M:Nat→Option (Nat×Nat)
 X:Nat→Nat→Prop
def okc (e:Env) (σ:St) (b off:Nat):Prop :=
 ¬e.X b off∧(∀i,i<σ.bx.length→e.β i≠b)∧∀t,t∈σ.tk→∀p,e.M t=some p→p.1=b→off<p.2
def Owned (G:GE) (e:Env) (w:World) (t el:Nat) (rows:List (List D)) (v:Value):Prop :=
 (v=.slice none 0 0∧rows=[]∧e.M t=none) ∨
 ∃ sz, (G.P.info? el).map (·.size) = some sz ∧ 0 < sz ∧ (∀ r ∈ rows, r.length = sz) ∧
    ∃b off cap cs ty fz,v=.slice (some ⟨b,off,none⟩) rows.length cap∧G.nG≤b∧rows.length≤cap∧w.heap[b]?=some (.cells cs ty fz)∧(off+cap * sz≤cs.size∧off=0∧ty=el∧0<cap) ∧
     (fz.1≤fz.2∧∀o,off+rows.length * sz≤o→fz.1≤o→fz.2≤o)∧e.M t=some (b,off+rows.length * sz)
inductive VRel (G:GE) (e:Env) (σ:St) (w:World):PV→Value→Prop
 | d (x:D) (v:Value) (h:DRel (okc e σ) w x v):VRel G e σ w (.d x) v
 | undef (v:Value):VRel G e σ w .undef v
 | ptr (b off:Nat) (h:b<σ.bx.length):VRel G e σ w (.ptr b off) (.pointer (some ⟨e.β b,off,none⟩))
 | elem (r:List D) (off b o:Nat) (u:Nat→Value) (hc:∀j,j<r.length→w.cell? ⟨b,o+j,none⟩=some (u j)) (ho:∀j,j<r.length→okc e σ b (o+j))
   (hu:∀(j:Nat) (x:D),r[j]?=some x→DRel (okc e σ) w x (u j)):VRel G e σ w (.elem r off) (.pointer (some ⟨b,o+off,none⟩))
 | sl (t el:Nat) (rows:List (List D)) (v:Value) (hn:t<σ.nx) (hd:DRel (okc e σ) w (.sl rows) v) (ht:t∈σ.tk→Owned G e w t el rows v):VRel G e σ w (.sl t el rows) v
 | nils (el:Nat):VRel G e σ w (.nils el) (.slice none 0 0)
 | asl (b off n:Nat) (h:b<σ.bx.length):VRel G e σ w (.asl b off n) (.slice (some ⟨e.β b,off,none⟩) n n)
 | func (f:FuncId) (a c:List PV) (va vc:Array Value) (ha:va.size=a.length) (hc:vc.size=c.length) (h1:∀(i:Nat) (x:PV) (u:Value),a[i]?=some x→va[i]?=some u→VRel G e σ w x u)
   (h2:∀(i:Nat) (x:PV) (u:Value),c[i]?=some x→vc[i]?=some u→VRel G e σ w x u):VRel G e σ w (.func f a c) (.func (.func f) va vc)
 | iface (t:TypeId) (x:PV) (v:Value) (h:VRel G e σ w x v):VRel G e σ w (.iface t x) (.iface t v)
 | agg (cs:List PV) (vs:Array Value) (hs:vs.size=cs.length) (h:∀(i:Nat) (x:PV) (u:Value),cs[i]?=some x→vs[i]?=some u→VRel G e σ w x u) (h1:∀u∈vs,u.oneCell'=true):VRel G e σ w (.agg cs) (.agg vs)
 | tuple (cs:List PV) (vs:Array Value) (hs:vs.size=cs.length) (h:∀(i:Nat) (x:PV) (u:Value),cs[i]?=some x→vs[i]?=some u→VRel G e σ w x u):VRel G e σ w (.tuple cs) (.tuple vs)
 | raw (v:Value):VRel G e σ w (.raw v) v
theorem DRel.mono {ok ok':Nat→Nat→Prop} {w w':World} {x:D} {v:Value} (h:DRel ok w x v)
  (hp:∀b off u,w.cell? ⟨b,off,none⟩=some u→ok b off→ok' b off∧w'.cell? ⟨b,off,none⟩=some u):DRel ok' w' x v:=by
 induction h with
 | bool b=>exact .bool b
 | int k n=>exact .int k n
 | str s=>exact .str s
 | nilp=>exact .nilp
 | nilf=>exact .nilf
 | nili=>exact .nili
 | slnil=>exact .slnil
 | slz a=>exact .slz a
 | sl rows b off cap sz u hcap hsz hc ho _ ih =>
  exact .sl rows b off cap sz u hcap hsz (fun i j hi hj=>(hp _ _ _ (hc i j hi hj) (ho i j hi hj)).2) (fun i j hi hj=>(hp _ _ _ (hc i j hi hj) (ho i j hi hj)).1)
   (fun i j x hx=>ih i j x hx)
structure Later (e:Env) (σ:St) (w:World) (e':Env) (σ':St) (w':World):Prop where
 len:σ.bx.length≤σ'.bx.length
 beta:∀i,i<σ.bx.length→e'.β i=e.β i
 X:e'.X=e.X
 pres:∀b off u,w.cell? ⟨b,off,none⟩=some u→okc e σ b off→okc e' σ' b off∧w'.cell? ⟨b,off,none⟩=some u
 blocks:∀b,b<w.heap.size→(∀i,i<σ.bx.length→e.β i≠b)→(∀t,t∈σ.tk→∀p,e.M t=some p→p.1≠b)→w'.heap[b]?=w.heap[b]?
 size:w.heap.size≤w'.heap.size
 os:w'.os=w.os
 tape:w'.tape=w.tape
 output:w'.output=w.output
 fresh:∀i,σ.bx.length≤i→i<σ'.bx.length→w.heap.size≤e'.β i
 ftok:∀t,t∈σ'.tk→∀p,e'.M t=some p→w.heap.size≤p.1∨∃t0,t0∈σ.tk∧∃p0,e.M t0=some p0∧p0.1=p.1
structure Stepped (e:Env) (σ:St) (w:World) (e':Env) (σ':St) (w':World):Prop extends Later e σ w e' σ' w' where
 nx:σ.nx≤σ'.nx
 toks:∀t,t<σ.nx→t∈σ'.tk→t∈σ.tk∧e'.M t=e.M t
 own:∀t,t<σ.nx→t∈σ'.tk→∀p,e.M t=some p→p.1<w.heap.size→w'.heap[p.1]?=w.heap[p.1]?
theorem VM {w:World} {b off:Nat} {u:Value} (h:w.cell? ⟨b,off,none⟩=some u):b<w.heap.size:=World.block_lt_of_cell? w ⟨b,off,none⟩ h
theorem DRel.later {e:Env} {σ:St} {w:World} {e':Env} {σ':St} {w':World} {x:D} {v:Value} (h:DRel (okc e σ) w x v) (hl:Later e σ w e' σ' w'):DRel (okc e' σ') w' x v :=
 h.mono fun b off u hc ho=>hl.pres b off u hc ho
theorem Later.refl (e:Env) (σ:St) (w:World):Later e σ w e σ w:=⟨Tp _,fun _ _=>rfl,rfl,fun _ _ _ hc h=>⟨h,hc⟩,fun _ _ _ _=>rfl,Tp _,rfl,rfl,rfl,fun i h1 h2=>by omega,fun t ht p hp=>.inr ⟨t,ht,p,hp,rfl⟩⟩
theorem Later.trans {e0 e1 e2:Env} {σ0 σ1 σ2:St} {w0 w1 w2:World} (h:Later e0 σ0 w0 e1 σ1 w1) (k:Later e1 σ1 w1 e2 σ2 w2):Later e0 σ0 w0 e2 σ2 w2 where
 len:=Sc h.len k.len
 beta:=fun i hi=>(k.beta i (TB hi h.len)).trans (h.beta i hi)
 X:=k.X.trans h.X
 pres:=fun b off u hu ho=>let ⟨h1,h2⟩:=h.pres b off u hu ho;k.pres b off u h2 h1
 blocks:=fun b hb hn ht=>(k.blocks b (TB hb h.size) (fun i hi=>by
   by_cases hi0:i<σ0.bx.length
   ·rw [h.beta i hi0];exact hn i hi0
   ·have:=h.fresh i (by omega) hi;omega) (fun t htm p hp=>by
   rcases h.ftok t htm p hp with h1 | ⟨t0,ht0,p0,hp0,h1⟩
   ·omega
   ·rw [← h1];exact ht t0 ht0 p0 hp0)).trans (h.blocks b hb hn ht)
 size:=Sc h.size k.size
 os:=k.os.trans h.os
 tape:=k.tape.trans h.tape
 output:=k.output.trans h.output
 fresh:=fun i h1 h2=>by
  by_cases hi:i<σ1.bx.length
  ·rw [k.beta i hi];exact h.fresh i h1 hi
  ·exact Sc h.size (k.fresh i (by omega) h2)
 ftok:=fun t ht p hp=>by
  rcases k.ftok t ht p hp with h1 | ⟨t1,ht1,p1,hp1,h1⟩
  ·exact .inl (Sc h.size h1)
  ·rcases h.ftok t1 ht1 p1 hp1 with h2 | ⟨t0,ht0,p0,hp0,h2⟩
   ·exact .inl (by rw [← h1];exact h2)
   ·exact .inr ⟨t0,ht0,p0,hp0,h2.trans h1⟩
theorem Stepped.refl (e:Env) (σ:St) (w:World):Stepped e σ w e σ w:={ Later.refl e σ w with nx:=Tp _,toks:=fun _ _ h=>⟨h,rfl⟩,own:=fun _ _ _ _ _ _=>rfl }
theorem Owned.step {G:GE} {e:Env} {σ:St} {w:World} {e':Env} {σ':St} {w':World} {t el:Nat} {rows:List (List D)} {v:Value} (h:Owned G e w t el rows v)
  (hs:Stepped e σ w e' σ' w') (hn:t<σ.nx) (ht:t∈σ'.tk):Owned G e' w' t el rows v:=by
 rcases h with ⟨rfl,hr,hm⟩ | ⟨sz,h1,h2,h3,b,off,cap,cs,ty,fz,rfl,hb,hc,hh,hsz,hfz,hm⟩
 ·exact .inl ⟨rfl,hr,(hs.toks t hn ht).2.trans hm⟩
 ·exact .inr ⟨sz,h1,h2,h3,b,off,cap,cs,ty,fz,rfl,hb,hc,(hs.own t hn ht _ hm (Tn.1 hh).1).trans hh,hsz,hfz,(hs.toks t hn ht).2.trans hm⟩
theorem VRel.step {G:GE} {e:Env} {σ:St} {w:World} {e':Env} {σ':St} {w':World} {x:PV} {v:Value} (h:VRel G e σ w x v) (hs:Stepped e σ w e' σ' w'):VRel G e' σ' w' x v:=by
 induction h with
 | d x v h=>exact .d x v (h.later hs.toLater)
 | undef v=>exact .undef v
 | ptr b off h=>rw [← hs.beta b h];exact .ptr b off (TB h hs.len)
 | elem r off b o u hc ho hu =>
  exact .elem r off b o u (fun j hj=>(hs.pres b _ _ (hc j hj) (ho j hj)).2) (fun j hj=>(hs.pres b _ _ (hc j hj) (ho j hj)).1)
   (fun j x hx=>(hu j x hx).later hs.toLater)
 | sl t el rows v hn hd ht=>exact .sl t el rows v (TB hn hs.nx) (hd.later hs.toLater) fun h=>(ht (hs.toks t hn h).1).step hs hn h
 | nils el=>exact .nils el
 | asl b off n h=>rw [← hs.beta b h];exact .asl b off n (TB h hs.len)
 | func f a c va vc ha hc _ _ ih1 ih2=>exact .func f a c va vc ha hc ih1 ih2
 | iface t x v _ ih=>exact .iface t x v ih
 | agg cs vs hs' _ h1 ih=>exact .agg cs vs hs' ih h1
 | tuple cs vs hs' _ ih=>exact .tuple cs vs hs' ih
 | raw v=>exact .raw v
def BRel (G:GE) (e:Env) (σ:St) (w:World):Box→Nat→Prop
 | .cells t cs,b=>∃vs:Array Value,w.heap[b]?=some (.cells vs t (0,0))∧vs.size=cs.length∧∀(i:Nat) (x:PV) (u:Value),cs[i]?=some x→vs[i]?=some u→VRel G e σ w x u∧u.oneCell'=true
 | .iter s pos,b=>w.heap[b]?=some (.stringIter ⟨s.toArray⟩ pos)
 | .loop st pd r,b=>w.heap[b]?=some (.loop { r with state:=st,pending:=pd })
structure SRel (G:GE) (e:Env) (σ:St) (w:World):Prop where
 inj:∀i j,i<σ.bx.length→j<σ.bx.length→e.β i=e.β j→i=j
 box:∀i x,σ.bx[i]?=some x→BRel G e σ w x (e.β i)
 low:∀i,i<σ.bx.length→G.nG≤e.β i
 tkn:∀t,t∈σ.tk→t<σ.nx
 own:∀t,t∈σ.tk→∀p,e.M t=some p→G.nG≤p.1∧(∀i,i<σ.bx.length→e.β i≠p.1)∧∃cs ty fz,w.heap[p.1]?=some (.cells cs ty fz)
 dis:∀t t',t∈σ.tk→t'∈σ.tk→t≠t'→∀p p',e.M t=some p→e.M t'=some p'→p.1≠p'.1
 xlt:∀b off,e.X b off→b<w.heap.size
 xown:∀t,t∈σ.tk→∀p,e.M t=some p→∀off,p.2≤off→¬e.X p.1 off
 glob:∀b,b<G.nG→w.heap[b]?=G.w0.heap[b]?
 big:G.nG≤w.heap.size
theorem SRel.lt {G:GE} {e:Env} {σ:St} {w:World} (h:SRel G e σ w) {i:Nat} (hi:i<σ.bx.length):e.β i<w.heap.size:=by
 have:=h.box i _ (Th hi)
 generalize σ.bx[i]=x at this
 cases x with
 | cells t cs=>obtain ⟨vs,hv,_⟩:=this;exact (Tn.1 hv).1
 | iter s p=>exact (Tn.1 this).1
 | loop st pd r=>exact (Tn.1 this).1
theorem BRel.step {G:GE} {e:Env} {σ:St} {w:World} {e':Env} {σ':St} {w':World} {x:Box} {b:Nat} (h:BRel G e σ w x b) (hs:Stepped e σ w e' σ' w') (hb:w'.heap[b]?=w.heap[b]?):BRel G e' σ' w' x b:=by
 cases x with
 | cells t cs =>
  obtain ⟨vs,h1,h2,h3⟩:=h
  exact ⟨vs,hb.trans h1,h2,fun i x u hx hu=>⟨(h3 i x u hx hu).1.step hs,(h3 i x u hx hu).2⟩⟩
 | iter s p=>exact Eq.trans hb h
 | loop st pd r=>exact Eq.trans hb h
def FRel (G:GE) (e:Env) (σ:St) (w:World) (f:Frame) (tmps:Array Value):Prop:=∀i,VRel G e σ w (f i) (tmps.getD i Go.undef)
theorem FRel.step {G:GE} {e:Env} {σ:St} {w:World} {e':Env} {σ':St} {w':World} {f:Frame} {tmps:Array Value} (h:FRel G e σ w f tmps) (hs:Stepped e σ w e' σ' w'):FRel G e' σ' w' f tmps :=
 fun i=>(h i).step hs
theorem Yn (f:Frame) (i:Nat) (v:PV):U6 f i v i=v:=by simp [U6]
theorem Xs (f:Frame) {i j:Nat} (v:PV) (h:i≠j):U6 f i v j=f j:=by
 have:Nat.beq i j=false:=by
  cases h':Nat.beq i j
  ·rfl
  ·exact absurd (Tm h') h
 simp [U6,this]
def Ye (f:Frame) (d:Option Nat) (v:PV):Frame:=match d with | some i=>U6 f i v | none=>f
theorem FRel.put {G:GE} {e:Env} {σ:St} {w:World} {f:Frame} {a:Act} (h:FRel G e σ w f a.tmps) {d:Option Nat} {x:PV} {v:Value} (hv:VRel G e σ w x v) (hd:∀i,d=some i→i<a.tmps.size) :
  FRel G e σ w (Ye f d x) (a.put d v).tmps:=by
 cases d with
 | none=>exact h
 | some i =>
  intro j
  have hi:=hd i rfl
  simp only [Act.put,Ye]
  by_cases hij:i=j
  ·subst hij
   rw [Yn]
   simpa [hi] using hv
  ·rw [Xs f x hij]
   have:=h j
   simpa [TX,hij] using this
theorem Zbo (G:GE) (e:Env) (σ:St) (w:World) (v:Value):VRel G e σ w (Zb2 v) v:=by
 unfold Zb2
 split
 ·exact .d _ _ (.bool _)
 ·exact .d _ _ (.int _ _)
 ·rename_i s;exact .d _ _ (.str _)
 ·exact .d _ _ .nilp
 ·exact .nils 0
 ·exact .d _ _ .nilf
 ·exact .d _ _ .nili
 ·exact .raw _
theorem ZkX {v:Value} (h:ZwB v=true):v.oneCell'=true:=by cases v <;> first | rfl | (simp [ZwB] at h)
theorem Zhp (G:GE) (e:Env) (σ:St) (w:World) (v:Value):VRel G e σ w (Zhk v) v:=by
 unfold Zhk
 split
 ·rename_i cs
  split
  ·rename_i h
   refine .agg _ cs (by simp) (fun i x u hx hu=>?_) fun u hu=>ZkX (Tl.1 h u (Array.mem_toList_iff.2 hu))
   rw [TH,Tu,hu] at hx
   cases hx
   exact Zbo G e σ w u
  ·exact .raw _
 ·exact Zbo G e σ w v
theorem U9 {G:GE} {e:Env} {σ:St} {w:World} {f:Frame} {a:Act} (h:FRel G e σ w f a.tmps) (x:Operand):VRel G e σ w (ev f x) (a.eval x):=by
 cases x with
 | tmp t=>exact h t
 | const v=>exact Zhp G e σ w v
 | global g=>exact .undef _
 | func g=>exact .func g [] [] #[] #[] rfl rfl (fun i x u hx=>by simp at hx) (fun i x u hx=>by simp at hx)
end Go.PM
end
