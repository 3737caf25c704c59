/- A part of the proof: plain logic, contracts and laws over the given program. -/
set_option linter.unusedVariables false
set_option linter.unusedSimpArgs false
set_option linter.all false
set_option maxRecDepth 100000
set_option maxHeartbeats 16000000
section
theorem Ta:type_of% @Nat.le_of_ble_eq_true:=@Nat.le_of_ble_eq_true
theorem Tb.{u}:type_of% @List.length_append.{u}:=@List.length_append
theorem Tc.{u}:type_of% @if_neg.{u}:=@if_neg
theorem Td.{u}:type_of% @List.length_cons.{u}:=@List.length_cons
theorem Te.{u}:type_of% @List.length_nil.{u}:=@List.length_nil
theorem Tf.{u}:type_of% @if_pos.{u}:=@if_pos
theorem Tg.{u}:type_of% @List.getElem?_eq_getElem.{u}:=@List.getElem?_eq_getElem
theorem Th.{u}:type_of% @List.getElem?_eq_some_iff.{u}:=@List.getElem?_eq_some_iff
theorem Ti.{u,v}:type_of% @List.length_map.{u,v}:=@List.length_map
theorem Tj:type_of% @Int.toNat_natCast:=@Int.toNat_natCast
theorem Tk.{u}:type_of% @List.length_drop.{u}:=@List.length_drop
theorem Tl:type_of% @Bool.and_eq_true:=@Bool.and_eq_true
theorem Tm:type_of% @Nat.eq_of_beq_eq_true:=@Nat.eq_of_beq_eq_true
theorem Tn.{u}:type_of% @List.forall_mem_singleton.{u}:=@List.forall_mem_singleton
theorem To.{u}:type_of% @List.append_assoc.{u}:=@List.append_assoc
theorem Tp.{u}:type_of% @Array.getElem?_eq_some_iff.{u}:=@Array.getElem?_eq_some_iff
theorem Tq:type_of% @Nat.le_refl:=@Nat.le_refl
theorem Tr:type_of% @Bool.false_eq_true:=@Bool.false_eq_true
theorem Tt.{u}:type_of% @List.mem_cons.{u}:=@List.mem_cons
theorem Tu.{u}:type_of% @List.drop_drop.{u}:=@List.drop_drop
theorem Tv.{u}:type_of% @List.all_eq_true.{u}:=@List.all_eq_true
theorem Tw.{u}:type_of% @List.mem_cons_of_mem.{u}:=@List.mem_cons_of_mem
theorem Tx.{u}:type_of% @Array.getElem?_toList.{u}:=@Array.getElem?_toList
theorem Tz.{u}:type_of% @List.drop_eq_nil_of_le.{u}:=@List.drop_eq_nil_of_le
theorem TA.{u}:type_of% @Array.getElem?_eq_getElem.{u}:=@Array.getElem?_eq_getElem
theorem TB.{u}:type_of% @List.length_singleton.{u}:=@List.length_singleton
theorem TC:type_of% @decide_eq_true:=@decide_eq_true
theorem TD:type_of% @Nat.lt_of_lt_of_le:=@Nat.lt_of_lt_of_le
theorem TE:type_of% @Bool.true_and:=@Bool.true_and
theorem TF.{u}:type_of% @List.getElem?_append_left.{u}:=@List.getElem?_append_left
theorem TG:type_of% @decide_eq_true_eq:=@decide_eq_true_eq
theorem TH.{u}:type_of% @Array.mem_def.{u}:=@Array.mem_def
theorem TJ.{u,v}:type_of% @List.map_cons.{u,v}:=@List.map_cons
theorem TL.{u,v}:type_of% @List.getElem?_map.{u,v}:=@List.getElem?_map
theorem TM.{u}:type_of% @List.drop_eq_getElem_cons.{u}:=@List.drop_eq_getElem_cons
theorem TN.{u}:type_of% @List.eq_nil_of_length_eq_zero.{u}:=@List.eq_nil_of_length_eq_zero
theorem TO:type_of% @Nat.le_trans:=@Nat.le_trans
theorem TP.{u}:type_of% @List.getElem_mem.{u}:=@List.getElem_mem
theorem TQ.{u}:type_of% @List.getElem?_append_right.{u}:=@List.getElem?_append_right
theorem TS.{u}:type_of% @List.getD_eq_getElem?_getD.{u}:=@List.getD_eq_getElem?_getD
theorem TT.{u}:type_of% @List.mem_append.{u}:=@List.mem_append
theorem TU:type_of% @Int.add_sub_cancel:=@Int.add_sub_cancel
theorem TV:type_of% @Bool.not_eq_true':=@Bool.not_eq_true'
theorem TW.{u}:type_of% @List.getElem_of_mem.{u}:=@List.getElem_of_mem
theorem TX.{u,v}:type_of% @List.map_nil.{u,v}:=@List.map_nil
theorem TY:type_of% @Nat.mul_le_mul_right:=@Nat.mul_le_mul_right
theorem TZ.{u}:type_of% @Array.getElem?_setIfInBounds.{u}:=@Array.getElem?_setIfInBounds
theorem T1.{u}:type_of% @List.getElem?_cons_succ.{u}:=@List.getElem?_cons_succ
theorem T2.{u}:type_of% @List.append_nil.{u}:=@List.append_nil
theorem T3:type_of% @Nat.zero_le:=@Nat.zero_le
theorem T4:type_of% @Bool.or_false:=@Bool.or_false
theorem T5.{u}:type_of% @List.mem_of_getElem?.{u}:=@List.mem_of_getElem?
theorem T6:type_of% @Bool.or_eq_false_iff:=@Bool.or_eq_false_iff
theorem T7:type_of% @Nat.zero_add:=@Nat.zero_add
theorem T8.{u}:type_of% @Array.mem_of_getElem?.{u}:=@Array.mem_of_getElem?
theorem T9:type_of% @Bool.or_eq_true:=@Bool.or_eq_true
theorem Sa:type_of% @Nat.add_zero:=@Nat.add_zero
theorem Sb:type_of% @Nat.add_assoc:=@Nat.add_assoc
theorem Sc:type_of% @Bool.false_and:=@Bool.false_and
theorem Sd:type_of% @Nat.add_mul:=@Nat.add_mul
theorem Se.{u}:type_of% @List.getD_cons_zero.{u}:=@List.getD_cons_zero
theorem Sf.{u}:type_of% @Array.length_toList.{u}:=@Array.length_toList
theorem Sg.{u}:type_of% @List.getElem?_eq_none.{u}:=@List.getElem?_eq_none
theorem Sh.{u}:type_of% @List.drop_zero.{u}:=@List.drop_zero
theorem Si.{u}:type_of% @List.take_zero.{u}:=@List.take_zero
theorem Sj.{u}:type_of% @List.contains_cons.{u}:=@List.contains_cons
theorem Sk.{u}:type_of% @List.take_length.{u}:=@List.take_length
theorem Sl.{u}:type_of% @List.length_take.{u}:=@List.length_take
theorem Sm.{u}:type_of% @List.takeWhile_cons.{u}:=@List.takeWhile_cons
theorem Sn.{u}:type_of% @List.not_mem_nil.{u}:=@List.not_mem_nil
theorem So:type_of% @Int.fdiv_eq_ediv_of_nonneg:=@Int.fdiv_eq_ediv_of_nonneg
theorem Sp.{u}:type_of% @List.contains_nil.{u}:=@List.contains_nil
theorem Sq.{u,v}:type_of% @List.map_congr_left.{u,v}:=@List.map_congr_left
theorem Sr.{u}:type_of% @List.getD_cons_succ.{u}:=@List.getD_cons_succ
theorem Ss.{u,v}:type_of% @Option.map_some.{u,v}:=@Option.map_some
theorem Su.{u}:type_of% @List.length_set.{u}:=@List.length_set
theorem Sv.{u}:type_of% @List.getElem?_drop.{u}:=@List.getElem?_drop
theorem Sw.{u}:type_of% @List.length_eq_zero_iff.{u}:=@List.length_eq_zero_iff
theorem Sx.{u}:type_of% @List.nil_append.{u}:=@List.nil_append
theorem Sy.{u,v}:type_of% @List.mem_map.{u,v}:=@List.mem_map
theorem Sz:type_of% @Nat.mul_comm:=@Nat.mul_comm
theorem SA:type_of% @Bool.false_or:=@Bool.false_or
theorem SB.{u}:type_of% @List.cons_append.{u}:=@List.cons_append
theorem SC.{u}:type_of% @List.any_cons.{u}:=@List.any_cons
theorem m0 {P:Prop} (h:P:=by
 conv=>whnf
 rw [Zga] at h
 refine ⟨L,ts,rfl,ho,hdp,fun x hx2=>?_⟩
 rcases x with ⟨v2,ts2⟩ | ⟨r2,e2⟩
 rotate_left
 ·exact m244
 rw [hx2,R.bind_ok] at h
 intro a2 hle2 ho2
 have hb2:=ho2.hi
 obtain ⟨v2a,v2b,v2c,v2d,v2e⟩:=v2
 conv=>whnf
 refine ⟨L,ts2,relWords,rfl,ho2,Or.inl ⟨rfl,rfl⟩,rfl,rfl,fun j hj ho3=>?_,fun hj=>?_⟩
 ·have hjl:=Zbc hj
  have hjl2:j<6:=by simpa [relWords] using hjl.2
  have hb3:=ho3.hi
  clear hjl
  rcases j with _ | j
  ·conv=>whnf
   refine oiB ?_
   conv=>whnf
   refine oiB ?_
   conv=>whnf
   refine ⟨L,ts2.tail,aggWords,rfl,ho3,Or.inr ⟨rfl,rfl⟩,rfl,rfl,fun m hm ho4=>?_,fun hm=>?_⟩
   ·rw [Ze1 hj hm,R.bind_ok] at h
    have hml:=Zbc hm
    have hml2:m<4:=by simpa [aggWords] using hml.2
    have hb4:=ho4.hi
    clear hml
    rcases m with _ | m
    ·conv=>whnf
     refine oiB ?_
     conv=>whnf
     refine oiB ?_
     conv=>whnf
     rw [Tf rfl] at h
     rw [XC,Tf (by omega)] at h
     refine ⟨L,ts2.tail.tail,rfl,ho4,fun x hx6=>?_⟩
     exact m185
    conv=>whnf
    refine oiB ?_
    conv=>whnf
    refine oiB ?_
    conv=>whnf
    refine ZAh (fun _=>?_) (fun g=>absurd g (by omega))
    conv=>whnf
    rw [Tc (by omega)] at h
    refine ⟨L,ts2.tail.tail,rfl,ho4,hdp,fun x hx5=>?_⟩
    rcases x with ⟨v5,ts5⟩ | ⟨r5,e5⟩
    rotate_left
    ·exact m235
    rw [hx5,R.bind_ok] at h
    intro a5 hle5 ho5
    have hb5:=ho5.hi
    obtain ⟨v5a,v5b,v5c,v5d,v5e⟩:=v5
    conv=>whnf
    refine ⟨rfl,rfl,Ta rfl,Ta rfl,?_⟩
    conv=>whnf
    repeat (refine ⟨rfl,?_⟩;conv=>whnf)
    refine ZAf (fun _=>?_) (fun g=>absurd g (by omega))
    conv=>whnf
    rw [XC,Tf (by omega)] at h
    refine ⟨L,ts5,rfl,ho5,fun x hx6=>?_⟩
    exact m185
   rw [Zht hj hm,R.bind_ok] at h
   conv=>whnf
   rw [Tc (by omega)] at h
   refine ⟨L,ts2.tail,rfl,ho3,hdp,fun x hx5=>?_⟩
   rcases x with ⟨v5,ts5⟩ | ⟨r5,e5⟩
   rotate_left
   ·exact m235
   rw [hx5,R.bind_ok] at h
   intro a5 hle5 ho5
   have hb5:=ho5.hi
   obtain ⟨v5a,v5b,v5c,v5d,v5e⟩:=v5
   conv=>whnf
   refine ⟨rfl,rfl,Ta rfl,Ta rfl,?_⟩
   conv=>whnf
   repeat (refine ⟨rfl,?_⟩;conv=>whnf)
   rw [XC,Tc (by omega)] at h
   exact h _ (by omega) ho5
  rw [Ze2 hj,R.bind_ok] at h
  conv=>whnf
  refine oiB ?_
  conv=>whnf
  refine oiB ?_
  conv=>whnf
  refine ZAf (fun g=>absurd g (by omega)) (fun _=>?_)
  conv=>whnf
  refine ZAh (fun _=>?_) (fun g=>absurd g (by omega))
  conv=>whnf
  rw [Tc (by omega)] at h
  refine ⟨L,ts2.tail,rfl,ho3,hdp,fun x hx5=>?_⟩
  rcases x with ⟨v5,ts5⟩ | ⟨r5,e5⟩
  rotate_left
  ·exact m235
  rw [hx5,R.bind_ok] at h
  intro a5 hle5 ho5
  have hb5:=ho5.hi
  obtain ⟨v5a,v5b,v5c,v5d,v5e⟩:=v5
  conv=>whnf
  refine ⟨rfl,rfl,Ta rfl,Ta rfl,?_⟩
  conv=>whnf
  repeat (refine ⟨rfl,?_⟩;conv=>whnf)
  refine ZAf (fun g=>absurd g (by omega)) (fun _=>?_)
  conv=>whnf
  rw [XC,Tc (by omega)] at h
  exact h _ (by omega) ho5
 conv=>whnf
 refine ⟨L,ts2,rfl,ho2,?_⟩
 conv=>whnf
 rw [ZcO hj,R.bind_err] at h
 exact h _ _):P:=h
theorem m1 {P:Prop} (h:P:=by
 conv=>whnf
 repeat (refine ⟨rfl,?_⟩;conv=>whnf)
 refine ⟨L,ts',rfl,ho',[[116,121,112,101]],rfl,by simp,fun b hw21=>?_⟩
 cases b with
 | true =>
  rw [Tf hw21] at h
  have ho2:=ho'.tl (ZN hw21)
  have hb2:=ho2.hi
  have hlen2:=ho2.len
  conv=>whnf
  refine ⟨L,ts',rfl,ho',fun g=>?_,fun g=>?_⟩
  ·exact m209
  have hne:¬tys.length=256:=by rw [Ti] at g;omega
  rw [Tc hne] at h
  conv=>whnf
  refine ⟨L,ts'.tail,rfl,ho2,fun x hx3=>?_⟩
  rcases x with ⟨v3,ts3⟩ | ⟨r3,e3⟩
  rotate_left
  ·exact m213
  rw [hx3,R.bind_ok] at h
  intro a3 hle3 ho3
  have hb3:=ho3.hi
  obtain ⟨v3a,v3b,v3c,v3d,v3e,v3f⟩:=v3
  conv=>whnf
  have hlen3:=ho3.len
  repeat (refine ⟨rfl,?_⟩;conv=>whnf)
  refine ⟨Tn.2 rfl,(show ((tys.map (Zhm (Ze L en))).length+1) * 96≤2 ^ 47 by rw [Ti];omega),(show (tys.map (Zhm (Ze L en))).length+1≤2 ^ 47 by rw [Ti];omega),?_⟩
  conv=>whnf
  repeat (refine ⟨rfl,?_⟩;conv=>whnf)
  refine ⟨⟨tys++[⟨v3a,v3b,v3c,v3d,v3e,v3f⟩],rels,rules,comps,inits,overs,a3,ts3,f,rfl,?_,ho3,by omega,by omega,?_,h⟩,?_⟩
  ·rw [← ZD (Zhm (Ze L en)) tys];rfl
  ·simp only [Tb,TB];omega
  exact m203
 | false =>
  rw [Tc (by rw [hw21];simp)] at h
  conv=>whnf
  refine ⟨L,ts',rfl,ho',[[100,101,99,108]],rfl,by simp,fun b hw22=>?_⟩
  cases b with
  | true =>
   rw [Tf hw22] at h
   have ho2:=ho'.tl (ZN hw22)
   have hb2:=ho2.hi
   have hlen2:=ho2.len
   conv=>whnf
   refine ⟨L,ts',rfl,ho',fun g=>?_,fun g=>?_⟩
   ·exact m209
   have hne:¬rels.length=256:=by rw [Ti] at g;omega
   rw [Tc hne] at h
   conv=>whnf
   refine ⟨L,ts'.tail,rfl,ho2,fun x hx3=>?_⟩
   rcases x with ⟨v3,ts3⟩ | ⟨r3,e3⟩
   rotate_left
   ·exact m213
   rw [hx3,R.bind_ok] at h
   intro a3 hle3 ho3
   have hb3:=ho3.hi
   obtain ⟨v3a,v3b,v3c,v3d,v3e,v3f⟩:=v3
   conv=>whnf
   have hlen3:=ho3.len
   repeat (refine ⟨rfl,?_⟩;conv=>whnf)
   refine ⟨Tn.2 rfl,(show ((rels.map (ZfN (Ze L en))).length+1) * 56≤2 ^ 47 by rw [Ti];omega),(show (rels.map (ZfN (Ze L en))).length+1≤2 ^ 47 by rw [Ti];omega),?_⟩
   conv=>whnf
   repeat (refine ⟨rfl,?_⟩;conv=>whnf)
   refine ⟨⟨tys,rels++[⟨v3a,v3b,v3c,v3d,v3e,v3f⟩],rules,comps,inits,overs,a3,ts3,f,rfl,?_,ho3,by omega,by omega,?_,h⟩,?_⟩
   ·rw [← ZD (ZfN (Ze L en)) rels];rfl
   ·simp only [Tb,TB];omega
   exact m203
  | false =>
   rw [Tc (by rw [hw22];simp)] at h
   conv=>whnf
   refine ⟨L,ts',rfl,ho',[[99,111,109,112]],rfl,by simp,fun b hw23=>?_⟩
   cases b with
   | true =>
    rw [Tf hw23] at h
    have ho2:=ho'.tl (ZN hw23)
    have hb2:=ho2.hi
    have hlen2:=ho2.len
    conv=>whnf
    refine ⟨L,ts',rfl,ho',fun g=>?_,fun g=>?_⟩
    ·exact m209
    have hne:¬comps.length=64:=by rw [Ti] at g;omega
    rw [Tc hne] at h
    conv=>whnf
    refine ⟨L,ts'.tail,rfl,ho2,hdp,fun x hx3=>?_⟩
    rcases x with ⟨v3,ts3⟩ | ⟨r3,e3⟩
    rotate_left
    ·exact m213
    rw [hx3,R.bind_ok] at h
    intro a3 hle3 ho3
    have hb3:=ho3.hi
    obtain ⟨v3a,v3b,v3c,v3d,⟨v3g,v3h,v3i,v3j,v3k,v3l⟩,v3f⟩:=v3
    conv=>whnf
    have hlen3:=ho3.len
    repeat (refine ⟨rfl,?_⟩;conv=>whnf)
    refine ⟨Tn.2 rfl,(show ((comps.map (ZfO (Ze L en))).length+1) * 232≤2 ^ 47 by rw [Ti];omega),(show (comps.map (ZfO (Ze L en))).length+1≤2 ^ 47 by rw [Ti];omega),?_⟩
    conv=>whnf
    repeat (refine ⟨rfl,?_⟩;conv=>whnf)
    refine ⟨⟨tys,rels,rules,comps++[.mk v3a v3b v3c v3d (.mk v3g v3h v3i v3j v3k v3l) v3f],inits,overs,a3,ts3,f,rfl,?_,ho3,by omega,by omega,?_,h⟩,?_⟩
    ·rw [← ZD (ZfO (Ze L en)) comps];rfl
    ·simp only [Tb,TB];omega
    exact m203
   | false =>
    rw [Tc (by rw [hw23];simp)] at h
    conv=>whnf
    refine ⟨L,ts',rfl,ho',[[105,110,105,116]],rfl,by simp,fun b hw24=>?_⟩
    cases b with
    | true =>
     rw [Tf hw24] at h
     have ho2:=ho'.tl (ZN hw24)
     have hb2:=ho2.hi
     have hlen2:=ho2.len
     conv=>whnf
     refine ⟨L,ts',rfl,ho',fun g=>?_,fun g=>?_⟩
     ·exact m209
     have hne:¬inits.length=256:=by rw [Ti] at g;omega
     rw [Tc hne] at h
     conv=>whnf
     refine ⟨L,ts'.tail,rfl,ho2,?_⟩
     conv=>whnf
     rw [Zd9] at h
     refine ⟨L,ts'.tail,rfl,ho2,fun x hx3=>?_⟩
     rcases x with ⟨v3,ts3⟩ | ⟨r3,e3⟩
     rotate_left
     ·rw [hx3,R.bind_err,R.bind_err] at h;intro a9 d9;(conv=>whnf);exact h _ _
     rw [hx3,R.bind_ok] at h
     intro a3 hle3 ho3
     have hb3:=ho3.hi
     conv=>whnf
     refine ⟨L,ts3,rfl,ho3,fun x hx4=>?_⟩
     rcases x with ⟨v4,ts4⟩ | ⟨r4,e4⟩
     rotate_left
     ·rw [hx4,R.bind_err,R.bind_err] at h;intro a9 d9;(conv=>whnf);exact h _ _
     rw [hx4,R.bind_ok] at h
     intro a4 hle4 ho4
     have hb4:=ho4.hi
     conv=>whnf
     refine ⟨L,ts4,rfl,ho4,fun x hx5=>?_⟩
     rcases x with ⟨v5,ts5⟩ | ⟨r5,e5⟩
     rotate_left
     ·rw [hx5,R.bind_err,R.bind_err] at h;intro a9 d9;(conv=>whnf);exact h _ _
     rw [hx5,R.bind_ok] at h
     intro a5 hle5 ho5
     have hb5:=ho5.hi
     conv=>whnf
     refine ⟨L,ts5,rfl,ho5,fun x hx6=>?_⟩
     rcases x with ⟨v6,ts6⟩ | ⟨r6,e6⟩
     rotate_left
     ·rw [hx6,R.bind_err,R.bind_err] at h;intro a9 d9;(conv=>whnf);exact h _ _
     rw [hx6,R.bind_ok] at h
     intro a6 hle6 ho6
     have hb6:=ho6.hi
     conv=>whnf
     rw [R.bind_ok] at h
     have hlen6:=ho6.len
     refine ⟨Tn.2 rfl,(show ((inits.map (ZiP (Ze L en))).length+1) * 64≤2 ^ 47 by rw [Ti];omega),(show (inits.map (ZiP (Ze L en))).length+1≤2 ^ 47 by rw [Ti];omega),?_⟩
     conv=>whnf
     repeat (refine ⟨rfl,?_⟩;conv=>whnf)
     refine ⟨⟨tys,rels,rules,comps,inits++[⟨v3,v5,v6,ts'.tail.length⟩],overs,a6,ts6,f,rfl,?_,ho6,by omega,by omega,?_,h⟩,?_⟩
     ·rw [← ZD (ZiP (Ze L en)) inits];rfl
     ·simp only [Tb,TB];omega
     show ((L.length:Int) - a6).toNat<((L.length:Int) - a').toNat
     omega
    | false =>
     rw [Tc (by rw [hw24];simp)] at h
     conv=>whnf
     refine ⟨L,ts',rfl,ho',[[111,118,101,114,114,105,100,101]],rfl,by simp,fun b hw25=>?_⟩
     cases b with
     | true =>
      rw [Tf hw25] at h
      have ho2:=ho'.tl (ZN hw25)
      have hb2:=ho2.hi
      have hlen2:=ho2.len
      conv=>whnf
      refine ⟨L,ts',rfl,ho',fun g=>?_,fun g=>?_⟩
      ·exact m209
      have hne:¬overs.length=256:=by rw [Ti] at g;omega
      rw [Tc hne] at h
      conv=>whnf
      refine ⟨L,ts'.tail,rfl,ho2,?_⟩
      conv=>whnf
      rw [ZfF] at h
      refine ⟨L,ts'.tail,rfl,ho2,fun x hx3=>?_⟩
      rcases x with ⟨v3,ts3⟩ | ⟨r3,e3⟩
      rotate_left
      ·rw [hx3,R.bind_err,R.bind_err] at h;intro a9 d9;(conv=>whnf);exact h _ _
      rw [hx3,R.bind_ok,R.bind_ok] at h
      intro a3 hle3 ho3
      have hb3:=ho3.hi
      have hlen3:=ho3.len
      conv=>whnf
      refine ⟨Tn.2 rfl,(show ((overs.map (ZiQ (Ze L en))).length+1) * 24≤2 ^ 47 by rw [Ti];omega),(show (overs.map (ZiQ (Ze L en))).length+1≤2 ^ 47 by rw [Ti];omega),?_⟩
      conv=>whnf
      repeat (refine ⟨rfl,?_⟩;conv=>whnf)
      refine ⟨⟨tys,rels,rules,comps,inits,overs++[⟨v3,ts'.tail.length⟩],a3,ts3,f,rfl,?_,ho3,by omega,by omega,?_,h⟩,?_⟩
      ·rw [← ZD (ZiQ (Ze L en)) overs];rfl
      ·simp only [Tb,TB];omega
      exact m203
     | false =>
      rw [Tc (by rw [hw25];simp)] at h
      conv=>whnf
      refine ⟨L,ts',rfl,ho',fun b hn=>?_⟩
      cases b with
      | false =>
       rw [Tc (by rw [hn];simp)] at h
       conv=>whnf
       refine ⟨L,ts',rfl,ho',?_⟩
       conv=>whnf
       exact h _ _
      | true =>
       rw [Tf hn] at h
       conv=>whnf
       refine ⟨L,ts',rfl,ho',fun g=>?_,fun g=>?_⟩
       ·exact m209
       have hne:¬rules.length=1024:=by rw [Ti] at g;omega
       rw [Tc hne] at h
       conv=>whnf
       refine oiO ?_
       conv=>whnf
       rw [show a'+1 - 1=a' by omega]
       refine ⟨L,ts',rfl,ho',hdp,fun x hx3=>?_⟩
       rcases x with ⟨v3,ts3⟩ | ⟨r3,e3⟩
       rotate_left
       ·exact m213
       rw [hx3,R.bind_ok] at h
       intro a3 hle3 ho3
       have hb3:=ho3.hi
       obtain ⟨v3a,v3b,v3c,v3d⟩:=v3
       conv=>whnf
       have hlen3:=ho3.len
       repeat (refine ⟨rfl,?_⟩;conv=>whnf)
       refine ⟨Tn.2 rfl,(show ((rules.map (Xj (Ze L en))).length+1) * 72≤2 ^ 47 by rw [Ti];omega),(show (rules.map (Xj (Ze L en))).length+1≤2 ^ 47 by rw [Ti];omega),?_⟩
       conv=>whnf
       repeat (refine ⟨rfl,?_⟩;conv=>whnf)
       refine ⟨⟨tys,rels,rules++[⟨v3a,v3b,v3c,v3d⟩],comps,inits,overs,a3,ts3,f,rfl,?_,ho3,by omega,by omega,?_,h⟩,?_⟩
       ·rw [← ZD (Xj (Ze L en)) rules];rfl
       ·simp only [Tb,TB];omega
       exact m203):P:=h
theorem m2 {P:Prop} (h:P:=by
 conv=>whnf
 refine ⟨by omega,by omega,by omega,?_⟩
 conv=>whnf
 have hcut:cut s (((a:Int)+2)).toNat ((e:Int)).toNat=Zd (s.drop a):=by rw [hst.2];congr 1 <;> omega
 refine ⟨true,⟨⟨?_,?_⟩,rfl,rfl⟩,fun h5 nn=>?_,fun h5=>?_⟩
 ·exact (congrArg (fun l:Bs=>l.all (Xx true)=true) hcut).mpr hall
 ·exact (congrArg (fun l:Bs=>l.length<4294967281) hcut).mpr (show _<_ by omega)
 ·have h5':Zd (s.drop a)=[]∨18446744073709551616≤XB 16 (Zd (s.drop a)):=by rw [← hcut];exact h5
  exact m194
 ·have h5':¬(Zd (s.drop a)=[]∨18446744073709551616≤XB 16 (Zd (s.drop a))):=by rw [← hcut];exact h5
  simp only [not_or] at h5'
  have hpr:=WK (s.drop (a+Zw (s.drop a)))
  have hpr':=WK (s.drop ((e:Int)).toNat)
  have hee:(pk (s.drop ((e:Int)).toNat)).1=(pk ((s.drop a).drop (Zw (s.drop a)))).1:=by rw [Tu,← hst.1];rfl
  have g6:ZJ (s.drop a)=if Zf (pk ((s.drop a).drop (Zw (s.drop a)))).1=true∨Zj (pk ((s.drop a).drop (Zw (s.drop a)))).1=true∨(Xc (s.drop a)=true∧16<(Zd (s.drop a)).length) then none else some (XB 16 (Zd (s.drop a))):=by
   unfold ZJ
   simp only [hx',if_true,Tr,if_false]
   rw [Tc h5'.1,Tc h5'.2]
  conv=>whnf
  refine ⟨⟨by omega,by omega⟩,?_⟩
  conv=>whnf
  refine ⟨⟨hpr'.1,by omega⟩,?_⟩
  conv=>whnf
  refine ZAi (fun h6=>?_) (fun h6=>?_)
  ·exact m234
  ·conv=>whnf
   refine ZAi (fun h7=>?_) (fun h7=>?_)
   ·exact m232
   ·have g7:¬Zf (pk ((s.drop a).drop (Zw (s.drop a)))).1=true∧¬Zj (pk ((s.drop a).drop (Zw (s.drop a)))).1=true:=by
     exact m223
    conv=>whnf
    refine oiO ?_
    conv=>whnf
    refine ZAf (fun h8=>?_) (fun h8=>?_)
    ·conv=>whnf
     (try (refine ⟨rfl,?_⟩;conv=>whnf))
     (try (refine ⟨rfl,?_⟩;conv=>whnf))
     exact hbad (by rw [g6,Tf (.inr (.inr ⟨hx',by omega⟩))])
    ·conv=>whnf
     have g9:=hgood _ (by rw [g6,Tc (by simp only [not_or];exact ⟨g7.1,g7.2,by omega⟩)])
     rw [← hst.1,← hcut] at g9
     exact Or.inr g9):P:=h
theorem m3 {P:Prop} (h:P:=by
 obtain ⟨cb',rest,as2,hv,hx2,hI2,hbl,hble,hbs⟩:=V6 hI1 hv
 have hnodup:=UX hnd
 have hbslt:∀b,b∈bs→b<σ.bx.length:=fun b hb=>by
  obtain ⟨k,hk,he⟩:=TW hb
  obtain ⟨x,hx,_⟩:=hcg k b (by rw [Tg hk,he])
  exact (Th.1 hx).1
 have backOf:∀(pe:PEnd) (σ3:St),(ZcA (UW bs bs.length σ.bx.length σ.nx) bs σ3.bx σ.bx fun bx=>K (Zha bs bs.length σ.bx.length σ.nx pe) (VO σ rest σ3 bx))→∃bx,Backed σ bs σ3 bx∧K (Zha bs bs.length σ.bx.length σ.nx pe) (VO σ rest σ3 bx):=fun pe σ3 hb=>by
  obtain ⟨bx,h1,h2,h3,h4,h5,h6⟩:=ZdU hnodup hbslt hb
  exact ⟨bx,⟨h2,h3,h4,h5,h6⟩,h1⟩
 refine ⟨hP.enters,fun ro n e w vs hS hargs=>?_⟩
 ·have hmemP:∀t,t∈as2.filterMap id↔some t∈as2:=fun t=>by simp
  have hpass:∀t,t∈as2.filterMap id→t∈σ.tk∧t∉rest:=fun t ht=>by
   obtain ⟨i,hi,he⟩:=TW ((hmemP t).1 ht)
   exact hI2.mem i t (by rw [Tg hi,he])
  have hH:Hand σ bs rest (as2.filterMap id) cb:=⟨hnodup,hcl,hcg,hI2.sub,hpass⟩
  have hS1:=hS.ren hH
  have hIP:NInv (as2.filterMap id) [] as2:=⟨(fun t ht=>by cases ht),(fun i t hi=>⟨(hmemP t).2 (T5 hi),by simp⟩),hI2.inj⟩
  have hn1:bs.length≤(St.mk cb (as2.filterMap id) σ.nx).bx.length:=Nat.le_of_eq hcl.symm
  have hS2:=ZaZ hS1 hn1 hIP hbl hbs
  have hD:=JC (e:=e.handed σ bs rest) hn1 hIP hbl
  have hA2:ArgsRel G ((e.handed σ bs rest).re as2) ⟨cb',toks as2.length,as2.length⟩ w args' vs:=by
   refine ⟨by rw [hargs.1,hal,YQ],fun i x u hx hu=>?_⟩
   have hi:=(Th.1 hx).1
   rw [hal] at hi
   have hy:=Tg hi
   obtain ⟨z,hz,hze⟩:=Ve i _ hy
   have h1:=(hargs.2 i z u hz hu).ren hS hH
   rw [← hze] at h1
   exact ((hav i _ x hy hx).ext hx2).rel hn1 hIP hbl h1
  have hHd:Handed e σ w bs rest ((e.handed σ bs rest).re as2) ⟨cb',toks as2.length,as2.length⟩:={
   nodup:=hnodup
   lt:=hbslt
   len:=hbl
   beta:=fun j b hj=>by simp [Env.re,Env.handed,hj]
   X:=rfl
   okc:=fun b off ho=>hD.okc b off (Zip hS hH ho)
   tok:=fun t ht p hp=>by
    obtain ⟨t0,h1,h2⟩:=hD.tok t ht p hp
    exact ⟨t0,(hpass t0 h1).1,(hpass t0 h1).2,h2⟩
   restIn:=hI2.sub }
  have hcall:=hP.calls _ _ _ hv n _ w vs hS2 hA2
  have hro:∀R,CallsIn (fw none) n G.P g vs w R→CallsIn (fw ro) n G.P g vs w R:=fun R h=>by
   cases ro with
   | none=>exact h
   | some l=>exact h.inRound l
  refine (hro _ hcall).mono fun en w' hA=>?_
  obtain ⟨pe,σ3,e3,hk,hE,hS3,hL⟩:=hA
  obtain ⟨bx,hB,hK⟩:=backOf pe σ3 hk
  refine ⟨_,_,e.back σ.bx.length bs.length σ.nx e3,hK,?_,hS.back hHd hS3 hL hB,VP hS hHd hS3 hL hB⟩
  cases pe with
  | ret x=>obtain ⟨v,rfl,hr⟩:=hE;exact ⟨v,rfl,hr.back hS hHd hL hB⟩
  | panic x=>obtain ⟨v,rfl,hr⟩:=hE;exact ⟨v,rfl,hr.back hS hHd hL hB⟩):P:=h
theorem m4 {P:Prop} (h:P:=by
 clear three no3
 conv=>whnf
 refine ZAf (fun h6=>?_) (fun h6=>?_)
 ·obtain rfl:op=1:=by omega
  conv=>whnf
  refine ⟨by omega,fun b hb=>?_⟩
  have hT:Z3 1 tx=b:=by rw [Z3,Tf (by decide)];exact hb
  rw [hT] at h
  cases b with
  | false =>
   exact m238
  | true =>
   rw [TE] at h
   exact m198
 conv=>whnf
 refine ZAf (fun h7=>?_) (fun h7=>?_)
 ·obtain rfl:op=7:=by omega
  conv=>whnf
  refine ⟨by omega,fun b hb=>?_⟩
  have hT:Z3 7 tx=b:=by rw [Z3,Tf (by decide)];exact hb
  rw [hT] at h
  cases b with
  | false =>
   exact m238
  | true =>
   rw [TE] at h
   exact m198
 conv=>whnf
 refine ZAf (fun h8=>?_) (fun h8=>?_)
 ·obtain rfl:op=4:=by omega
  have hT:Z3 4 tx=(WP tx).isSome:=by rw [Z3,Tc (by decide),Tf rfl]
  rw [hT] at h
  conv=>whnf
  refine ⟨by omega,fun hq=>?_,fun q hq=>?_⟩
  ·rw [hq] at h
   exact m238
  ·rw [hq,Option.isSome_some,TE] at h
   exact m198
 ·have hT:Z3 op tx=decide (tx=[]):=by rw [Z3,Tc (by omega),Tc (by omega)]
  rw [hT] at h
  conv=>whnf
  refine ZAf (fun ht=>?_) (fun ht=>?_)
  ·have e3:decide (tx=[])=true:=TC ht
   rw [e3,TE] at h
   exact m198
  ·have e3:decide (tx=[])=false:=decide_eq_false ht
   rw [e3] at h
   exact m238):P:=h
theorem m5 {P:Prop} (h:P:=by
 conv=>whnf
 refine ZAf (fun q1=>?_) (fun q1=>?_)
 ·conv=>whnf
  refine ZAf (fun q2=>?_) (fun q2=>?_)
  ·have q2:ar.length=2:=by have q2:((ZM pl ar).length:Int)=2:=q2;rw [har] at q2;omega
   conv=>whnf
   refine ZAh (fun q3=>?_) (fun q3=>?_)
   ·have q3:¬0<bo.length:=by have q3:¬((Xy pl bo).length:Int)>0:=q3;rw [hbo] at q3;omega
    have hL:ZY op rel ar.length bo.length=false:=by unfold ZY;rw [Tc (by omega),Tc (by omega),Tc (by omega),Tf (by omega)];rw [decide_eq_false (show ¬0<bo.length by omega)];simp
    conv=>whnf
    exact no (by rw [ZZ,hL];rfl)
   ·have q3:0<bo.length:=by have q3:((Xy pl bo).length:Int)>0:=q3;rw [hbo] at q3;omega
    have hL:ZY op rel ar.length bo.length=true:=by unfold ZY;rw [Tc (by omega),Tc (by omega),Tc (by omega),Tf (by omega)];rw [TC (show 0<bo.length by omega)];simp [q1,q2]
    exact m188
  ·have q2:¬ar.length=2:=by have q2:¬((ZM pl ar).length:Int)=2:=q2;rw [har] at q2;omega
   have hL:ZY op rel ar.length bo.length=false:=by unfold ZY;rw [Tc (by omega),Tc (by omega),Tc (by omega),Tf (by omega)];simp [q2]
   conv=>whnf
   exact no (by rw [ZZ,hL];rfl)
 ·have hL:ZY op rel ar.length bo.length=false:=by unfold ZY;rw [Tc (by omega),Tc (by omega),Tc (by omega),Tf (by omega)];simp [show ¬rel=[] from q1]
  conv=>whnf
  exact no (by rw [ZZ,hL];rfl)):P:=h
theorem m6 {P:Prop} (h:P:=by
 exact m188):P:=h
theorem m7 {P:Prop} (h:P:=by
 rw [hS3] at hmr
 intro fo fs fm fr fp a3 dp3 w3 pl3 ho3
 conv=>whnf
 refine ⟨⟨_,_,_,_,_,a3,dp3,w3,pl3,S3,rfl,rfl,ho3,hmr.le (by omega)⟩,?_⟩
 show (if w3=0 then ((L.length:Int) - a3).toNat+1 else 0)<(if w1=0 then ((L.length:Int) - a1).toNat+1 else 0)
 rw [Tf hw1]
 cases S3 with
 | bad e=>rw [Tc (by have:=ho3.1;have:=ho3.2.1;omega)];omega
 | ok d3 ts3 =>
  have hl3:=hmr.2.1
  have q9:=ho3.2.1.len
  rw [Tf ho3.1]
  omega):P:=h
theorem m8 {P:Prop} (h:P:=by
 conv=>whnf
 refine ZAf (fun h1=>?_) (fun h1=>?_)
 rotate_left
 ·exact m242
 conv=>whnf
 refine ZAf (fun h2=>?_) (fun h2=>?_)
 ·conv=>whnf
  refine ZAf (fun h3=>?_) (fun h3=>?_)
  ·exact m229
  conv=>whnf
  refine ZAf (fun h5=>?_) (fun h5=>?_)
  rotate_left
  ·exact m201
  have h5:a1=3:=by omega
  have hor:(decide (a3=0) || decide (a1=3))=true:=by simp [h5]
  exact m227
 conv=>whnf
 refine ZAf (fun h6=>?_) (fun h6=>?_)
 rotate_left
 ·exact m207
 have h6:(a4.length:Int)=a:=by rw [← hl4];exact h6
 conv=>whnf
 refine ZAf (fun h3=>?_) (fun h3=>?_)
 ·exact m228
 conv=>whnf
 refine ZAf (fun h5=>?_) (fun h5=>?_)
 rotate_left
 ·exact m201
 have h5:a1=3:=by omega
 have hor:(decide (a3=0) || decide (a1=3))=true:=by simp [h5]
 exact m226):P:=h
theorem m9 {P:Prop} (h:P:=by
 have hn38:¬(3≤a1∧a1≤8):=by omega
 conv=>whnf
 refine ZAf (fun hop9=>?_) (fun hop9=>?_)
 ·have h9:a1=9:=by omega
  conv=>whnf
  refine ZAf (fun hr=>?_) (fun hr=>?_)
  rotate_left
  ·have hlb:ZY a1 a2 a3.length a4.length=false:=by simp [ZY,h9,hr]
   exact m210
  conv=>whnf
  refine ZAf (fun hA=>?_) (fun hA=>?_)
  rotate_left
  ·have hA:¬a3.length=1:=fun g=>hA (by show ((ZM pl a3).length:Int)=1;rw [hl3,g];rfl)
   have hlb:ZY a1 a2 a3.length a4.length=false:=by simp [ZY,h9,hA]
   exact m210
  have hA:a3.length=1:=by have hA:((ZM pl a3).length:Int)=1:=hA;rw [hl3] at hA;omega
  conv=>whnf
  refine ZAf (fun hB=>?_) (fun hB=>?_)
  ·have hB:=hbd.1 hB
   have hlb:ZY a1 a2 a3.length a4.length=true:=by simp [ZY,h9,hr,hA,hB]
   exact m187
  ·have hB:¬0<a4.length:=fun g=>hB (hbd.2 g)
   have hlb:ZY a1 a2 a3.length a4.length=false:=by simp only [ZY,h9,hr,hA,decide_eq_false hB];simp
   exact m210
 have hn9:¬a1=9:=by omega
 conv=>whnf
 refine ZAf (fun hg9=>?_) (fun hg9=>?_)
 ·conv=>whnf
  refine ZAf (fun hl12=>?_) (fun hl12=>?_)
  ·have h12:9<a1∧a1≤12:=by omega
   conv=>whnf
   refine ZAf (fun hr=>?_) (fun hr=>?_)
   rotate_left
   ·have hlb:ZY a1 a2 a3.length a4.length=false:=by simp [ZY,hn12,hn38,hn9,h12,hr]
    exact m210
   conv=>whnf
   refine ZAf (fun hA=>?_) (fun hA=>?_)
   rotate_left
   ·have hA:¬a3.length=2:=fun g=>hA (by show ((ZM pl a3).length:Int)=2;rw [hl3,g];rfl)
    have hlb:ZY a1 a2 a3.length a4.length=false:=by simp [ZY,hn12,hn38,hn9,h12,hA]
    exact m210
   have hA:a3.length=2:=by have hA:((ZM pl a3).length:Int)=2:=hA;rw [hl3] at hA;omega
   conv=>whnf
   refine ZAf (fun hB=>?_) (fun hB=>?_)
   ·have hB:=hbd.1 hB
    have hlb:ZY a1 a2 a3.length a4.length=true:=by simp [ZY,hn12,hn38,hn9,h12,hr,hA,hB]
    exact m187
   ·have hB:¬0<a4.length:=fun g=>hB (hbd.2 g)
    have hlb:ZY a1 a2 a3.length a4.length=false:=by simp only [ZY,hn12,hn38,hn9,h12,hr,hA,decide_eq_false hB];simp
    exact m210
  ·exact m246
 exact m246):P:=h
theorem m10 {P:Prop} (h:P:=by
 have ends:∀{f':Frame} {tm:Array Value} {e':Env} {σ':St} {w':World},SRel G e' σ' w'→FRel G e' σ' w' f' tm→Later e σ w e' σ' w' →
   (pres T f' σ'.bx fn.results.toList fun vs=>ZaS keep own (Ju vs) σ' fun v σ''=>K (.ret v) σ'')→∃v,(results fn tm).run G.P w'=.ok v w'∧YH G e σ w K (.returned v) w':=fun h1 h2 h3 hl=>by
  obtain ⟨pvs,r,hlv,hr,hvr⟩:=X7 (C:=ctx T tbl loops) hT h1 h2 hl
  obtain ⟨pv',σ2,e2,hK,hv2,hS2,hL2⟩:=XK h1 h3 hk hvr hlv
  exact ⟨r,hr,.ret pv',σ2,e2,hK,⟨r,rfl,hv2⟩,hS2,hL2⟩
 rcases hp with ⟨pe,f',e',σ',hq,hx,h1,h2,h3,h4,⟨_,rs,h5,h5f,_⟩,h6⟩ | ⟨fa,va,vc,e1,σ1,w1,hL1,hfa,pe,f',e',σ',hq,hx,h1,h2,h3,h4,⟨_,rs,h5,h5f,_⟩,h6⟩
 ·have hd0:a'.defers=[]:=by rw [h5,h5f rfl];rfl
  cases pe with
  | normal=>obtain rfl:x=.normal:=hx;show LeavesIn _ _ _ _ _ _ _ _ _;rw [hd0];exact ends h1 h2 h3 hq
  | ret=>obtain rfl:x=.ret:=hx;show LeavesIn _ _ _ _ _ _ _ _ _;rw [hd0];exact ends h1 h2 h3 hq
  | panic p =>
   obtain ⟨v,rfl,hv⟩:=hx
   show LeavesIn _ _ _ _ _ _ _ _ _
   rw [hd0]
   obtain ⟨pv',σ2,e2,hK,hv2,hS2,hL2⟩:=XK h1 h3 hk hv hq
   exact ⟨.panic pv',σ2,e2,hK,⟨v,rfl,hv2⟩,hS2,hL2⟩
  | exit id=>exact hq.elim
  | goto l=>exact hq.elim
 ·have hd0:a'.defers=[ZR g0 va vc]:=by rw [h5,h5f rfl];rfl
  have hL2:Later e σ w e' σ' w':=hL1.trans h3
  have hinv:(invoke (ZR g0 va vc).target (ZR g0 va vc).args).run G.P w'=.ok (.enter g0 (va++vc)) w':=by
   show (callFunc g0 (va++vc)).run G.P w'=_
   exact hd.enters _ _
  have after:∀{e2:Env} {σ2:St} {w2:World},SRel G e2 σ2 w2→Later e' σ' w' e2 σ2 w2→(pres T (Jk f') σ2.bx fn.results.toList fun vs=>ZaS keep own (Ju vs) σ2 fun v σ''=>K (.ret v) σ'')→∃v,(results fn a'.tmps).run G.P w2=.ok v w2∧YH G e σ w K (.returned v) w2 :=
   fun h1' hL' hl=>ends h1' (h2.clean hL') (hL2.trans hL') hl
  have hfa':ArgsRel G e' σ' w' (XR fa) (va++vc):=hfa.clean h3
  have go:∀u,u≠.run→CallsDIn (fw none) (n - 1) G.P g0 (va++vc) u w' (fun
    | .returned _,u',w'=>LeavesIn (fw none) n G.P fn a'.tmps (YH G e σ w K) [] (settle u') w'
    | .panicked chain,u',w'=>LeavesIn (fw none) n G.P fn a'.tmps (YH G e σ w K) [] (raised u' chain) w'
    | .outgrown,_,w'=>YH G e σ w K .outgrown w')→LeavesIn (fw none) n G.P fn a'.tmps (YH G e σ w K) [ZR g0 va vc] u w':=fun u hu hc =>
   ⟨hu,(fun h=>by cases h),.func g0,vc,g0,va++vc,rfl,hinv,fun _ _=>trivial,hc⟩
  cases pe with
  | normal =>
   obtain rfl:x=.normal:=hx
   exact m218
  | ret =>
   obtain rfl:x=.ret:=hx
   exact m218
  | panic p =>
   obtain ⟨v,rfl,hv⟩:=hx
   show LeavesIn _ _ _ _ _ _ _ _ _
   rw [hd0]
   refine go _ (by simp) ((hd.pan _ _ _ _ hq _ _ _ _ v h1 hfa' hv).mono fun en u2 w2 hh=>?_)
   obtain ⟨rfl,⟨r,rfl⟩,σ2,e2,hK,hS2,hL'⟩:=hh
   exact after hS2 hL' hK
  | exit id=>exact hq.elim
  | goto l=>exact hq.elim):P:=h
theorem m11 {P:Prop} (h:P:=by
 obtain ⟨hlt,hstep⟩:=hcr.step hi
 conv=>whnf
 refine ZAf (fun h0=>?_) (fun h0=>?_)
 ·rw [Tf h0] at hlt hstep
  conv=>whnf
  refine ⟨L,S2,rfl,ho2,fun S3 hS3=>?_⟩
  rw [hS3] at hlt hstep
  intro a3 dp3 w3 pl3 ho3
  conv=>whnf
  refine ⟨L,_,rfl,ho3,0,rfl,by omega,fun d ts hq=>Or.inl (hlt d ts hq),fun S4 hS4=>?_⟩
  exact m191
 ·rw [Tc h0] at hlt hstep
  conv=>whnf
  refine ⟨L,_,rfl,ho2,0,rfl,by omega,fun d ts hq=>Or.inl (hlt d ts hq),fun S4 hS4=>?_⟩
  exact m191):P:=h
theorem m12 {P:Prop} (h:P:=by
 conv=>whnf
 refine ⟨by omega,by omega,by omega,?_⟩
 conv=>whnf
 have hcut:cut s ((a:Int)).toNat ((e:Int)).toNat=Zd (s.drop a):=by rw [hst.2];congr 1 <;> omega
 refine ⟨false,⟨⟨?_,?_⟩,rfl,rfl⟩,fun h5 nn=>?_,fun h5=>?_⟩
 ·exact (congrArg (fun l:Bs=>l.all (Xx false)=true) hcut).mpr hall
 ·exact (congrArg (fun l:Bs=>l.length<4294967281) hcut).mpr (show _<_ by omega)
 ·have h5':Zd (s.drop a)=[]∨9223372036854775808≤XB 10 (Zd (s.drop a)):=by rw [← hcut];exact h5
  exact m194
 ·have h5':¬(Zd (s.drop a)=[]∨9223372036854775808≤XB 10 (Zd (s.drop a))):=by rw [← hcut];exact h5
  simp only [not_or] at h5'
  have hpr:=WK (s.drop (a+Zw (s.drop a)))
  have hpr':=WK (s.drop ((e:Int)).toNat)
  have hee:(pk (s.drop ((e:Int)).toNat)).1=(pk ((s.drop a).drop (Zw (s.drop a)))).1:=by rw [Tu,← hst.1];rfl
  have g6:ZJ (s.drop a)=if Zf (pk ((s.drop a).drop (Zw (s.drop a)))).1=true∨Zj (pk ((s.drop a).drop (Zw (s.drop a)))).1=true∨(Xc (s.drop a)=true∧16<(Zd (s.drop a)).length) then none else some (XB 10 (Zd (s.drop a))):=by
   unfold ZJ
   simp only [hx',if_true,Tr,if_false]
   rw [Tc h5'.1,Tc h5'.2]
  conv=>whnf
  refine ⟨⟨by omega,by omega⟩,?_⟩
  conv=>whnf
  refine ⟨⟨hpr'.1,by omega⟩,?_⟩
  conv=>whnf
  refine ZAi (fun h6=>?_) (fun h6=>?_)
  ·exact m234
  ·conv=>whnf
   refine ZAi (fun h7=>?_) (fun h7=>?_)
   ·exact m232
   ·have g7:¬Zf (pk ((s.drop a).drop (Zw (s.drop a)))).1=true∧¬Zj (pk ((s.drop a).drop (Zw (s.drop a)))).1=true:=by
     exact m223
    conv=>whnf
    have g9:=hgood _ (by rw [g6,Tc (by simp only [not_or];exact ⟨g7.1,g7.2,by rw [hx'];simp⟩)])
    rw [← hst.1,← hcut] at g9
    exact Or.inr g9):P:=h
theorem m13 {P:Prop} (h:P:=by
 conv=>whnf
 refine ZAf (fun h1=>?_) (fun h1=>?_)
 rotate_left
 ·exact m242
 conv=>whnf
 refine ZAf (fun h2=>?_) (fun h2=>?_)
 ·exact m193
 conv=>whnf
 refine ZAf (fun h6=>?_) (fun h6=>?_)
 rotate_left
 ·exact m207
 have h6:(a4.length:Int)=a:=by rw [← hl4];exact h6
 exact m193):P:=h
theorem m14 {P:Prop} (h:P:=by
 conv=>whnf
 have her:=PRg.next (by omega) ZfA (fun d ts hs=>Zbm hs) hpr
 have hk:=ZAt (by omega) hpr
 refine ⟨L,_,rfl,ho5,⟨PRg.lt hpr,fun S6 hS6=>?_⟩⟩
 rw [hS6] at her
 intro eo es ea eb ep a6 dp6 w6 pl6 ho6
 conv=>whnf
 refine ⟨Tn.2 rfl,(show (rows.length+1) * 80≤2 ^ 47 by omega),(show rows.length+1≤2 ^ 47 by omega),?_⟩
 conv=>whnf
 refine ⟨L,_,rfl,ho6,0,rfl,by omega,fun b hb6=>?_⟩
 intro a7 dp7 w7 pl7 ho7
 cases b with
 | true =>
  have hmr:=her.more hb6
  cases S6 with
  | bad e=>cases hb6
  | ok d6 ts6 =>
   have hb6:isW ts6 [[44]]=true:=hb6
   obtain ⟨rfl,hr6,hdp6,hd6⟩:=ho7
   have hr7:=hr6.tlq (ZN hb6)
   have q1:=hr7.lo
   have q2:=hr7.hi
   have q3:=hr7.len
   exact m195
 | false =>
  have hst:=her.stop hb6
  subst hst
  conv=>whnf
  exact h _ _ _ _ _ ho7):P:=h
theorem m15 {P:Prop} (h:P:=by
 exact m187):P:=h
theorem m16 {P:Prop} (h:P:=by
 have hlow:=ZiG hd (by omega)
 conv=>whnf
 refine ZAf (fun g1=>?_) (fun g1=>?_)
 ·conv=>whnf
  refine ZAf (fun g2=>?_) (fun g2=>?_)
  ·conv=>whnf
   refine oiB ?_
   conv=>whnf
   refine oiB ?_
   have hD:(Zbo b:Int)=Zk .or .u8 (b.toNat:Int) 32 - 97+10:=by omega
   conv=>whnf
   refine oiB ?_
   conv=>whnf
   refine ZAf (fun h6=>?_) (fun h6=>?_)
   ·omega
   ·conv=>whnf
    refine ZAf (fun h7=>?_) (fun h7=>?_)
    ·exact m236
    ·conv=>whnf
     refine oiU ?_
     conv=>whnf
     refine oiU ?_
     conv=>whnf
     refine oiU ?_
     conv=>whnf
     by_cases hbig:(N:Int) * 16+(Zk .or .u8 (b.toNat:Int) 32 - 97+10)≤18446744073709551615
     ·refine oiU ?_
      conv=>whnf
      refine ZAf (fun h8=>?_) (fun h8=>?_)
      ·omega
      ·conv=>whnf
       refine ZAf (fun h9=>?_) (fun h9=>?_)
       ·exact m236
       ·conv=>whnf
        refine oiO ?_
        conv=>whnf
        refine ⟨⟨rfl,i+1,?_,by omega,by omega⟩,?_⟩
        ·have e:((XB 16 (l.take (i+1)):Nat):Int)=(N:Int) * 16+(Zk .or .u8 (b.toNat:Int) 32 - 97+10):=by omega
         rw [e];rfl
        ·exact m225
     ·have hw:IntKind.u64.wrap ((N:Int) * 16+(Zk .or .u8 (b.toNat:Int) 32 - 97+10))=(N:Int) * 16+(Zk .or .u8 (b.toNat:Int) 32 - 97+10) - 18446744073709551616:=by
       exact m240
      exact m233
  ·omega
 ·omega):P:=h
theorem m17 {P:Prop} (h:P:=by
 have g:K (.ret (.sl 0 5 (rows++[[D.int .u8 (Zk .or .u8 224 (IntKind.u8.wrap (c.fdiv (2 ^ min (Int.toNat 12) IntKind.i32.bits))))],[D.int .u8 (Zk .or .u8 128 (Zk .and .u8 (IntKind.u8.wrap (c.fdiv (2 ^ min (Int.toNat 6) IntKind.i32.bits))) 63))],[D.int .u8 (Zk .or .u8 128 (Zk .and .u8 (IntKind.u8.wrap (c)) 63))]]))) ⟨[],[0],1⟩:=by
  have e:Zi (Lib.encodeRune c)=[[D.int .u8 (Zk .or .u8 224 (IntKind.u8.wrap (c.fdiv (2 ^ min (Int.toNat 12) IntKind.i32.bits))))],[D.int .u8 (Zk .or .u8 128 (Zk .and .u8 (IntKind.u8.wrap (c.fdiv (2 ^ min (Int.toNat 6) IntKind.i32.bits))) 63))],[D.int .u8 (Zk .or .u8 128 (Zk .and .u8 (IntKind.u8.wrap (c)) 63))]]:=by
   rw [Vl,Lib.encodeRuneZ_three (by omega)]
   simp only [e6,e12,e18,wu8,TJ,TX]
   rw [ZzE (by omega) (by omega),a63 (by omega) (by omega),a63 (by omega) (by omega),Ztq (by omega) (by omega),Ztq (by omega) (by omega),show c / 4096 % 256=c / 4096 by omega,show c / 64 % 256 % 64=c / 64 % 64 by omega,show c % 256 % 64=c % 64 by omega]
   all_goals (try omega)
   (try (congr 1 <;> omega))
  rw [e] at h;exact h
 conv=>whnf
 refine ⟨by decide,?_⟩
 conv=>whnf
 refine Or.inr ?_
 conv=>whnf
 refine ⟨by decide,?_⟩
 conv=>whnf
 refine Or.inr ?_
 conv=>whnf
 refine Or.inr ?_
 exact m220):P:=h
theorem m18 {P:Prop} (h:P:=by
 exact m195):P:=h
theorem m19 {P:Prop} (h:P:=by
 rcases x with ⟨v3,ts3⟩ | ⟨r3,e3⟩
 rotate_left
 ·exact m213
 rw [hx3,R.bind_ok] at h
 intro a3 hle3 ho3
 have hb3:=ho3.hi
 conv=>whnf
 refine oiO ?_
 conv=>whnf
 rw [TU]
 exact h _ (by omega) ho3):P:=h
theorem m20 {P:Prop} (h:P:=by
 conv=>whnf
 refine oiO ?_
 conv=>whnf
 refine ⟨⟨i+1,_,rfl,rfl,by omega,by omega,by omega⟩,?_⟩
 show ((l.length:Nat) - ((i:Int)+1)).toNat<((l.length:Nat) - (i:Int)).toNat
 omega):P:=h
theorem m21 {P:Prop} (h:P:=by
 cases b with
 | false =>
  rw [Zq,Tc (by rw [hw1];simp),R.bind_err] at h
  exact m237
 | true =>
  rw [Zq,Tf hw1] at h
  conv=>whnf
  refine ZAf (fun hc=>?_) (fun hc=>?_)
  ·rw [Tf (by omega),R.bind_err] at h
   conv=>whnf
   refine ⟨L,ts,rfl,ho,?_⟩
   conv=>whnf
   exact h _ _
  ·rw [Tc (by omega)] at h
   conv=>whnf
   refine ⟨L,ts,rfl,ho,fun x hx=>?_⟩
   rw [ZO,Tf hw1] at hx
   subst hx
   intro a1 hle1 ho1
   have hb1:=ho1.hi
   conv=>whnf
   refine oiO ?_
   conv=>whnf
   refine ⟨_,fun _ _ h=>h,Ta rfl,?_⟩
   conv=>whnf
   refine ⟨L,ts.tail,rfl,ho1,⟨by omega,by omega,by omega⟩,fun x hx2=>?_⟩
   rcases x with ⟨v2,ts2⟩ | ⟨r2,e2⟩
   rotate_left
   ·exact m244
   rw [hx2,R.bind_ok] at h
   intro a2 hle2 ho2
   have hb2:=ho2.hi
   obtain ⟨v2a,v2b,v2c,v2d,v2e⟩:=v2
   conv=>whnf
   repeat (refine ⟨rfl,?_⟩;conv=>whnf)
   rw [Tf rfl,R.bind_ok] at h
   refine oiO ?_
   conv=>whnf
   rw [TU]
   exact h _ (by omega) ho2):P:=h
theorem m22 {P:Prop} (h:P:=by
 conv=>whnf
 refine ⟨L,ts1,rfl,ho1,hdp,fun x hx=>?_⟩
 rw [hx] at step
 cases x with
 | err r e =>
  exact m217
 | ok v ts2 =>
  rw [R.bind_ok] at step
  intro a2 hle ho2
  have hl2:=ho2.len
  have hhi2:=ho2.hi
  obtain ⟨v1,v2,v3,v4,v5⟩:=v
  conv=>whnf
  refine ⟨Tn.2 rfl,(show ((l.map (Xi (Ze L en))).length+1) * 80≤2 ^ 47 by rw [Ti];omega),(show (l.map (Xi (Ze L en))).length+1≤2 ^ 47 by rw [Ti];omega),?_⟩
  conv=>whnf
  refine ⟨L,ts2,rfl,ho2,[[44]],rfl,by simp,fun hw ho3=>?_,fun hw=>?_⟩
  ·conv=>whnf
   rw [Tf hw] at step
   have hl3:=ho3.len
   refine ⟨⟨_,a2+1,ts2.tail,f,congrArg (fun r=>[PV.sl 0 60 r]) (ZD (Xi (Ze L en)) l (.mk v1 v2 v3 v4 v5)),rfl,ho3,by simp only [Tb,TB];omega,by omega,step⟩,?_⟩
   exact m211
  ·conv=>whnf
   rw [Tc (by rw [hw];simp)] at step
   rw [step] at h
   exact Zq0 (h a2 (by omega) ho2) (congrArg (fun r=>PEnd.ret (PV.d (D.sl r))) (ZD (Xi (Ze L en)) l (.mk v1 v2 v3 v4 v5)).symm) rfl):P:=h
theorem m23 {P:Prop} (h:P:=by
 conv=>whnf
 refine ⟨L,ts1,rfl,ho1,hdp,fun x hx=>?_⟩
 rw [hx] at step
 cases x with
 | err r e =>
  exact m217
 | ok v ts2 =>
  rw [R.bind_ok] at step
  intro a2 hle ho2
  have hl2:=ho2.len
  have hhi2:=ho2.hi
  obtain ⟨v1,v2,v3,v4,v5⟩:=v
  conv=>whnf
  refine ⟨Tn.2 rfl,(show ((l.map (Yc (Ze L en))).length+1) * 64≤2 ^ 47 by rw [Ti];omega),(show (l.map (Yc (Ze L en))).length+1≤2 ^ 47 by rw [Ti];omega),?_⟩
  conv=>whnf
  refine ⟨L,ts2,rfl,ho2,[[44]],rfl,by simp,fun hw ho3=>?_,fun hw=>?_⟩
  ·conv=>whnf
   rw [Tf hw] at step
   have hl3:=ho3.len
   refine ⟨⟨_,a2+1,ts2.tail,f,congrArg (fun r=>[PV.sl 0 24 r]) (ZD (Yc (Ze L en)) l (.mk v1 v2 v3 v4 v5)),rfl,ho3,by simp only [Tb,TB];omega,by omega,step⟩,?_⟩
   exact m211
  ·conv=>whnf
   rw [Tc (by rw [hw];simp)] at step
   rw [step] at h
   exact Zq0 (h a2 (by omega) ho2) (congrArg (fun r=>PEnd.ret (PV.d (D.sl r))) (ZD (Yc (Ze L en)) l (.mk v1 v2 v3 v4 v5)).symm) rfl):P:=h
theorem m24 {P:Prop} (h:P:=by
 have mu:((l.length:Int) - ((i:Int)+1)).toNat<((l.length:Int) - (i:Int)).toNat:=by omega
 conv=>whnf
 refine ZAf (fun h0=>?_) (fun h0=>?_)
 ·have h0:0<i:=by omega
  rw [Tc (by omega)] at htk
  conv=>whnf
  refine ⟨show S.length+2<2 ^ 62 by omega,?_⟩
  conv=>whnf
  refine ⟨_,by omega,hr1,?_⟩
  conv=>whnf
  refine ⟨pl,.mk a1 a2 a3 a4 a5,rfl,⟨hmx,by omega,hn⟩,fun t ht=>?_⟩
  obtain rfl:t=X:=ht.symm.trans hX
  conv=>whnf
  refine ⟨show (S++cmm).length+t.length<2 ^ 62 by rw [Tb,show cmm.length=2 from rfl];omega,?_⟩
  conv=>whnf
  refine oiO ?_
  conv=>whnf
  exact ⟨⟨i+1,by rw [htk,← To];rfl,rfl,by omega⟩,mu⟩
 ·obtain rfl:i=0:=by omega
  rw [Tf rfl] at htk
  have hS0:S=[]:=by rw [← hS];rfl
  rw [hS0]
  conv=>whnf
  refine ⟨_,by omega,hr1,?_⟩
  conv=>whnf
  refine ⟨pl,.mk a1 a2 a3 a4 a5,rfl,⟨hmx,by omega,hn⟩,fun t ht=>?_⟩
  obtain rfl:t=X:=ht.symm.trans hX
  conv=>whnf
  refine ⟨show 0+t.length<2 ^ 62 by omega,?_⟩
  conv=>whnf
  refine oiO ?_
  conv=>whnf
  exact ⟨⟨1,by rw [htk];rfl,rfl,by omega⟩,mu⟩):P:=h
theorem m25 {P:Prop} (h:P:=by
 rw [Tf hl] at h
 obtain rfl:S2=.bad 3:=by rw [← hS2,Wq,Tf (by omega)];rfl
 have hw:¬w1=0:=by have:=ho1.1;omega
 conv=>whnf
 refine ZAh (fun _=>?_) (fun g=>absurd (by simpa using g) hw)
 conv=>whnf
 exact h _ _ _ _ _ _ (fun ⟨_,_,g⟩=>by cases g) _ _ _ _ ho1):P:=h
theorem m26 {P:Prop} (h:P:=by
 conv=>whnf
 refine ⟨L,ts1,rfl,ho1,fun x hx=>?_⟩
 rw [hx] at step
 cases x with
 | err r e =>
  exact m217
 | ok v ts2 =>
  rw [R.bind_ok] at step
  intro a2 hle ho2
  have hl2:=ho2.len
  have hhi2:=ho2.hi
  obtain ⟨v1,v2⟩:=v
  conv=>whnf
  refine ⟨Tn.2 rfl,(show ((l.map (Za8)).length+1) * 40≤2 ^ 47 by rw [Ti];omega),(show (l.map (Za8)).length+1≤2 ^ 47 by rw [Ti];omega),?_⟩
  conv=>whnf
  refine ⟨L,ts2,rfl,ho2,[[124]],rfl,by simp,fun hw ho3=>?_,fun hw=>?_⟩
  ·conv=>whnf
   rw [Tf hw] at step
   have hl3:=ho3.len
   refine ⟨⟨_,a2+1,ts2.tail,f,congrArg (fun r=>[PV.sl 0 148 r]) (ZD (Za8) l _),rfl,ho3,by simp only [Tb,TB];omega,by omega,step⟩,?_⟩
   exact m211
  ·conv=>whnf
   rw [Tc (by rw [hw];simp)] at step
   rw [step] at h
   exact Zq0 (h a2 (by omega) ho2) (congrArg (fun r=>PEnd.ret (PV.d (D.sl r))) (ZD (Za8) l _).symm) rfl):P:=h
theorem m27 {P:Prop} (h:P:=by
 conv=>whnf
 refine ⟨L,ts1,rfl,ho1,fun x hx=>?_⟩
 rw [hx] at step
 cases x with
 | err r e =>
  exact m217
 | ok v ts2 =>
  rw [R.bind_ok] at step
  intro a2 hle ho2
  have hl2:=ho2.len
  have hhi2:=ho2.hi
  obtain ⟨v1,v2⟩:=v
  conv=>whnf
  refine ⟨Tn.2 rfl,(show ((l.map (U8)).length+1) * 32≤2 ^ 47 by rw [Ti];omega),(show (l.map (U8)).length+1≤2 ^ 47 by rw [Ti];omega),?_⟩
  conv=>whnf
  refine ⟨L,ts2,rfl,ho2,[[44]],rfl,by simp,fun hw ho3=>?_,fun hw=>?_⟩
  ·conv=>whnf
   rw [Tf hw] at step
   have hl3:=ho3.len
   refine ⟨⟨_,a2+1,ts2.tail,f,congrArg (fun r=>[PV.sl 0 66 r]) (ZD (U8) l _),rfl,ho3,by simp only [Tb,TB];omega,by omega,step⟩,?_⟩
   exact m211
  ·conv=>whnf
   rw [Tc (by rw [hw];simp)] at step
   rw [step] at h
   exact Zq0 (h a2 (by omega) ho2) (congrArg (fun r=>PEnd.ret (PV.d (D.sl r))) (ZD (U8) l _).symm) rfl):P:=h
theorem m28 {P:Prop} (h:P:=by
 exact m213):P:=h
theorem m29 {P:Prop} (h:P:=by
 conv=>whnf
 refine ⟨L,ts1,rfl,ho1,fun x hx=>?_⟩
 rw [hx] at step
 cases x with
 | err r e =>
  exact m217
 | ok v ts2 =>
  rw [R.bind_ok] at step
  intro a2 hle ho2
  have hl2:=ho2.len
  have hhi2:=ho2.hi
  skip
  conv=>whnf
  refine ⟨Tn.2 rfl,(show ((l.map (X1)).length+1) * 16≤2 ^ 47 by rw [Ti];omega),(show (l.map (X1)).length+1≤2 ^ 47 by rw [Ti];omega),?_⟩
  conv=>whnf
  refine ⟨L,ts2,rfl,ho2,[[44]],rfl,by simp,fun hw ho3=>?_,fun hw=>?_⟩
  ·conv=>whnf
   rw [Tf hw] at step
   have hl3:=ho3.len
   refine ⟨⟨_,a2+1,ts2.tail,f,congrArg (fun r=>[PV.sl 0 9 r]) (ZD (X1) l _),rfl,ho3,by simp only [Tb,TB];omega,by omega,step⟩,?_⟩
   exact m211
  ·conv=>whnf
   rw [Tc (by rw [hw];simp)] at step
   rw [step] at h
   exact Zq0 (h a2 (by omega) ho2) (congrArg (fun r=>PEnd.ret (PV.d (D.sl r))) (ZD (X1) l _).symm) rfl):P:=h
theorem m30 {P:Prop} (h:P:=by
 have hk:=(Th.1 hx).1
 have hkv:k<vs.size:=by omega
 have:(vs++Array.replicate (fn.ntmps - vs.size) undef).getD (0+k) Go.undef=vs[k]:=by
  simp [Array.getD,Array.getElem_append,hkv]
  intro h;omega
 rw [this]
 exact hargs.2 k x _ hx (TA hkv)):P:=h
theorem m31 {P:Prop} (h:P:=by
 exact m245):P:=h
theorem m32 {P:Prop} (h:P:=by
 refine ⟨by simp,fun r hr=>by rw [(List.mem_replicate.1 hr).2],fun a b y u hb hy hu=>?_⟩
 by_cases ha:a<n
 ·have hlt:a * zero.length+b<n * zero.length:=by
   calc a * zero.length+b<a * zero.length+zero.length:=by omega
    _=(a+1) * zero.length:=by rw [Sd,Nat.one_mul]
    _≤n * zero.length:=TY _ ha
  have hm:(a * zero.length+b) % z.cells.size=b:=by rw [hzc,Sz,Nat.mul_add_mod,Nat.mod_eq_of_lt hb]
  rw [Tx,Array.getElem?_map,Array.getElem?_range,Tf hlt] at hu
  simp only [Ss,hm,Option.some.injEq] at hu
  have hbz:b<z.cells.size:=by omega
  rw [getElem!_pos z.cells b hbz] at hu
  have hbl:b<(T.get el).zero.length:=by omega
  have:=hz4 b _ u (Tg hbl) (by rw [Tx,TA hbz,hu])
  rw [List.getElem?_replicate,Tf ha] at hy
  simp only [Option.bind_some] at hy
  exact UR (hd2 b _ y (Tg hbl) hy) this.1
 ·rw [List.getElem?_replicate,Tc ha] at hy;cases hy):P:=h
theorem m33 {P:Prop} (h:P:=by
 exact m237):P:=h
theorem m34 {P:Prop} (h:P:=by
 refine Or.inl ⟨InR.i64 (by simp only [Tj];omega) (by simp only [Tj];omega),?_⟩
 conv=>whnf
 exact m222):P:=h
theorem m35 {P:Prop} (h:P:=by
 intro j x hx
 have hj:=(Th.1 hx).1
 have hrow:(Zi l)[j]?=some [.int .u8 x.toNat]:=by simp [Zi,hx]
 generalize hrr:Zi l=rr at hd hrow
 have hlen:rr.length=l.length:=by rw [← hrr];simp [Zi]
 generalize hvv:Value.slice (some ⟨g,0,none⟩) l.length cap=vv at hd
 cases hd with
 | slnil=>simp at hrow
 | slz=>simp at hrow
 | sl _ _ _ _ sz u hcap hsz hc ho hu =>
  simp only [Value.slice.injEq,Option.some.injEq,Addr.mk.injEq] at hvv
  obtain ⟨⟨rfl,rfl,_⟩,_,rfl⟩:=hvv
  have hsz':sz=1:=by
   have:=hsz _ (T5 hrow);simpa using this.symm
  subst hsz'
  have h1:=hc j 0 (by omega) (by omega)
  have h2:=hu j 0 (.int .u8 x.toNat) (by rw [hrow];rfl)
  generalize huu:u j 0=uu at h1 h2;cases h2
  simpa using h1):P:=h
theorem m36 {P:Prop} (h:P:=by
 obtain ⟨hmx,hrx⟩:ZQ x=true∧Jv x=true:=⟨m5 x (by simp),hr2 x (by simp)⟩
 simp only [szS] at hz
 have hlx:∀w,(exW w x).length≤64 * wE x:=fun w=>Zd2 x hrx
 obtain ⟨x1,x2,x3,x4,x5⟩:=x
 conv=>whnf
 refine ⟨_,rfl,fun d hd=>?_⟩
 subst hd
 conv=>whnf
 refine ⟨_,by decide,rfl,?_⟩
 conv=>whnf
 refine ⟨_,rfl,fun d hd=>?_⟩
 subst hd
 conv=>whnf
 (repeat (refine ⟨rfl,?_⟩;conv=>whnf))
 refine ⟨by omega,pl,.mk x1 x2 x3 x4 x5,5,rfl,rfl,⟨⟨hmx,hrx⟩,by omega,by omega⟩,fun t1 ht1=>?_⟩
 have hlx:=hlx 5
 rw [ht1] at hlx
 conv=>whnf
 (repeat (refine ⟨rfl,?_⟩;conv=>whnf))
 refine ⟨show 1+t1.length<2 ^ 62 by omega,?_⟩
 conv=>whnf
 exact h _ (by rw [← ht1,exT];rfl)):P:=h
theorem m37 {P:Prop} (h:P:=by
 conv=>whnf
 obtain ⟨eC,hC⟩:∃e,ar[j]=e:=⟨_,rfl⟩
 have hgc:=Wo szE ar j hj2
 obtain ⟨c1,c2,c3,c4,c5⟩:=eC
 rw [hC] at hgc
 have hr2:(ZM pl ar)[((j:Nat):Int).toNat]?=some (Yc pl (.mk c1 c2 c3 c4 c5)):=by rw [Zg];simp [hj2,hC]
 (repeat (first | (refine ⟨_,by omega,hr1,?_⟩;conv=>whnf) | (refine ⟨_,by omega,hr2,?_⟩;conv=>whnf) | (refine oiO ?_;conv=>whnf)))
 refine ⟨pl,.mk c1 c2 c3 c4 c5,B,rfl,⟨⟨by omega,by omega⟩,by omega,by omega,hB⟩,fun r hr0 hrb=>?_⟩
 unfold bd2 at hrb
 conv=>whnf
 refine oiO ?_
 conv=>whnf
 refine oiO ?_
 conv=>whnf
 refine ⟨⟨j+1,_,rfl,rfl,by omega,by omega,by omega⟩,?_⟩
 show ((B:Nat) - ((j:Int)+1)).toNat<((B:Nat) - (j:Int)).toNat
 omega):P:=h
theorem m38 {P:Prop} (h:P:=by
 have g3:=hp2 (by omega)
 conv=>whnf
 refine ⟨by omega,by omega,?_⟩
 conv=>whnf
 refine ⟨fun r hr=>by (simp at hr;rcases hr with rfl | rfl <;> rfl),(show ((Zi out).length+2) * 1≤2 ^ 47 by omega),(show (Zi out).length+2≤2 ^ 47 by omega),?_⟩
 conv=>whnf
 refine Or.inl ⟨InR.i64 (by simp only [Tj];omega) (by simp only [Tj];omega),?_⟩
 conv=>whnf
 refine ⟨⟨out++[92,s.getD i 0],i+(pk (s.drop i)).2,f,?_,rfl,⟨g3,by omega,by rw [Tb];simp;omega⟩,by rw [← Tu];exact g1.symm.trans hgo⟩,?_⟩
 ·rw [Yp];rfl
 ·exact m243):P:=h
theorem m39 {P:Prop} (h:P:=by
 exact m210):P:=h
theorem m40 {P:Prop} (h:P:=by
 conv=>whnf
 have e:Yh (s.drop a.toNat)=2:=by
  have:twos.any (Lib.hasPrefix (s.drop a.toNat))=true:=by simp [twos,h2]
  simp [Yh,this]
 rw [e] at h
 exact h):P:=h
theorem m41 {P:Prop} (h:P:=by
 have hnil:u.drop i=[]:=Tz (by omega)
 have g1:XH (s.drop a)=.err 0:=by rw [← hgo];simp [ZG,hnil]
 conv=>whnf
 (try (refine ⟨rfl,?_⟩;conv=>whnf))
 (try (refine ⟨rfl,?_⟩;conv=>whnf))
 exact hbad _ g1):P:=h
theorem m42 {P:Prop} (h:P:=by
 have hdn2:=Zd4 (w:=[58]) hdn1
 have h652:=Zd4 (w:=[58]) h651
 rw [hS2] at h hdn2 h652
 intro a2 dp2 w2 pl2 ho2
 conv=>whnf
 refine ⟨L,S2,rfl,ho2,fun S3 hS3=>?_⟩
 have hdn3:=Y9 (fr:=[123]) hdn2
 have h653:=Y9 (fr:=[123]) h652
 rw [hS3] at h hdn3 h653
 intro a3 dp3 w3 pl3 ho3
 conv=>whnf
 refine ⟨L,S3,rfl,ho3,⟨hdn3,fun S4 hS4 rows4=>?_⟩⟩
 have h654:=Yg (P:=Ue) h653
 rw [hS4] at h h654
 intro a4 dp4 w4 pl4 ho4
 conv=>whnf
 refine ⟨L,S4,rfl,ho4,⟨h654,fun S5 hS5=>?_⟩⟩
 rw [hS5] at h
 intro a5 dp5 w5 pl5 ho5
 conv=>whnf
 exact h _ _ _ _ _ _ _ _ _ ho5):P:=h
theorem m43 {P:Prop} (h:P:=by
 show ((l.length:Int) - ((i:Int)+1)).toNat<((l.length:Int) - (i:Int)).toNat
 omega):P:=h
theorem m44 {P:Prop} (h:P:=by
 exact ⟨_,h,by rw [Yz,Op.equalIn];simp [Zc hd1],Yd rfl,rfl⟩):P:=h
theorem m45 {P:Prop} (h:P:=by
 rcases x with ⟨v8,ts8⟩ | ⟨r8,e8⟩
 rotate_left
 ·rw [hx8,R.bind_err] at h;intro a9 d9;(conv=>whnf);exact h _ _
 rw [hx8,R.bind_ok] at h
 intro a8 hle8 ho8
 have hb8:=ho8.hi
 obtain ⟨v8a,v8b,v8c,v8d,v8e,v8f⟩:=v8
 conv=>whnf
 rw [Tc (by simp)] at h
 refine ⟨L,ts8,rfl,ho8,fun x hx9=>?_⟩
 rcases x with ⟨v9,ts9⟩ | ⟨r9,e9⟩
 rotate_left
 ·rw [hx9,R.bind_err,R.bind_err] at h;intro a9 d9;(conv=>whnf);exact h _ _
 rw [hx9,R.bind_ok,R.bind_ok] at h
 intro a9 hle9 ho9
 have hb9:=ho9.hi
 conv=>whnf
 refine oiO ?_
 conv=>whnf
 rw [TU]
 exact h _ (by omega) ho9):P:=h
theorem m46 {P:Prop} (h:P:=by
 split at h
 ·obtain ⟨pl,e,h1,h2,h3⟩:=h;exact ⟨pl,e,h1,h2,fun t g=>hK _ _ (h3 t g)⟩
 ·exact h.elim):P:=h
theorem m47 {P:Prop} (h:P:=by
 rw [hS1] at h hdn1 h64
 intro a4 dp4 w4 pl4 ho4
 conv=>whnf
 refine ⟨L,S1,rfl,ho4,5,rfl,by omega,fun d ts hq=>Or.inl (hdn1 d ts hq),fun S2 hS2=>?_⟩
 have hS2:ZF Zp S1=S2:=hS2
 have h65:=Yg (P:=Zp) h64
 rw [hS2] at h h65
 intro eo es em er ep a5 dp5 w5 pl5 ho5
 conv=>whnf
 cases S2 with
 | ok d5 ts5 =>
  have:=h65 _ _ rfl
  obtain ⟨rfl,hr5,rfl,hd5⟩:=ho5
  refine oiO ?_
  conv=>whnf
  exact h _ _ _ _ _ _ _ _ _ (SOK.mk hr5 (by omega) (by omega))
 | bad e =>
  refine Or.inr ?_
  conv=>whnf
  exact h _ _ _ _ _ _ _ _ _ ho5.stay):P:=h
theorem m48 {P:Prop} (h:P:=by
 conv=>whnf
 exact no (by rw [ZZ,hL];rfl)):P:=h
theorem m49 {P:Prop} (h:P:=by
 exact m235):P:=h
theorem m50 {P:Prop} (h:P:=by
 exact m244):P:=h
theorem m51 {P:Prop} (h:P:=by
 split at h
 ·obtain ⟨h0,L,ts,h1,h2,h3⟩:=h
  exact ⟨h0,L,ts,h1,h2,fun x hx=>Ym (fun _ _ _ hk=>hK _ _ hk) (h3 x hx)⟩
 ·exact h.elim):P:=h
theorem m52 {P:Prop} (h:P:=by
 rcases x with ⟨v11,ts11⟩ | ⟨r11,e11⟩
 rotate_left
 ·rw [hx11,R.bind_err] at h;intro a9 d9;(conv=>whnf);exact h _ _
 rw [hx11,R.bind_ok] at h
 intro a11 hle11 ho11
 have hb11:=ho11.hi
 conv=>whnf
 refine ⟨L,ts11,rfl,ho11,⟨hdp,by simp⟩,fun x hx12=>?_⟩
 rcases x with ⟨v12,ts12⟩ | ⟨r12,e12⟩
 rotate_left
 ·rw [hx12,R.bind_err] at h;intro a9 d9;(conv=>whnf);exact h _ _
 rw [hx12,R.bind_ok] at h
 intro a12 hle12 ho12
 have hb12:=ho12.hi
 conv=>whnf
 rw [← Zg]
 exact h _ (by omega) ho12):P:=h
theorem m53 {P:Prop} (h:P:=by
 conv=>whnf
 exact h _ _):P:=h
theorem m54 {P:Prop} (h:P:=by
 conv=>whnf
 exact h):P:=h
theorem m55 {P:Prop} (h:P:=by
 conv=>whnf
 (repeat (refine ⟨rfl,?_⟩;conv=>whnf))
 exact h _ _ _ _ _ _ (fun _=>by rw [Tb];rfl) _ _ _ _ ho3):P:=h
theorem m56 {P:Prop} (h:P:=by
 exact m243):P:=h
theorem m57 {P:Prop} (h:P:=by
 conv=>whnf
 refine oiO ?_
 conv=>whnf
 exact ⟨⟨rfl,e+1,rfl,⟨g1,g2⟩,g3⟩,(show ((s.length:Int) - ((e:Int)+1)).toNat<((s.length:Int) - (e:Int)).toNat by omega)⟩):P:=h
theorem m58 {P:Prop} (h:P:=by
 cases r with
 | tmp t=>simp only [pres,Yl] at h ⊢;exact ih (fun vs h=>hK _ h) h
 | cell a t =>
  simp only [pres] at h ⊢
  obtain ⟨v,h1,h2⟩:=ZdS h
  refine h2 _ ?_
  rw [Yl] at h1 ⊢
  exact ih (fun vs h=>hK _ h) h1):P:=h
theorem m59 {P:Prop} (h:P:=by
 split at h
 ·exact ⟨h.1,fun x hx=>Ym hK (h.2 x hx)⟩
 ·exact h.elim):P:=h
theorem m60 {P:Prop} (h:P:=by
 subst hi
 obtain ⟨rfl,hlt⟩:=hcr.done
 conv=>whnf
 refine ⟨L,_,rfl,ho2,hlt,fun S5 hS5=>?_⟩
 subst hS5
 intro a5 dp5 w5 pl5 ho5
 conv=>whnf
 (repeat (refine ⟨rfl,?_⟩;conv=>whnf))
 exact h _ _ _ _ _ _ _ _ _ ho5):P:=h
theorem m61 {P:Prop} (h:P:=by
 refine ⟨v'::vs',tk2,as2,h2,Zbz hx1 hx2,hI2,by simp [hl],fun i x y hx hy=>?_⟩
 cases i with
 | zero=>simp at hx hy;subst hx;subst hy;exact hv.ext hx2
 | succ i=>exact hvs i x y (by simpa using hx) (by simpa using hy)):P:=h
theorem m62 {P:Prop} (h:P:=by
 exact m233):P:=h
theorem m63 {P:Prop} (h:P:=by
 conv=>whnf
 repeat (first | (refine ZAf (fun _=>?_) (fun g=>absurd hq g);conv=>whnf))
 exact h _ (by rw [hv,show x.text=_ from hq];rfl) _ _ _ _ ho):P:=h
theorem m64 {P:Prop} (h:P:=by
 rw [hx1,R.bind_err] at h;intro a9 d9;(conv=>whnf);exact h _ _):P:=h
theorem m65 {P:Prop} (h:P:=by
 conv=>whnf
 (try (refine ⟨rfl,?_⟩;conv=>whnf))
 (try (refine ⟨rfl,?_⟩;conv=>whnf))
 exact hbad 3 (by rw [YR,hn,hc,Tc hno,Tf rfl])):P:=h
theorem m66 {P:Prop} (h:P:=by
 split at h
 ·obtain ⟨pl,x,h1,h2,h3⟩:=h;exact ⟨pl,x,h1,h2,fun b hb=>hK _ _ (h3 b hb)⟩
 ·exact h.elim):P:=h
theorem m67 {P:Prop} (h:P:=by
 conv=>whnf
 refine oiD ?_
 conv=>whnf
 have hs:=hlr.stop (by omega) (by intro u hu;simp only [Zbp] at hu;simp at hu;rcases hu with rfl | rfl <;> assumption)
 subst hs
 exact h _ _ _ _ _ _ _ _ _ ho1x):P:=h
theorem m68 {P:Prop} (h:P:=by
 conv=>whnf
 refine ⟨by omega,by omega,?_⟩
 conv=>whnf
 rw [hbi]
 refine ⟨⟨by omega,by omega⟩,?_⟩
 rw [hxv]
 conv=>whnf
 refine oiU ?_
 conv=>whnf
 refine oiO ?_
 rw [e1]
 conv=>whnf
 exact ⟨⟨k+1,n',rfl,rfl,by omega,e2,e3⟩,(show ((s.length:Int) - (((a+2+k:Nat):Int)+1)).toNat<((s.length:Int) - ((a+2+k:Nat):Int)).toNat by omega)⟩):P:=h
theorem m69 {P:Prop} (h:P:=by
 subst hl0
 refine ⟨?_,⟨.normal,f,e,σ,h,rfl,hS,hF,hL,hN,hds,hZ⟩⟩
 rw [List.eq_nil_iff_forall_not_mem]
 intro i hi
 obtain ⟨h1,o,ho,_⟩:=mem_ready.1 hi
 have hlt:=(Tp.1 ho).1
 have:=(hli i hlt).2 (fun p hp=>by cases hp)
 have hlt':i<listed.size:=by rw [hsz];exact hlt
 simp [Array.getD,hlt'] at this h1
 rw [this] at h1;cases h1):P:=h
theorem m70 {P:Prop} (h:P:=by
 intro args σ K h
 unfold JT at h
 split at h
 ·rename_i w t0 t rows a en dp
  obtain ⟨L,ts,rfl,ho,h1,h2⟩:=h
  refine ⟨Zb [],2,false,by simp,Ta rfl,?_⟩
  conv=>whnf
  refine ⟨L,ts,rfl,ho,[w],rfl,by simp,fun hw ho2=>?_,fun hw=>?_⟩
  ·conv=>whnf
   exact h1 hw ho2
  ·conv=>whnf
   exact h2 hw
 ·exact h.elim):P:=h
theorem m71 {P:Prop} (h:P:=by
 simp only [twos,List.take,SC,List.any_nil,T4,T6,Se,Sr] at hn h2' ⊢
 simp only [hn,h2',and_self]):P:=h
theorem m72 {P:Prop} (h:P:=by
 intro args σ K h
 unfold Wi at h
 split at h
 ·rename_i c
  refine ⟨Zb [],0,false,by decide,Ta rfl,?_⟩
  refine ZAf (fun h1=>?_) (fun h1=>?_)
  ·refine ZbG h ?_
   simp only [Zj,decide_eq_decide];omega
  ·refine ZbG h ?_
   simp only [Zj,decide_eq_false_iff_not];omega
 ·exact h.elim):P:=h
theorem m73 {P:Prop} (h:P:=by
 split at h;· cases h;rename_i h;subst h;exact .inl ⟨by decide,rfl⟩
 split at h;· cases h;rename_i h;subst h;exact .inr (.inl ⟨by decide,rfl⟩)
 split at h;· cases h;rename_i h;subst h;exact .inr (.inr (.inl ⟨by decide,rfl⟩))
 split at h;· cases h;rename_i h;subst h;exact .inr (.inr (.inr ⟨by decide,rfl⟩))
 cases h):P:=h
theorem m74 {P:Prop} (h:P:=by
 have hd4:=ZmK (ts:=ts3) (c:=⟨r0.length,r1.length,r2.length,r3.length,r4.length,r5.length⟩) (hdn3 _ _ rfl)
 rw [hS4] at hst hd4
 intro a4 dp4 w4 pl4 ho4
 conv=>whnf
 refine ⟨⟨q0,q1,q2,q3,q4,q5,_,_,_,_,S4,rfl,rfl,ho4,hd4,fun g=>by rw [hq g];exact hst,fun e he=>by subst he;exact hst⟩,?_⟩
 exact hitem S4 hS4 _ _ _ ho4):P:=h
theorem m75 {P:Prop} (h:P:=by
 exact m240):P:=h
theorem m76 {P:Prop} (h:P:=by
 rw [Int.min_eq_right (by omega),List.take_of_length_le (by rw [Tk];omega),List.take_of_length_le (by rw [Tk];omega)];rfl):P:=h
theorem m77 {P:Prop} (h:P:=by
 intro args σ K h
 unfold ZtC at h
 split at h
 ·obtain ⟨pl,⟨a1,a2,a3,a4,a5⟩,rfl,⟨rfl,hz,hn⟩,h⟩:=h
  refine ⟨Zb [],1,false,by simp,Ta rfl,?_⟩
  conv=>whnf
  refine ⟨pl,(.mk a1 a2 a3 a4 a5),rfl,⟨hz,hn⟩,fun b hb=>?_⟩
  conv=>whnf
  exact h _ (by rw [hb])
 ·exact h.elim):P:=h
theorem m78 {P:Prop} (h:P:=by
 unfold anc
 have:(Uh ops.toList []).length=ops.size:=by
  have:∀(l:List Oper) (acc:List Nat),(Uh l acc).length=acc.length+l.length:=by
   intro l
   induction l with
   | nil=>intro acc;rfl
   | cons o l ih=>intro acc;rw [Uh,ih];simp;omega
  rw [this];simp
 rw [TS,Sg (by omega)]
 simp):P:=h
theorem m79 {P:Prop} (h:P:=by
 rw [Lib.decodeL_N]
 have k0:=(r.getD 0 0).toNat_lt
 rcases Lib.decodeN_shape r.length (r.getD 0 0).toNat (r.getD 1 0).toNat (r.getD 2 0).toNat (r.getD 3 0).toNat with ⟨c,e⟩ | ⟨c1,c2,c3,cv,e⟩ | ⟨c1,c2,c3,c4,cv,cs,e⟩ | ⟨c1,c2,c3,c4,c5,cv,cw,e⟩ | e
 all_goals (rw [e];dsimp only;omega)):P:=h
theorem m80 {P:Prop} (h:P:=by
 intro args σ K h
 unfold ZkW at h
 split at h
 ·obtain ⟨pl,l,rfl,⟨rfl,hz,hn⟩,h⟩:=h
  refine ⟨Zb [],0,false,by simp,Ta rfl,?_⟩
  conv=>whnf
  refine ⟨pl,l,rfl,⟨rfl,rfl,hz,hn⟩,fun b hb=>?_⟩
  conv=>whnf
  exact h _ (by rw [← hb,Bool.not_not])
 ·exact h.elim):P:=h
theorem m81 {P:Prop} (h:P:=by
 refine ⟨_,_,h,.mkint,?_⟩
 simp only [ho,resolve,invoke,builtin,Sem.run_bind,Sem.run_pure,Result.andThen,Builtin.len_,hat,ha0,Zc hd]
 rfl):P:=h
theorem m82 {P:Prop} (h:P:=by
 conv=>whnf
 refine Or.inr ?_
 conv=>whnf
 refine Or.inr ?_
 rw [e1]
 conv=>whnf
 refine oiO ?_
 conv=>whnf
 exact ⟨⟨k+1,n',false,rfl,rfl,by omega,e2,hf,fun g=>by cases g⟩,(show ((s.length:Int) - (((a+k:Nat):Int)+1)).toNat<((s.length:Int) - ((a+k:Nat):Int)).toNat by omega)⟩):P:=h
theorem m83 {P:Prop} (h:P:=by
 intro args σ K h
 unfold Xk at h
 split at h
 ·rename_i s
  refine ⟨Zb [],0,false,by simp,Ta rfl,?_⟩
  repeat' ((conv=>whnf);refine ZAf (fun hc=>?_) (fun hc=>?_))
  all_goals (conv=>whnf)
  all_goals exact h _ (by simp [ZU, *])
 ·exact h.elim):P:=h
theorem m84 {P:Prop} (h:P:=by
 conv=>whnf
 refine oiO ?_
 conv=>whnf
 refine ⟨⟨rfl,e+1,rfl,by omega,by omega,hstep (by have h3':Zj ((s.getD e 0).toNat:Int)=true:=h3;simp only [Xx,h3',Bool.true_or])⟩,?_⟩
 exact m224):P:=h
theorem m85 {P:Prop} (h:P:=by
 simp only [Instr.storeAt,Instr.sureAddr,storeVar,Sem.run_bind,Sem.run_pure,Result.andThen,ZB hi]
 rw [Tc (by rw [h1'];simp)]
 exact hrun):P:=h
theorem m86 {P:Prop} (h:P:=by
 refine Go.Lib.run_unsafeString_row w.drew (ρ.t 127) (ρ.t 3) (ρ.t 9) (ρ.t 5) L.t127 X.cellsByte g cur.size (by have hg':w.drew.heap[g]?=some (.cells cur (ρ.t 5) fz):=hg;simp [World.shape?,hg']) l h0 hn hbig ?_
 intro j x hx
 have:=hcell j x hx
 rw [Yf,T7];exact this):P:=h
theorem m87 {P:Prop} (h:P:=by
 rw [ZlH hE] at hk'
 subst hk'
 have g1:XH (s.drop a)=.err (1+i - 1):=by rw [← hgo];simp [ZG,hne,hE]
 conv=>whnf
 refine oiO ?_
 conv=>whnf
 have g2:=hbad _ g1
 rw [show ((a+(1+i - 1):Nat):Int)=(a:Int)+1+(i:Int) - 1 by omega] at g2
 exact g2):P:=h
theorem m88 {P:Prop} (h:P:=by
 have h5':(pk (u.drop i)).1<32:=by rw [hat,hsd] at h5;exact h5
 have g1:XH (s.drop a)=.err (1+i):=by rw [← hgo];simp [ZG,hne,h3',h4',h5']
 conv=>whnf
 have g2:=hbad _ g1
 rw [show ((a+(1+i):Nat):Int)=(a:Int)+1+(i:Int) by omega] at g2
 exact g2):P:=h
theorem m89 {P:Prop} (h:P:=by
 conv=>whnf
 refine oiO ?_
 conv=>whnf
 exact h _ _ _ _ _ _ _ _ _ hnx):P:=h
theorem m90 {P:Prop} (h:P:=by
 simp only at h
 obtain ⟨bs,tk',as',hK,hx,hI,hbl,hn,hbs⟩:=V6 (as:=[]) (NInv.start σ.tk [] (fun t ht=>by cases ht)) h
 exact ⟨clean pv,_,e.re as',hK,(NV.cl pv hb).rel hn hI hbl hv,ZaZ hS hn hI hbl hbs,hL.drop (JC hn hI hbl) hk⟩):P:=h
theorem m91 {P:Prop} (h:P:=by
 rcases x with ⟨v1,ts1⟩ | ⟨r1,e1⟩
 rotate_left
 ·rw [hx1] at h;intro a9 d9;(conv=>whnf);exact h _ _
 rw [hx1] at h
 intro a1 hle1 ho1
 have hb1:=ho1.hi
 obtain ⟨v1a,v1b,v1c,v1d,v1e⟩:=v1
 conv=>whnf
 exact h _ (by omega) ho1):P:=h
theorem m92 {P:Prop} (h:P:=by
 simp only [Zbh,Wt] at k2 ⊢;dsimp only at k1;omega):P:=h
theorem m93 {P:Prop} (h:P:=by
 cases x with
 | normal=>exact absurd rfl hx
 | _ =>
  obtain ⟨pe,f',e',σ',hq,hxr,hrest⟩:=hp
  refine .inl ⟨pe,f',e',σ',?_,hxr,hrest⟩
  cases pe <;> first | exact hq | (cases hxr;done) | (obtain ⟨_,hxr,_⟩:=hxr;cases hxr)):P:=h
theorem m94 {P:Prop} (h:P:=by
 have hlt':i<listed.size:=by rw [hsz];exact hi
 simp [Array.getD,hlt']):P:=h
theorem m95 {P:Prop} (h:P:=by
 unfold wpOpIn
 rw [ho]
 dsimp only
 split at hstep
 ·rename_i hw
  rw [Tf hw]
  exact Oper.wpIn_mono (fun a w h=>next a w (hK a w h)) hstep
 ·rename_i hw
  rw [Tc hw]
  exact ⟨fun _ _=>trivial,next _ _ (hK _ _ hstep)⟩):P:=h
theorem m96 {P:Prop} (h:P:=by
 cases hr0 with
 | ptr _ _ _ =>
 refine Calls.mono (ZiB (e.β 0) w (by simp [World.cell?,hc1,hx0])) fun en w' ⟨h1,h2⟩=>?_
 rw [h2]
 exact ⟨h1,.tuple [] #[] rfl (fun i x u hx=>by simp at hx),hS,Later.refl _ _ _⟩):P:=h
theorem m97 {P:Prop} (h:P:=by
 conv=>whnf
 exact h _ (by omega) ho'):P:=h
theorem m98 {P:Prop} (h:P:=by
 split at h
 ·rename_i ht
  exact ⟨_,_,as++[some t],by simpa using h,⟨[some t],rfl⟩,hI.add ((Y3 _ _).1 ht),.sl t el rows _ (by simp)⟩
 ·exact ⟨_,tk,as,h,⟨[],by simp⟩,hI,.cl (.sl t el rows) rfl⟩):P:=h
theorem m99 {P:Prop} (h:P:=by
 split at h
 ·obtain ⟨l,pl,x,h1,h2,h3,h4,h5,h6⟩:=h;exact ⟨l,pl,x,h1,h2,h3,h4,h5,hK _ _ h6⟩
 ·exact h.elim):P:=h
theorem m100 {P:Prop} (h:P:=by
 have hy':σ.bx[k]?=some y:=by
  simp only [St.set] at hy
  rwa [List.getElem?_set_ne (fun h=>hkb h.symm)] at hy
 have hkl:=(Th.1 hy').1
 exact (hS.box k y hy').step hst (hoth _ (fun h=>hkb (hS.inj k b hkl hbl h)))):P:=h
theorem m101 {P:Prop} (h:P:=by
 cases hy
 obtain ⟨q1,q2⟩:=h3 0 p u rfl hu
 refine ⟨?_,q2⟩
 rcases hp with rfl | rfl
 ·cases q1 with
  | d _ _ hd=>exact .d _ _ (hd.later hL)
 ·cases q1 with
  | ptr b o hb=>exact .ptr 0 0 (by simp)):P:=h
theorem m102 {P:Prop} (h:P:=by
 split at h
 ·exact fun b hb=>hK _ _ (h b hb)
 ·exact h.elim):P:=h
theorem m103 {P:Prop} (h:P:=by
 conv=>whnf
 refine oiO ?_
 conv=>whnf
 refine ⟨⟨1,rfl,(by rw [htk];simp only [Si,TX,Zl,T2];rfl),by omega⟩,?_⟩
 show ((xs.length:Int) - ((0:Int)+1)).toNat<((xs.length:Int) - (0:Int)).toNat
 omega):P:=h
theorem m104 {P:Prop} (h:P:=by
 conv=>whnf
 repeat (refine ⟨rfl,?_⟩;conv=>whnf)
 refine oiO ?_
 conv=>whnf
 exact h _ (by omega) hot):P:=h
theorem m105 {P:Prop} (h:P:=by
 rw [Tc (fun g=>t0 ((hwd (by decide)).1 g).2),Tc (fun g=>t1 ((hwd (by decide)).1 g).2),Tc (fun g=>t2 ((hwd (by decide)).1 g).2),Tc (fun g=>t3 ((hwd (by decide)).1 g).2),Tc (fun g=>t4 ((hwd (by decide)).1 g).2)]):P:=h
theorem m106 {P:Prop} (h:P:=by
 exact Xa (F:=fun S=>S) (fun e=>rfl) fun v ts=>rfl):P:=h
theorem m107 {P:Prop} (h:P:=by
 conv=>whnf
 refine ⟨⟨false,_,_,f,_,rfl,?_,.inr rfl,⟨g3,by omega,?_⟩,g1.symm⟩,?_⟩
 ·rw [Yp];rfl
 ·rw [Tb];omega
 ·exact m241):P:=h
theorem m108 {P:Prop} (h:P:=by
 rw [Tc (fun g=>t0 ((hwd (by decide)).1 g).2),Tc (fun g=>t1 ((hwd (by decide)).1 g).2),Tc (fun g=>t2 ((hwd (by decide)).1 g).2),Tc (fun g=>t3 ((hwd (by decide)).1 g).2),Tf ((hwd (by decide)).2 ⟨hk1,t4⟩)]):P:=h
theorem m109 {P:Prop} (h:P:=by
 conv=>whnf
 refine oiO ?_
 conv=>whnf
 refine ⟨⟨i+1,rfl,(by rw [htk];simp only [To];rfl),by omega⟩,?_⟩
 show ((xs.length:Int) - ((i:Int)+1)).toNat<((xs.length:Int) - (i:Int)).toNat
 omega):P:=h
theorem m110 {P:Prop} (h:P:=by
 simp only [Sem.run_bind,newRow,run_newObj,Result.andThen,Sem.run_pure]
 rfl):P:=h
theorem m111 {P:Prop} (h:P:=by
 rw [hx4,R.bind_err] at h;intro a9 d9;(conv=>whnf);exact h _ _):P:=h
theorem m112 {P:Prop} (h:P:=by
 conv=>whnf
 (try (refine ⟨rfl,?_⟩;conv=>whnf))
 (try (refine ⟨rfl,?_⟩;conv=>whnf))
 have g2:=hgood _ _ g1
 rw [show ((a+(1+i+1):Nat):Int)=(a:Int)+1+(i:Int)+1 by omega] at g2
 exact g2):P:=h
theorem m113 {P:Prop} (h:P:=by
 obtain ⟨cb,h1,h2,h3⟩:=Zex h
 refine ⟨_,h1,by simp [h2],fun j b' hj=>?_⟩
 cases j with
 | zero=>simp at hj;subst hj;exact ⟨_,hb,rfl⟩
 | succ j=>exact h3 j b' (by simpa using hj)):P:=h
theorem m114 {P:Prop} (h:P:=by
 rw [hx3,R.bind_ok] at h
 intro a3 hle3 ho3
 have hb3:=ho3.hi
 conv=>whnf
 exact h _ (by omega) ho3):P:=h
theorem m115 {P:Prop} (h:P:=by
 have hd:(s.drop (e+k)).drop (t.fin - (e+k))=s.drop t.fin:=by rw [Tu,show e+k+(t.fin - (e+k))=t.fin by omega]
 rw [hall,g1,Tb]
 simp only [hd,Td,Te,Int.natCast_add,Int.sub_sub,To,SB,Sx]
 rfl):P:=h
theorem m116 {P:Prop} (h:P:=by
 rw [Tc (by simp)] at hpr
 obtain ⟨S4,hS4⟩:∃x,SS.ok d3 ts3=x:=⟨_,rfl⟩
 rw [hS4] at hpr ho4):P:=h
theorem m117 {P:Prop} (h:P:=by
 have b3:=JL (n:=n) (k:=34) (by omega) (by omega) h3
 have b4:=JL (n:=n) (k:=92) (by omega) (by omega) h4
 simp only [Sj,Sp,T4,T6,beq_eq_false_iff_ne]
 exact ⟨b1,b2,b3,b4⟩):P:=h
theorem m118 {P:Prop} (h:P:=by
 conv=>whnf
 refine ⟨_,rfl,fun d hd=>?_⟩
 subst hd
 conv=>whnf
 exact h _ (by rw [exT];rfl)):P:=h
theorem m119 {P:Prop} (h:P:=by
 subst h0
 cases hk:(T.get t).kind <;> rw [hk] at hkd <;> first | (cases hkd;done) | (exact hk1 hk) | (obtain ⟨_,h1,_⟩:=hkd;cases h1;done) | (obtain ⟨_,_,_,h1⟩:=hkd;cases h1;done)):P:=h
theorem m120 {P:Prop} (h:P:=by
 conv=>whnf
 (repeat (first | (refine ZAf (fun g=>absurd g (by omega)) (fun _=>?_);conv=>whnf) | (refine ZAf (fun _=>?_) (fun g=>(g (by omega)).elim);conv=>whnf)))
 exact h):P:=h
theorem m121 {P:Prop} (h:P:=by
 obtain ⟨h4,h5,hK⟩:=h
 refine ⟨_,hK,fun K' h'=>?_⟩
 simp only [qop,hi,hk,hx]
 cases hk3:(T.get el).kind
 case other=>exact absurd hk3 ho
 all_goals exact ⟨h4,h5,h'⟩):P:=h
theorem m122 {P:Prop} (h:P:=by
 have hm:=ZdQ (G:=G) (e:=e') (σ:=σ') (w:=w1) (a:=a1) (f:=f') (args:=as) (fun x=>ZaB h2 x)
 rw [has] at hm
 exact ArgsRel.append (ArgsRel.append ⟨ha,k1⟩ hm) ⟨hc,k2⟩):P:=h
theorem m123 {P:Prop} (h:P:=by
 have he:=hr.eq
 simp only [tz] at he
 rw [← he,← List.map_drop,Tu,show a.toNat+n=(a+n).toNat by omega,TM hlt,TJ,← List.map_drop,Tu,show (a+n).toNat+1=a.toNat+(n+1) by omega]):P:=h
theorem m124 {P:Prop} (h:P:=by
 split at h
 ·exact fun x hx=>Ym hK (h x hx)
 ·exact h.elim):P:=h
theorem m125 {P:Prop} (h:P:=by
 intro a2 dp2 w2 pl2 ho2
 conv=>whnf
 exact h _ _ _ _ _ _ _ _ _ ho2):P:=h
theorem m126 {P:Prop} (h:P:=by
 have:(Array.replicate ops.size false).getD k false=false:=by simp [Array.getD]
 rw [this]
 simp only [Tr,false_iff]
 obtain ⟨p,hp,he⟩:=hcov k hk
 exact fun hh=>hh p hp he):P:=h
theorem m127 {P:Prop} (h:P:=by
 rw [Zg] at hr
 simp only [TJ,TX,Tt,Sn,or_false] at hr
 rcases hr with rfl | rfl <;> rfl):P:=h
theorem m128 {P:Prop} (h:P:=by
 rw [he] at h
 conv=>whnf
 refine ⟨e,rfl,fun g=>?_,fun g=>?_⟩
 ·rw [Tf g] at h
  conv=>whnf
  exact h _ _ rfl
 ·rw [Tc g] at h
  conv=>whnf
  exact h _ _ rfl):P:=h
theorem m129 {P:Prop} (h:P:=by
 conv=>whnf
 refine ⟨fun g=>?_,fun g=>?_⟩
 ·conv=>whnf
  rw [W9,Tf (by omega)] at hb
  exact hb
 ·conv=>whnf
  rw [W9,Tc (by omega)] at hb
  exact hb):P:=h
theorem m130 {P:Prop} (h:P:=by
 repeat' ((conv=>whnf);refine ZAf (fun hc=>?_) (fun hc=>?_))
 all_goals (conv=>whnf)
 all_goals exact h _ _ (by rw [Wu,Tc hn];simp [*]) (by rw [Wu,Tc hn];simp [*])):P:=h
theorem m131 {P:Prop} (h:P:=by
 intro b off u hu
 by_cases hbg:b=g
 ·subst hbg
  simp only [World.cell?,hfz',g6] at hu ⊢
  exact hu
 ·simpa [World.cell?,U3 w g l.length b hbg] using hu):P:=h
theorem m132 {P:Prop} (h:P:=by
 refine ⟨_,ρ' x,h,hx,?_⟩
 cases hv:ρ' x <;> rw [hv] at hx <;> cases hx
 simp [ho,hv]):P:=h
theorem m133 {P:Prop} (h:P:=by
 obtain ⟨q1,q2,cs2,ty2,fz2,q3⟩:=hS.own t' ht p hp
 refine ⟨q1,fun i hi=>q2 i (by rw [hsl] at hi;exact hi),cs2,ty2,fz2,(hoth _ (fun h=>q2 b hbl h.symm)).trans q3⟩):P:=h
theorem m134 {P:Prop} (h:P:=by
 conv=>whnf
 exact h _ (by omega) (by omega)):P:=h
theorem m135 {P:Prop} (h:P:=by
 by_cases hex:∃m',m'<m∧Mu a1 w1 m'
 ·obtain ⟨m',h1,h2⟩:=hex;exact ihm m' h1 h2
 ·exact ⟨m,hm,fun m' hm'=>Nat.le_of_not_lt fun hlt=>hex ⟨m',hlt,hm'⟩⟩):P:=h
theorem m136 {P:Prop} (h:P:=by
 rw [Tc (fun g=>t0 ((hwd (by decide)).1 g).2),Tc (fun g=>t1 ((hwd (by decide)).1 g).2),Tc (fun g=>t2 ((hwd (by decide)).1 g).2),Tf ((hwd (by decide)).2 ⟨hk1,t3⟩)]):P:=h
theorem m137 {P:Prop} (h:P:=by
 have h1:args.toList.map ρ=args.toList.map ρ':=Sq fun x hx=>hρ x (by simp only [Op.operands,Call.operands,Array.empty_append];exact TH.2 hx)
 rw [← h1];exact h):P:=h
theorem m138 {P:Prop} (h:P:=by
 unfold execOp
 simp only [ho,Sem.run_bind]
 rw [show (Array.map (fun x=>match x with | (i,x)=>(i,ρ' x)) ps)=(ps.map fun p=>(p.1,ρ' p.2)) from rfl,hrun]
 rfl):P:=h
theorem m139 {P:Prop} (h:P:=by
 split at h
 ·exact ⟨h.1,fun S' hS rows=>hK _ _ (h.2 S' hS rows)⟩
 ·exact h.elim):P:=h
theorem m140 {P:Prop} (h:P:=by
 conv=>whnf
 refine ⟨L,_,rfl,ho1,150,rfl,by omega,?_⟩
 intro a2 dp2 w2 pl2 ho2
 conv=>whnf
 exact h _ _ _ _ _ _ (fun ⟨_,_,g⟩=>by cases g) _ _ _ _ ho2):P:=h
theorem m141 {P:Prop} (h:P:=by
 have h2':¬i<l.length:=fun g=>h2 (by simpa using g)
 have hil:i=l.length:=by omega
 rw [hil,Sk] at hNN
 conv=>whnf
 rw [hNN] at hgd
 exact hgd (by omega)):P:=h
theorem m142 {P:Prop} (h:P:=by
 rw [← hDe,Vn,Tk] at this
 exact ⟨fun g=>this.1 (by omega),fun g=>this.2.1 (by omega),fun g=>⟨by have:=(this.2.2 g).1;omega,(this.2.2 g).2⟩⟩):P:=h
theorem m143 {P:Prop} (h:P:=by
 split at h
 ·cases h
 ·cases h;exact absurd hk (by simp)):P:=h
theorem m144 {P:Prop} (h:P:=by
 simp only [St.set,List.getElem?_set_self hbl] at hy
 exact (Option.some.inj hy).symm):P:=h
theorem m145 {P:Prop} (h:P:=by
 refine ⟨(by simp;omega),?_⟩
 conv=>whnf
 (repeat (first | (refine ⟨_,by decide,rfl,?_⟩;conv=>whnf) | (refine ⟨rfl,?_⟩;conv=>whnf)))
 exact h):P:=h
theorem m146 {P:Prop} (h:P:=by
 have hk:k<l.length:=(Th.1 hy).1
 rw [Array.getElem?_extract] at hu
 split at hu
 ·exact hr (off+k) y u (by rw [(hb k hk).2];exact hy) hu
 ·cases hu):P:=h
theorem m147 {P:Prop} (h:P:=by
 rcases TT.1 hy with hy | hy
 ·exact hj y (by simp [hy])
 ·rcases Tt.1 hy with rfl | hy
  ·exact fun e=>hji e.symm
  ·exact hj y (by simp [hy])):P:=h
theorem m148 {P:Prop} (h:P:=by
 obtain ⟨i,hi',hiu⟩:=Array.getElem_of_mem hu
 have hlt:i<cs'.length:=by rw [← hs'];exact hi'
 exact (hr' i _ u (Tg hlt) (by rw [TA hi',hiu])).2):P:=h
theorem m149 {P:Prop} (h:P:=by
 refine ⟨⟨out',i+2,f,?_,rfl,e2,e3⟩,(show ((s.length:Int) - ((i:Int)+2)).toNat<((s.length:Int) - (i:Int)).toNat by omega)⟩
 rw [← e1];rfl):P:=h
theorem m150 {P:Prop} (h:P:=by
 obtain ⟨l,t1,h1,e⟩:=ZAj e
 obtain ⟨t2,h2,h3,h4⟩:=XU h1
 cases e
 have:=h _ _ _ h2
 simp only [Js,szS] at *;omega):P:=h
theorem m151 {P:Prop} (h:P:=by
 rcases Tt.1 hp' with rfl | hp'
 ·exact fun e=>h1.2 e.symm
 ·exact fun e=>(List.rel_of_pairwise_cons hp hp').2.1 ed (TH.1 hed') hb e.symm):P:=h
theorem m152 {P:Prop} (h:P:=by
 split at h
 ·exact ⟨h.1,fun b hb=>hK _ _ (h.2 b hb)⟩
 ·exact h.elim):P:=h
theorem m153 {P:Prop} (h:P:=by
 rename_i h1 h2
 obtain ⟨v,g1,g2⟩:=UU h
 exact ⟨_,g1,fun K' h'=>by simp only [Xo,h1,h2];exact g2 (fun r=>K' _) h'⟩):P:=h
theorem m154 {P:Prop} (h:P:=by
 obtain ⟨f,rfl,hf,hf0⟩:=ho.w1 hw
 conv=>whnf
 exact h _ rfl _ _ _ _ ho):P:=h
theorem m155 {P:Prop} (h:P:=by
 split at h
 ·obtain ⟨L,ts,h1,h2,h3⟩:=h
  exact ⟨L,ts,h1,h2,hb _ _ _ _ _ _ _ _ (fun pe a d hk=>hK _ _ hk) h3⟩
 ·exact h.elim):P:=h
theorem m156 {P:Prop} (h:P:=by
 conv=>whnf
 exact ⟨⟨rfl,x,rfl,⟨g1,g2⟩,g3⟩,(show ((s.length:Int) - (x:Int)).toNat<((s.length:Int) - (e:Int)).toNat by omega)⟩):P:=h
theorem m157 {P:Prop} (h:P:=by
 have hft:G.P.info? f.type=some j:=by rw [ht];exact hj
 have:j.size≠0:=by omega
 simp [fieldPlace,ZB hft,this,Yf,ho']):P:=h
theorem m158 {P:Prop} (h:P:=by
 subst h3
 exact ⟨.ret .undef,σ,e,hK,⟨_,rfl,.undef _⟩,hS.grow (ZAm h4),((ZAm h4).stepped e σ).toLater⟩):P:=h
theorem m159 {P:Prop} (h:P:=by
 rw [show (Array.map (fun x=>match x with | (i,x)=>(i,ρ' x)) ps).toList=(ps.map fun p=>(p.1,ρ' p.2)).toList from rfl,hfill']
 rfl):P:=h
theorem m160 {P:Prop} (h:P:=by
 rw [hx10,R.bind_err,R.bind_err] at h;intro a9 d9;(conv=>whnf);exact h _ _):P:=h
theorem m161 {P:Prop} (h:P:=by
 rw [show off+k=off+rows.length * (T.get el).size+(k - olds.length) by rw [← ho1.len];omega,this]
 rw [Tg hkn] at hk
 exact hk):P:=h
theorem m162 {P:Prop} (h:P:=by
 exact absurd (by decide) c1):P:=h
theorem m163 {P:Prop} (h:P:=by
 simp only [Int.natCast_add] at h
 exact h):P:=h
theorem m164 {P:Prop} (h:P:=by
 apply Classical.byContradiction
 intro hno
 have:=(hli i hlt).2 (fun p hp e=>hno ⟨p,hp,e⟩)
 rw [h1] at this;cases this):P:=h
theorem m165 {P:Prop} (h:P:=by
 split at h
 ·obtain ⟨p,x,B,h1,h2,h3⟩:=h
  exact ⟨p,x,B,h1,h2,fun r hr hr'=>hK _ _ (h3 r hr hr')⟩
 ·exact h.elim):P:=h
theorem m166 {P:Prop} (h:P:=by
 rw [hx3,R.bind_ok] at h
 intro a3 hle3 ho3
 have hb3:=ho3.hi
 conv=>whnf
 rw [← Zg]
 exact h _ (by omega) ho3):P:=h
theorem m167 {P:Prop} (h:P:=by
 rw [Tc (fun g=>t0 ((hwd (by decide)).1 g).2),Tc (fun g=>t1 ((hwd (by decide)).1 g).2),Tf ((hwd (by decide)).2 ⟨hk1,t2⟩)]):P:=h
theorem m168 {P:Prop} (h:P:=by
 have h2:=hlg k (by omega)
 rw [Sv,Tg hk] at h2
 have:=(Th.1 h2).1
 exact ⟨by rw [hsz];exact this,by rw [h2,Tg hk]⟩):P:=h
theorem m169 {P:Prop} (h:P:=by
 cases e;simp only [Js,szS];omega):P:=h
theorem m170 {P:Prop} (h:P:=by
 (repeat' split at h) <;> first
  | exact h.elim
  | (refine ⟨_,h,fun K' h'=>?_⟩;unfold Zh5;rw [hx];simp only [*])):P:=h
theorem m171 {P:Prop} (h:P:=by
 injection hv with _ hv;injection hv with hv1 hv2;injection hv1 with hv1;injection hv1 with _ hv1;exact ⟨by omega,hv2⟩):P:=h
theorem m172 {P:Prop} (h:P:=by
 obtain ⟨pv',σ2,e2,hK,_,hS2,hL2⟩:=XK h1 h3 hk hvr hlv
 exact ⟨r,hr,rfl,⟨r,rfl⟩,σ2,e2,hK,hS2,hL2⟩):P:=h
theorem m173 {P:Prop} (h:P:=by
 simp only [show IntKind.i64.bits=64 from rfl,show IntKind.i64.signed=true from rfl,TE]
 split <;> simp at * <;> omega):P:=h
theorem m174 {P:Prop} (h:P:=by
 rw [hq] at hu
 rw [Tx,hq] at hx
 cases hx;cases hu;exact hρ q):P:=h
theorem m175 {P:Prop} (h:P:=by
 obtain ⟨j,hj,rfl⟩:=TW hu
 have h1:j<l.length:=by omega
 exact (hc2 j l[j] _ (Tg h1) (by rw [← Tx,Tg hj])).2):P:=h
theorem m176 {P:Prop} (h:P:=by
 rcases TT.1 hx with hx | hx
 ·exact (hpw.2.2 x hx (i,o') (by simp)).1
 ·exact fun e=>(hpost.1 x hx).1 e.symm):P:=h
theorem m177 {P:Prop} (h:P:=by
 obtain ⟨k,hk,rfl⟩:=Array.getElem_of_mem hu
 rw [Array.getElem_extract]
 exact h1 _ (Array.getElem_mem _)):P:=h
theorem m178 {P:Prop} (h:P:=by
 simp only [Tb,Td,Te];omega):P:=h
theorem m179 {P:Prop} (h:P:=by
 refine Prod.ext rfl ?_
 simp only [Td];omega):P:=h
theorem m180 {P:Prop} (h:P:=by
 (conv=>whnf);exact h _ (by simp [ZQ,htx,h4])):P:=h
theorem m181 {P:Prop} (h:P:=by
 unfold execOp
 simp only [hop,resolve,hgv,Deferred.ofValue,Sem.run_bind,Sem.run_pure,Result.andThen]
 rfl):P:=h
theorem m182 {P:Prop} (h:P:=by
 unfold World.freeze;split <;> rfl):P:=h
theorem m183 {P:Prop} (h:P:=by
 rw [hblk b (TD hb hS.big) fun q hq=>fun h=>by have:=(hS.own 0 (by simp) q hq).1;omega]
 exact hS.glob b hb):P:=h
theorem m184 {P:Prop} (h:P:=by
 conv=>whnf
 exact h _ _ _ _ _ _ _ _ _ _ ho3):P:=h
theorem m185 {P:Prop} (h:P:=by
 rcases x with ⟨v6,ts6⟩ | ⟨r6,e6⟩
 rotate_left
 ·rw [hx6,R.bind_err] at h;intro a9 d9;(conv=>whnf);exact h _ _
 rw [hx6,R.bind_ok] at h
 intro a6 hle6 ho6
 have hb6:=ho6.hi
 conv=>whnf
 refine ⟨_,fun _ _ h=>h,Ta rfl,?_⟩
 conv=>whnf
 refine ⟨L,ts6,rfl,ho6,[[123]],rfl,by simp,fun b hw7=>?_⟩
 cases b with
 | false =>
  rw [Zq,Tc (by rw [hw7];simp),R.bind_err] at h
  conv=>whnf
  refine ⟨L,ts6,rfl,ho6,fun x hx=>?_⟩
  rw [ZO,Tc (by rw [hw7];simp)] at hx
  subst hx
  intro a9 d9
  conv=>whnf
  exact h _ _
 | true =>
  rw [Zq,Tf hw7] at h
  conv=>whnf
  refine ZAf (fun hc=>?_) (fun hc=>?_)
  ·rw [Tf (by omega),R.bind_err] at h
   conv=>whnf
   refine ⟨L,ts6,rfl,ho6,?_⟩
   conv=>whnf
   exact h _ _
  ·rw [Tc (by omega)] at h
   conv=>whnf
   refine ⟨L,ts6,rfl,ho6,fun x hx=>?_⟩
   rw [ZO,Tf hw7] at hx
   subst hx
   intro a7 hle7 ho7
   have hb7:=ho7.hi
   conv=>whnf
   refine oiO ?_
   conv=>whnf
   refine ⟨_,fun _ _ h=>h,Ta rfl,?_⟩
   conv=>whnf
   refine ⟨L,ts6.tail,rfl,ho7,⟨by omega,by omega,by omega⟩,fun x hx8=>?_⟩
   rcases x with ⟨v8,ts8⟩ | ⟨r8,e8⟩
   rotate_left
   ·rw [hx8,R.bind_err] at h;intro a9 d9;(conv=>whnf);exact h _ _
   rw [hx8,R.bind_ok] at h
   intro a8 hle8 ho8
   have hb8:=ho8.hi
   conv=>whnf
   rw [Tc (by simp)] at h
   refine ⟨L,ts8,rfl,ho8,fun x hx9=>?_⟩
   rcases x with ⟨v9,ts9⟩ | ⟨r9,e9⟩
   rotate_left
   ·rw [hx9,R.bind_err,R.bind_err] at h;intro a9 d9;(conv=>whnf);exact h _ _
   rw [hx9,R.bind_ok,R.bind_ok] at h
   intro a9 hle9 ho9
   have hb9:=ho9.hi
   conv=>whnf
   refine oiO ?_
   conv=>whnf
   rw [TU]
   rw [← Zs]
   exact h _ (by omega) ho9):P:=h
theorem m186 {P:Prop} (h:P:=by
 conv=>whnf
 refine ⟨by omega,fun c0 hc0=>?_⟩
 cases c0 with
 | false =>
  have hL:ZY op rel ar.length bo.length=false:=by unfold ZY;rw [Tf (by omega),hc0];rfl
  exact m48
 | true =>
  conv=>whnf
  refine ZAh (fun q3=>?_) (fun q3=>?_)
  ·have q3:¬bo.length=0:=by have q3:¬((Xy pl bo).length:Int)=0:=q3;rw [hbo] at q3;omega
   have hL:ZY op rel ar.length bo.length=false:=by unfold ZY;rw [Tf (by omega),hc0,TC (show 0<bo.length by omega)];rfl
   exact m48
  ·have q3:bo.length=0:=by have q3:((Xy pl bo).length:Int)=0:=q3;rw [hbo] at q3;omega
   have hL:ZY op rel ar.length bo.length=true:=by unfold ZY;rw [Tf (by omega),hc0,decide_eq_false (show ¬0<bo.length by omega)];rfl
   exact m6):P:=h
theorem m187 {P:Prop} (h:P:=by
 conv=>whnf
 refine ⟨pl,a3,Zg _ _,⟨rfl,by omega,by omega⟩,fun b hb=>?_⟩
 cases b with
 | false =>
  conv=>whnf
  exact h _ (by simp [ZZ,Zm,hb])
 | true =>
  conv=>whnf
  refine ⟨by omega,pl,a4,Zs _ _,⟨rfl,by omega,by omega⟩,fun b hb2=>?_⟩
  conv=>whnf
  exact h _ (by simp [ZZ,Zm,Z2,hlb,hb,hb2])):P:=h
theorem m188 {P:Prop} (h:P:=by
 conv=>whnf
 refine ⟨pl,ar,Zg pl ar,⟨by omega,by omega⟩,fun c1 hc1=>?_⟩
 cases c1 with
 | false =>
  conv=>whnf
  exact no (by rw [ZZ,Zm,hL,hc1];rfl)
 | true =>
  conv=>whnf
  refine ⟨by omega,pl,bo,Zs pl bo,⟨by omega,by omega⟩,fun c2 hc2=>?_⟩
  cases c2 with
  | false =>
   conv=>whnf
   exact no (by rw [ZZ,Zm,Z2,hL,hc1,hc2];rfl)
  | true =>
   have ha:=go (by rw [ZZ,Zm,Z2,hL,hc1,hc2];rfl)
   conv=>whnf
   refine oiO ?_
   conv=>whnf
   refine ⟨⟨i+1,rfl,rfl,by omega,ha⟩,?_⟩
   show ((l.length:Int) - ((i:Int)+1)).toNat<((l.length:Int) - (i:Int)).toNat
   omega):P:=h
theorem m189 {P:Prop} (h:P:=by
 clear two no2
 conv=>whnf
 have three:(nn=0∨op=3)→∀b,(Z3 op tx && xs.all ZQ)=b→K (.ret (.d (.bool b))) ⟨[],[],0⟩:=fun g b hb=>h b (by
  have e2:(decide (nn=0) || decide (op=3))=true:=by simpa using g
  rw [e2,TE];exact hb)
 have no3:¬nn=0→¬op=3→K (.ret (.d (.bool false))) ⟨[],[],0⟩:=fun g1 g2=>h _ (by rw [decide_eq_false g1,decide_eq_false g2];rfl)
 clear h
 refine ZAh (fun h4=>?_) (fun h4=>?_)
 ·conv=>whnf
  refine ZAh (fun h5=>?_) (fun h5=>?_)
  ·conv=>whnf
   exact no3 h5 (by omega)
  have h:=three (.inl h5)
  exact m4
 ·have h:=three (.inr (by omega))
  exact m4):P:=h
theorem m190 {P:Prop} (h:P:=by
 conv=>whnf
 refine ⟨fun _=>0,a2,rfl,⟨by simp only [wBs];omega,by omega⟩,fun b hb0=>?_⟩
 cases b with
 | false =>
  have hlb:ZY a1 a2 a3.length a4.length=false:=by simp [ZY,hop,hb0]
  conv=>whnf
  exact m39
 | true =>
  conv=>whnf
  refine ZAh (fun hB=>?_) (fun hB=>?_)
  ·have hB:¬0<a4.length:=fun g=>hB (hbd.2 g)
   have hlb:ZY a1 a2 a3.length a4.length=true:=by simp only [ZY,hop,hb0,decide_eq_false hB];simp
   exact m15
  ·have hB:=hbd.1 hB
   have hlb:ZY a1 a2 a3.length a4.length=false:=by simp [ZY,hop,hB]
   exact m39):P:=h
theorem m191 {P:Prop} (h:P:=by
 rw [show 5 - 0=5 from rfl] at hS4
 rw [hS4] at hstep
 intro eo es em er ep a4 dp4 w4 pl4 ho4
 conv=>whnf
 refine ⟨Tn.2 rfl,(show (rows.length+1) * 64≤2 ^ 47 by omega),(show rows.length+1≤2 ^ 47 by omega),?_⟩
 conv=>whnf
 (repeat (refine ⟨rfl,?_⟩;conv=>whnf))
 refine oiO ?_
 conv=>whnf
 refine ⟨⟨i+1,_,a4,dp4,w4,pl4,S4,rfl,(by rw [Tb];show rows.length+1≤i+1;omega),rfl,ho4,hstep⟩,?_⟩
 show ((YF o:Int) - ((i:Int)+1)).toNat<((YF o:Int) - (i:Int)).toNat
 omega):P:=h
theorem m192 {P:Prop} (h:P:=by
 conv=>whnf
 refine oiO ?_
 conv=>whnf
 refine oiD ?_
 conv=>whnf
 refine ⟨L,_,rfl,SOK.mk hr3 rfl hd2,4+1,by omega,by omega,(by rintro d' ts' hq;cases hq;omega),fun S3 hS3=>?_⟩
 rw [show 5 - (4+1)=4 - 4 by omega] at hS3
 exact m7):P:=h
theorem m193 {P:Prop} (h:P:=by
 conv=>whnf
 refine ZAf (fun h3=>?_) (fun h3=>?_)
 ·conv=>whnf
  exact h _ (by simp [ZQ,htx])
 conv=>whnf
 refine ZAf (fun h5=>?_) (fun h5=>?_)
 rotate_left
 ·have h5:¬a1=3:=by omega
  (conv=>whnf);exact h _ (by simp [ZQ,h3,h5])
 have h5:a1=3:=by omega
 have hor:(decide (a3=0) || decide (a1=3))=true:=by simp [h5]
 conv=>whnf
 exact h _ (by simp [ZQ,htx])):P:=h
theorem m194 {P:Prop} (h:P:=by
 have g5:ZJ (s.drop a)=none:=by
  unfold ZJ
  simp only [hx',if_true,Tr,if_false]
  rcases h5' with g | g
  ·rw [Tf g]
  ·by_cases g0:Zd (s.drop a)=[]
   ·rw [Tf g0]
   ·rw [Tc g0,Tf g]
 conv=>whnf
 refine ⟨⟨by omega,by omega⟩,?_⟩
 conv=>whnf
 (try (refine ⟨rfl,?_⟩;conv=>whnf))
 (try (refine ⟨rfl,?_⟩;conv=>whnf))
 exact hbad g5):P:=h
theorem m195 {P:Prop} (h:P:=by
 conv=>whnf
 refine oiO ?_
 conv=>whnf
 refine ⟨⟨_,_,_,_,_,.ok d6 ts6.tail,rfl,rfl,SOK.mk hr7 hdp6 hd6,?_⟩,?_⟩
 ·rw [Tb];exact hmr.le hwide
 ·obtain ⟨_,_,_,_,_,_,_,hle⟩:=her
  exact m245):P:=h
theorem m196 {P:Prop} (h:P:=by
 conv=>whnf
 refine ZAf (fun hle=>?_) (fun hle=>?_)
 ·conv=>whnf
  (repeat (first | (refine oiO ?_;conv=>whnf) | (refine ⟨_,by omega,hr1,?_⟩;conv=>whnf)))
  refine ⟨by omega,pl,b4,B,Zs _ _,⟨⟨by omega,by omega⟩,by omega,by omega,hB⟩,fun r hr0 hrb=>?_⟩
  unfold bd2 at hrb
  conv=>whnf
  refine oiO ?_
  exact m20
 exact m20):P:=h
theorem m197 {P:Prop} (h:P:=by
 conv=>whnf
 refine ZAf (fun hle=>?_) (fun hle=>?_)
 ·conv=>whnf
  (repeat (first | (refine oiO ?_;conv=>whnf) | (refine ⟨_,by omega,hr1,?_⟩;conv=>whnf)))
  refine ⟨pl,b4,B,Zs _ _,⟨⟨by omega,by omega⟩,by omega,by omega,hB⟩,fun r hr0 hrb=>?_⟩
  unfold bd2 at hrb
  conv=>whnf
  refine oiO ?_
  exact m20
 exact m20):P:=h
theorem m198 {P:Prop} (h:P:=by
 conv=>whnf
 refine ⟨by omega,pl,xs,Zg pl xs,⟨by omega,by omega⟩,fun b2 hb2=>?_⟩
 conv=>whnf
 exact h _ hb2):P:=h
theorem m199 {P:Prop} (h:P:=by
 conv=>whnf
 refine ⟨fun r hr=>by (simp at hr;rcases hr with rfl <;> rfl),(show (rows.length+1) * 1≤2 ^ 47 by omega),(show rows.length+1≤2 ^ 47 by omega),?_⟩
 exact m54):P:=h
theorem m200 {P:Prop} (h:P:=by
 have hb:=ZzL hu0 G g
 have B:=ZzM G g
 rw [hb] at h
 conv=>whnf
 refine oiD ?_
 conv=>whnf
 refine ⟨B.1,B.2,?_⟩
 conv=>whnf
 refine ⟨by decide,by decide,?_⟩
 conv=>whnf
 refine ⟨by decide,by decide,?_⟩
 conv=>whnf
 refine ⟨?_,?_,?_,?_⟩
 rotate_left 3
 ·exact m54
 ·rfl
 ·rfl):P:=h
theorem m201 {P:Prop} (h:P:=by
 have h5:¬a1=3:=by omega
 (conv=>whnf);exact h _ (by simp [ZQ,h3,h5])):P:=h
theorem m202 {P:Prop} (h:P:=by
 rw [hm,Tf ⟨hb,hc⟩] at h
 conv=>whnf
 refine ⟨L,ts1,rfl,ho1,?_⟩
 exact m53):P:=h
theorem m203 {P:Prop} (h:P:=by
 show ((L.length:Int) - a3).toNat<((L.length:Int) - a').toNat
 omega):P:=h
theorem m204 {P:Prop} (h:P:=by
 have hmr:=her.more hb6
 cases S7 with
 | bad e=>cases hb6
 | ok d6 ts6 =>
  have hb6:isW ts6 [[44]]=true:=hb6
  obtain ⟨rfl,hr6,hdp6,hd6⟩:=ho7
  have hr7:=hr6.tlq (ZN hb6)
  have q1:=hr7.lo
  have q2:=hr7.hi
  have q3:=hr7.len
  have q5:=hr7.big
  exact m18):P:=h
theorem m205 {P:Prop} (h:P:=by
 rcases x with ⟨v2,ts2⟩ | ⟨r2,e2⟩
 rotate_left
 ·exact m50
 rw [hx2,R.bind_ok] at h
 intro a2 hle2 ho2
 have hb2:=ho2.hi
 conv=>whnf
 refine ⟨L,ts2,rfl,ho2,fun x hx3=>?_⟩
 rcases x with ⟨v3,ts3⟩ | ⟨r3,e3⟩
 rotate_left
 ·exact m28
 exact m114):P:=h
theorem m206 {P:Prop} (h:P:=by
 rw [Tf (by omega)] at h
 conv=>whnf
 refine ⟨L,ts,rfl,ho,?_⟩
 exact m53):P:=h
theorem m207 {P:Prop} (h:P:=by
 have h6:¬(a4.length:Int)=a:=fun g=>h6 (by show ((ZM pl a4).length:Int)=a;rw [hl4];exact g)
 (conv=>whnf);exact h _ (by simp [ZQ,ha,h2,h6])):P:=h
theorem m208 {P:Prop} (h:P:=by
 conv=>whnf
 refine ⟨fun _=>0,a2,rfl,⟨by simp only [wBs];omega,by omega⟩,fun b hb0=>?_⟩
 cases b with
 | false =>
  have htx:Z3 a1 a2=false:=by simp [Z3,hop,hb0]
  exact m13
 | true =>
  have htx:Z3 a1 a2=true:=by simp [Z3,hop,hb0]
  exact m8):P:=h
theorem m209 {P:Prop} (h:P:=by
 conv=>whnf
 rw [Tf (by rw [Ti] at g;omega)] at h
 exact h _ _):P:=h
theorem m210 {P:Prop} (h:P:=by
 conv=>whnf
 exact h _ (by simp [ZZ,hlb])):P:=h
theorem m211 {P:Prop} (h:P:=by
 show ((L.length:Int) - (a2+1)).toNat<((L.length:Int) - a1).toNat
 omega):P:=h
theorem m212 {P:Prop} (h:P:=by
 conv=>whnf
 refine ⟨L,_,rfl,ho4,fun S4 hS4=>?_⟩
 rw [Tf rfl] at hpr
 have hpr:PRg [44] 32 ZA (fun d=>Zbr d (W2 d)) (n+1) (rows.length+ts3.length) X S4 rows.length:=by rw [← hS4];exact hpr
 intro a5 dp5 w5 pl5 ho5
 exact m14):P:=h
theorem m213 {P:Prop} (h:P:=by
 rw [hx3,R.bind_err] at h;intro a9 d9;(conv=>whnf);exact h _ _):P:=h
theorem m214 {P:Prop} (h:P:=by
 conv=>whnf
 refine oiO ?_
 conv=>whnf
 refine oiD ?_
 conv=>whnf
 refine ⟨L,_,rfl,SOK.mk hr3 rfl hd2,3+1,by omega,by omega,(by rintro d' ts' hq;cases hq;omega),fun S3 hS3=>?_⟩
 rw [show 5 - (3+1)=4 - 3 by omega] at hS3
 exact m7):P:=h
theorem m215 {P:Prop} (h:P:=by
 conv=>whnf
 refine oiO ?_
 conv=>whnf
 refine oiD ?_
 conv=>whnf
 refine ⟨L,_,rfl,SOK.mk hr3 rfl hd2,2+1,by omega,by omega,(by rintro d' ts' hq;cases hq;omega),fun S3 hS3=>?_⟩
 rw [show 5 - (2+1)=4 - 2 by omega] at hS3
 exact m7):P:=h
theorem m216 {P:Prop} (h:P:=by
 conv=>whnf
 refine oiO ?_
 conv=>whnf
 refine oiD ?_
 conv=>whnf
 refine ⟨L,_,rfl,SOK.mk hr3 rfl hd2,0+1,by omega,by omega,(by rintro d' ts' hq;cases hq;omega),fun S3 hS3=>?_⟩
 rw [show 5 - (0+1)=4 - 0 by omega] at hS3
 exact m7):P:=h
theorem m217 {P:Prop} (h:P:=by
 rw [step,R.bind_err] at h
 intro a2 dp2
 conv=>whnf
 exact h _ _):P:=h
theorem m218 {P:Prop} (h:P:=by
 show LeavesIn _ _ _ _ _ _ _ _ _
 rw [hd0]
 refine go _ (by simp) ((hd.ret _ _ _ hq _ _ _ _ h1 hfa').mono fun en u2 w2 hh=>?_)
 obtain ⟨rfl,⟨r,rfl⟩,σ2,e2,hK,hS2,hL'⟩:=hh
 exact after hS2 hL' hK):P:=h
theorem m219 {P:Prop} (h:P:=by
 rw [Tc (by simp)] at h
 refine ⟨L,ts2,rfl,ho2,fun x hx3=>?_⟩
 exact m19):P:=h
theorem m220 {P:Prop} (h:P:=by
 conv=>whnf
 refine ⟨fun r hr=>by (simp at hr;rcases hr with rfl | rfl | rfl <;> rfl),(show (rows.length+3) * 1≤2 ^ 47 by omega),(show rows.length+3≤2 ^ 47 by omega),?_⟩
 conv=>whnf
 exact g):P:=h
theorem m221 {P:Prop} (h:P:=by
 have hc3:¬a2<l.length:=by have hc3:¬a2<((Zv l).length:Int):=hc3;rw [ZC] at hc3;exact hc3
 obtain rfl:ts2=[]:=TN (by omega)
 conv=>whnf
 refine ⟨Ta rfl,?_⟩
 exact m54):P:=h
theorem m222 {P:Prop} (h:P:=by
 refine ⟨⟨rfl,e+(pk (s.drop e)).2,f,k1,k2,rfl,k3,k4⟩,?_⟩
 exact (show ((s.length:Int) - ((e:Int)+((pk (s.drop e)).2:Int))).toNat<((s.length:Int) - (e:Int)).toNat by omega)):P:=h
theorem m223 {P:Prop} (h:P:=by
 rw [← hee];exact ⟨by have h6':Zf (pk (s.drop ((e:Int)).toNat)).1=false:=h6;rw [h6'];simp,by have h7':Zj (pk (s.drop ((e:Int)).toNat)).1=false:=h7;rw [h7'];simp⟩):P:=h
theorem m224 {P:Prop} (h:P:=by
 exact (show ((s.length:Int) - ((e:Int)+1)).toNat<((s.length:Int) - (e:Int)).toNat by omega)):P:=h
theorem m225 {P:Prop} (h:P:=by
 exact (show ((l.length:Int) - ((i:Int)+1)).toNat<((l.length:Int) - (i:Int)).toNat by omega)):P:=h
theorem m226 {P:Prop} (h:P:=by
 conv=>whnf
 refine ⟨by omega,pl,a4,Zg _ _,⟨rfl,by omega,by omega⟩,fun b hb=>?_⟩
 conv=>whnf
 exact h _ (by simp [ZQ,Zm,ha,htx,hb,h1,h6,hor])):P:=h
theorem m227 {P:Prop} (h:P:=by
 conv=>whnf
 refine ⟨by omega,pl,a4,Zg _ _,⟨rfl,by omega,by omega⟩,fun b hb=>?_⟩
 conv=>whnf
 exact h _ (by simp [ZQ,Zm,ha,htx,hb,h1,h2,hor])):P:=h
theorem m228 {P:Prop} (h:P:=by
 conv=>whnf
 refine ⟨by omega,pl,a4,Zg _ _,⟨rfl,by omega,by omega⟩,fun b hb=>?_⟩
 conv=>whnf
 exact h _ (by simp [ZQ,Zm,ha,htx,hb,h1,h6,h3])):P:=h
theorem m229 {P:Prop} (h:P:=by
 conv=>whnf
 refine ⟨by omega,pl,a4,Zg _ _,⟨rfl,by omega,by omega⟩,fun b hb=>?_⟩
 conv=>whnf
 exact h _ (by simp [ZQ,Zm,ha,htx,hb,h1,h2,h3])):P:=h
theorem m230 {P:Prop} (h:P:=by
 conv=>whnf
 refine ZAf (fun h6=>?_) (fun h6=>?_)
 ·conv=>whnf
  refine ZAf (fun h7=>absurd ⟨h6,h7⟩ k3) (fun h7=>?_)
  exact m54
 ·exact m54):P:=h
theorem m231 {P:Prop} (h:P:=by
 rw [Zq,Tc (by rw [hw1];simp)] at h
 exact m33):P:=h
theorem m232 {P:Prop} (h:P:=by
 conv=>whnf
 (try (refine ⟨rfl,?_⟩;conv=>whnf))
 (try (refine ⟨rfl,?_⟩;conv=>whnf))
 exact hbad (by rw [g6,Tf (.inr (.inl (by rw [← hee];exact h7)))])):P:=h
theorem m233 {P:Prop} (h:P:=by
 refine Or.inr ?_
 conv=>whnf
 refine ZAf (fun h8=>?_) (fun h8=>?_)
 ·conv=>whnf
  exact hov (by omega)
 ·exfalso;exact h8 (by rw [hw];omega)):P:=h
theorem m234 {P:Prop} (h:P:=by
 conv=>whnf
 (try (refine ⟨rfl,?_⟩;conv=>whnf))
 (try (refine ⟨rfl,?_⟩;conv=>whnf))
 exact hbad (by rw [g6,Tf (.inl (by rw [← hee];exact h6))])):P:=h
theorem m235 {P:Prop} (h:P:=by
 rw [hx5,R.bind_err] at h;intro a9 d9;(conv=>whnf);exact h _ _):P:=h
theorem m236 {P:Prop} (h:P:=by
 conv=>whnf
 exact hov (by omega)):P:=h
theorem m237 {P:Prop} (h:P:=by
 conv=>whnf
 refine ⟨L,ts,rfl,ho,fun x hx=>?_⟩
 rw [ZO,Tc (by rw [hw1];simp)] at hx
 subst hx
 intro a9 d9
 conv=>whnf
 exact h _ _):P:=h
theorem m238 {P:Prop} (h:P:=by
 conv=>whnf
 exact h _ rfl):P:=h
theorem m239 {P:Prop} (h:P:=by
 rw [hp,TE] at hs
 conv=>whnf
 refine oiO ?_
 conv=>whnf
 refine ⟨⟨i+1,rfl,rfl,by omega,hs⟩,?_⟩
 exact m43):P:=h
theorem m240 {P:Prop} (h:P:=by
 simp only [IntKind.wrap,show IntKind.u64.bits=64 from rfl,show IntKind.u64.signed=false from rfl,Sc,Tr,if_false]
 omega):P:=h
theorem m241 {P:Prop} (h:P:=by
 exact (show u.length - (i+(decodeL u i).2)<u.length - i by omega)):P:=h
theorem m242 {P:Prop} (h:P:=by
 have h1:¬-2<a:=h1;(conv=>whnf);exact h _ (by simp [ZQ,ha,h1])):P:=h
theorem m243 {P:Prop} (h:P:=by
 exact (show ((s.length:Int) - ((i:Int)+((pk (s.drop i)).2:Int))).toNat<((s.length:Int) - (i:Int)).toNat by omega)):P:=h
theorem m244 {P:Prop} (h:P:=by
 rw [hx2,R.bind_err] at h;intro a9 d9;(conv=>whnf);exact h _ _):P:=h
theorem m245 {P:Prop} (h:P:=by
 show (if (0:Int)=0 then ((L.length:Int) - (a7+1)).toNat+1 else 0)<(if w3=0 then ((L.length:Int) - a3).toNat+1 else 0)
 rw [Tf rfl,Tf hw]
 have q4:=hr6.len
 omega):P:=h
theorem m246 {P:Prop} (h:P:=by
 have h12:¬(9<a1∧a1≤12):=by omega
 have hlb:ZY a1 a2 a3.length a4.length=false:=by simp only [ZY,hn12,hn38,hn9,h12,if_false]
 exact m210):P:=h
end
