/- A part of the proof: plain logic, contracts and laws over the given program. -/
import Derived.Test.YtflgockgjnddnaaGreatDoorG06
set_option linter.unusedVariables false
set_option linter.unusedSimpArgs false
set_option linter.all false
section
set_option maxRecDepth 100000
set_option maxHeartbeats 4000000
namespace Go.PM.Lex
open Go.Proofs
variable {w0:World} {nG:Nat}
def signedB:Nat→Ts→R Ex
 | 0=>fun _=>.err 0 150
 | d+1=>signedD d
theorem exprB_eq (d:Nat):exprB d=fun ts=>lineK (signedB d) 6 1 ts:=by cases d <;> rfl
theorem signedD_eq (d:Nat) (ts:Ts):signedD d ts=signedF d (signedB d) ts:=by cases d <;> rfl
theorem startsF_ne {ts:Ts} (h:startsF ts=true):ts≠[]:=by rintro rfl;simp [startsF,hd] at h
noncomputable abbrev spExprB (d:Nat):Spec:=spRB (fun L en (v:Ex)=>aggD (encE (placeOf L en) v)) (exprB d) 0 d
noncomputable abbrev spSignedB (d:Nat):Spec:=spRB (fun L en (v:Ex)=>aggD (encE (placeOf L en) v)) (signedB d) 0 d
noncomputable abbrev spExpr (d:Nat):Spec:=spRD (fun L en (v:Ex)=>aggD (encE (placeOf L en) v)) (exprD d) 0 d
noncomputable abbrev spSigned (d:Nat):Spec:=spRD (fun L en (v:Ex)=>aggD (encE (placeOf L en) v)) (signedD d) 0 d
noncomputable abbrev spPrimary (d:Nat):Spec:=spRD (fun L en (v:Ex)=>aggD (encE (placeOf L en) v)) (primaryF d (exprB d)) 0 d
noncomputable def spArgs (d:Nat):Spec:=rdSp fun rest L en dp a ts K=>match rest with
 | [.d (.str fr),.d (.str to)]=>((dp=64 - (d:Int)∧0≤dp)∧to≠[])∧∀x,argsF d (exprB d) fr to ts=x→RKk (fun (l:List Ex)=>.d (.sl (l.map (encE (placeOf L en))))) L en dp a x K
 | _=>False
theorem spArgs_mono (d:Nat):SpecMono (spArgs d):=rdSp_mono fun rest L en dp a ts K K' hK h=>by
 split at h
 ·exact ⟨h.1,fun x hx=>RKk_mono hK (h.2 x hx)⟩
 ·exact h.elim
noncomputable def spCall (d:Nat):Spec:=rdSp fun rest L en dp a ts K=>match rest with
 | [.agg [.d (.int .u8 op),.d (.str []),.d (.int .i64 n),.nils e,.d (.int .i64 at')]]=>((dp=64 - (d:Int)∧0≤dp)∧n=0∧e=24)∧∃o:Nat,op=(o:Int)∧∀x,withinF d [40] [41] (callGo (exprB d) (arity o) []) ts=x →
   RKk (fun (l:List Ex)=>.agg [.d (.int .u8 op),.d (.str []),.d (.int .i64 0),.d (.sl (l.map (encE (placeOf L en)))),.d (.int .i64 at')]) L en dp a x K
 | _=>False
theorem spCall_mono (d:Nat):SpecMono (spCall d):=rdSp_mono fun rest L en dp a ts K K' hK h=>by
 split at h
 ·obtain ⟨h0,o,h1,h2⟩:=h
  exact ⟨h0,o,h1,fun x hx=>RKk_mono hK (h2 x hx)⟩
 ·exact h.elim
noncomputable def spManyExB (d:Nat):Spec:=fun args σ K=>match args,σ with
 | [.ptr 0 0,.d (.str sg),.d (.int .i64 m),.func g1 [.ptr 0 0] [],.func g2 [.ptr 0 0] []],⟨[.cells t [.d (.sl rows),.d (.int .i64 a),.d (.int .i64 en),.d (.int .i64 dp)]],[],0⟩ =>
   (sg=[44]∧m=12∧g1=262∧g2=35∧0<d∧dp=65 - (d:Int)∧0≤dp)∧∃L ts,rows=toksR L∧ROK L a ts∧∀x,manyF [44] 12 startsF (exprB d) ts=x →
    RKk (fun (l:List Ex)=>.d (.sl (l.map (encE (placeOf L en))))) L en dp a x fun pe a' dp'=>K pe ⟨[.cells t [.d (.sl (toksR L)),.d (.int .i64 a'),.d (.int .i64 en),.d (.int .i64 dp')]],[],0⟩
 | _,_=>False
theorem spManyExB_mono (d:Nat):SpecMono (spManyExB d):=fun args σ K K' hK h=>by
 unfold spManyExB at h ⊢
 split at h
 ·obtain ⟨h0,L,ts,h1,h2,h3⟩:=h
  exact ⟨h0,L,ts,h1,h2,fun x hx=>RKk_mono (fun _ _ _ hk=>hK _ _ hk) (h3 x hx)⟩
 ·exact h.elim
noncomputable def tblArgs1 (d:Nat):Tbl:=[(136,spIs),(261,spManyExB d)]
noncomputable def tblArgsW (d:Nat):Tbl:=[(136,spIs),(143,spMust),(81,spFail),(260,spIn Tryz.f260 (tblArgs1 d))]
noncomputable def tblArgs (d:Nat):Tbl:=[(204,spIn Tryz.f204 (tblArgsW d))]
theorem args_ok {d:Nat} (ht:TblOK (GG w0 nG) (tblArgs d)):PCalls (GG w0 nG) 207 (spArgs d):=by
 refine pcalls tab_ok mixed (tbl:=tblArgs d) ht Tryz.func207 rfl (by kernel_rfl) (by kernel_rfl) ?_
 intro args σ K h
 unfold spArgs rdSp at h
 split at h
 ·rename_i rest t rows a en dp
  obtain ⟨L,ts,rfl,ho,h⟩:=h
  split at h
  ·rename_i fr to
   obtain ⟨⟨hdp,hto⟩,h⟩:=h
   have h0:=ho.lo
   have h1:=ho.hi
   have h2:=ho.big
   refine ⟨loopsOf [],1,false,by simp,Nat.le_of_ble_eq_true rfl,?_⟩
   have h:=h _ rfl
   unfold argsF at h
   conv=>whnf
   refine ⟨_,fun _ _ h=>h,Nat.le_of_ble_eq_true rfl,?_⟩
   conv=>whnf
   refine ⟨L,ts,rfl,ho,[fr],rfl,by simp,fun b hw1=>?_⟩
   cases b with
   | false =>
    rw [withinF,if_neg (by rw [hw1];simp)] at h
    conv=>whnf
    refine ⟨L,ts,rfl,ho,fun x hx=>?_⟩
    rw [mustF,if_neg (by rw [hw1];simp)] at hx
    subst hx
    intro a9 d9
    conv=>whnf
    exact h _ _
   | true =>
    rw [withinF,if_pos hw1] at h
    conv=>whnf
    refine CondP.dec (fun hc=>?_) (fun hc=>?_)
    ·rw [if_pos (by omega)] at h
     conv=>whnf
     refine ⟨L,ts,rfl,ho,?_⟩
     conv=>whnf
     exact h _ _
    ·rw [if_neg (by omega)] at h
     conv=>whnf
     refine ⟨L,ts,rfl,ho,fun x hx=>?_⟩
     rw [mustF,if_pos hw1] at hx
     subst hx
     intro a1 hle1 ho1
     have hb1:=ho1.hi
     conv=>whnf
     refine Or.inl ⟨InR.i64 (by omega) (by omega),?_⟩
     conv=>whnf
     refine ⟨_,fun _ _ h=>h,Nat.le_of_ble_eq_true rfl,?_⟩
     conv=>whnf
     refine ⟨L,ts.tail,rfl,ho1,[to],rfl,by simp,fun b hw4=>?_⟩
     have hgo:∀(x:R (List Ex)),(if isW ts.tail [to]=true then R.ok [] ts.tail else manyF [44] 12 startsF (exprB d) ts.tail)=x→True:=fun _ _=>trivial
     cases b with
     | true =>
      rw [if_pos hw4,R.bind_ok] at h
      conv=>whnf
      have ho2:=ho1
      refine CondP.ndec (fun _=>?_) (fun g=>absurd g hto)
      conv=>whnf
      rw [if_neg hto] at h
      refine ⟨L,ts.tail,rfl,ho1,fun x hx3=>?_⟩
      rcases x with ⟨v3,ts3⟩ | ⟨r3,e3⟩
      rotate_left
      ·rw [hx3,R.bind_err] at h;intro a9 d9;(conv=>whnf);exact h _ _
      rw [hx3,R.bind_ok] at h
      intro a3 hle3 ho3
      have hb3:=ho3.hi
      conv=>whnf
      refine Or.inl ⟨InR.i64 (by omega) (by omega),?_⟩
      conv=>whnf
      rw [Int.add_sub_cancel]
      exact h _ (by omega) ho3
     | false =>
      rw [if_neg (by rw [hw4];simp)] at h
      conv=>whnf
      refine ⟨⟨rfl,rfl,rfl,rfl,by omega,by omega,by omega⟩,L,ts.tail,rfl,ho1,fun x hx2=>?_⟩
      rcases x with ⟨v2,ts2⟩ | ⟨r2,e2⟩
      rotate_left
      ·rw [hx2,R.bind_err] at h;intro a9 d9;(conv=>whnf);exact h _ _
      rw [hx2,R.bind_ok] at h
      intro a2 hle2 ho2
      have hb2:=ho2.hi
      conv=>whnf
      refine CondP.ndec (fun _=>?_) (fun g=>absurd g hto)
      conv=>whnf
      rw [if_neg hto] at h
      refine ⟨L,ts2,rfl,ho2,fun x hx3=>?_⟩
      rcases x with ⟨v3,ts3⟩ | ⟨r3,e3⟩
      rotate_left
      ·rw [hx3,R.bind_err] at h;intro a9 d9;(conv=>whnf);exact h _ _
      rw [hx3,R.bind_ok] at h
      intro a3 hle3 ho3
      have hb3:=ho3.hi
      conv=>whnf
      refine Or.inl ⟨InR.i64 (by omega) (by omega),?_⟩
      conv=>whnf
      rw [Int.add_sub_cancel]
      exact h _ (by omega) ho3
  ·exact h.elim
 ·exact h.elim
end Go.PM.Lex
end

section
set_option maxRecDepth 100000
set_option maxHeartbeats 4000000
namespace Go.PM.Lex
open Go.Proofs
variable {w0:World} {nG:Nat}
theorem callGo_eq (ex:Ts→R Ex) (k:Nat) (l:List Ex) (ts:Ts):callGo ex (k+1) l ts=(if l=[] then .ok () ts else mustF [44] ts).bind fun _ ts=>(ex ts).bind fun e ts=>callGo ex k (l++[e]) ts:=rfl
noncomputable def tblCall1 (d:Nat):Tbl:=[(143,spMust),(35,spExprB d)]
noncomputable def tblCallW (d:Nat):Tbl:=[(136,spIs),(143,spMust),(81,spFail),(313,spInU Tryz.f313 (unrOf [(1,5)]) (tblCall1 d))]
noncomputable def tblCall (d:Nat):Tbl:=[(204,spIn Tryz.f204 (tblCallW d))]
theorem call_ok {d:Nat} (ht:TblOK (GG w0 nG) (tblCall d)):PCalls (GG w0 nG) 283 (spCall d):=by
 refine pcalls tab_ok mixed (tbl:=tblCall d) ht Tryz.func283 rfl (by kernel_rfl) (by kernel_rfl) ?_
 intro args σ K h
 unfold spCall rdSp at h
 split at h
 ·rename_i rest t rows a en dp
  obtain ⟨L,ts,rfl,ho,h⟩:=h
  split at h
  ·rename_i op n e at'
   obtain ⟨⟨hdp,rfl,rfl⟩,o,rfl,h⟩:=h
   have h:=h _ rfl
   have h0:=ho.lo
   have h1:=ho.hi
   have h2:=ho.big
   refine ⟨loopsOf [],1,false,by simp,Nat.le_of_ble_eq_true rfl,?_⟩
   conv=>whnf
   refine CondP.dec (fun hop=>?_) (fun hop=>?_)
   ·obtain rfl:o=22:=by omega
    have har:arity 22=3:=rfl
    conv=>whnf
    refine Or.inl ⟨InR.i64 (by decide) (by decide),?_⟩
    conv=>whnf
    refine Or.inl ⟨InR.i64 (by decide) (by decide),?_⟩
    conv=>whnf
    rw [har] at h
    refine ⟨_,fun _ _ h=>h,Nat.le_of_ble_eq_true rfl,?_⟩
    conv=>whnf
    refine ⟨L,ts,rfl,ho,[[40]],rfl,by simp,fun b hw1=>?_⟩
    cases b with
    | false =>
     rw [withinF,if_neg (by rw [hw1];simp)] at h
     conv=>whnf
     refine ⟨L,ts,rfl,ho,fun x hx=>?_⟩
     rw [mustF,if_neg (by rw [hw1];simp)] at hx
     subst hx
     intro a9 d9
     conv=>whnf
     exact h _ _
    | true =>
     rw [withinF,if_pos hw1] at h
     conv=>whnf
     refine CondP.dec (fun hc=>?_) (fun hc=>?_)
     ·rw [if_pos (by omega)] at h
      conv=>whnf
      refine ⟨L,ts,rfl,ho,?_⟩
      conv=>whnf
      exact h _ _
     ·rw [if_neg (by omega)] at h
      conv=>whnf
      refine ⟨L,ts,rfl,ho,fun x hx=>?_⟩
      rw [mustF,if_pos hw1] at hx
      subst hx
      intro a1 hle1 ho1
      have hb1:=ho1.hi
      conv=>whnf
      refine Or.inl ⟨InR.i64 (by omega) (by omega),?_⟩
      conv=>whnf
      refine ⟨_,fun _ _ h=>h,Nat.le_of_ble_eq_true rfl,?_⟩
      conv=>whnf
      rw [callGo_eq] at h
      rw [if_pos rfl,R.bind_ok] at h
      refine ⟨L,ts.tail,rfl,ho1,⟨by omega,by omega,by omega⟩,fun x hx10=>?_⟩
      rcases x with ⟨v10,ts10⟩ | ⟨r10,e10⟩
      rotate_left
      ·rw [hx10,R.bind_err,R.bind_err] at h;intro a9 d9;(conv=>whnf);exact h _ _
      rw [hx10,R.bind_ok] at h
      intro a10 hle10 ho10
      have hb10:=ho10.hi
      obtain ⟨v10a,v10b,v10c,v10d,v10e⟩:=v10
      conv=>whnf
      refine ⟨rfl,rfl,Nat.le_of_ble_eq_true rfl,Nat.le_of_ble_eq_true rfl,?_⟩
      conv=>whnf
      repeat (refine ⟨rfl,?_⟩;conv=>whnf)
      refine Or.inl ⟨InR.i64 (by decide) (by decide),?_⟩
      conv=>whnf
      rw [callGo_eq] at h
      rw [if_neg (by simp)] at h
      refine ⟨L,ts10,rfl,ho10,fun x hx11=>?_⟩
      rcases x with ⟨v11,ts11⟩ | ⟨r11,e11⟩
      rotate_left
      ·rw [hx11,R.bind_err,R.bind_err] at h;intro a9 d9;(conv=>whnf);exact h _ _
      rw [hx11,R.bind_ok] at h
      intro a11 hle11 ho11
      have hb11:=ho11.hi
      conv=>whnf
      refine ⟨L,ts11,rfl,ho11,⟨by omega,by omega,by omega⟩,fun x hx12=>?_⟩
      rcases x with ⟨v12,ts12⟩ | ⟨r12,e12⟩
      rotate_left
      ·rw [hx12,R.bind_err,R.bind_err] at h;intro a9 d9;(conv=>whnf);exact h _ _
      rw [hx12,R.bind_ok] at h
      intro a12 hle12 ho12
      have hb12:=ho12.hi
      obtain ⟨v12a,v12b,v12c,v12d,v12e⟩:=v12
      conv=>whnf
      refine ⟨rfl,rfl,Nat.le_of_ble_eq_true rfl,Nat.le_of_ble_eq_true rfl,?_⟩
      conv=>whnf
      repeat (refine ⟨rfl,?_⟩;conv=>whnf)
      refine Or.inl ⟨InR.i64 (by decide) (by decide),?_⟩
      conv=>whnf
      rw [callGo_eq] at h
      rw [if_neg (by simp)] at h
      refine ⟨L,ts12,rfl,ho12,fun x hx13=>?_⟩
      rcases x with ⟨v13,ts13⟩ | ⟨r13,e13⟩
      rotate_left
      ·rw [hx13,R.bind_err,R.bind_err] at h;intro a9 d9;(conv=>whnf);exact h _ _
      rw [hx13,R.bind_ok] at h
      intro a13 hle13 ho13
      have hb13:=ho13.hi
      conv=>whnf
      refine ⟨L,ts13,rfl,ho13,⟨by omega,by omega,by omega⟩,fun x hx14=>?_⟩
      rcases x with ⟨v14,ts14⟩ | ⟨r14,e14⟩
      rotate_left
      ·rw [hx14,R.bind_err,R.bind_err] at h;intro a9 d9;(conv=>whnf);exact h _ _
      rw [hx14,R.bind_ok] at h
      intro a14 hle14 ho14
      have hb14:=ho14.hi
      obtain ⟨v14a,v14b,v14c,v14d,v14e⟩:=v14
      conv=>whnf
      refine ⟨rfl,rfl,Nat.le_of_ble_eq_true rfl,Nat.le_of_ble_eq_true rfl,?_⟩
      conv=>whnf
      repeat (refine ⟨rfl,?_⟩;conv=>whnf)
      refine Or.inl ⟨InR.i64 (by decide) (by decide),?_⟩
      conv=>whnf
      rw [callGo] at h
      rw [R.bind_ok] at h
      have hx99:ts14=ts14:=rfl
      have ho2:=ho14
      obtain ⟨ts2,hts2⟩:∃t,t=ts14:=⟨_,rfl⟩
      rw [← hts2] at h ho2
      rw [if_neg (by simp)] at h
      refine ⟨L,ts2,rfl,ho2,fun x hx3=>?_⟩
      rcases x with ⟨v3,ts3⟩ | ⟨r3,e3⟩
      rotate_left
      ·rw [hx3,R.bind_err] at h;intro a9 d9;(conv=>whnf);exact h _ _
      rw [hx3,R.bind_ok] at h
      intro a3 hle3 ho3
      have hb3:=ho3.hi
      conv=>whnf
      refine Or.inl ⟨InR.i64 (by omega) (by omega),?_⟩
      conv=>whnf
      rw [Int.add_sub_cancel]
      exact h _ (by omega) ho3
   conv=>whnf
   refine CondP.dec (fun hop2=>?_) (fun hop2=>?_)
   ·obtain rfl:o=20:=by omega
    have har:arity 20=2:=rfl
    conv=>whnf
    refine Or.inl ⟨InR.i64 (by decide) (by decide),?_⟩
    conv=>whnf
    rw [har] at h
    refine ⟨_,fun _ _ h=>h,Nat.le_of_ble_eq_true rfl,?_⟩
    conv=>whnf
    refine ⟨L,ts,rfl,ho,[[40]],rfl,by simp,fun b hw1=>?_⟩
    cases b with
    | false =>
     rw [withinF,if_neg (by rw [hw1];simp)] at h
     conv=>whnf
     refine ⟨L,ts,rfl,ho,fun x hx=>?_⟩
     rw [mustF,if_neg (by rw [hw1];simp)] at hx
     subst hx
     intro a9 d9
     conv=>whnf
     exact h _ _
    | true =>
     rw [withinF,if_pos hw1] at h
     conv=>whnf
     refine CondP.dec (fun hc=>?_) (fun hc=>?_)
     ·rw [if_pos (by omega)] at h
      conv=>whnf
      refine ⟨L,ts,rfl,ho,?_⟩
      conv=>whnf
      exact h _ _
     ·rw [if_neg (by omega)] at h
      conv=>whnf
      refine ⟨L,ts,rfl,ho,fun x hx=>?_⟩
      rw [mustF,if_pos hw1] at hx
      subst hx
      intro a1 hle1 ho1
      have hb1:=ho1.hi
      conv=>whnf
      refine Or.inl ⟨InR.i64 (by omega) (by omega),?_⟩
      conv=>whnf
      refine ⟨_,fun _ _ h=>h,Nat.le_of_ble_eq_true rfl,?_⟩
      conv=>whnf
      rw [callGo_eq] at h
      rw [if_pos rfl,R.bind_ok] at h
      refine ⟨L,ts.tail,rfl,ho1,⟨by omega,by omega,by omega⟩,fun x hx10=>?_⟩
      rcases x with ⟨v10,ts10⟩ | ⟨r10,e10⟩
      rotate_left
      ·rw [hx10,R.bind_err,R.bind_err] at h;intro a9 d9;(conv=>whnf);exact h _ _
      rw [hx10,R.bind_ok] at h
      intro a10 hle10 ho10
      have hb10:=ho10.hi
      obtain ⟨v10a,v10b,v10c,v10d,v10e⟩:=v10
      conv=>whnf
      refine ⟨rfl,rfl,Nat.le_of_ble_eq_true rfl,Nat.le_of_ble_eq_true rfl,?_⟩
      conv=>whnf
      repeat (refine ⟨rfl,?_⟩;conv=>whnf)
      refine Or.inl ⟨InR.i64 (by decide) (by decide),?_⟩
      conv=>whnf
      rw [callGo_eq] at h
      rw [if_neg (by simp)] at h
      refine ⟨L,ts10,rfl,ho10,fun x hx11=>?_⟩
      rcases x with ⟨v11,ts11⟩ | ⟨r11,e11⟩
      rotate_left
      ·rw [hx11,R.bind_err,R.bind_err] at h;intro a9 d9;(conv=>whnf);exact h _ _
      rw [hx11,R.bind_ok] at h
      intro a11 hle11 ho11
      have hb11:=ho11.hi
      conv=>whnf
      refine ⟨L,ts11,rfl,ho11,⟨by omega,by omega,by omega⟩,fun x hx12=>?_⟩
      rcases x with ⟨v12,ts12⟩ | ⟨r12,e12⟩
      rotate_left
      ·rw [hx12,R.bind_err,R.bind_err] at h;intro a9 d9;(conv=>whnf);exact h _ _
      rw [hx12,R.bind_ok] at h
      intro a12 hle12 ho12
      have hb12:=ho12.hi
      obtain ⟨v12a,v12b,v12c,v12d,v12e⟩:=v12
      conv=>whnf
      refine ⟨rfl,rfl,Nat.le_of_ble_eq_true rfl,Nat.le_of_ble_eq_true rfl,?_⟩
      conv=>whnf
      repeat (refine ⟨rfl,?_⟩;conv=>whnf)
      refine Or.inl ⟨InR.i64 (by decide) (by decide),?_⟩
      conv=>whnf
      rw [callGo] at h
      rw [R.bind_ok] at h
      have hx99:ts12=ts12:=rfl
      have ho2:=ho12
      obtain ⟨ts2,hts2⟩:∃t,t=ts12:=⟨_,rfl⟩
      rw [← hts2] at h ho2
      rw [if_neg (by simp)] at h
      refine ⟨L,ts2,rfl,ho2,fun x hx3=>?_⟩
      rcases x with ⟨v3,ts3⟩ | ⟨r3,e3⟩
      rotate_left
      ·rw [hx3,R.bind_err] at h;intro a9 d9;(conv=>whnf);exact h _ _
      rw [hx3,R.bind_ok] at h
      intro a3 hle3 ho3
      have hb3:=ho3.hi
      conv=>whnf
      refine Or.inl ⟨InR.i64 (by omega) (by omega),?_⟩
      conv=>whnf
      rw [Int.add_sub_cancel]
      exact h _ (by omega) ho3
   have har:arity o=1:=by rw [arity,if_neg (by omega),if_neg (by omega)]
   conv=>whnf
   rw [har] at h
   refine ⟨_,fun _ _ h=>h,Nat.le_of_ble_eq_true rfl,?_⟩
   conv=>whnf
   refine ⟨L,ts,rfl,ho,[[40]],rfl,by simp,fun b hw1=>?_⟩
   cases b with
   | false =>
    rw [withinF,if_neg (by rw [hw1];simp)] at h
    conv=>whnf
    refine ⟨L,ts,rfl,ho,fun x hx=>?_⟩
    rw [mustF,if_neg (by rw [hw1];simp)] at hx
    subst hx
    intro a9 d9
    conv=>whnf
    exact h _ _
   | true =>
    rw [withinF,if_pos hw1] at h
    conv=>whnf
    refine CondP.dec (fun hc=>?_) (fun hc=>?_)
    ·rw [if_pos (by omega)] at h
     conv=>whnf
     refine ⟨L,ts,rfl,ho,?_⟩
     conv=>whnf
     exact h _ _
    ·rw [if_neg (by omega)] at h
     conv=>whnf
     refine ⟨L,ts,rfl,ho,fun x hx=>?_⟩
     rw [mustF,if_pos hw1] at hx
     subst hx
     intro a1 hle1 ho1
     have hb1:=ho1.hi
     conv=>whnf
     refine Or.inl ⟨InR.i64 (by omega) (by omega),?_⟩
     conv=>whnf
     refine ⟨_,fun _ _ h=>h,Nat.le_of_ble_eq_true rfl,?_⟩
     conv=>whnf
     rw [callGo_eq] at h
     rw [if_pos rfl,R.bind_ok] at h
     refine ⟨L,ts.tail,rfl,ho1,⟨by omega,by omega,by omega⟩,fun x hx10=>?_⟩
     rcases x with ⟨v10,ts10⟩ | ⟨r10,e10⟩
     rotate_left
     ·rw [hx10,R.bind_err,R.bind_err] at h;intro a9 d9;(conv=>whnf);exact h _ _
     rw [hx10,R.bind_ok] at h
     intro a10 hle10 ho10
     have hb10:=ho10.hi
     obtain ⟨v10a,v10b,v10c,v10d,v10e⟩:=v10
     conv=>whnf
     refine ⟨rfl,rfl,Nat.le_of_ble_eq_true rfl,Nat.le_of_ble_eq_true rfl,?_⟩
     conv=>whnf
     repeat (refine ⟨rfl,?_⟩;conv=>whnf)
     refine Or.inl ⟨InR.i64 (by decide) (by decide),?_⟩
     conv=>whnf
     rw [callGo] at h
     rw [R.bind_ok] at h
     have hx99:ts10=ts10:=rfl
     have ho2:=ho10
     obtain ⟨ts2,hts2⟩:∃t,t=ts10:=⟨_,rfl⟩
     rw [← hts2] at h ho2
     rw [if_neg (by simp)] at h
     refine ⟨L,ts2,rfl,ho2,fun x hx3=>?_⟩
     rcases x with ⟨v3,ts3⟩ | ⟨r3,e3⟩
     rotate_left
     ·rw [hx3,R.bind_err] at h;intro a9 d9;(conv=>whnf);exact h _ _
     rw [hx3,R.bind_ok] at h
     intro a3 hle3 ho3
     have hb3:=ho3.hi
     conv=>whnf
     refine Or.inl ⟨InR.i64 (by omega) (by omega),?_⟩
     conv=>whnf
     rw [Int.add_sub_cancel]
     exact h _ (by omega) ho3
  ·exact h.elim
 ·exact h.elim
end Go.PM.Lex
end

section
set_option maxRecDepth 100000
set_option maxHeartbeats 4000000
namespace Go.PM.Lex
open Go.Proofs
variable {w0:World} {nG:Nat}
noncomputable def tblPrim1 (d:Nat):Tbl:=[(35,spExprB d)]
noncomputable def tblPrimW (d:Nat):Tbl:=[(136,spIs),(143,spMust),(81,spFail),(282,spIn Tryz.f282 (tblPrim1 d))]
noncomputable def tblPrim (d:Nat):Tbl:=[(262,spAsk startsF),(81,spFail),(198,spMore),(204,spIn Tryz.f204 (tblPrimW d)),(207,spArgs d),(142,spNameP),(136,spIs),(212,spFunctor),(283,spCall d)]
theorem primary_ok {d:Nat} (ht:TblOK (GG w0 nG) (tblPrim d)):PCalls (GG w0 nG) 229 (spPrimary d):=by
 refine pcallsB tab_ok mixed (tbl:=tblPrim d) ht Tryz.func229 rfl (by kernel_rfl) (by kernel_rfl) ?_
 intro args σ K h
 unfold spPrimary spRD rdSp at h
 split at h
 ·rename_i rest t rows a en dp
  obtain ⟨L,ts,rfl,ho,h⟩:=h
  split at h
  ·obtain ⟨hdp,h⟩:=h
   have h0:=ho.lo
   have h1:=ho.hi
   have h2:=ho.big
   refine ⟨loopsOf [],unrOf [],tieOf [],tieOf [],tieOf [283],1,false,by simp,Nat.le_of_ble_eq_true rfl,?_⟩
   have h:=h _ rfl
   conv=>whnf
   refine ⟨L,ts,rfl,ho,fun b hst=>?_⟩
   cases b with
   | false =>
    rw [primaryF,if_pos hst] at h
    conv=>whnf
    refine ⟨L,ts,rfl,ho,?_⟩
    conv=>whnf
    exact h _ _
   | true =>
    rw [primaryF,if_neg (by rw [hst];simp)] at h
    have hot:=ho.tl (startsF_ne hst)
    have hbt:=hot.hi
    conv=>whnf
    refine ⟨L,ts,rfl,ho,fun fin=>Or.inl ⟨rfl,?_⟩⟩
    conv=>whnf
    refine CondP.dec (fun hc=>?_) (fun hc=>?_)
    ·rw [if_pos (show (hd ts).kind=2 by omega)] at h
     conv=>whnf
     repeat (refine ⟨rfl,?_⟩;conv=>whnf)
     refine Or.inl ⟨InR.i64 (by omega) (by omega),?_⟩
     conv=>whnf
     exact h _ (by omega) hot
    rw [if_neg (show ¬(hd ts).kind=2 by omega)] at h
    conv=>whnf
    refine CondP.dec (fun hc=>?_) (fun hc=>?_)
    ·rw [if_pos (show (hd ts).kind=3 by omega)] at h
     conv=>whnf
     repeat (refine ⟨rfl,?_⟩;conv=>whnf)
     refine Or.inl ⟨InR.i64 (by omega) (by omega),?_⟩
     conv=>whnf
     exact h _ (by omega) hot
    rw [if_neg (show ¬(hd ts).kind=3 by omega)] at h
    conv=>whnf
    refine CondP.dec (fun hc=>?_) (fun hc=>?_)
    ·rw [if_pos (show (hd ts).text=[40] from hc)] at h
     conv=>whnf
     refine ⟨_,fun _ _ h=>h,Nat.le_of_ble_eq_true rfl,?_⟩
     conv=>whnf
     refine ⟨L,ts,rfl,ho,[[40]],rfl,by simp,fun b hw1=>?_⟩
     cases b with
     | false =>
      rw [withinF,if_neg (by rw [hw1];simp)] at h
      conv=>whnf
      refine ⟨L,ts,rfl,ho,fun x hx=>?_⟩
      rw [mustF,if_neg (by rw [hw1];simp)] at hx
      subst hx
      intro a9 d9
      conv=>whnf
      exact h _ _
     | true =>
      rw [withinF,if_pos hw1] at h
      conv=>whnf
      refine CondP.dec (fun hc=>?_) (fun hc=>?_)
      ·rw [if_pos (by omega)] at h
       conv=>whnf
       refine ⟨L,ts,rfl,ho,?_⟩
       conv=>whnf
       exact h _ _
      ·rw [if_neg (by omega)] at h
       conv=>whnf
       refine ⟨L,ts,rfl,ho,fun x hx=>?_⟩
       rw [mustF,if_pos hw1] at hx
       subst hx
       intro a1 hle1 ho1
       have hb1:=ho1.hi
       conv=>whnf
       refine Or.inl ⟨InR.i64 (by omega) (by omega),?_⟩
       conv=>whnf
       refine ⟨_,fun _ _ h=>h,Nat.le_of_ble_eq_true rfl,?_⟩
       conv=>whnf
       refine ⟨L,ts.tail,rfl,ho1,⟨by omega,by omega,by omega⟩,fun x hx2=>?_⟩
       rcases x with ⟨v2,ts2⟩ | ⟨r2,e2⟩
       rotate_left
       ·rw [hx2,R.bind_err] at h;intro a9 d9;(conv=>whnf);exact h _ _
       rw [hx2,R.bind_ok] at h
       intro a2 hle2 ho2
       have hb2:=ho2.hi
       obtain ⟨v2a,v2b,v2c,v2d,v2e⟩:=v2
       conv=>whnf
       rw [if_neg (by simp)] at h
       refine ⟨L,ts2,rfl,ho2,fun x hx3=>?_⟩
       rcases x with ⟨v3,ts3⟩ | ⟨r3,e3⟩
       rotate_left
       ·rw [hx3,R.bind_err] at h;intro a9 d9;(conv=>whnf);exact h _ _
       rw [hx3,R.bind_ok] at h
       intro a3 hle3 ho3
       have hb3:=ho3.hi
       conv=>whnf
       refine Or.inl ⟨InR.i64 (by omega) (by omega),?_⟩
       conv=>whnf
       rw [Int.add_sub_cancel]
       exact h _ (by omega) ho3
    rw [if_neg (show ¬(hd ts).text=[40] from hc)] at h
    conv=>whnf
    refine CondP.dec (fun hc=>?_) (fun hc=>?_)
    ·rw [if_pos (show (hd ts).text=[91] from hc)] at h
     conv=>whnf
     refine ⟨L,ts,rfl,ho,⟨hdp,by simp⟩,fun x hx1=>?_⟩
     rcases x with ⟨v1,ts1⟩ | ⟨r1,e1⟩
     rotate_left
     ·rw [hx1,R.bind_err] at h;intro a9 d9;(conv=>whnf);exact h _ _
     rw [hx1,R.bind_ok] at h
     intro a1 hle1 ho1
     have hb1:=ho1.hi
     conv=>whnf
     rw [← encEs_eq]
     exact h _ (by omega) ho1
    rw [if_neg (show ¬(hd ts).text=[91] from hc)] at h
    conv=>whnf
    refine CondP.dec (fun hc=>?_) (fun hc=>?_)
    ·rw [if_pos (show (hd ts).text=[36] from hc)] at h
     conv=>whnf
     refine Or.inl ⟨InR.i64 (by omega) (by omega),?_⟩
     conv=>whnf
     refine ⟨L,ts.tail,rfl,hot,fun x hx1=>?_⟩
     rcases x with ⟨v1,ts1⟩ | ⟨r1,e1⟩
     rotate_left
     ·rw [hx1,R.bind_err] at h;intro a9 d9;(conv=>whnf);exact h _ _
     rw [hx1,R.bind_ok] at h
     intro a1 hle1 ho1
     have hb1:=ho1.hi
     conv=>whnf
     refine ⟨L,ts1,rfl,ho1,[[40]],rfl,by simp,fun b hw2=>?_⟩
     cases b with
     | false =>
      rw [if_neg (by rw [hw2];simp)] at h
      conv=>whnf
      exact h _ (by omega) ho1
     | true =>
      rw [if_pos hw2] at h
      conv=>whnf
      refine ⟨L,ts1,rfl,ho1,⟨hdp,by simp⟩,fun x hx3=>?_⟩
      rcases x with ⟨v3,ts3⟩ | ⟨r3,e3⟩
      rotate_left
      ·rw [hx3,R.bind_err] at h;intro a9 d9;(conv=>whnf);exact h _ _
      rw [hx3,R.bind_ok] at h
      intro a3 hle3 ho3
      have hb3:=ho3.hi
      conv=>whnf
      rw [← encEs_eq]
      exact h _ (by omega) ho3
    rw [if_neg (show ¬(hd ts).text=[36] from hc)] at h
    conv=>whnf
    intro n hn
    conv=>whnf
    refine CondP.ndec (fun hc=>?_) (fun hc=>?_)
    ·rw [if_pos (show functorF (hd ts).text≠0 by omega)] at h
     conv=>whnf
     refine Or.inl ⟨InR.i64 (by omega) (by omega),?_⟩
     conv=>whnf
     intro n2 hn2
     conv=>whnf
     refine ⟨L,ts.tail,rfl,hot,⟨hdp,rfl,rfl⟩,functorF (hd ts).text,hn2.symm,fun x hx1=>?_⟩
     rcases x with ⟨v1,ts1⟩ | ⟨r1,e1⟩
     rotate_left
     ·rw [hx1,R.bind_err] at h;intro a9 d9;(conv=>whnf);exact h _ _
     rw [hx1,R.bind_ok] at h
     intro a1 hle1 ho1
     have hb1:=ho1.hi
     conv=>whnf
     rw [← hn2,← encEs_eq]
     exact h _ (by omega) ho1
    rw [if_neg (show ¬functorF (hd ts).text≠0 by omega)] at h
    conv=>whnf
    refine CondP.dec (fun hc=>?_) (fun hc=>?_)
    ·rw [if_pos (show (hd ts).text=[110,105,108] from hc)] at h
     conv=>whnf
     refine Or.inl ⟨InR.i64 (by omega) (by omega),?_⟩
     conv=>whnf
     exact h _ (by omega) hot
    rw [if_neg (show ¬(hd ts).text=[110,105,108] from hc)] at h
    conv=>whnf
    refine CondP.dec (fun hc=>?_) (fun hc=>?_)
    ·rw [if_pos (show (hd ts).text=[95] from hc)] at h
     conv=>whnf
     refine Or.inl ⟨InR.i64 (by omega) (by omega),?_⟩
     conv=>whnf
     exact h _ (by omega) hot
    rw [if_neg (show ¬(hd ts).text=[95] from hc)] at h
    conv=>whnf
    repeat (refine ⟨rfl,?_⟩;conv=>whnf)
    refine Or.inl ⟨InR.i64 (by omega) (by omega),?_⟩
    conv=>whnf
    exact h _ (by omega) hot
  ·exact h.elim
 ·exact h.elim
noncomputable def tblSign1 (d:Nat):Tbl:=[(161,spSignedB d)]
noncomputable def tblSignW (d:Nat):Tbl:=[(136,spIs),(143,spMust),(81,spFail),(228,spIn Tryz.f228 (tblSign1 d))]
noncomputable def tblPSign (d:Nat):Tbl:=[(141,spPlace),(136,spIs),(204,spIn Tryz.f204 (tblSignW d)),(229,spPrimary d)]
theorem signed_ok {d:Nat} (ht:TblOK (GG w0 nG) (tblPSign d)):PCalls (GG w0 nG) 161 (spSigned d):=by
 refine pcallsN tab_ok mixed (tbl:=tblPSign d) ht Tryz.func161 rfl (by kernel_rfl) (by kernel_rfl) ?_
 intro args σ K h
 unfold spSigned spRD rdSp at h
 split at h
 ·rename_i rest t rows a en dp
  obtain ⟨L,ts,rfl,ho,h⟩:=h
  split at h
  ·obtain ⟨hdp,h⟩:=h
   have h0:=ho.lo
   have h1:=ho.hi
   have h2:=ho.big
   refine ⟨loopsOf [],unrOf [(3,4)],tieOf [],1,false,by simp,Nat.le_of_ble_eq_true rfl,?_⟩
   have h:=h _ rfl
   rw [signedD_eq,signedF] at h
   conv=>whnf
   refine ⟨L,ts,rfl,ho,?_⟩
   conv=>whnf
   refine ⟨by decide,by decide,?_⟩
   conv=>whnf
   refine ⟨L,ts,rfl,ho,[[45]],rfl,by simp,fun b hw8=>?_⟩
   cases b with
   | true =>
    rw [if_pos hw8] at h
    conv=>whnf
    refine ⟨_,fun _ _ h=>h,Nat.le_of_ble_eq_true rfl,?_⟩
    conv=>whnf
    refine ⟨L,ts,rfl,ho,[[45]],rfl,by simp,fun b hw1=>?_⟩
    cases b with
    | false =>
     rw [withinF,if_neg (by rw [hw1];simp),R.bind_err] at h
     conv=>whnf
     refine ⟨L,ts,rfl,ho,fun x hx=>?_⟩
     rw [mustF,if_neg (by rw [hw1];simp)] at hx
     subst hx
     intro a9 d9
     conv=>whnf
     exact h _ _
    | true =>
     rw [withinF,if_pos hw1] at h
     conv=>whnf
     refine CondP.dec (fun hc=>?_) (fun hc=>?_)
     ·rw [if_pos (by omega),R.bind_err] at h
      conv=>whnf
      refine ⟨L,ts,rfl,ho,?_⟩
      conv=>whnf
      exact h _ _
     ·rw [if_neg (by omega)] at h
      conv=>whnf
      refine ⟨L,ts,rfl,ho,fun x hx=>?_⟩
      rw [mustF,if_pos hw1] at hx
      subst hx
      intro a1 hle1 ho1
      have hb1:=ho1.hi
      conv=>whnf
      refine Or.inl ⟨InR.i64 (by omega) (by omega),?_⟩
      conv=>whnf
      refine ⟨_,fun _ _ h=>h,Nat.le_of_ble_eq_true rfl,?_⟩
      conv=>whnf
      refine ⟨L,ts.tail,rfl,ho1,⟨by omega,by omega,by omega⟩,fun x hx2=>?_⟩
      rcases x with ⟨v2,ts2⟩ | ⟨r2,e2⟩
      rotate_left
      ·rw [hx2,R.bind_err] at h;intro a9 d9;(conv=>whnf);exact h _ _
      rw [hx2,R.bind_ok] at h
      intro a2 hle2 ho2
      have hb2:=ho2.hi
      obtain ⟨v2a,v2b,v2c,v2d,v2e⟩:=v2
      conv=>whnf
      repeat (refine ⟨rfl,?_⟩;conv=>whnf)
      rw [if_pos rfl,R.bind_ok] at h
      refine Or.inl ⟨InR.i64 (by omega) (by omega),?_⟩
      conv=>whnf
      rw [Int.add_sub_cancel]
      exact h _ (by omega) ho2
   | false =>
    rw [if_neg (by rw [hw8];simp)] at h
    conv=>whnf
    refine Or.inl ⟨InR.i64 (by decide) (by decide),?_⟩
    conv=>whnf
    refine ⟨by decide,by decide,?_⟩
    conv=>whnf
    refine ⟨L,ts,rfl,ho,[[126]],rfl,by simp,fun b hw9=>?_⟩
    cases b with
    | true =>
     rw [if_pos hw9] at h
     conv=>whnf
     refine ⟨_,fun _ _ h=>h,Nat.le_of_ble_eq_true rfl,?_⟩
     conv=>whnf
     refine ⟨L,ts,rfl,ho,[[126]],rfl,by simp,fun b hw1=>?_⟩
     cases b with
     | false =>
      rw [withinF,if_neg (by rw [hw1];simp),R.bind_err] at h
      conv=>whnf
      refine ⟨L,ts,rfl,ho,fun x hx=>?_⟩
      rw [mustF,if_neg (by rw [hw1];simp)] at hx
      subst hx
      intro a9 d9
      conv=>whnf
      exact h _ _
     | true =>
      rw [withinF,if_pos hw1] at h
      conv=>whnf
      refine CondP.dec (fun hc=>?_) (fun hc=>?_)
      ·rw [if_pos (by omega),R.bind_err] at h
       conv=>whnf
       refine ⟨L,ts,rfl,ho,?_⟩
       conv=>whnf
       exact h _ _
      ·rw [if_neg (by omega)] at h
       conv=>whnf
       refine ⟨L,ts,rfl,ho,fun x hx=>?_⟩
       rw [mustF,if_pos hw1] at hx
       subst hx
       intro a1 hle1 ho1
       have hb1:=ho1.hi
       conv=>whnf
       refine Or.inl ⟨InR.i64 (by omega) (by omega),?_⟩
       conv=>whnf
       refine ⟨_,fun _ _ h=>h,Nat.le_of_ble_eq_true rfl,?_⟩
       conv=>whnf
       refine ⟨L,ts.tail,rfl,ho1,⟨by omega,by omega,by omega⟩,fun x hx2=>?_⟩
       rcases x with ⟨v2,ts2⟩ | ⟨r2,e2⟩
       rotate_left
       ·rw [hx2,R.bind_err] at h;intro a9 d9;(conv=>whnf);exact h _ _
       rw [hx2,R.bind_ok] at h
       intro a2 hle2 ho2
       have hb2:=ho2.hi
       obtain ⟨v2a,v2b,v2c,v2d,v2e⟩:=v2
       conv=>whnf
       repeat (refine ⟨rfl,?_⟩;conv=>whnf)
       rw [if_pos rfl,R.bind_ok] at h
       refine Or.inl ⟨InR.i64 (by omega) (by omega),?_⟩
       conv=>whnf
       rw [Int.add_sub_cancel]
       exact h _ (by omega) ho2
    | false =>
     rw [if_neg (by rw [hw9];simp)] at h
     conv=>whnf
     refine Or.inl ⟨InR.i64 (by decide) (by decide),?_⟩
     conv=>whnf
     rw [show lineK (signedB d) 6 1=exprB d from (exprB_eq d).symm] at h
     refine ⟨L,ts,rfl,ho,hdp,fun x hx1=>?_⟩
     rcases x with ⟨v1,ts1⟩ | ⟨r1,e1⟩
     rotate_left
     ·rw [hx1] at h;intro a9 d9;(conv=>whnf);exact h _ _
     rw [hx1] at h
     intro a1 hle1 ho1
     have hb1:=ho1.hi
     obtain ⟨v1a,v1b,v1c,v1d,v1e⟩:=v1
     conv=>whnf
     exact h _ (by omega) ho1
  ·exact h.elim
 ·exact h.elim
noncomputable def spLine (d j:Nat):Spec:=rdSp fun rest L en dp a ts K=>match rest with
 | [.d (.int .i64 least)]=>((dp=64 - (d:Int)∧0≤dp)∧1≤least∧least≤6∧6≤least+(j:Int))∧∀x,lineK (signedD d) j least.toNat ts=x→RKk (fun (v:Ex)=>aggD (encE (placeOf L en) v)) L en dp a x K
 | _=>False
theorem spLine_mono (d j:Nat):SpecMono (spLine d j):=rdSp_mono fun rest L en dp a ts K K' hK h=>by
 split at h
 ·exact ⟨h.1,fun x hx=>RKk_mono hK (h.2 x hx)⟩
 ·exact h.elim
noncomputable def spLineB (d j:Nat):Spec:=rdSp fun rest L en dp a ts K=>match rest with
 | [.d (.int .i64 least)]=>((dp=64 - (d:Int)∧0≤dp)∧0<j∧1≤least∧least≤6∧7≤least+(j:Int))∧∀x,lineK (signedD d) (j - 1) least.toNat ts=x→RKk (fun (v:Ex)=>aggD (encE (placeOf L en) v)) L en dp a x K
 | _=>False
theorem spLineB_mono (d j:Nat):SpecMono (spLineB d j):=rdSp_mono fun rest L en dp a ts K K' hK h=>by
 split at h
 ·exact ⟨h.1,fun x hx=>RKk_mono hK (h.2 x hx)⟩
 ·exact h.elim
theorem binF_le (ts:Ts):(binF ts).1≤5∧(binF ts).2≤255:=by
 unfold binF
 repeat' (first | (split;decide) | split)
 all_goals decide
theorem lineGo_eq (sub : Nat → Ts → R Ex) (least f : Nat) (e : Ex) (ts : Ts) : lineGo sub least (f + 1) e ts = if (binF ts).1 < least ∨ (binF ts).1 = 0 then .ok e ts
      else (sub ((binF ts).1+1) ts.tail).bind fun g ts'=>lineGo sub least f (.mk (binF ts).2 [] 0 [e,g] e.at') ts':=rfl
theorem lineGo_top {sub:Nat→Ts→R Ex} {least f:Nat} {e:Ex} {ts:Ts} (h:6≤least):lineGo sub least (f+1) e ts=.ok e ts:=by
 rw [lineGo_eq,if_pos];have:=(binF_le ts).1;omega
theorem binF_ne {ts:Ts} (h:(binF ts).1≠0):ts≠[]:=by rintro rfl;exact h rfl
theorem lineK_eq (sg:Ts→R Ex) (j least:Nat) (ts:Ts) (h:6≤least+j):lineK sg j least ts=(sg ts).bind fun e ts=>lineGo (lineK sg (j - 1)) least (ts.length+1) e ts:=by
 cases j with
 | zero =>
  rw [lineK]
  cases sg ts with
  | ok e ts=>rw [R.bind_ok,lineGo_top (by omega)]
  | err r e=>rfl
 | succ j=>rfl
noncomputable def tblLine (d j:Nat):Tbl:=[(161,spSigned d),(162,spBin),(82,spLineB d j)]
theorem line_ok {d j:Nat} (ht:TblOK (GG w0 nG) (tblLine d j)):PCalls (GG w0 nG) 82 (spLine d j):=by
 refine pcalls tab_ok mixed (tbl:=tblLine d j) ht Tryz.func82 rfl (by kernel_rfl) (by kernel_rfl) ?_
 intro args σ K h
 unfold spLine rdSp at h
 split at h
 ·rename_i rest t rows a en dp
  obtain ⟨L,ts,rfl,ho,h⟩:=h
  split at h
  ·rename_i least
   obtain ⟨⟨hdp,hl1,hl2,hl3⟩,h⟩:=h
   have h0:=ho.lo
   have h1:=ho.hi
   have h2:=ho.big
   refine ⟨loopsOf [(2,⟨[],[0,1,4,5],fun vs σ=>∃(u1:Nat) (u2:Bs) (u3:Int) (u4:List Ex) (u5:Nat) (a':Int) (ts':Ts) (f:Nat),vs=[]∧σ=⟨[.cells t [.d (.sl (toksR L)),.d (.int .i64 a'),.d (.int .i64 en),.d (.int .i64 dp)],.cells 24 [.d (.int .u8 0),.d (.str []),.d (.int .i64 0),.sl 0 24 [],.d (.int .i64 0)],.cells 24 [.d (.int .u8 u1),.d (.str u2),.d (.int .i64 u3),.d (.sl (encEs (placeOf L en) u4)),.d (.int .i64 (placeOf L en u5))]],[0],1⟩∧ROK L a' ts'∧a≤a'∧ts'.length<f∧RKk (fun (v:Ex)=>aggD (encE (placeOf L en) v)) L en dp a (lineGo (lineK (signedD d) (j - 1)) least.toNat f (.mk u1 u2 u3 u4 u5) ts') (fun pe a' dp'=>K pe ⟨[.cells t [.d (.sl (toksR L)),.d (.int .i64 a'),.d (.int .i64 en),.d (.int .i64 dp')]],[],0⟩),fun _ σ=>match σ with | ⟨.cells _ [_,.d (.int _ i),_,_]::_,_,_⟩=>((L.length:Int) - i).toNat | _=>0⟩)],1,false,by simp,Nat.le_of_ble_eq_true rfl,?_⟩
   have h:=h _ rfl
   rw [lineK_eq _ _ _ _ (by omega)] at h
   conv=>whnf
   refine ⟨L,ts,rfl,ho,hdp,fun x hx1=>?_⟩
   rcases x with ⟨v1,ts1⟩ | ⟨r1,e1⟩
   rotate_left
   ·rw [hx1,R.bind_err] at h;intro a9 d9;(conv=>whnf);exact h _ _
   rw [hx1,R.bind_ok] at h
   intro a1 hle1 ho1
   have hb1:=ho1.hi
   obtain ⟨v1a,v1b,v1c,v1d,v1e⟩:=v1
   conv=>whnf
   refine ⟨⟨v1a,v1b,v1c,v1d,v1e,a1,ts1,ts1.length+1,rfl,rfl,ho1,by omega,by omega,h⟩,?_⟩
   clear h hx1 ho1 hb1 hle1
   intro vs σ hI
   obtain ⟨u1,u2,u3,u4,u5,a',ts',f,rfl,rfl,ho',hle',hf,h⟩:=hI
   obtain ⟨f,rfl⟩:∃g,f=g+1:=⟨f - 1,by omega⟩
   rw [lineGo_eq] at h
   have hhi':=ho'.hi
   have hlen':=ho'.len
   conv=>whnf
   refine ⟨L,ts',rfl,ho',fun n op hn hop=>?_⟩
   conv=>whnf
   have hbin:=binF_le ts'
   refine CondP.dec (fun hc=>?_) (fun hc=>?_)
   ·rw [if_pos (by omega)] at h
    conv=>whnf
    exact h _ (by omega) ho'
   conv=>whnf
   refine CondP.dec (fun hc2=>?_) (fun hc2=>?_)
   ·rw [if_pos (by omega)] at h
    conv=>whnf
    exact h _ (by omega) ho'
   rw [if_neg (by omega)] at h
   have ho2:=ho'.tl (binF_ne (by omega))
   have hb2:=ho2.hi
   have hlen2:=ho2.len
   conv=>whnf
   refine Or.inl ⟨InR.i64 (by omega) (by omega),?_⟩
   conv=>whnf
   refine Or.inl ⟨InR.i64 (by omega) (by omega),?_⟩
   conv=>whnf
   refine ⟨L,ts'.tail,rfl,ho2,⟨hdp,by omega,by omega,by omega,by omega⟩,fun x hx3=>?_⟩
   rw [show (n+1).toNat=(binF ts').1+1 by omega] at hx3
   rcases x with ⟨v3,ts3⟩ | ⟨r3,e3⟩
   rotate_left
   ·rw [hx3,R.bind_err] at h;intro a9 d9;(conv=>whnf);exact h _ _
   rw [hx3,R.bind_ok] at h
   intro a3 hle3 ho3
   have hb3:=ho3.hi
   obtain ⟨v3a,v3b,v3c,v3d,v3e⟩:=v3
   conv=>whnf
   have hlen3:=ho3.len
   obtain rfl:op=((binF ts').2:Int):=hop.symm
   refine ⟨⟨(binF ts').2,[],0,[.mk u1 u2 u3 u4 u5,.mk v3a v3b v3c v3d v3e],u5,a3,ts3,f,rfl,rfl,ho3,by omega,by omega,h⟩,?_⟩
   show ((L.length:Int) - a3).toNat<((L.length:Int) - a').toNat
   omega
  ·exact h.elim
 ·exact h.elim
noncomputable def tblExpr (d:Nat):Tbl:=[(82,spLine d 6)]
theorem expr_ok {d:Nat} (ht:TblOK (GG w0 nG) (tblExpr d)):PCalls (GG w0 nG) 35 (spExpr d):=by
 refine pcalls tab_ok mixed (tbl:=tblExpr d) ht Tryz.func35 rfl (by kernel_rfl) (by kernel_rfl) ?_
 intro args σ K h
 unfold spExpr spRD rdSp at h
 split at h
 ·rename_i rest t rows a en dp
  obtain ⟨L,ts,rfl,ho,h⟩:=h
  split at h
  ·obtain ⟨hdp,h⟩:=h
   have h0:=ho.lo
   have h1:=ho.hi
   have h2:=ho.big
   refine ⟨loopsOf [],1,false,by simp,Nat.le_of_ble_eq_true rfl,?_⟩
   have h:=h _ rfl
   conv=>whnf
   refine ⟨L,ts,rfl,ho,⟨hdp,by omega,by omega,by omega⟩,fun x hx1=>?_⟩
   rw [exprD] at h
   change lineK (signedD d) 6 1 ts=x at hx1
   rcases x with ⟨v1,ts1⟩ | ⟨r1,e1⟩
   rotate_left
   ·rw [hx1] at h;intro a9 d9;(conv=>whnf);exact h _ _
   rw [hx1] at h
   intro a1 hle1 ho1
   have hb1:=ho1.hi
   obtain ⟨v1a,v1b,v1c,v1d,v1e⟩:=v1
   conv=>whnf
   exact h _ (by omega) ho1
  ·exact h.elim
 ·exact h.elim
end Go.PM.Lex
end

section
set_option maxRecDepth 100000
set_option maxHeartbeats 4000000
namespace Go.PM.Lex
open Go.Proofs
variable {w0:World} {nG:Nat}
end Go.PM.Lex
end

section
set_option maxRecDepth 100000
set_option maxHeartbeats 4000000
namespace Go.PM.Lex
open Go.Proofs
variable {w0:World} {nG:Nat}
end Go.PM.Lex
end

section
set_option maxRecDepth 100000
set_option maxHeartbeats 4000000
namespace Go.PM.Lex
open Go.Proofs
variable {w0:World} {nG:Nat}
theorem cPlace:PCalls (GG w0 nG) 141 spPlace:=place_ok ⟨⟨more_ok,spMore_mono⟩,trivial⟩
theorem cIs:PCalls (GG w0 nG) 136 spIs:=is_ok ⟨⟨more_ok,spMore_mono⟩,⟨contains_ok,spContains_mono⟩,trivial⟩
theorem cNamed:PCalls (GG w0 nG) 145 (spAsk namedF):=named_ok ⟨⟨more_ok,spMore_mono⟩,⟨kept_ok,spKept_mono⟩,trivial⟩
theorem cFail:PCalls (GG w0 nG) 81 spFail:=fail_ok ⟨⟨cPlace,spPlace_mono⟩,trivial⟩
theorem cTake:PCalls (GG w0 nG) 200 spTake:=take_ok ⟨⟨cIs,spIs_mono⟩,trivial⟩
theorem cMust:PCalls (GG w0 nG) 143 spMust:=must_ok ⟨⟨cTake,spTake_mono⟩,⟨cFail,spFail_mono⟩,trivial⟩
theorem cPName:PCalls (GG w0 nG) 142 spNameP:=pname_ok ⟨⟨cNamed,spAsk_mono _⟩,⟨cFail,spFail_mono⟩,trivial⟩
theorem cStarts:PCalls (GG w0 nG) 262 (spAsk startsF):=starts_ok ⟨⟨more_ok,spMore_mono⟩,⟨cIs,spIs_mono⟩,⟨kept_ok,spKept_mono⟩,⟨functor_ok,spFunctor_mono⟩,trivial⟩
theorem cBinary:PCalls (GG w0 nG) 162 spBin:=binary_ok ⟨⟨more_ok,spMore_mono⟩,trivial⟩
theorem manyExB_zero (h:Enters (GG w0 nG).P 261):PCalls (GG w0 nG) 261 (spManyExB 0):=⟨h,fun args σ K hs=>by
 exfalso
 unfold spManyExB at hs
 split at hs
 ·exact absurd hs.1.2.2.2.2.1 (by omega)
 ·exact hs⟩
theorem manyExB_succ {d:Nat} (h:PCalls (GG w0 nG) 261 (spManyEx d)):PCalls (GG w0 nG) 261 (spManyExB (d+1)):=h.weaken1 fun args σ K hs=>by
 unfold spManyExB at hs
 unfold spManyEx
 split at hs
 ·obtain ⟨⟨h1,h2,h3,h4,h5,h6,h7⟩,hs⟩:=hs
  exact ⟨⟨h1,h2,h3,h4,by omega,h7⟩,hs⟩
 ·exact hs.elim
theorem lineB_zero (d:Nat) (h:Enters (GG w0 nG).P 82):PCalls (GG w0 nG) 82 (spLineB d 0):=⟨h,fun args σ K hs=>by
 exfalso
 unfold spLineB rdSp at hs
 split at hs
 ·obtain ⟨L,ts,_,_,hs⟩:=hs
  split at hs
  ·exact absurd hs.1.2.1 (by omega)
  ·exact hs
 ·exact hs⟩
theorem lineB_succ {d j:Nat} (h:PCalls (GG w0 nG) 82 (spLine d j)):PCalls (GG w0 nG) 82 (spLineB d (j+1)):=h.weaken1 fun args σ K hs=>by
 unfold spLineB rdSp at hs
 unfold spLine rdSp
 split at hs
 ·obtain ⟨L,ts,h1,h2,hs⟩:=hs
  refine ⟨L,ts,h1,h2,?_⟩
  split at hs
  ·exact ⟨⟨hs.1.1,hs.1.2.2.1,hs.1.2.2.2.1,by have:=hs.1.2.2.2.2;omega⟩,hs.2⟩
  ·exact hs.elim
 ·exact hs
structure Deep (w0:World) (nG d:Nat):Prop where
 sg:PCalls (GG w0 nG) 161 (spSignedB d)
 ex:PCalls (GG w0 nG) 35 (spExprB d)
 many:PCalls (GG w0 nG) 261 (spManyExB d)
theorem cArgs_of {d:Nat} (D:Deep w0 nG d):PCalls (GG w0 nG) 207 (spArgs d):=args_ok ⟨⟨(in_ok (tb:=tblArgsW d) ⟨⟨cIs,spIs_mono⟩,⟨cMust,spMust_mono⟩,⟨cFail,spFail_mono⟩,⟨(in_ok (tb:=tblArgs1 d) ⟨⟨cIs,spIs_mono⟩,⟨D.many,spManyExB_mono d⟩,trivial⟩ Tryz.func260 rfl (by kernel_rfl) (by kernel_rfl)),spIn_mono _ _⟩,trivial⟩ Tryz.func204 rfl (by kernel_rfl) (by kernel_rfl)),spIn_mono _ _⟩,trivial⟩
theorem cCall_of {d:Nat} (D:Deep w0 nG d):PCalls (GG w0 nG) 283 (spCall d):=call_ok ⟨⟨(in_ok (tb:=tblCallW d) ⟨⟨cIs,spIs_mono⟩,⟨cMust,spMust_mono⟩,⟨cFail,spFail_mono⟩,⟨(inU_ok (tb:=tblCall1 d) ⟨⟨cMust,spMust_mono⟩,⟨D.ex,spRB_mono _ _ _ _⟩,trivial⟩ Tryz.func313 rfl (by kernel_rfl) (by kernel_rfl)),spInU_mono _ _ _⟩,trivial⟩ Tryz.func204 rfl (by kernel_rfl) (by kernel_rfl)),spIn_mono _ _⟩,trivial⟩
theorem cPrimary_of {d:Nat} (D:Deep w0 nG d):PCalls (GG w0 nG) 229 (spPrimary d):=primary_ok ⟨⟨cStarts,spAsk_mono _⟩,⟨cFail,spFail_mono⟩,⟨more_ok,spMore_mono⟩,⟨(in_ok (tb:=tblPrimW d) ⟨⟨cIs,spIs_mono⟩,⟨cMust,spMust_mono⟩,⟨cFail,spFail_mono⟩,⟨(in_ok (tb:=tblPrim1 d) ⟨⟨D.ex,spRB_mono _ _ _ _⟩,trivial⟩ Tryz.func282 rfl (by kernel_rfl) (by kernel_rfl)),spIn_mono _ _⟩,trivial⟩ Tryz.func204 rfl (by kernel_rfl) (by kernel_rfl)),spIn_mono _ _⟩,⟨cArgs_of D,spArgs_mono d⟩,⟨cPName,spR_mono _ _ _⟩,⟨cIs,spIs_mono⟩,⟨functor_ok,spFunctor_mono⟩,⟨cCall_of D,spCall_mono d⟩,trivial⟩
theorem cSigned_of {d:Nat} (D:Deep w0 nG d):PCalls (GG w0 nG) 161 (spSigned d):=signed_ok ⟨⟨cPlace,spPlace_mono⟩,⟨cIs,spIs_mono⟩,⟨(in_ok (tb:=tblSignW d) ⟨⟨cIs,spIs_mono⟩,⟨cMust,spMust_mono⟩,⟨cFail,spFail_mono⟩,⟨(in_ok (tb:=tblSign1 d) ⟨⟨D.sg,spRB_mono _ _ _ _⟩,trivial⟩ Tryz.func228 rfl (by kernel_rfl) (by kernel_rfl)),spIn_mono _ _⟩,trivial⟩ Tryz.func204 rfl (by kernel_rfl) (by kernel_rfl)),spIn_mono _ _⟩,⟨cPrimary_of D,spRD_mono _ _ _ _⟩,trivial⟩
theorem cLine_of {d:Nat} (D:Deep w0 nG d):∀j,PCalls (GG w0 nG) 82 (spLine d j)
 | 0=>line_ok ⟨⟨cSigned_of D,spRD_mono _ _ _ _⟩,⟨cBinary,spBin_mono⟩,⟨lineB_zero d (enters_of Tryz.func82 (by kernel_rfl) rfl),spLineB_mono d 0⟩,trivial⟩
 | j+1=>line_ok ⟨⟨cSigned_of D,spRD_mono _ _ _ _⟩,⟨cBinary,spBin_mono⟩,⟨lineB_succ (cLine_of D j),spLineB_mono d (j+1)⟩,trivial⟩
theorem cExpr_of {d:Nat} (D:Deep w0 nG d):PCalls (GG w0 nG) 35 (spExpr d):=expr_ok ⟨⟨cLine_of D 6,spLine_mono d 6⟩,trivial⟩
theorem manyEx_of {d:Nat} (h:PCalls (GG w0 nG) 35 (spExpr d)):PCalls (GG w0 nG) 261 (spManyEx d):=manyEx_ok d ⟨⟨cStarts,spAsk_mono _⟩,⟨cFail,spFail_mono⟩,⟨h,spRD_mono _ _ _ _⟩,⟨cTake,spTake_mono⟩,trivial⟩
theorem deep:∀d,Deep w0 nG d
 | 0=>⟨spRB_zero (enters_of Tryz.func161 (by kernel_rfl) rfl),spRB_zero (enters_of Tryz.func35 (by kernel_rfl) rfl),manyExB_zero (enters_of Tryz.func261 (by kernel_rfl) rfl)⟩
 | d+1=>⟨spRB_succ (cSigned_of (deep d)),spRB_succ (cExpr_of (deep d)),manyExB_succ (manyEx_of (cExpr_of (deep d)))⟩
theorem cExpr (d:Nat):PCalls (GG w0 nG) 35 (spExpr d):=cExpr_of (deep d)
end Go.PM.Lex
end

section
set_option maxRecDepth 100000
set_option maxHeartbeats 4000000
namespace Go.PM.Lex
open Go.Proofs
def R.good {α:Type} (x:R α):Prop:=match x with | .ok _ _=>True | .err _ e=>e≠0
theorem R.good_bind {α β:Type} {x:R α} {f:α→Ts→R β} (h:x.good) (hf:∀a ts,(f a ts).good):(x.bind f).good:=by
 cases x with
 | ok a ts=>exact hf a ts
 | err r e=>exact h
theorem R.good_ok {α:Type} (a:α) (ts:Ts):(R.ok a ts:R α).good:=trivial
theorem R.good_ite {α:Type} {c:Prop} [Decidable c] {x y:R α} (h1:x.good) (h2:y.good):(if c then x else y).good:=by split;exact h1;exact h2
theorem R.good_err {α:Type} {r e:Nat} (h:e≠0):(R.err r e:R α).good:=h
theorem must_good (w:Bs) (ts:Ts):(mustF w ts).good:=R.good_ite trivial (R.good_err (by decide))
theorem nameP_good (ts:Ts):(nameP ts).good:=R.good_ite trivial (R.good_err (by decide))
theorem within_good {α:Type} {d:Nat} {fr to:Bs} {read:Ts→R α} (h:∀ts,(read ts).good) (ts:Ts):(withinF d fr to read ts).good :=
 R.good_ite (R.good_ite (R.good_err (by decide)) (R.good_bind (h _) fun _ _=>R.good_ite trivial (R.good_bind (must_good _ _) fun _ _=>trivial))) (R.good_err (by decide))
theorem manyGo_good {α:Type} {sign:Bs} {most:Nat} {st:Ts→Bool} {one:Ts→R α} (h:∀ts,(one ts).good):∀f l ts,(manyGo sign most st one f l ts).good
 | 0,_,_=>R.good_err (by decide)
 | f+1,l,ts=>R.good_ite (R.good_err (by decide)) (R.good_bind (h _) fun _ _=>R.good_ite (manyGo_good h f _ _) trivial)
theorem many_good {α:Type} {sign:Bs} {most:Nat} {st:Ts→Bool} {one:Ts→R α} (h:∀ts,(one ts).good) (ts:Ts):(manyF sign most st one ts).good:=manyGo_good h _ _ _
theorem args_good {d:Nat} {ex:Ts→R Ex} (h:∀ts,(ex ts).good) (fr to:Bs) (ts:Ts):(argsF d ex fr to ts).good:=by
 unfold argsF
 exact within_good (fun ts=>R.good_ite (R.good_ok _ _) (many_good h _)) ts
theorem callGo_good {ex:Ts→R Ex} (h:∀ts,(ex ts).good):∀k l ts,(callGo ex k l ts).good
 | 0,_,_=>trivial
 | k+1,l,ts=>R.good_bind (R.good_ite trivial (must_good _ _)) fun _ _=>R.good_bind (h _) fun _ _=>callGo_good h k _ _
theorem primary_good {d:Nat} {ex:Ts→R Ex} (h:∀ts,(ex ts).good) (ts:Ts):(primaryF d ex ts).good :=
 R.good_ite (R.good_err (by decide)) <| R.good_ite trivial <| R.good_ite trivial <| R.good_ite (within_good h _) <| R.good_ite (R.good_bind (args_good h _ _ _) fun _ _=>trivial) <|
 R.good_ite (R.good_bind (nameP_good _) fun _ _=>R.good_ite (R.good_bind (args_good h _ _ _) fun _ _=>trivial) trivial) <|
 R.good_ite (R.good_bind (within_good (callGo_good h _ _) _) fun _ _=>trivial) <| R.good_ite trivial <| R.good_ite trivial trivial
theorem lineGo_good {sub:Nat→Ts→R Ex} (h:∀n ts,(sub n ts).good) (least:Nat):∀f e ts,(lineGo sub least f e ts).good
 | 0,_,_=>R.good_err (by decide)
 | f+1,e,ts=>R.good_ite trivial (R.good_bind (h _ _) fun _ _=>lineGo_good h least f _ _)
theorem lineK_good {sg:Ts→R Ex} (h:∀ts,(sg ts).good):∀k least ts,(lineK sg k least ts).good
 | 0,_,_=>h _
 | k+1,least,ts=>R.good_bind (h _) fun _ _=>lineGo_good (fun n ts=>lineK_good h k n ts) _ _ _ _
theorem signedF_good {d:Nat} {sg:Ts→R Ex} (h:∀ts,(sg ts).good) (ts:Ts):(signedF d sg ts).good :=
 R.good_ite (R.good_bind (within_good h _) fun _ _=>trivial) <| R.good_ite (R.good_bind (within_good h _) fun _ _=>trivial) (primary_good (fun ts=>lineK_good h _ _ _) _)
theorem signed_good:∀d ts,(signedD d ts).good
 | 0,ts=>signedF_good (fun _=>(R.good_err (by decide))) ts
 | d+1,ts=>signedF_good (signed_good d) ts
theorem expr_good (d:Nat) (ts:Ts):(exprD d ts).good:=lineK_good (signed_good d) _ _ _
theorem nextF_room {a:Nat} {r:Bs} {room:Bool} {t:Tok} (h:nextF a r room=.tok t):room=true:=by
 cases room with
 | true=>rfl
 | false =>
  unfold nextF at h
  simp only at h
  split at h
  ·cases h
  ·simp at h
theorem allGo_le:∀(f:Nat) (m:Int) (a:Nat) (r:Bs),(allGo f m a r).1.length≤m.toNat
 | 0,m,a,r=>by simp [allGo]
 | f+1,m,a,r=>by
  unfold allGo
  split
  ·simp
  ·simp only
   split
   ·simp
   ·split
    ·simp
    ·rename_i t ht
     have hr:=nextF_room ht
     rw [decide_eq_true_eq] at hr
     have:=allGo_le f (m - 1) t.fin ((r.drop (blankF r).2).drop (t.fin - (a+(blankF r).2)))
     simp only [List.length_cons]
     omega
theorem allF_le (s:Bs) (m:Int):(allF s m).1.length≤m.toNat:=allGo_le _ _ _ _
inductive Top (α:Type) where
 | ok (v:α) (L:List Tok) | err (p:Int) (e:Nat)
def readTop {α:Type} (bytes most:Nat) (P:Ts→R α) (s:Bs):Top α :=
 if bytes<s.length then .err 0 3
 else if (allF s most).2.2≠0 then .err (allF s most).2.1 (allF s most).2.2
 else match P ((allF s most).1.map Tok.t0) with
  | .ok v []=>.ok v (allF s most).1
  | .ok v (_::ts)=>.err (placeOf (allF s most).1 s.length (ts.length+1)) 150
  | .err r e=>.err (placeOf (allF s most).1 s.length r) e
theorem readTop_err {α:Type} {bytes most:Nat} {P:Ts→R α} (hP:∀ts,(P ts).good) {s:Bs} {p:Int} {e:Nat} (h:readTop bytes most P s=.err p e):e≠0:=by
 unfold readTop at h
 split at h
 ·cases h;decide
 ·split at h
  ·rename_i hn;cases h;exact hn
  ·split at h
   ·cases h
   ·cases h;decide
   ·rename_i r e' he
    cases h
    have:=hP ((allF s most).1.map Tok.t0)
    rw [he] at this;exact this
end Go.PM.Lex
end

section
set_option maxRecDepth 100000
set_option maxHeartbeats 4000000
namespace Go.PM.Lex
open Go.Proofs
variable {w0:World} {nG:Nat}
noncomputable def spTokQ:Spec:=fun args σ K=>match args,σ with
 | [.d (.str s),.d (.int .i64 m)],⟨[],[],0⟩=>s.length<4294967281 ∧
   ∀l p c,allF s m=(l,(p,c))→(c=0→K (.ret (.tuple [.d (.sl (toksR l)),.d (.int .i64 p),.d (.int .i64 0)])) ⟨[],[],0⟩) ∧
    (c≠0→K (.ret (.tuple [.d (.sl []),.d (.int .i64 p),.d (.int .i64 c)])) ⟨[],[],0⟩)
 | _,_=>False
theorem spTokQ_mono:SpecMono spTokQ:=fun args σ K K' hK h=>by
 unfold spTokQ at h ⊢
 split at h
 ·exact ⟨h.1,fun l p c hx=>⟨fun g=>hK _ _ ((h.2 l p c hx).1 g),fun g=>hK _ _ ((h.2 l p c hx).2 g)⟩⟩
 ·exact h.elim
theorem tokQ_of (h:PCalls (GG w0 nG) 79 spTokens):PCalls (GG w0 nG) 79 spTokQ:=h.weaken1 fun args σ K hs=>by
 unfold spTokQ at hs
 unfold spTokens
 split at hs
 ·rename_i s m
  obtain ⟨h1,hs⟩:=hs
  refine ⟨h1,?_⟩
  have hs:=hs (allF s m).1 (allF s m).2.1 (allF s m).2.2 rfl
  by_cases hc:(allF s m).2.2=0
  ·rw [if_pos hc,hc];exact hs.1 hc
  ·rw [if_neg hc];exact hs.2 hc
 ·exact hs.elim
noncomputable def recOf:Nat×Nat×Code:=match recB (bodyOf Tryz.f80) with | some x=>x | none=>(0,0,.skip)
noncomputable def spDefR:List PV→St→(St→Prop)→Prop:=fun args σ K=>args.length≤Tryz.f80.ntmps∧W (ctx Tab0 [] (loopsOf [])) recOf.2.2 (recQ Tab0 Tryz.f80 σ.bx.length K) (fset (fset (argF 0 args) recOf.1 (.d .nili)) recOf.2.1 (.d .nili)) σ
noncomputable def spDefP:PV→List PV→St→(St→Prop)→Prop:=fun pv args σ K=>args.length≤Tryz.f80.ntmps∧W (ctx Tab0 [] (loopsOf [])) recOf.2.2 (recQ Tab0 Tryz.f80 σ.bx.length K) (fset (fset (argF 0 args) recOf.1 pv) recOf.2.1 pv) σ
theorem def_ok:PDef (GG w0 nG) 80 spDefR spDefP :=
 pdef_of (a:=recOf.1) (b:=recOf.2.1) (rest:=recOf.2.2) tab_ok mixed (tbl:=[]) trivial Tryz.func80 rfl (by kernel_rfl) rfl (by kernel_rfl) (fun args σ K h=>⟨loopsOf [],σ.bx.length,Nat.le_refl _,h.1,h.2⟩) (fun pv args σ K h=>⟨loopsOf [],σ.bx.length,Nat.le_refl _,h.1,h.2⟩)
def WhK {α:Type} (tU:TypeId) (enc:List Tok→Int→α→List PV) (bad:List PV→Prop) (n:Int) (x:Top α) (K:PEnd→St→Prop):Prop:=match x with
 | .ok v L=>K (.ret (.tuple [.d (.int .i64 0),.d (.int .i64 0)])) ⟨[.cells tU (enc L n v)],[],0⟩
 | .err p e=>∀cs,bad cs→K (.ret (.tuple [.d (.int .i64 p),.d (.int .i64 e)])) ⟨[.cells tU cs],[],0⟩
theorem WhK_mono {α:Type} {tU:TypeId} {enc:List Tok→Int→α→List PV} {bad:List PV→Prop} {n:Int} {x:Top α} {K K':PEnd→St→Prop} (hK:∀e σ,K e σ→K' e σ) (h:WhK tU enc bad n x K):WhK tU enc bad n x K':=by
 cases x with
 | ok v L=>exact hK _ _ h
 | err p e=>exact fun cs hb=>hK _ _ (h cs hb)
theorem ROK_start {l:List Tok} (h:l.length≤1048576):ROK l 0 (l.map Tok.t0):=⟨by omega,by omega,h,by simp [tz]⟩
def badE (cs:List PV):Prop:=∃(a:Int) (b:Bs) (c:Int) (d:List (List D)) (e:Int),cs=[.d (.int .u8 a),.d (.str b),.d (.int .i64 c),.d (.sl d),.d (.int .i64 e)]
noncomputable def tblExpr1:Tbl:=[(35,spExpr 64)]
noncomputable def spWhE:Spec:=fun args σ K=>match args,σ with
 | [.d (.str s),.d (.int .i64 by'),.d (.int .i64 most),.func g [] [.ptr 0 0]],⟨[.cells tU c0],tk,n⟩=>(g=34∧by'=65536∧most=16384∧c0=[.d (.int .u8 0),.d (.str []),.d (.int .i64 0),.sl 0 24 [],.d (.int .i64 0)]∧tk=[0]∧n=1)∧s.length<4294967281 ∧
   ∀x,readTop 65536 16384 (exprD 64) s=x→WhK tU (fun L n (v:Ex)=>(encE (placeOf L n) v).map .d) badE s.length x K
 | _,_=>False
theorem spWhE_mono:SpecMono spWhE:=fun args σ K K' hK h=>by
 unfold spWhE at h ⊢
 split at h
 ·exact ⟨h.1,h.2.1,fun x hx=>WhK_mono hK (h.2.2 x hx)⟩
 ·exact h.elim
noncomputable def tblWhE:Tbl:=[(79,spTokQ),(34,spIn Tryz.f34 tblExpr1),(81,spFail)]
theorem wholeE_ok (ht:TblOK (GG w0 nG) tblWhE):PCalls (GG w0 nG) 33 spWhE:=by
 refine pcallsD tab_ok mixed (tbl:=tblWhE) ht Tryz.func33 rfl (by kernel_rfl) (by kernel_rfl) def_ok ?_
 intro args σ K h
 unfold spWhE at h
 split at h
 ·obtain ⟨⟨rfl,rfl,rfl,rfl,rfl,rfl⟩,hs,h⟩:=h
  rename_i s tU
  have h:=h _ rfl
  refine ⟨loopsOf [],unrOf [],tieOf [],1,false,by simp,Nat.le_of_ble_eq_true rfl,?_⟩
  unfold readTop at h
  conv=>whnf
  refine CondP.dec (fun hc=>?_) (fun hc=>?_)
  ·rw [if_pos (by omega)] at h
   conv=>whnf
   exact h _ ⟨_,_,_,_,_,rfl⟩
  rw [if_neg (by omega)] at h
  conv=>whnf
  refine ⟨hs,fun l p c hx=>?_⟩
  have hlen:=allF_le s 16384
  rw [show ((16384:Nat):Int)=16384 from rfl,hx] at h
  rw [hx] at hlen
  refine ⟨fun h0=>?_,fun h0=>?_⟩
  ·subst h0
   rw [if_neg (by simp)] at h
   simp only at h hlen
   have ho:=ROK_start (l:=l) (by simp at hlen;omega)
   clear hx hlen
   generalize hts:l.map Tok.t0=ts at h ho
   conv=>whnf
   refine ⟨_,fun _ _ h=>h,Nat.le_of_ble_eq_true rfl,?_⟩
   conv=>whnf
   refine ⟨l,ts,rfl,ho,by omega,fun x hx=>?_⟩
   rw [hx] at h
   rcases x with ⟨⟨v1,v2,v3,v4,v5⟩,ts2⟩ | ⟨r,e⟩
   rotate_left
   ·intro a9 d9;(conv=>whnf);refine ⟨Nat.le_of_ble_eq_true rfl,?_⟩;(conv=>whnf);(repeat (refine ⟨rfl,?_⟩;conv=>whnf));exact h _ ⟨_,_,_,_,_,rfl⟩
   intro a2 hle2 ho2
   conv=>whnf
   have hl2:=ho2.len
   (repeat (refine ⟨rfl,?_⟩;conv=>whnf))
   refine CondP.dec (fun hc3=>?_) (fun hc3=>?_)
   ·have hc3:a2<l.length:=by have hc3:a2<((toksR l).length:Int):=hc3;rw [toksR_len] at hc3;exact hc3
    cases ts2 with
    | nil=>simp at hl2;omega
    | cons t0 ts3 =>
     conv=>whnf
     refine ⟨l,_,rfl,ho2,?_⟩
     conv=>whnf
     refine ⟨Nat.le_of_ble_eq_true rfl,?_⟩
     conv=>whnf
     (repeat (refine ⟨rfl,?_⟩;conv=>whnf))
     exact h _ ⟨_,_,_,_,_,rfl⟩
   have hc3:¬a2<l.length:=by have hc3:¬a2<((toksR l).length:Int):=hc3;rw [toksR_len] at hc3;exact hc3
   obtain rfl:ts2=[]:=List.eq_nil_of_length_eq_zero (by omega)
   conv=>whnf
   refine ⟨Nat.le_of_ble_eq_true rfl,?_⟩
   conv=>whnf
   exact h
  rw [if_pos h0] at h
  conv=>whnf
  refine CondP.ndec (fun hc2=>?_) (fun hc2=>absurd (show c=0 by omega) h0)
  conv=>whnf
  (repeat (refine ⟨rfl,?_⟩;conv=>whnf))
  exact h _ ⟨_,_,_,_,_,rfl⟩
 ·exact h.elim
end Go.PM.Lex
end

section
set_option maxRecDepth 100000
set_option maxHeartbeats 4000000
namespace Go.PM.Lex
open Go.Proofs
variable {w0:World} {nG:Nat}
def TopK {α:Type} (enc:List Tok→α→PV) (zero:PV) (x:Top α) (K:PEnd→St→Prop):Prop:=match x with
 | .ok v L=>K (.ret (.tuple [enc L v,.d (.int .i64 0),.d (.int .i64 0)])) ⟨[],[],0⟩
 | .err p e=>K (.ret (.tuple [zero,.d (.int .i64 p),.d (.int .i64 e)])) ⟨[],[],0⟩
theorem TopK_mono {α:Type} {enc:List Tok→α→PV} {zero:PV} {x:Top α} {K K':PEnd→St→Prop} (hK:∀e σ,K e σ→K' e σ) (h:TopK enc zero x K):TopK enc zero x K':=by
 cases x <;> exact hK _ _ h
noncomputable def spTopE:Spec:=fun args σ K=>match args,σ with
 | [.d (.str s)],⟨[],[],0⟩=>s.length<4294967281∧∀x,readTop 65536 16384 (exprD 64) s=x→TopK (fun L (v:Ex)=>aggD (encE (placeOf L s.length) v)) (aggD [.int .u8 0,.str [],.int .i64 0,.sl [],.int .i64 0]) x K
 | _,_=>False
theorem spTopE_mono:SpecMono spTopE:=fun args σ K K' hK h=>by
 unfold spTopE at h ⊢
 split at h
 ·exact ⟨h.1,fun x hx=>TopK_mono hK (h.2 x hx)⟩
 ·exact h.elim
noncomputable def tblTopE:Tbl:=[(33,spWhE)]
theorem topE_ok (ht:TblOK (GG w0 nG) tblTopE):PCalls (GG w0 nG) 14 spTopE:=by
 refine pcalls tab_ok mixed (tbl:=tblTopE) ht Tryz.func14 rfl (by kernel_rfl) (by kernel_rfl) ?_
 intro args σ K h
 unfold spTopE at h
 split at h
 ·rename_i s
  obtain ⟨hs,h⟩:=h
  refine ⟨loopsOf [],0,false,by simp,Nat.le_of_ble_eq_true rfl,?_⟩
  conv=>whnf
  refine ⟨⟨rfl,rfl,rfl,rfl,rfl,rfl⟩,hs,fun x hx=>?_⟩
  have h:=h x hx
  cases x with
  | ok v L =>
   obtain ⟨v1,v2,v3,v4,v5⟩:=v
   conv=>whnf
   exact h
  | err p e =>
   have he:=readTop_err (expr_good 64) hx
   intro cs hcs
   obtain ⟨b1,b2,b3,b4,b5,rfl⟩:=hcs
   conv=>whnf
   refine CondP.ndec (fun hc=>?_) (fun hc=>absurd (show e=0 by omega) he)
   conv=>whnf
   exact h
 ·exact h.elim
theorem cWhole_tok (hg:GlobOK w0 nG):PCalls (GG w0 nG) 79 spTokQ:=tokQ_of (cTokens hg)
theorem cTopE (hg:GlobOK w0 nG):PCalls (GG w0 nG) 14 spTopE:=topE_ok ⟨⟨wholeE_ok ⟨⟨cWhole_tok hg,spTokQ_mono⟩,⟨in_ok (tb:=tblExpr1) ⟨⟨cExpr 64,spRD_mono _ _ _ _⟩,trivial⟩ Tryz.func34 rfl (by kernel_rfl) (by kernel_rfl),spIn_mono _ _⟩,⟨cFail,spFail_mono⟩,trivial⟩,spWhE_mono⟩,trivial⟩
end Go.PM.Lex
end

section
set_option maxRecDepth 100000
set_option maxHeartbeats 4000000
namespace Go.PM.Lex
open Go.Proofs
variable {w0:World} {nG:Nat}
mutual
def sameE:Ex→Ex→Bool
 | .mk o1 t1 n1 l1 _,.mk o2 t2 n2 l2 _=>decide (o1=o2) && (decide (t1=t2) && (decide (n1=n2) && sameEs l1 l2))
def sameEs:List Ex→List Ex→Bool
 | [],[]=>true
 | x::l,y::m=>sameE x y && sameEs l m
 | _,_=>false
end
mutual
def szE:Ex→Nat
 | .mk _ _ _ l _=>1+szEs l
def szEs:List Ex→Nat
 | []=>0
 | x::l=>1+szE x+szEs l
end
theorem szEs_len:∀(l:List Ex),l.length≤szEs l
 | []=>Nat.le_refl _
 | x::l=>by have:=szEs_len l;simp only [List.length_cons,szEs];omega
theorem szEs_get:∀(l:List Ex) (i:Nat) (h:i<l.length),szE l[i]<szEs l
 | x::l,0,h=>by simp only [List.getElem_cons_zero,szEs];omega
 | x::l,i+1,h=>by have:=szEs_get l i (by simpa using h);simp only [List.getElem_cons_succ,szEs];omega
theorem sameEs_ne:∀(l m:List Ex),l.length≠m.length→sameEs l m=false
 | [],[],h=>absurd rfl h
 | [],_::_,_=>by simp [sameEs]
 | _::_,[],_=>by simp [sameEs]
 | x::l,y::m,h=>by simp [sameEs,sameEs_ne l m (by simpa using h)]
theorem sameEs_drop {l m:List Ex} {i:Nat} (h1:i<l.length) (h2:i<m.length):sameEs (l.drop i) (m.drop i)=(sameE l[i] m[i] && sameEs (l.drop (i+1)) (m.drop (i+1))):=by
 rw [List.drop_eq_getElem_cons h1,List.drop_eq_getElem_cons h2,sameEs]
noncomputable def spSameE (n:Nat):Spec:=fun args σ K=>match args,σ with
 | [.agg c1,.agg c2,.d (.bool at')],⟨[],[],0⟩=>∃pl1 e1 pl2 e2,c1=(encE pl1 e1).map .d∧c2=(encE pl2 e2).map .d∧(at'=false∧szE e1≤n∧n≤1099511627776)∧∀b,sameE e1 e2=b→K (.ret (.d (.bool b))) ⟨[],[],0⟩
 | _,_=>False
theorem spSameE_mono (n:Nat):SpecMono (spSameE n):=fun args σ K K' hK h=>by
 unfold spSameE at h ⊢
 split at h
 ·obtain ⟨p1,e1,p2,e2,h1,h2,h3,h4⟩:=h
  exact ⟨p1,e1,p2,e2,h1,h2,h3,fun b hb=>hK _ _ (h4 b hb)⟩
 ·exact h.elim
noncomputable def spSameEs (n:Nat):Spec:=fun args σ K=>match args,σ with
 | [.d (.sl r1),.d (.sl r2),.d (.bool at')],⟨[],[],0⟩=>∃pl1 l1 pl2 l2,r1=encEs pl1 l1∧r2=encEs pl2 l2∧(at'=false∧szEs l1≤n∧n≤1099511627776)∧∀b,sameEs l1 l2=b→K (.ret (.d (.bool b))) ⟨[],[],0⟩
 | _,_=>False
theorem spSameEs_mono (n:Nat):SpecMono (spSameEs n):=fun args σ K K' hK h=>by
 unfold spSameEs at h ⊢
 split at h
 ·obtain ⟨p1,e1,p2,e2,h1,h2,h3,h4⟩:=h
  exact ⟨p1,e1,p2,e2,h1,h2,h3,fun b hb=>hK _ _ (h4 b hb)⟩
 ·exact h.elim
noncomputable def spSameEB (n:Nat):Spec:=fun args σ K=>0<n∧spSameE (n - 1) args σ K
theorem spSameEB_mono (n:Nat):SpecMono (spSameEB n):=fun args σ K K' hK h=>⟨h.1,spSameE_mono _ _ _ _ _ hK h.2⟩
noncomputable def spSameEsB (n:Nat):Spec:=fun args σ K=>0<n∧spSameEs (n - 1) args σ K
theorem spSameEsB_mono (n:Nat):SpecMono (spSameEsB n):=fun args σ K K' hK h=>⟨h.1,spSameEs_mono _ _ _ _ _ hK h.2⟩
noncomputable def tblSameE (n:Nat):Tbl:=[(36,spSameEsB n)]
theorem sameE_ok {n:Nat} (ht:TblOK (GG w0 nG) (tblSameE n)):PCalls (GG w0 nG) 15 (spSameE n):=by
 refine pcalls tab_ok mixed (tbl:=tblSameE n) ht Tryz.func15 rfl (by kernel_rfl) (by kernel_rfl) ?_
 intro args σ K h
 unfold spSameE at h
 split at h
 ·obtain ⟨p1,⟨a1,a2,a3,a4,a5⟩,p2,⟨b1,b2,b3,b4,b5⟩,rfl,rfl,⟨rfl,hz,hn⟩,h⟩:=h
  have h:=h _ rfl
  rw [sameE] at h
  rw [szE] at hz
  refine ⟨loopsOf [],0,false,by simp,Nat.le_of_ble_eq_true rfl,?_⟩
  conv=>whnf
  refine CondP.dec (fun h1=>?_) (fun h1=>?_)
  ·rw [decide_eq_true (show a1=b1 by omega),Bool.true_and] at h
   conv=>whnf
   refine CondP.dec (fun h2=>?_) (fun h2=>?_)
   ·rw [decide_eq_true h2,Bool.true_and] at h
    conv=>whnf
    refine CondP.dec (fun h3=>?_) (fun h3=>?_)
    ·rw [decide_eq_true h3,Bool.true_and] at h
     conv=>whnf
     refine ⟨by omega,p1,a4,p2,b4,rfl,rfl,⟨rfl,by omega,by omega⟩,fun b hb=>?_⟩
     rw [hb] at h
     conv=>whnf
     exact h
    ·rw [decide_eq_false h3,Bool.false_and] at h
     conv=>whnf
     exact h
   ·rw [decide_eq_false h2,Bool.false_and] at h
    conv=>whnf
    exact h
  ·rw [decide_eq_false (show ¬a1=b1 by omega),Bool.false_and] at h
   conv=>whnf
   exact h
 ·exact h.elim
noncomputable def tblSameEs (n:Nat):Tbl:=[(15,spSameEB n)]
theorem sameEs_ok {n:Nat} (ht:TblOK (GG w0 nG) (tblSameEs n)):PCalls (GG w0 nG) 36 (spSameEs n):=by
 refine pcalls tab_ok mixed (tbl:=tblSameEs n) ht Tryz.func36 rfl (by kernel_rfl) (by kernel_rfl) ?_
 intro args σ K h
 unfold spSameEs at h
 split at h
 ·obtain ⟨p1,l1,p2,l2,rfl,rfl,⟨rfl,hz,hn⟩,h⟩:=h
  have h:=h _ rfl
  have hlen1:(encEs p1 l1).length=l1.length:=by rw [encEs_eq,List.length_map]
  have hlen2:(encEs p2 l2).length=l2.length:=by rw [encEs_eq,List.length_map]
  have hsz:=szEs_len l1
  refine ⟨loopsOf [(4,⟨[7],[0,1,2],fun vs σ=>∃i:Nat,vs=[.d (.int .i64 i)]∧σ=⟨[],[],0⟩∧i≤l1.length∧sameEs l1 l2=sameEs (l1.drop i) (l2.drop i),fun vs _=>match vs with | [.d (.int _ i)]=>((l1.length:Int) - i).toNat | _=>0⟩)],0,false,by simp,Nat.le_of_ble_eq_true rfl,?_⟩
  conv=>whnf
  refine CondP.ndec (fun hc=>?_) (fun hc=>?_)
  ·have hc:l1.length≠l2.length:=fun g=>hc (by show ((encEs p1 l1).length:Int)=(encEs p2 l2).length;rw [hlen1,hlen2,g])
   rw [sameEs_ne _ _ hc] at h
   conv=>whnf
   exact h
  ·have hc:l1.length=l2.length:=by have hc:((encEs p1 l1).length:Int)=(encEs p2 l2).length:=hc;rw [hlen1,hlen2] at hc;omega
   conv=>whnf
   refine ⟨⟨0,rfl,rfl,by omega,rfl⟩,?_⟩
   intro vs σ hI
   obtain ⟨i,rfl,rfl,hi,hs⟩:=hI
   conv=>whnf
   refine CondP.dec (fun hi2=>?_) (fun hi2=>?_)
   ·have hi2:i<l1.length:=by have hi2:(i:Int)<(encEs p1 l1).length:=hi2;rw [hlen1] at hi2;omega
    have hi3:i<l2.length:=by omega
    have hg:=szEs_get l1 i hi2
    rw [sameEs_drop hi2 hi3] at hs
    obtain ⟨eA,hA⟩:∃e,l1[i]=e:=⟨_,rfl⟩
    obtain ⟨eB,hB⟩:∃e,l2[i]=e:=⟨_,rfl⟩
    obtain ⟨a1,a2,a3,a4,a5⟩:=eA
    obtain ⟨b1,b2,b3,b4,b5⟩:=eB
    rw [hA,hB] at hs
    rw [hA] at hg
    conv=>whnf
    refine ⟨encE p1 (.mk a1 a2 a3 a4 a5),by omega,by rw [encEs_eq];simp [hi2,hA],?_⟩
    conv=>whnf
    refine ⟨encE p2 (.mk b1 b2 b3 b4 b5),by omega,by rw [encEs_eq];simp [hi3,hB],?_⟩
    conv=>whnf
    refine ⟨by omega,p1,.mk a1 a2 a3 a4 a5,p2,.mk b1 b2 b3 b4 b5,rfl,rfl,⟨rfl,by omega,by omega⟩,fun b hb=>?_⟩
    rw [hb] at hs
    cases b with
    | true =>
     rw [Bool.true_and] at hs
     conv=>whnf
     (repeat (refine ⟨rfl,?_⟩;conv=>whnf))
     refine Or.inl ⟨InR.i64 (by omega) (by omega),?_⟩
     conv=>whnf
     refine ⟨⟨i+1,rfl,rfl,by omega,hs⟩,?_⟩
     show ((l1.length:Int) - ((i:Int)+1)).toNat<((l1.length:Int) - (i:Int)).toNat
     omega
    | false =>
     rw [hs,Bool.false_and] at h
     conv=>whnf
     (repeat (refine ⟨rfl,?_⟩;conv=>whnf))
     exact h
   ·have hi2:l1.length≤i:=by have hi2:¬(i:Int)<(encEs p1 l1).length:=hi2;rw [hlen1] at hi2;omega
    rw [List.drop_eq_nil_of_le hi2,List.drop_eq_nil_of_le (by omega)] at hs
    rw [hs] at h
    conv=>whnf
    exact h
 ·exact h.elim
theorem cSame:∀n,PCalls (GG w0 nG) 15 (spSameE n)∧PCalls (GG w0 nG) 36 (spSameEs n)
 | 0=>⟨sameE_ok ⟨⟨⟨enters_of Tryz.func36 (by kernel_rfl) rfl,fun args σ K hs=>absurd hs.1 (by omega)⟩,spSameEsB_mono 0⟩,trivial⟩,sameEs_ok ⟨⟨⟨enters_of Tryz.func15 (by kernel_rfl) rfl,fun args σ K hs=>absurd hs.1 (by omega)⟩,spSameEB_mono 0⟩,trivial⟩⟩
 | n+1=>⟨sameE_ok ⟨⟨(cSame n).2.weaken1 fun args σ K hs=>hs.2,spSameEsB_mono _⟩,trivial⟩,sameEs_ok ⟨⟨(cSame n).1.weaken1 fun args σ K hs=>hs.2,spSameEB_mono _⟩,trivial⟩⟩
def Li.op:Li→Nat | .mk o _ _ _ _=>o
end Go.PM.Lex
end

section
namespace Go.PM.Lex
mutual
def erE:Ex→Ex
 | .mk op t n args _=>.mk op t n (erEs args) 0
def erEs:List Ex→List Ex
 | []=>[]
 | e::l=>erE e::erEs l
end
theorem erEs_eq (l:List Ex):erEs l=l.map erE:=by induction l with | nil=>rfl | cons x l ih=>simp [erEs,ih]
mutual
def erL:Li→Li
 | .mk op rel args body _=>.mk op rel (erEs args) (erLs body) 0
def erLs:List Li→List Li
 | []=>[]
 | e::l=>erL e::erLs l
end
theorem erLs_eq (l:List Li):erLs l=l.map erL:=by induction l with | nil=>rfl | cons x l ih=>simp [erLs,ih]
def erRu (r:Ru):Ru:=⟨r.head,r.args.map erE,r.body.map erL,0⟩
def erTy (t:Ty):Ty:={ t with at':=0 }
def erRe (t:Re):Re:={ t with at':=0 }
def erIn (t:Ini):Ini:={ t with at':=0 }
def erOv (t:Ov):Ov:={ t with at':=0 }
mutual
def erUn:Un→Un
 | .mk a b c d e f=>.mk (a.map erTy) (b.map erRe) (c.map erRu) (erCos d) (e.map erIn) (f.map erOv)
def erCo:Co→Co
 | .mk nm ps base tys u _=>.mk nm ps base tys (erUn u) 0
def erCos:List Co→List Co
 | []=>[]
 | e::l=>erCo e::erCos l
end
theorem erCos_eq (l:List Co):erCos l=l.map erCo:=by induction l with | nil=>rfl | cons x l ih=>simp [erCos,ih]
def Stb {α:Type} (er:α→α) (m:Ts) (x y:R α):Prop:=∀v ts,x=.ok v ts→∃v',er v'=er v∧y=.ok v' (ts++m)
section
variable {α β:Type} {er:α→α} {er2:β→β} {m:Ts}
theorem Stb.ok {v v':α} {ts:Ts} (h:er v'=er v):Stb er m (.ok v ts) (.ok v' (ts++m)):=fun w rest e=>by cases e;exact ⟨v',h,rfl⟩
theorem Stb.ok' {v v':α} {ts ts':Ts} (h:er v'=er v) (e:ts'=ts++m):Stb er m (.ok v ts) (.ok v' ts'):=e ▸ Stb.ok h
theorem Stb.err {r e:Nat} {y:R α}:Stb er m (.err r e) y:=fun w rest e=>by cases e
theorem Stb.bind {x y:R α} {f g:α→Ts→R β} (h:Stb er m x y) (hf:∀v v' ts,er v'=er v→Stb er2 m (f v ts) (g v' (ts++m))):Stb er2 m (x.bind f) (y.bind g):=fun w rest e=>by
 cases x with
 | ok v ts =>
  obtain ⟨v',h1,rfl⟩:=h v ts rfl
  exact hf v v' ts h1 w rest e
 | err r e'=>cases e
theorem Stb.binds {x y:R α} {f g:α→Ts→R β} (h:Stb id m x y) (hf:∀v ts,Stb er2 m (f v ts) (g v (ts++m))):Stb er2 m (x.bind f) (y.bind g):=Stb.bind h fun v v' ts e=>by cases (show v'=v from e);exact hf v ts
end
variable {m:Ts}
def Un.app:Un→Un→Un
 | .mk a1 a2 a3 a4 a5 a6,.mk b1 b2 b3 b4 b5 b6=>.mk (a1++b1) (a2++b2) (a3++b3) (a4++b4) (a5++b5) (a6++b6)
def Un.le:Un→Un→Prop
 | .mk a1 a2 a3 a4 a5 a6,.mk b1 b2 b3 b4 b5 b6=>a1.length≤b1.length∧a2.length≤b2.length∧a3.length≤b3.length∧a4.length≤b4.length∧a5.length≤b5.length∧a6.length≤b6.length
theorem Un.le_refl:∀u:Un,Un.le u u | .mk ..=>⟨Nat.le_refl _,Nat.le_refl _,Nat.le_refl _,Nat.le_refl _,Nat.le_refl _,Nat.le_refl _⟩
theorem Un.le_trans:∀{u v w:Un},Un.le u v→Un.le v w→Un.le u w
 | .mk ..,.mk ..,.mk ..,⟨h1,h2,h3,h4,h5,h6⟩,⟨k1,k2,k3,k4,k5,k6⟩=>⟨by omega,by omega,by omega,by omega,by omega,by omega⟩
def Un.room:Un→Un→Prop
 | .mk a1 a2 a3 a4 a5 a6,.mk b1 b2 b3 b4 b5 b6=>a1.length+b1.length≤256∧a2.length+b2.length≤256∧a3.length+b3.length≤1024∧a4.length+b4.length≤64∧a5.length+b5.length≤256∧a6.length+b6.length≤256
end Go.PM.Lex
end

section
set_option maxRecDepth 100000
set_option maxHeartbeats 4000000
namespace Go.PM.Lex
open Go.Proofs
variable {w0:World} {nG:Nat}
def allS {α:Type} (f:α→α→Bool):List α→List α→Bool
 | [],[]=>true
 | x::l,y::m=>f x y && allS f l m
 | _,_=>false
theorem allS_ne {α:Type} (f:α→α→Bool):∀(l m:List α),l.length≠m.length→allS f l m=false
 | [],[],h=>absurd rfl h
 | [],_::_,_=>rfl
 | _::_,[],_=>rfl
 | x::l,y::m,h=>by rw [allS,allS_ne f l m (by simpa using h),Bool.and_false]
theorem allS_drop {α:Type} (f:α→α→Bool) {l m:List α} {i:Nat} (h1:i<l.length) (h2:i<m.length):allS f (l.drop i) (m.drop i)=(f l[i] m[i] && allS f (l.drop (i+1)) (m.drop (i+1))):=by
 rw [List.drop_eq_getElem_cons h1,List.drop_eq_getElem_cons h2,allS]
theorem allS_end {α:Type} (f:α→α→Bool) {l m:List α} {i:Nat} (h1:l.length≤i) (h2:m.length≤i):allS f (l.drop i) (m.drop i)=true:=by
 rw [List.drop_eq_nil_of_le h1,List.drop_eq_nil_of_le h2];rfl
def szS {α:Type} (f:α→Nat):List α→Nat
 | []=>0
 | x::l=>1+f x+szS f l
theorem szS_len {α:Type} (f:α→Nat):∀(l:List α),l.length≤szS f l
 | []=>Nat.le_refl _
 | x::l=>by have:=szS_len f l;simp only [List.length_cons,szS];omega
theorem szS_get {α:Type} (f:α→Nat):∀(l:List α) (i:Nat) (h:i<l.length),f l[i]<szS f l
 | x::l,0,h=>by simp only [List.getElem_cons_zero,szS];omega
 | x::l,i+1,h=>by have:=szS_get f l i (by simpa using h);simp only [List.getElem_cons_succ,szS];omega
theorem sameEs_eq:∀(l m:List Ex),sameEs l m=allS sameE l m
 | [],[]=>rfl
 | [],_::_=>by rw [sameEs,allS] <;> simp
 | _::_,[]=>by rw [sameEs,allS] <;> simp
 | x::l,y::m=>by rw [sameEs,allS,sameEs_eq l m]
theorem szEs_eq:∀(l:List Ex),szEs l=szS szE l
 | []=>rfl
 | x::l=>by rw [szEs,szS,szEs_eq l]
def eqB (a b:Bs):Bool:=decide (a=b)
mutual
def sameL:Li→Li→Bool
 | .mk o1 r1 a1 b1 _,.mk o2 r2 a2 b2 _=>decide ((o1:Int)=o2) && (decide (r1=r2) && (allS sameE a1 a2 && sameLs b1 b2))
def sameLs:List Li→List Li→Bool
 | [],[]=>true
 | x::l,y::m=>sameL x y && sameLs l m
 | _,_=>false
end
theorem sameLs_eq:∀(l m:List Li),sameLs l m=allS sameL l m
 | [],[]=>by rw [sameLs,allS]
 | [],_::_=>by rw [sameLs,allS] <;> simp
 | _::_,[]=>by rw [sameLs,allS] <;> simp
 | x::l,y::m=>by rw [sameLs,allS,sameLs_eq l m]
mutual
def szL:Li→Nat
 | .mk _ _ a b _=>1+szS szE a+szLs b
def szLs:List Li→Nat
 | []=>0
 | x::l=>1+szL x+szLs l
end
theorem szLs_eq:∀(l:List Li),szLs l=szS szL l
 | []=>by rw [szLs,szS]
 | x::l=>by rw [szLs,szS,szLs_eq l]
def sameFi (f g:Fi):Bool:=decide (f.name=g.name) && (decide (f.typ=g.typ) && true)
def sameRu (r s:Ru):Bool:=decide (r.head=s.head) && (allS sameE r.args s.args && allS sameL r.body s.body)
def szRu (r:Ru):Nat:=1+szS szE r.args+szS szL r.body
def sz0 {α:Type} (_:α):Nat:=0
def sameCa (c d:Ca):Bool:=decide (c.name=d.name) && allS sameFi c.fields d.fields
def szCa (c:Ca):Nat:=1+szS sz0 c.fields
def sameTy (a b:Ty):Bool:=decide ((a.kind:Int)=b.kind) && (decide (a.name=b.name) && (decide (a.base=b.base) && (allS sameFi a.fields b.fields && allS sameCa a.cases b.cases)))
def szTy (a:Ty):Nat:=1+szS sz0 a.fields+szS szCa a.cases
def sameRe (a b:Re):Bool:=decide (a.name=b.name) && (decide (a.inn=b.inn) && (decide (a.out=b.out) && (decide (a.inl=b.inl) && allS sameFi a.fields b.fields)))
def szRe (a:Re):Nat:=1+szS sz0 a.fields
def sameIn (a b:Ini):Bool:=decide (a.name=b.name) && (decide (a.comp=b.comp) && allS eqB a.types b.types)
def szIn (a:Ini):Nat:=1+szS sz0 a.types
def sameOv (a b:Ov):Bool:=decide (a.rel=b.rel)
mutual
def sameUn:Un→Un→Bool
 | .mk a1 a2 a3 a4 a5 a6,.mk b1 b2 b3 b4 b5 b6=>allS sameTy a1 b1 && (allS sameRe a2 b2 && (allS sameRu a3 b3 && (sameCos a4 b4 && (allS sameIn a5 b5 && allS sameOv a6 b6))))
def sameCo:Co→Co→Bool
 | .mk n1 p1 b1 t1 u1 _,.mk n2 p2 b2 t2 u2 _=>decide (n1=n2) && (decide (b1=b2) && (allS eqB p1 p2 && (allS eqB t1 t2 && sameUn u1 u2)))
def sameCos:List Co→List Co→Bool
 | [],[]=>true
 | x::l,y::m=>sameCo x y && sameCos l m
 | _,_=>false
end
theorem sameCos_eq:∀(l m:List Co),sameCos l m=allS sameCo l m
 | [],[]=>by rw [sameCos,allS]
 | [],_::_=>by rw [sameCos,allS] <;> simp
 | _::_,[]=>by rw [sameCos,allS] <;> simp
 | x::l,y::m=>by rw [sameCos,allS,sameCos_eq l m]
mutual
def szUn:Un→Nat
 | .mk a1 a2 a3 a4 a5 a6=>1+szS szTy a1+szS szRe a2+szS szRu a3+szCos a4+szS szIn a5+szS sz0 a6
def szCo:Co→Nat
 | .mk _ p _ t u _=>1+szS sz0 p+szS sz0 t+szUn u
def szCos:List Co→Nat
 | []=>0
 | x::l=>1+szCo x+szCos l
end
theorem szCos_eq:∀(l:List Co),szCos l=szS szCo l
 | []=>by rw [szCos,szS]
 | x::l=>by rw [szCos,szS,szCos_eq l]
noncomputable def spLS {α:Type} (enc:Pl→α→List D) (f:α→α→Bool) (sz:α→Nat) (n:Nat):Spec:=fun args σ K=>match args,σ with
 | [.d (.sl r1),.d (.sl r2),.d (.bool at')],⟨[],[],0⟩=>∃pl1 l1 pl2 l2,r1=l1.map (enc pl1)∧r2=l2.map (enc pl2)∧(at'=false∧szS sz l1≤n∧n≤1099511627776)∧∀b,allS f l1 l2=b→K (.ret (.d (.bool b))) ⟨[],[],0⟩
 | _,_=>False
theorem spLS_mono {α:Type} (enc:Pl→α→List D) (f:α→α→Bool) (sz:α→Nat) (n:Nat):SpecMono (spLS enc f sz n):=fun args σ K K' hK h=>by
 unfold spLS at h ⊢
 split at h
 ·obtain ⟨p1,l1,p2,l2,h1,h2,h3,h4⟩:=h
  exact ⟨p1,l1,p2,l2,h1,h2,h3,fun b hb=>hK _ _ (h4 b hb)⟩
 ·exact h.elim
noncomputable def spL2 {α:Type} (enc:α→List D) (f:α→α→Bool) (n:Nat):Spec:=fun args σ K=>match args,σ with
 | [.d (.sl r1),.d (.sl r2)],⟨[],[],0⟩=>∃l1 l2,r1=l1.map enc∧r2=l2.map enc∧(szS (sz0 (α:=α)) l1≤n∧n≤1099511627776)∧∀b,allS f l1 l2=b→K (.ret (.d (.bool b))) ⟨[],[],0⟩
 | _,_=>False
theorem spL2_mono {α:Type} (enc:α→List D) (f:α→α→Bool) (n:Nat):SpecMono (spL2 enc f n):=fun args σ K K' hK h=>by
 unfold spL2 at h ⊢
 split at h
 ·obtain ⟨l1,l2,h1,h2,h3,h4⟩:=h
  exact ⟨l1,l2,h1,h2,h3,fun b hb=>hK _ _ (h4 b hb)⟩
 ·exact h.elim
noncomputable def spEF {α:Type} (g0:FuncId) (enc:Pl→α→List D) (f:α→α→Bool) (sz:α→Nat) (n:Nat):Spec:=fun args σ K=>match args,σ with
 | [.d (.sl r1),.d (.sl r2),.func g [] []],⟨[],[],0⟩=>∃pl1 l1 pl2 l2,r1=l1.map (enc pl1)∧r2=l2.map (enc pl2)∧(g=g0∧szS sz l1≤n∧n≤1099511627776)∧∀b,allS f l1 l2=b→K (.ret (.d (.bool b))) ⟨[],[],0⟩
 | _,_=>False
theorem spEF_mono {α:Type} (g0:FuncId) (enc:Pl→α→List D) (f:α→α→Bool) (sz:α→Nat) (n:Nat):SpecMono (spEF g0 enc f sz n):=fun args σ K K' hK h=>by
 unfold spEF at h ⊢
 split at h
 ·obtain ⟨p1,l1,p2,l2,h1,h2,h3,h4⟩:=h
  exact ⟨p1,l1,p2,l2,h1,h2,h3,fun b hb=>hK _ _ (h4 b hb)⟩
 ·exact h.elim
noncomputable def spSt {α:Type} (enc:Pl→α→List D) (f:α→α→Bool) (sz:α→Nat) (n:Nat):Spec:=fun args σ K=>match args,σ with
 | [.agg c1,.agg c2],⟨[],[],0⟩=>∃pl1 x1 pl2 x2,c1=(enc pl1 x1).map .d∧c2=(enc pl2 x2).map .d∧(sz x1≤n∧n≤1099511627776)∧∀b,f x1 x2=b→K (.ret (.d (.bool b))) ⟨[],[],0⟩
 | _,_=>False
theorem spSt_mono {α:Type} (enc:Pl→α→List D) (f:α→α→Bool) (sz:α→Nat) (n:Nat):SpecMono (spSt enc f sz n):=fun args σ K K' hK h=>by
 unfold spSt at h ⊢
 split at h
 ·obtain ⟨p1,l1,p2,l2,h1,h2,h3,h4⟩:=h
  exact ⟨p1,l1,p2,l2,h1,h2,h3,fun b hb=>hK _ _ (h4 b hb)⟩
 ·exact h.elim
def spB (sp:Nat→Spec) (n:Nat):Spec:=fun args σ K=>0<n∧sp (n - 1) args σ K
theorem spB_mono {sp:Nat→Spec} (h:∀n,SpecMono (sp n)) (n:Nat):SpecMono (spB sp n):=fun args σ K K' hK g=>⟨g.1,h _ _ _ _ _ hK g.2⟩
theorem pcalls_none {g:FuncId} {sp:Nat→Spec} (h:Enters (GG w0 nG).P g):PCalls (GG w0 nG) g (spB sp 0):=⟨h,fun args σ K hs=>absurd hs.1 (by omega)⟩
theorem pcalls_less {g:FuncId} {sp:Nat→Spec} {n:Nat} (h:PCalls (GG w0 nG) g (sp n)):PCalls (GG w0 nG) g (spB sp (n+1)):=h.weaken1 fun args σ K hs=>hs.2
theorem cSameEs (n:Nat):PCalls (GG w0 nG) 36 (spLS encE sameE szE n):=(cSame n).2.weaken1 fun args σ K hs=>by
 unfold spLS at hs
 unfold spSameEs
 split at hs
 ·obtain ⟨p1,l1,p2,l2,rfl,rfl,⟨h1,h2,h3⟩,h4⟩:=hs
  exact ⟨p1,l1,p2,l2,(encEs_eq _ _).symm,(encEs_eq _ _).symm,⟨h1,by rw [szEs_eq];exact h2,h3⟩,fun b hb=>h4 b (by rw [← sameEs_eq];exact hb)⟩
 ·exact hs.elim
theorem kFields_ok {n:Nat} :PCalls (GG w0 nG) 91 (spL2 encFi sameFi n):=by
 refine pcalls tab_ok mixed (tbl:=[]) trivial Tryz.func91 rfl (by kernel_rfl) (by kernel_rfl) ?_
 intro args σ K h
 unfold spL2 at h
 split at h
 ·obtain ⟨l1,l2,rfl,rfl,⟨hz,hn⟩,h⟩:=h
  have h:=h _ rfl
  have hlen1:(l1.map encFi).length=l1.length:=List.length_map ..
  have hlen2:(l2.map encFi).length=l2.length:=List.length_map ..
  have hsz:=szS_len sz0 l1
  refine ⟨loopsOf [(4,⟨[5],[0,1],fun vs σ=>∃i:Nat,vs=[.d (.int .i64 i)]∧σ=⟨[],[],0⟩∧i≤l1.length∧allS sameFi l1 l2=allS sameFi (l1.drop i) (l2.drop i),fun vs _=>match vs with | [.d (.int _ i)]=>((l1.length:Int) - i).toNat | _=>0⟩)],0,false,by simp,Nat.le_of_ble_eq_true rfl,?_⟩
  conv=>whnf
  refine CondP.ndec (fun hc=>?_) (fun hc=>?_)
  ·have hc:l1.length≠l2.length:=fun g=>hc (by show ((l1.map encFi).length:Int)=(l2.map encFi).length;rw [hlen1,hlen2,g])
   rw [allS_ne _ _ _ hc] at h
   conv=>whnf
   exact h
  have hc:l1.length=l2.length:=by have hc:((l1.map encFi).length:Int)=(l2.map encFi).length:=hc;rw [hlen1,hlen2] at hc;omega
  conv=>whnf
  refine ⟨⟨0,rfl,rfl,by omega,rfl⟩,?_⟩
  intro vs σ hI
  obtain ⟨i,rfl,rfl,hi,hs⟩:=hI
  conv=>whnf
  refine CondP.dec (fun hi2=>?_) (fun hi2=>?_)
  rotate_left
  ·have hi2:l1.length≤i:=by have hi2:¬(i:Int)<(l1.map encFi).length:=hi2;rw [hlen1] at hi2;omega
   rw [allS_end _ hi2 (by omega)] at hs
   rw [hs] at h
   conv=>whnf
   exact h
  have hi2:i<l1.length:=by have hi2:(i:Int)<(l1.map encFi).length:=hi2;rw [hlen1] at hi2;omega
  have hi3:i<l2.length:=by omega
  have hg:=szS_get sz0 l1 i hi2
  rw [allS_drop _ hi2 hi3] at hs
  obtain ⟨eA,hA⟩:∃e,l1[i]=e:=⟨_,rfl⟩
  obtain ⟨eB,hB⟩:∃e,l2[i]=e:=⟨_,rfl⟩
  obtain ⟨a1,a2⟩:=eA
  obtain ⟨b1,b2⟩:=eB
  have hr1:(l1.map encFi)[((i:Nat):Int).toNat]?=some (encFi (⟨a1,a2⟩:Fi)):=by simp [hi2,hA]
  have hr2:(l2.map encFi)[((i:Nat):Int).toNat]?=some (encFi (⟨b1,b2⟩:Fi)):=by simp [hi3,hB]
  rw [hA,hB] at hs
  have hneg:sameFi (⟨a1,a2⟩:Fi) (⟨b1,b2⟩:Fi)=false→K (.ret (.d (.bool false))) ⟨[],[],0⟩:=fun he=>by rw [hs,he,Bool.false_and] at h;exact h
  conv=>whnf
  (repeat (first | (refine ⟨_,by omega,hr1,?_⟩;conv=>whnf) | (refine ⟨_,by omega,hr2,?_⟩;conv=>whnf)))
  refine CondP.intro (fun hc1=>?_) (fun hc1=>?_)
  ·(conv=>whnf);exact hneg ((Bool.not_eq_true' _).mp hc1)
  conv=>whnf
  have he:sameFi (⟨a1,a2⟩:Fi) (⟨b1,b2⟩:Fi)=true:=(Bool.not_eq_false' _).mp hc1
  rw [he,Bool.true_and] at hs
  refine Or.inl ⟨InR.i64 (by omega) (by omega),?_⟩
  conv=>whnf
  refine ⟨⟨i+1,rfl,rfl,by omega,hs⟩,?_⟩
  show ((l1.length:Int) - ((i:Int)+1)).toNat<((l1.length:Int) - (i:Int)).toNat
  omega
 ·exact h.elim
theorem kTexts_ok {n:Nat} :PCalls (GG w0 nG) 54 (spL2 encBs eqB n):=by
 refine pcalls tab_ok mixed (tbl:=[]) trivial Tryz.func54 rfl (by kernel_rfl) (by kernel_rfl) ?_
 intro args σ K h
 unfold spL2 at h
 split at h
 ·obtain ⟨l1,l2,rfl,rfl,⟨hz,hn⟩,h⟩:=h
  have h:=h _ rfl
  have hlen1:(l1.map encBs).length=l1.length:=List.length_map ..
  have hlen2:(l2.map encBs).length=l2.length:=List.length_map ..
  have hsz:=szS_len sz0 l1
  refine ⟨loopsOf [(4,⟨[5],[0,1],fun vs σ=>∃i:Nat,vs=[.d (.int .i64 i)]∧σ=⟨[],[],0⟩∧i≤l1.length∧allS eqB l1 l2=allS eqB (l1.drop i) (l2.drop i),fun vs _=>match vs with | [.d (.int _ i)]=>((l1.length:Int) - i).toNat | _=>0⟩)],0,false,by simp,Nat.le_of_ble_eq_true rfl,?_⟩
  conv=>whnf
  refine CondP.ndec (fun hc=>?_) (fun hc=>?_)
  ·have hc:l1.length≠l2.length:=fun g=>hc (by show ((l1.map encBs).length:Int)=(l2.map encBs).length;rw [hlen1,hlen2,g])
   rw [allS_ne _ _ _ hc] at h
   conv=>whnf
   exact h
  have hc:l1.length=l2.length:=by have hc:((l1.map encBs).length:Int)=(l2.map encBs).length:=hc;rw [hlen1,hlen2] at hc;omega
  conv=>whnf
  refine ⟨⟨0,rfl,rfl,by omega,rfl⟩,?_⟩
  intro vs σ hI
  obtain ⟨i,rfl,rfl,hi,hs⟩:=hI
  conv=>whnf
  refine CondP.dec (fun hi2=>?_) (fun hi2=>?_)
  rotate_left
  ·have hi2:l1.length≤i:=by have hi2:¬(i:Int)<(l1.map encBs).length:=hi2;rw [hlen1] at hi2;omega
   rw [allS_end _ hi2 (by omega)] at hs
   rw [hs] at h
   conv=>whnf
   exact h
  have hi2:i<l1.length:=by have hi2:(i:Int)<(l1.map encBs).length:=hi2;rw [hlen1] at hi2;omega
  have hi3:i<l2.length:=by omega
  have hg:=szS_get sz0 l1 i hi2
  rw [allS_drop _ hi2 hi3] at hs
  have hr1:(l1.map encBs)[((i:Nat):Int).toNat]?=some (encBs l1[i]):=by simp [hi2]
  have hr2:(l2.map encBs)[((i:Nat):Int).toNat]?=some (encBs l2[i]):=by simp [hi3]
  obtain ⟨eA,hA⟩:∃e,l1[i]=e:=⟨_,rfl⟩
  obtain ⟨eB,hB⟩:∃e,l2[i]=e:=⟨_,rfl⟩
  rw [hA] at hr1
  rw [hB] at hr2
  rw [hA,hB] at hs
  have hneg:eqB eA eB=false→K (.ret (.d (.bool false))) ⟨[],[],0⟩:=fun he=>by rw [hs,he,Bool.false_and] at h;exact h
  conv=>whnf
  (repeat (first | (refine ⟨_,by omega,hr1,?_⟩;conv=>whnf) | (refine ⟨_,by omega,hr2,?_⟩;conv=>whnf)))
  refine CondP.ndec (fun hc1=>?_) (fun hc1=>?_)
  ·(conv=>whnf);exact hneg (by simp [eqB,hc1])
  (try dsimp only at hc1)
  conv=>whnf
  have he:eqB eA eB=true:=by simp [eqB,hc1]
  rw [he,Bool.true_and] at hs
  refine Or.inl ⟨InR.i64 (by omega) (by omega),?_⟩
  conv=>whnf
  refine ⟨⟨i+1,rfl,rfl,by omega,hs⟩,?_⟩
  show ((l1.length:Int) - ((i:Int)+1)).toNat<((l1.length:Int) - (i:Int)).toNat
  omega
 ·exact h.elim
noncomputable def tblkLits (n:Nat):Tbl:=[(36,spLS encE sameE szE n),(92,spB (spLS encL sameL szL) n)]
theorem kLits_ok {n:Nat} (ht:TblOK (GG w0 nG) (tblkLits n)):PCalls (GG w0 nG) 92 (spLS encL sameL szL n):=by
 refine pcalls tab_ok mixed (tbl:=(tblkLits n)) ht Tryz.func92 rfl (by kernel_rfl) (by kernel_rfl) ?_
 intro args σ K h
 unfold spLS at h
 split at h
 ·obtain ⟨p1,l1,p2,l2,rfl,rfl,⟨rfl,hz,hn⟩,h⟩:=h
  have h:=h _ rfl
  have hlen1:(l1.map (encL p1)).length=l1.length:=List.length_map ..
  have hlen2:(l2.map (encL p2)).length=l2.length:=List.length_map ..
  have hsz:=szS_len szL l1
  refine ⟨loopsOf [(4,⟨[7],[0,1,2],fun vs σ=>∃i:Nat,vs=[.d (.int .i64 i)]∧σ=⟨[],[],0⟩∧i≤l1.length∧allS sameL l1 l2=allS sameL (l1.drop i) (l2.drop i),fun vs _=>match vs with | [.d (.int _ i)]=>((l1.length:Int) - i).toNat | _=>0⟩)],0,false,by simp,Nat.le_of_ble_eq_true rfl,?_⟩
  conv=>whnf
  refine CondP.ndec (fun hc=>?_) (fun hc=>?_)
  ·have hc:l1.length≠l2.length:=fun g=>hc (by show ((l1.map (encL p1)).length:Int)=(l2.map (encL p2)).length;rw [hlen1,hlen2,g])
   rw [allS_ne _ _ _ hc] at h
   conv=>whnf
   exact h
  have hc:l1.length=l2.length:=by have hc:((l1.map (encL p1)).length:Int)=(l2.map (encL p2)).length:=hc;rw [hlen1,hlen2] at hc;omega
  conv=>whnf
  refine ⟨⟨0,rfl,rfl,by omega,rfl⟩,?_⟩
  intro vs σ hI
  obtain ⟨i,rfl,rfl,hi,hs⟩:=hI
  conv=>whnf
  refine CondP.dec (fun hi2=>?_) (fun hi2=>?_)
  rotate_left
  ·have hi2:l1.length≤i:=by have hi2:¬(i:Int)<(l1.map (encL p1)).length:=hi2;rw [hlen1] at hi2;omega
   rw [allS_end _ hi2 (by omega)] at hs
   rw [hs] at h
   conv=>whnf
   exact h
  have hi2:i<l1.length:=by have hi2:(i:Int)<(l1.map (encL p1)).length:=hi2;rw [hlen1] at hi2;omega
  have hi3:i<l2.length:=by omega
  have hg:=szS_get szL l1 i hi2
  rw [allS_drop _ hi2 hi3] at hs
  obtain ⟨eA,hA⟩:∃e,l1[i]=e:=⟨_,rfl⟩
  obtain ⟨eB,hB⟩:∃e,l2[i]=e:=⟨_,rfl⟩
  obtain ⟨a1,a2,a3,a4,a5⟩:=eA
  obtain ⟨b1,b2,b3,b4,b5⟩:=eB
  have hr1:(l1.map (encL p1))[((i:Nat):Int).toNat]?=some ((encL p1) (.mk a1 a2 a3 a4 a5)):=by simp [hi2,hA]
  have hr2:(l2.map (encL p2))[((i:Nat):Int).toNat]?=some ((encL p2) (.mk b1 b2 b3 b4 b5)):=by simp [hi3,hB]
  rw [hA,hB] at hs
  rw [hA] at hg
  simp only [szL,szLs_eq] at hg
  have hneg:sameL (.mk a1 a2 a3 a4 a5) (.mk b1 b2 b3 b4 b5)=false→K (.ret (.d (.bool false))) ⟨[],[],0⟩:=fun he=>by rw [hs,he,Bool.false_and] at h;exact h
  conv=>whnf
  (repeat (first | (refine ⟨_,by omega,hr1,?_⟩;conv=>whnf) | (refine ⟨_,by omega,hr2,?_⟩;conv=>whnf)))
  refine CondP.ndec (fun hc1=>?_) (fun hc1=>?_)
  ·(conv=>whnf);exact hneg (by simp [sameL,sameLs_eq,hc1])
  (try dsimp only at hc1)
  conv=>whnf
  (repeat (first | (refine ⟨_,by omega,hr1,?_⟩;conv=>whnf) | (refine ⟨_,by omega,hr2,?_⟩;conv=>whnf)))
  refine CondP.ndec (fun hc2=>?_) (fun hc2=>?_)
  ·(conv=>whnf);exact hneg (by simp [sameL,sameLs_eq,hc2])
  (try dsimp only at hc2)
  conv=>whnf
  (repeat (first | (refine ⟨_,by omega,hr1,?_⟩;conv=>whnf) | (refine ⟨_,by omega,hr2,?_⟩;conv=>whnf)))
  refine ⟨p1,a3,p2,b3,encEs_eq _ _,encEs_eq _ _,⟨rfl,by omega,by omega⟩,fun b_3 hb3=>?_⟩
  cases b_3 with
  | false =>
   conv=>whnf
   (repeat (refine ⟨rfl,?_⟩;conv=>whnf))
   exact hneg (by simp [sameL,sameLs_eq,hb3])
  | true =>
   conv=>whnf
   (repeat (refine ⟨rfl,?_⟩;conv=>whnf))
   (repeat (first | (refine ⟨_,by omega,hr1,?_⟩;conv=>whnf) | (refine ⟨_,by omega,hr2,?_⟩;conv=>whnf)))
   refine ⟨by omega,p1,a4,p2,b4,encLs_eq _ _,encLs_eq _ _,⟨rfl,by omega,by omega⟩,fun b_4 hb4=>?_⟩
   cases b_4 with
   | false =>
    conv=>whnf
    (repeat (refine ⟨rfl,?_⟩;conv=>whnf))
    exact hneg (by simp [sameL,sameLs_eq,hb4])
   | true =>
    conv=>whnf
    (repeat (refine ⟨rfl,?_⟩;conv=>whnf))
    have he:sameL (.mk a1 a2 a3 a4 a5) (.mk b1 b2 b3 b4 b5)=true:=by simp [sameL,sameLs_eq,hc1,hc2,hb3,hb4]
    rw [he,Bool.true_and] at hs
    refine Or.inl ⟨InR.i64 (by omega) (by omega),?_⟩
    conv=>whnf
    refine ⟨⟨i+1,rfl,rfl,by omega,hs⟩,?_⟩
    show ((l1.length:Int) - ((i:Int)+1)).toNat<((l1.length:Int) - (i:Int)).toNat
    omega
 ·exact h.elim
theorem cLits:∀n,PCalls (GG w0 nG) 92 (spLS encL sameL szL n)
 | 0=>kLits_ok ⟨⟨cSameEs 0,spLS_mono _ _ _ _⟩,⟨pcalls_none (enters_of Tryz.func92 (by kernel_rfl) rfl),spB_mono (fun n=>spLS_mono _ _ _ n) _⟩,trivial⟩
 | n+1=>kLits_ok ⟨⟨cSameEs _,spLS_mono _ _ _ _⟩,⟨pcalls_less (sp:=fun n=>spLS encL sameL szL n) (cLits n),spB_mono (fun n=>spLS_mono _ _ _ n) _⟩,trivial⟩
noncomputable def tblkRules (n:Nat):Tbl:=[(36,spLS encE sameE szE n),(92,spLS encL sameL szL n)]
theorem kRules_ok {n:Nat} (ht:TblOK (GG w0 nG) (tblkRules n)):PCalls (GG w0 nG) 53 (spLS encRu sameRu szRu n):=by
 refine pcalls tab_ok mixed (tbl:=(tblkRules n)) ht Tryz.func53 rfl (by kernel_rfl) (by kernel_rfl) ?_
 intro args σ K h
 unfold spLS at h
 split at h
 ·obtain ⟨p1,l1,p2,l2,rfl,rfl,⟨rfl,hz,hn⟩,h⟩:=h
  have h:=h _ rfl
  have hlen1:(l1.map (encRu p1)).length=l1.length:=List.length_map ..
  have hlen2:(l2.map (encRu p2)).length=l2.length:=List.length_map ..
  have hsz:=szS_len szRu l1
  refine ⟨loopsOf [(4,⟨[7],[0,1,2],fun vs σ=>∃i:Nat,vs=[.d (.int .i64 i)]∧σ=⟨[],[],0⟩∧i≤l1.length∧allS sameRu l1 l2=allS sameRu (l1.drop i) (l2.drop i),fun vs _=>match vs with | [.d (.int _ i)]=>((l1.length:Int) - i).toNat | _=>0⟩)],0,false,by simp,Nat.le_of_ble_eq_true rfl,?_⟩
  conv=>whnf
  refine CondP.ndec (fun hc=>?_) (fun hc=>?_)
  ·have hc:l1.length≠l2.length:=fun g=>hc (by show ((l1.map (encRu p1)).length:Int)=(l2.map (encRu p2)).length;rw [hlen1,hlen2,g])
   rw [allS_ne _ _ _ hc] at h
   conv=>whnf
   exact h
  have hc:l1.length=l2.length:=by have hc:((l1.map (encRu p1)).length:Int)=(l2.map (encRu p2)).length:=hc;rw [hlen1,hlen2] at hc;omega
  conv=>whnf
  refine ⟨⟨0,rfl,rfl,by omega,rfl⟩,?_⟩
  intro vs σ hI
  obtain ⟨i,rfl,rfl,hi,hs⟩:=hI
  conv=>whnf
  refine CondP.dec (fun hi2=>?_) (fun hi2=>?_)
  rotate_left
  ·have hi2:l1.length≤i:=by have hi2:¬(i:Int)<(l1.map (encRu p1)).length:=hi2;rw [hlen1] at hi2;omega
   rw [allS_end _ hi2 (by omega)] at hs
   rw [hs] at h
   conv=>whnf
   exact h
  have hi2:i<l1.length:=by have hi2:(i:Int)<(l1.map (encRu p1)).length:=hi2;rw [hlen1] at hi2;omega
  have hi3:i<l2.length:=by omega
  have hg:=szS_get szRu l1 i hi2
  rw [allS_drop _ hi2 hi3] at hs
  obtain ⟨eA,hA⟩:∃e,l1[i]=e:=⟨_,rfl⟩
  obtain ⟨eB,hB⟩:∃e,l2[i]=e:=⟨_,rfl⟩
  obtain ⟨a1,a2,a3,a4⟩:=eA
  obtain ⟨b1,b2,b3,b4⟩:=eB
  have hr1:(l1.map (encRu p1))[((i:Nat):Int).toNat]?=some ((encRu p1) (⟨a1,a2,a3,a4⟩:Ru)):=by simp [hi2,hA]
  have hr2:(l2.map (encRu p2))[((i:Nat):Int).toNat]?=some ((encRu p2) (⟨b1,b2,b3,b4⟩:Ru)):=by simp [hi3,hB]
  rw [hA,hB] at hs
  rw [hA] at hg
  simp only [szRu] at hg
  have hneg:sameRu (⟨a1,a2,a3,a4⟩:Ru) (⟨b1,b2,b3,b4⟩:Ru)=false→K (.ret (.d (.bool false))) ⟨[],[],0⟩:=fun he=>by rw [hs,he,Bool.false_and] at h;exact h
  conv=>whnf
  (repeat (first | (refine ⟨_,by omega,hr1,?_⟩;conv=>whnf) | (refine ⟨_,by omega,hr2,?_⟩;conv=>whnf)))
  refine CondP.ndec (fun hc1=>?_) (fun hc1=>?_)
  ·(conv=>whnf);exact hneg (by simp [sameRu,hc1])
  (try dsimp only at hc1)
  conv=>whnf
  (repeat (first | (refine ⟨_,by omega,hr1,?_⟩;conv=>whnf) | (refine ⟨_,by omega,hr2,?_⟩;conv=>whnf)))
  refine ⟨p1,a2,p2,b2,encEs_eq _ _,encEs_eq _ _,⟨rfl,by omega,by omega⟩,fun b_2 hb2=>?_⟩
  cases b_2 with
  | false =>
   conv=>whnf
   (repeat (refine ⟨rfl,?_⟩;conv=>whnf))
   exact hneg (by simp [sameRu,hb2])
  | true =>
   conv=>whnf
   (repeat (refine ⟨rfl,?_⟩;conv=>whnf))
   (repeat (first | (refine ⟨_,by omega,hr1,?_⟩;conv=>whnf) | (refine ⟨_,by omega,hr2,?_⟩;conv=>whnf)))
   refine ⟨p1,a3,p2,b3,encLs_eq _ _,encLs_eq _ _,⟨rfl,by omega,by omega⟩,fun b_3 hb3=>?_⟩
   cases b_3 with
   | false =>
    conv=>whnf
    (repeat (refine ⟨rfl,?_⟩;conv=>whnf))
    exact hneg (by simp [sameRu,hb3])
   | true =>
    conv=>whnf
    (repeat (refine ⟨rfl,?_⟩;conv=>whnf))
    have he:sameRu (⟨a1,a2,a3,a4⟩:Ru) (⟨b1,b2,b3,b4⟩:Ru)=true:=by simp [sameRu,hc1,hb2,hb3]
    rw [he,Bool.true_and] at hs
    refine Or.inl ⟨InR.i64 (by omega) (by omega),?_⟩
    conv=>whnf
    refine ⟨⟨i+1,rfl,rfl,by omega,hs⟩,?_⟩
    show ((l1.length:Int) - ((i:Int)+1)).toNat<((l1.length:Int) - (i:Int)).toNat
    omega
 ·exact h.elim
end Go.PM.Lex
end

section
set_option maxRecDepth 100000
set_option maxHeartbeats 4000000
namespace Go.PM.Lex
open Go.Proofs
variable {w0:World} {nG:Nat}
noncomputable def tblkRels (n:Nat):Tbl:=[(91,spL2 encFi sameFi n)]
theorem kRels_ok {n:Nat} (ht:TblOK (GG w0 nG) (tblkRels n)):PCalls (GG w0 nG) 52 (spLS encRe sameRe szRe n):=by
 refine pcalls tab_ok mixed (tbl:=(tblkRels n)) ht Tryz.func52 rfl (by kernel_rfl) (by kernel_rfl) ?_
 intro args σ K h
 unfold spLS at h
 split at h
 ·obtain ⟨p1,l1,p2,l2,rfl,rfl,⟨rfl,hz,hn⟩,h⟩:=h
  have h:=h _ rfl
  have hlen1:(l1.map (encRe p1)).length=l1.length:=List.length_map ..
  have hlen2:(l2.map (encRe p2)).length=l2.length:=List.length_map ..
  have hsz:=szS_len szRe l1
  refine ⟨loopsOf [(4,⟨[7],[0,1,2],fun vs σ=>∃i:Nat,vs=[.d (.int .i64 i)]∧σ=⟨[],[],0⟩∧i≤l1.length∧allS sameRe l1 l2=allS sameRe (l1.drop i) (l2.drop i),fun vs _=>match vs with | [.d (.int _ i)]=>((l1.length:Int) - i).toNat | _=>0⟩)],0,false,by simp,Nat.le_of_ble_eq_true rfl,?_⟩
  conv=>whnf
  refine CondP.ndec (fun hc=>?_) (fun hc=>?_)
  ·have hc:l1.length≠l2.length:=fun g=>hc (by show ((l1.map (encRe p1)).length:Int)=(l2.map (encRe p2)).length;rw [hlen1,hlen2,g])
   rw [allS_ne _ _ _ hc] at h
   conv=>whnf
   exact h
  have hc:l1.length=l2.length:=by have hc:((l1.map (encRe p1)).length:Int)=(l2.map (encRe p2)).length:=hc;rw [hlen1,hlen2] at hc;omega
  conv=>whnf
  refine ⟨⟨0,rfl,rfl,by omega,rfl⟩,?_⟩
  intro vs σ hI
  obtain ⟨i,rfl,rfl,hi,hs⟩:=hI
  conv=>whnf
  refine CondP.dec (fun hi2=>?_) (fun hi2=>?_)
  rotate_left
  ·have hi2:l1.length≤i:=by have hi2:¬(i:Int)<(l1.map (encRe p1)).length:=hi2;rw [hlen1] at hi2;omega
   rw [allS_end _ hi2 (by omega)] at hs
   rw [hs] at h
   conv=>whnf
   exact h
  have hi2:i<l1.length:=by have hi2:(i:Int)<(l1.map (encRe p1)).length:=hi2;rw [hlen1] at hi2;omega
  have hi3:i<l2.length:=by omega
  have hg:=szS_get szRe l1 i hi2
  rw [allS_drop _ hi2 hi3] at hs
  obtain ⟨eA,hA⟩:∃e,l1[i]=e:=⟨_,rfl⟩
  obtain ⟨eB,hB⟩:∃e,l2[i]=e:=⟨_,rfl⟩
  obtain ⟨a1,a2,a3,a4,a5,a6⟩:=eA
  obtain ⟨b1,b2,b3,b4,b5,b6⟩:=eB
  have hr1:(l1.map (encRe p1))[((i:Nat):Int).toNat]?=some ((encRe p1) (⟨a1,a2,a3,a4,a5,a6⟩:Re)):=by simp [hi2,hA]
  have hr2:(l2.map (encRe p2))[((i:Nat):Int).toNat]?=some ((encRe p2) (⟨b1,b2,b3,b4,b5,b6⟩:Re)):=by simp [hi3,hB]
  rw [hA,hB] at hs
  rw [hA] at hg
  simp only [szRe] at hg
  have hneg:sameRe (⟨a1,a2,a3,a4,a5,a6⟩:Re) (⟨b1,b2,b3,b4,b5,b6⟩:Re)=false→K (.ret (.d (.bool false))) ⟨[],[],0⟩:=fun he=>by rw [hs,he,Bool.false_and] at h;exact h
  conv=>whnf
  (repeat (first | (refine ⟨_,by omega,hr1,?_⟩;conv=>whnf) | (refine ⟨_,by omega,hr2,?_⟩;conv=>whnf)))
  refine ⟨?_,?_,trivial⟩
  ·conv=>whnf
   (repeat (first | (refine ⟨?_,trivial⟩;conv=>whnf) | (refine ⟨rfl,?_⟩;conv=>whnf)))
   refine CondP.ndec (fun hc1=>?_) (fun hc1=>?_)
   ·(conv=>whnf);exact hneg (by simp [sameRe,hc1])
   (try dsimp only at hc1)
   conv=>whnf
   refine CondP.ndec (fun hc2=>?_) (fun hc2=>?_)
   ·(conv=>whnf);exact hneg (by simp [sameRe,hc2])
   (try dsimp only at hc2)
   conv=>whnf
   refine CondP.ndec (fun hc3=>?_) (fun hc3=>?_)
   ·(conv=>whnf);exact hneg (by simp [sameRe,hc3])
   (try dsimp only at hc3)
   conv=>whnf
   refine CondP.ndec (fun hc4=>?_) (fun hc4=>?_)
   ·(conv=>whnf);exact hneg (by simp [sameRe,hc4])
   (try dsimp only at hc4)
   conv=>whnf
   refine ⟨a2,b2,rfl,rfl,⟨by omega,by omega⟩,fun b_5 hb5=>?_⟩
   cases b_5 with
   | false =>
    conv=>whnf
    (repeat (refine ⟨rfl,?_⟩;conv=>whnf))
    exact hneg (by simp [sameRe,hb5])
   | true =>
    conv=>whnf
    (repeat (refine ⟨rfl,?_⟩;conv=>whnf))
    have he:sameRe (⟨a1,a2,a3,a4,a5,a6⟩:Re) (⟨b1,b2,b3,b4,b5,b6⟩:Re)=true:=by simp [sameRe,hc1,hc2,hc3,hc4,hb5]
    rw [he,Bool.true_and] at hs
    refine Or.inl ⟨InR.i64 (by omega) (by omega),?_⟩
    conv=>whnf
    refine ⟨⟨i+1,rfl,rfl,by omega,hs⟩,?_⟩
    show ((l1.length:Int) - ((i:Int)+1)).toNat<((l1.length:Int) - (i:Int)).toNat
    omega
  ·conv=>whnf
   (repeat (first | (refine ⟨?_,trivial⟩;conv=>whnf) | (refine ⟨rfl,?_⟩;conv=>whnf)))
   refine CondP.ndec (fun hc1=>?_) (fun hc1=>?_)
   ·(conv=>whnf);exact hneg (by simp [sameRe,hc1])
   (try dsimp only at hc1)
   conv=>whnf
   refine CondP.ndec (fun hc2=>?_) (fun hc2=>?_)
   ·(conv=>whnf);exact hneg (by simp [sameRe,hc2])
   (try dsimp only at hc2)
   conv=>whnf
   refine CondP.ndec (fun hc3=>?_) (fun hc3=>?_)
   ·(conv=>whnf);exact hneg (by simp [sameRe,hc3])
   (try dsimp only at hc3)
   conv=>whnf
   refine CondP.ndec (fun hc4=>?_) (fun hc4=>?_)
   ·(conv=>whnf);exact hneg (by simp [sameRe,hc4])
   (try dsimp only at hc4)
   conv=>whnf
   refine ⟨a2,b2,rfl,rfl,⟨by omega,by omega⟩,fun b_5 hb5=>?_⟩
   cases b_5 with
   | false =>
    conv=>whnf
    (repeat (refine ⟨rfl,?_⟩;conv=>whnf))
    exact hneg (by simp [sameRe,hb5])
   | true =>
    conv=>whnf
    (repeat (refine ⟨rfl,?_⟩;conv=>whnf))
    have he:sameRe (⟨a1,a2,a3,a4,a5,a6⟩:Re) (⟨b1,b2,b3,b4,b5,b6⟩:Re)=true:=by simp [sameRe,hc1,hc2,hc3,hc4,hb5]
    rw [he,Bool.true_and] at hs
    refine Or.inl ⟨InR.i64 (by omega) (by omega),?_⟩
    conv=>whnf
    refine ⟨⟨i+1,rfl,rfl,by omega,hs⟩,?_⟩
    show ((l1.length:Int) - ((i:Int)+1)).toNat<((l1.length:Int) - (i:Int)).toNat
    omega
 ·exact h.elim
noncomputable def tblkTypes (n:Nat):Tbl:=[(91,spL2 encFi sameFi n)]
theorem kTypes_ok {n:Nat} (ht:TblOK (GG w0 nG) (tblkTypes n)):PCalls (GG w0 nG) 51 (spLS encTy sameTy szTy n):=by
 refine pcallsN tab_ok mixed (tbl:=(tblkTypes n)) ht Tryz.func51 rfl (by kernel_rfl) (by kernel_rfl) ?_
 intro args σ K h
 unfold spLS at h
 split at h
 ·obtain ⟨p1,l1,p2,l2,rfl,rfl,⟨rfl,hz,hn⟩,h⟩:=h
  have h:=h _ rfl
  have hlen1:(l1.map (encTy p1)).length=l1.length:=List.length_map ..
  have hlen2:(l2.map (encTy p2)).length=l2.length:=List.length_map ..
  have hsz:=szS_len szTy l1
  refine ⟨loopsOf [(4,⟨[7],[0,1,2],fun vs σ=>∃i:Nat,vs=[.d (.int .i64 i)]∧σ=⟨[],[],0⟩∧i≤l1.length∧allS sameTy l1 l2=allS sameTy (l1.drop i) (l2.drop i),fun vs _=>match vs with | [.d (.int _ i)]=>((l1.length:Int) - i).toNat | _=>0⟩),(10,⟨[10],[0,1,2,7,8,9],fun vs σ=>∃(i k x y:Nat) (a1:Nat) (a2 a3:Bs) (a4:List Fi) (a5:List Ca) (a6:Nat) (b1:Nat) (b2 b3:Bs) (b4:List Fi) (b5:List Ca) (b6:Nat),vs=[.d (.sl (l1.map (encTy p1))),.d (.sl (l2.map (encTy p2))),.d (.bool false),.d (.int .i64 i),.ptr x 0,.ptr y 0,.d (.int .i64 k)]∧((x=0∧y=1∧σ=⟨[.cells 64 ((encTy p1 (⟨a1,a2,a3,a4,a5,a6⟩:Ty)).map .d),.cells 64 ((encTy p2 (⟨b1,b2,b3,b4,b5,b6⟩:Ty)).map .d)],[],0⟩)∨(x=1∧y=0∧σ=⟨[.cells 64 ((encTy p2 (⟨b1,b2,b3,b4,b5,b6⟩:Ty)).map .d),.cells 64 ((encTy p1 (⟨a1,a2,a3,a4,a5,a6⟩:Ty)).map .d)],[],0⟩))∧i<l1.length∧(k≤a5.length∧a5.length=b5.length∧szS szCa a5≤n)∧allS sameTy l1 l2=(allS sameCa (a5.drop k) (b5.drop k) && allS sameTy (l1.drop (i+1)) (l2.drop (i+1))),fun vs _=>match vs with | [_,_,_,_,_,_,.d (.int _ k)]=>((n:Int) - k).toNat | _=>0⟩)],unrOf [],tieOf [10],0,false,by simp,Nat.le_of_ble_eq_true rfl,?_⟩
  conv=>whnf
  refine CondP.ndec (fun hc=>?_) (fun hc=>?_)
  ·have hc:l1.length≠l2.length:=fun g=>hc (by show ((l1.map (encTy p1)).length:Int)=(l2.map (encTy p2)).length;rw [hlen1,hlen2,g])
   rw [allS_ne _ _ _ hc] at h
   conv=>whnf
   exact h
  have hc:l1.length=l2.length:=by have hc:((l1.map (encTy p1)).length:Int)=(l2.map (encTy p2)).length:=hc;rw [hlen1,hlen2] at hc;omega
  conv=>whnf
  refine ⟨⟨0,rfl,rfl,by omega,rfl⟩,?_⟩
  intro vs σ hI
  obtain ⟨i,rfl,rfl,hi,hs⟩:=hI
  conv=>whnf
  refine CondP.dec (fun hi2=>?_) (fun hi2=>?_)
  rotate_left
  ·have hi2:l1.length≤i:=by have hi2:¬(i:Int)<(l1.map (encTy p1)).length:=hi2;rw [hlen1] at hi2;omega
   rw [allS_end _ hi2 (by omega)] at hs
   rw [hs] at h
   conv=>whnf
   exact h
  have hi2:i<l1.length:=by have hi2:(i:Int)<(l1.map (encTy p1)).length:=hi2;rw [hlen1] at hi2;omega
  have hi3:i<l2.length:=by omega
  have hg:=szS_get szTy l1 i hi2
  rw [allS_drop _ hi2 hi3] at hs
  obtain ⟨eA,hA⟩:∃e,l1[i]=e:=⟨_,rfl⟩
  obtain ⟨eB,hB⟩:∃e,l2[i]=e:=⟨_,rfl⟩
  obtain ⟨a1,a2,a3,a4,a5,a6⟩:=eA
  obtain ⟨b1,b2,b3,b4,b5,b6⟩:=eB
  have hr1:(l1.map (encTy p1))[((i:Nat):Int).toNat]?=some ((encTy p1) (⟨a1,a2,a3,a4,a5,a6⟩:Ty)):=by simp [hi2,hA]
  have hr2:(l2.map (encTy p2))[((i:Nat):Int).toNat]?=some ((encTy p2) (⟨b1,b2,b3,b4,b5,b6⟩:Ty)):=by simp [hi3,hB]
  rw [hA,hB] at hs
  rw [hA] at hg
  simp only [szTy] at hg
  have hneg:sameTy (⟨a1,a2,a3,a4,a5,a6⟩:Ty) (⟨b1,b2,b3,b4,b5,b6⟩:Ty)=false→K (.ret (.d (.bool false))) ⟨[],[],0⟩:=fun he=>by rw [hs,he,Bool.false_and] at h;exact h
  conv=>whnf
  (repeat (first | (refine ⟨_,by omega,hr1,?_⟩;conv=>whnf) | (refine ⟨_,by omega,hr2,?_⟩;conv=>whnf)))
  refine ⟨?_,?_,trivial⟩
  ·conv=>whnf
   (repeat (first | (refine ⟨?_,trivial⟩;conv=>whnf) | (refine ⟨rfl,?_⟩;conv=>whnf)))
   refine CondP.ndec (fun hc1=>?_) (fun hc1=>?_)
   ·(conv=>whnf);exact hneg (by simp [sameTy,hc1])
   (try dsimp only at hc1)
   conv=>whnf
   refine CondP.ndec (fun hc2=>?_) (fun hc2=>?_)
   ·(conv=>whnf);exact hneg (by simp [sameTy,hc2])
   (try dsimp only at hc2)
   conv=>whnf
   refine CondP.ndec (fun hc3=>?_) (fun hc3=>?_)
   ·(conv=>whnf);exact hneg (by simp [sameTy,hc3])
   (try dsimp only at hc3)
   conv=>whnf
   refine ⟨a4,b4,rfl,rfl,⟨by omega,by omega⟩,fun b_4 hb4=>?_⟩
   cases b_4 with
   | false =>
    conv=>whnf
    (repeat (refine ⟨rfl,?_⟩;conv=>whnf))
    exact hneg (by simp [sameTy,hb4])
   | true =>
    conv=>whnf
    (repeat (refine ⟨rfl,?_⟩;conv=>whnf))
    have hl5:(a5.map encCa).length=a5.length:=List.length_map ..
    have hm5:(b5.map encCa).length=b5.length:=List.length_map ..
    refine CondP.ndec (fun hc9=>?_) (fun hc9=>?_)
    ·have hc9:a5.length≠b5.length:=fun g=>hc9 (by show ((a5.map encCa).length:Int)=(b5.map encCa).length;rw [hl5,hm5,g])
     (conv=>whnf);exact hneg (by simp [sameTy,allS_ne sameCa _ _ hc9])
    have hc9:a5.length=b5.length:=by have hc9:((a5.map encCa).length:Int)=(b5.map encCa).length:=hc9;rw [hl5,hm5] at hc9;omega
    have hs5:=szS_len szCa a5
    have he:sameTy (⟨a1,a2,a3,a4,a5,a6⟩:Ty) (⟨b1,b2,b3,b4,b5,b6⟩:Ty)=allS sameCa a5 b5:=by simp [sameTy,hc1,hc2,hc3,hb4]
    rw [he] at hs
    conv=>whnf
    first
     | refine ⟨⟨i,0,0,1,a1,a2,a3,a4,a5,a6,b1,b2,b3,b4,b5,b6,rfl,.inl ⟨rfl,rfl,rfl⟩,hi2,⟨by omega,hc9,by omega⟩,hs⟩,?_⟩
     | refine ⟨⟨i,0,1,0,a1,a2,a3,a4,a5,a6,b1,b2,b3,b4,b5,b6,rfl,.inr ⟨rfl,rfl,rfl⟩,hi2,⟨by omega,hc9,by omega⟩,hs⟩,?_⟩
    intro vs' σ' hI'
    obtain ⟨i',j,x',y',a1',a2',a3',a4',a5',a6',b1',b2',b3',b4',b5',b6',hvs,hσ,hi',⟨hj,hlen5,hz5⟩,hs'⟩:=hI'
    have ex:(some (PV.ptr 0 0):Option PV)=some (PV.ptr x' 0):=congrArg (fun l:List PV=>l[4]?) hvs
    have ei:(some (PV.d (D.int IntKind.i64 (i:Int))):Option PV)=some (PV.d (D.int IntKind.i64 (i':Int))):=congrArg (fun l:List PV=>l[3]?) hvs
    simp only [Option.some.injEq,PV.ptr.injEq,PV.d.injEq,D.int.injEq,and_true,true_and] at ex ei
    obtain rfl:i'=i:=by omega
    have hvs:vs'=[.d (.int .i64 j)]:=congrArg (List.drop 6) hvs
    subst hvs
    have hσ:σ'=⟨[.cells 64 ((encTy p1 (⟨a1',a2',a3',a4',a5',a6'⟩:Ty)).map .d),.cells 64 ((encTy p2 (⟨b1',b2',b3',b4',b5',b6'⟩:Ty)).map .d)],[],0⟩:=by rcases hσ with ⟨e1,e2,e3⟩ | ⟨e1,e2,e3⟩ <;> first | exact e3 | (exfalso;omega)
    subst hσ
    have hl5:(a5'.map encCa).length=a5'.length:=List.length_map ..
    conv=>whnf
    refine CondP.dec (fun hj2=>?_) (fun hj2=>?_)
    rotate_left
    ·have hj2:a5'.length≤j:=by have hj2:¬(j:Int)<(a5'.map encCa).length:=hj2;rw [hl5] at hj2;omega
     rw [allS_end _ hj2 (by omega),Bool.true_and] at hs'
     conv=>whnf
     refine Or.inl ⟨InR.i64 (by omega) (by omega),?_⟩
     conv=>whnf
     refine ⟨⟨i'+1,rfl,rfl,by omega,hs'⟩,?_⟩
     show ((l1.length:Int) - ((i':Int)+1)).toNat<((l1.length:Int) - (i':Int)).toNat
     omega
    have hj2:j<a5'.length:=by have hj2:(j:Int)<(a5'.map encCa).length:=hj2;rw [hl5] at hj2;omega
    have hj3:j<b5'.length:=by omega
    have hg5:=szS_get szCa a5' j hj2
    have hs5':=szS_len szCa a5'
    rw [allS_drop _ hj2 hj3] at hs'
    obtain ⟨eAc,hAc⟩:∃e,a5'[j]=e:=⟨_,rfl⟩
    obtain ⟨eBc,hBc⟩:∃e,b5'[j]=e:=⟨_,rfl⟩
    obtain ⟨a1c,a2c⟩:=eAc
    obtain ⟨b1c,b2c⟩:=eBc
    have hr1c:(a5'.map encCa)[((j:Nat):Int).toNat]?=some (encCa (⟨a1c,a2c⟩:Ca)):=by simp [hj2,hAc]
    have hr2c:(b5'.map encCa)[((j:Nat):Int).toNat]?=some (encCa (⟨b1c,b2c⟩:Ca)):=by simp [hj3,hBc]
    rw [hAc,hBc] at hs'
    rw [hAc] at hg5
    simp only [szCa] at hg5
    have hneg:sameCa (⟨a1c,a2c⟩:Ca) (⟨b1c,b2c⟩:Ca)=false→K (.ret (.d (.bool false))) ⟨[],[],0⟩:=fun he=>by rw [hs',he,Bool.false_and,Bool.false_and] at h;exact h
    conv=>whnf
    (repeat (first | (refine ⟨_,by omega,hr1c,?_⟩;conv=>whnf) | (refine ⟨_,by omega,hr2c,?_⟩;conv=>whnf)))
    refine CondP.ndec (fun hd1=>?_) (fun hd1=>?_)
    ·(conv=>whnf);exact hneg (by simp [sameCa,hd1])
    (try dsimp only at hd1)
    conv=>whnf
    (repeat (first | (refine ⟨_,by omega,hr1c,?_⟩;conv=>whnf) | (refine ⟨_,by omega,hr2c,?_⟩;conv=>whnf)))
    refine ⟨a2c,b2c,rfl,rfl,⟨by omega,by omega⟩,fun bb hbb=>?_⟩
    cases bb with
    | false =>
     conv=>whnf
     (repeat (refine ⟨rfl,?_⟩;conv=>whnf))
     exact hneg (by simp [sameCa,hbb])
    | true =>
     conv=>whnf
     (repeat (refine ⟨rfl,?_⟩;conv=>whnf))
     have he:sameCa (⟨a1c,a2c⟩:Ca) (⟨b1c,b2c⟩:Ca)=true:=by simp [sameCa,hd1,hbb]
     rw [he,Bool.true_and] at hs'
     refine Or.inl ⟨InR.i64 (by omega) (by omega),?_⟩
     conv=>whnf
     first
      | refine ⟨⟨i',j+1,0,1,a1',a2',a3',a4',a5',a6',b1',b2',b3',b4',b5',b6',rfl,.inl ⟨rfl,rfl,rfl⟩,hi',⟨by omega,hlen5,by omega⟩,hs'⟩,?_⟩
      | refine ⟨⟨i',j+1,1,0,a1',a2',a3',a4',a5',a6',b1',b2',b3',b4',b5',b6',rfl,.inr ⟨rfl,rfl,rfl⟩,hi',⟨by omega,hlen5,by omega⟩,hs'⟩,?_⟩
     show ((n:Int) - ((j:Int)+1)).toNat<((n:Int) - (j:Int)).toNat
     omega
  ·conv=>whnf
   (repeat (first | (refine ⟨?_,trivial⟩;conv=>whnf) | (refine ⟨rfl,?_⟩;conv=>whnf)))
   refine CondP.ndec (fun hc1=>?_) (fun hc1=>?_)
   ·(conv=>whnf);exact hneg (by simp [sameTy,hc1])
   (try dsimp only at hc1)
   conv=>whnf
   refine CondP.ndec (fun hc2=>?_) (fun hc2=>?_)
   ·(conv=>whnf);exact hneg (by simp [sameTy,hc2])
   (try dsimp only at hc2)
   conv=>whnf
   refine CondP.ndec (fun hc3=>?_) (fun hc3=>?_)
   ·(conv=>whnf);exact hneg (by simp [sameTy,hc3])
   (try dsimp only at hc3)
   conv=>whnf
   refine ⟨a4,b4,rfl,rfl,⟨by omega,by omega⟩,fun b_4 hb4=>?_⟩
   cases b_4 with
   | false =>
    conv=>whnf
    (repeat (refine ⟨rfl,?_⟩;conv=>whnf))
    exact hneg (by simp [sameTy,hb4])
   | true =>
    conv=>whnf
    (repeat (refine ⟨rfl,?_⟩;conv=>whnf))
    have hl5:(a5.map encCa).length=a5.length:=List.length_map ..
    have hm5:(b5.map encCa).length=b5.length:=List.length_map ..
    refine CondP.ndec (fun hc9=>?_) (fun hc9=>?_)
    ·have hc9:a5.length≠b5.length:=fun g=>hc9 (by show ((a5.map encCa).length:Int)=(b5.map encCa).length;rw [hl5,hm5,g])
     (conv=>whnf);exact hneg (by simp [sameTy,allS_ne sameCa _ _ hc9])
    have hc9:a5.length=b5.length:=by have hc9:((a5.map encCa).length:Int)=(b5.map encCa).length:=hc9;rw [hl5,hm5] at hc9;omega
    have hs5:=szS_len szCa a5
    have he:sameTy (⟨a1,a2,a3,a4,a5,a6⟩:Ty) (⟨b1,b2,b3,b4,b5,b6⟩:Ty)=allS sameCa a5 b5:=by simp [sameTy,hc1,hc2,hc3,hb4]
    rw [he] at hs
    conv=>whnf
    first
     | refine ⟨⟨i,0,0,1,a1,a2,a3,a4,a5,a6,b1,b2,b3,b4,b5,b6,rfl,.inl ⟨rfl,rfl,rfl⟩,hi2,⟨by omega,hc9,by omega⟩,hs⟩,?_⟩
     | refine ⟨⟨i,0,1,0,a1,a2,a3,a4,a5,a6,b1,b2,b3,b4,b5,b6,rfl,.inr ⟨rfl,rfl,rfl⟩,hi2,⟨by omega,hc9,by omega⟩,hs⟩,?_⟩
    intro vs' σ' hI'
    obtain ⟨i',j,x',y',a1',a2',a3',a4',a5',a6',b1',b2',b3',b4',b5',b6',hvs,hσ,hi',⟨hj,hlen5,hz5⟩,hs'⟩:=hI'
    have ex:(some (PV.ptr 1 0):Option PV)=some (PV.ptr x' 0):=congrArg (fun l:List PV=>l[4]?) hvs
    have ei:(some (PV.d (D.int IntKind.i64 (i:Int))):Option PV)=some (PV.d (D.int IntKind.i64 (i':Int))):=congrArg (fun l:List PV=>l[3]?) hvs
    simp only [Option.some.injEq,PV.ptr.injEq,PV.d.injEq,D.int.injEq,and_true,true_and] at ex ei
    obtain rfl:i'=i:=by omega
    have hvs:vs'=[.d (.int .i64 j)]:=congrArg (List.drop 6) hvs
    subst hvs
    have hσ:σ'=⟨[.cells 64 ((encTy p2 (⟨b1',b2',b3',b4',b5',b6'⟩:Ty)).map .d),.cells 64 ((encTy p1 (⟨a1',a2',a3',a4',a5',a6'⟩:Ty)).map .d)],[],0⟩:=by rcases hσ with ⟨e1,e2,e3⟩ | ⟨e1,e2,e3⟩ <;> first | exact e3 | (exfalso;omega)
    subst hσ
    have hl5:(a5'.map encCa).length=a5'.length:=List.length_map ..
    conv=>whnf
    refine CondP.dec (fun hj2=>?_) (fun hj2=>?_)
    rotate_left
    ·have hj2:a5'.length≤j:=by have hj2:¬(j:Int)<(a5'.map encCa).length:=hj2;rw [hl5] at hj2;omega
     rw [allS_end _ hj2 (by omega),Bool.true_and] at hs'
     conv=>whnf
     refine Or.inl ⟨InR.i64 (by omega) (by omega),?_⟩
     conv=>whnf
     refine ⟨⟨i'+1,rfl,rfl,by omega,hs'⟩,?_⟩
     show ((l1.length:Int) - ((i':Int)+1)).toNat<((l1.length:Int) - (i':Int)).toNat
     omega
    have hj2:j<a5'.length:=by have hj2:(j:Int)<(a5'.map encCa).length:=hj2;rw [hl5] at hj2;omega
    have hj3:j<b5'.length:=by omega
    have hg5:=szS_get szCa a5' j hj2
    have hs5':=szS_len szCa a5'
    rw [allS_drop _ hj2 hj3] at hs'
    obtain ⟨eAc,hAc⟩:∃e,a5'[j]=e:=⟨_,rfl⟩
    obtain ⟨eBc,hBc⟩:∃e,b5'[j]=e:=⟨_,rfl⟩
    obtain ⟨a1c,a2c⟩:=eAc
    obtain ⟨b1c,b2c⟩:=eBc
    have hr1c:(a5'.map encCa)[((j:Nat):Int).toNat]?=some (encCa (⟨a1c,a2c⟩:Ca)):=by simp [hj2,hAc]
    have hr2c:(b5'.map encCa)[((j:Nat):Int).toNat]?=some (encCa (⟨b1c,b2c⟩:Ca)):=by simp [hj3,hBc]
    rw [hAc,hBc] at hs'
    rw [hAc] at hg5
    simp only [szCa] at hg5
    have hneg:sameCa (⟨a1c,a2c⟩:Ca) (⟨b1c,b2c⟩:Ca)=false→K (.ret (.d (.bool false))) ⟨[],[],0⟩:=fun he=>by rw [hs',he,Bool.false_and,Bool.false_and] at h;exact h
    conv=>whnf
    (repeat (first | (refine ⟨_,by omega,hr1c,?_⟩;conv=>whnf) | (refine ⟨_,by omega,hr2c,?_⟩;conv=>whnf)))
    refine CondP.ndec (fun hd1=>?_) (fun hd1=>?_)
    ·(conv=>whnf);exact hneg (by simp [sameCa,hd1])
    (try dsimp only at hd1)
    conv=>whnf
    (repeat (first | (refine ⟨_,by omega,hr1c,?_⟩;conv=>whnf) | (refine ⟨_,by omega,hr2c,?_⟩;conv=>whnf)))
    refine ⟨a2c,b2c,rfl,rfl,⟨by omega,by omega⟩,fun bb hbb=>?_⟩
    cases bb with
    | false =>
     conv=>whnf
     (repeat (refine ⟨rfl,?_⟩;conv=>whnf))
     exact hneg (by simp [sameCa,hbb])
    | true =>
     conv=>whnf
     (repeat (refine ⟨rfl,?_⟩;conv=>whnf))
     have he:sameCa (⟨a1c,a2c⟩:Ca) (⟨b1c,b2c⟩:Ca)=true:=by simp [sameCa,hd1,hbb]
     rw [he,Bool.true_and] at hs'
     refine Or.inl ⟨InR.i64 (by omega) (by omega),?_⟩
     conv=>whnf
     first
      | refine ⟨⟨i',j+1,0,1,a1',a2',a3',a4',a5',a6',b1',b2',b3',b4',b5',b6',rfl,.inl ⟨rfl,rfl,rfl⟩,hi',⟨by omega,hlen5,by omega⟩,hs'⟩,?_⟩
      | refine ⟨⟨i',j+1,1,0,a1',a2',a3',a4',a5',a6',b1',b2',b3',b4',b5',b6',rfl,.inr ⟨rfl,rfl,rfl⟩,hi',⟨by omega,hlen5,by omega⟩,hs'⟩,?_⟩
     show ((n:Int) - ((j:Int)+1)).toNat<((n:Int) - (j:Int)).toNat
     omega
 ·exact h.elim
noncomputable def spKU (n:Nat):Spec:=fun args σ K=>match args,σ with
 | [.agg c1,.agg c2,.d (.bool at')],⟨[],[],0⟩=>∃pl1 x1 pl2 x2,c1=(encUn pl1 x1).map .d∧c2=(encUn pl2 x2).map .d∧(at'=false∧szUn x1≤n∧n≤1099511627776)∧∀b,sameUn x1 x2=b→K (.ret (.d (.bool b))) ⟨[],[],0⟩
 | _,_=>False
theorem spKU_mono (n:Nat):SpecMono (spKU n):=fun args σ K K' hK h=>by
 unfold spKU at h ⊢
 split at h
 ·obtain ⟨p1,l1,p2,l2,h1,h2,h3,h4⟩:=h
  exact ⟨p1,l1,p2,l2,h1,h2,h3,fun b hb=>hK _ _ (h4 b hb)⟩
 ·exact h.elim
noncomputable def tblkUnit (n:Nat):Tbl:=[(51,spLS encTy sameTy szTy n),(52,spLS encRe sameRe szRe n),(53,spLS encRu sameRu szRu n),(54,spL2 encBs eqB n),(20,spB spKU n)]
theorem kUnit_ok {n:Nat} (ht:TblOK (GG w0 nG) (tblkUnit n)):PCalls (GG w0 nG) 20 (spKU n):=by
 refine pcalls tab_ok mixed (tbl:=tblkUnit n) ht Tryz.func20 rfl (by kernel_rfl) (by kernel_rfl) ?_
 intro args σ K h
 unfold spKU at h
 split at h
 ·obtain ⟨p1,⟨a1,a2,a3,a4,a5,a6⟩,p2,⟨b1,b2,b3,b4,b5,b6⟩,rfl,rfl,⟨rfl,hz,hn⟩,h⟩:=h
  have h:=h _ rfl
  simp only [szUn,szCos_eq] at hz
  have e4:∀(p:Pl) (l:List Co),(encCos p l).length=l.length:=fun p l=>by rw [encCos_eq,List.length_map]
  have e5:∀(p:Pl) (l:List Ini),(l.map (encIn p)).length=l.length:=fun p l=>List.length_map ..
  have e6:∀(p:Pl) (l:List Ov),(l.map (encOv p)).length=l.length:=fun p l=>List.length_map ..
  have z4:=szS_len szCo a4
  have z5:=szS_len szIn a5
  have z6:=szS_len (sz0 (α:=Ov)) a6
  refine ⟨loopsOf [(4,⟨[7],[2,3,4],fun vs σ=>∃i:Nat,vs=[.d (.int .i64 i)]∧σ=⟨[.cells 44 ((encUn p1 (.mk a1 a2 a3 a4 a5 a6)).map .d),.cells 44 ((encUn p2 (.mk b1 b2 b3 b4 b5 b6)).map .d)],[],0⟩∧i≤a4.length∧sameUn (.mk a1 a2 a3 a4 a5 a6) (.mk b1 b2 b3 b4 b5 b6)=(allS sameCo (a4.drop i) (b4.drop i) && (allS sameIn a5 b5 && allS sameOv a6 b6)),fun vs _=>match vs with | [.d (.int _ i)]=>((a4.length:Int) - i).toNat | _=>0⟩),(10,⟨[10],[2,3,4],fun vs σ=>∃i:Nat,vs=[.d (.int .i64 i)]∧σ=⟨[.cells 44 ((encUn p1 (.mk a1 a2 a3 a4 a5 a6)).map .d),.cells 44 ((encUn p2 (.mk b1 b2 b3 b4 b5 b6)).map .d)],[],0⟩∧i≤a5.length∧sameUn (.mk a1 a2 a3 a4 a5 a6) (.mk b1 b2 b3 b4 b5 b6)=(allS sameIn (a5.drop i) (b5.drop i) && allS sameOv a6 b6),fun vs _=>match vs with | [.d (.int _ i)]=>((a5.length:Int) - i).toNat | _=>0⟩),(16,⟨[13],[2,3,4],fun vs σ=>∃i:Nat,vs=[.d (.int .i64 i)]∧σ=⟨[.cells 44 ((encUn p1 (.mk a1 a2 a3 a4 a5 a6)).map .d),.cells 44 ((encUn p2 (.mk b1 b2 b3 b4 b5 b6)).map .d)],[],0⟩∧i≤a6.length∧sameUn (.mk a1 a2 a3 a4 a5 a6) (.mk b1 b2 b3 b4 b5 b6)=(allS sameOv (a6.drop i) (b6.drop i)),fun vs _=>match vs with | [.d (.int _ i)]=>((a6.length:Int) - i).toNat | _=>0⟩)],0,false,by simp,Nat.le_of_ble_eq_true rfl,?_⟩
  have hneg0:sameUn (.mk a1 a2 a3 a4 a5 a6) (.mk b1 b2 b3 b4 b5 b6)=false→K (.ret (.d (.bool false))) ⟨[],[],0⟩:=fun he=>by rw [he] at h;exact h
  conv=>whnf
  refine ⟨p1,a1,p2,b1,rfl,rfl,⟨rfl,by omega,by omega⟩,fun bq hq1=>?_⟩
  cases bq with
  | false =>
   conv=>whnf
   exact hneg0 (by simp [sameUn,hq1])
  | true =>
   conv=>whnf
   refine ⟨p1,a2,p2,b2,rfl,rfl,⟨rfl,by omega,by omega⟩,fun bq hq2=>?_⟩
   cases bq with
   | false =>
    conv=>whnf
    exact hneg0 (by simp [sameUn,hq2])
   | true =>
    conv=>whnf
    refine ⟨p1,a3,p2,b3,rfl,rfl,⟨rfl,by omega,by omega⟩,fun bq hq3=>?_⟩
    cases bq with
    | false =>
     conv=>whnf
     exact hneg0 (by simp [sameUn,hq3])
    | true =>
     conv=>whnf
     refine CondP.ndec (fun hl0=>?_) (fun hl0=>?_)
     ·have hl0:a4.length≠b4.length:=fun g=>hl0 (by show ((encCos p1 a4).length:Int)=(encCos p2 b4).length;rw [e4,e4,g])
      (conv=>whnf);exact hneg0 (by simp [sameUn,sameCos_eq,allS_ne sameCo _ _ hl0])
     have hl0:a4.length=b4.length:=by have hl0:((encCos p1 a4).length:Int)=(encCos p2 b4).length:=hl0;rw [e4,e4] at hl0;omega
     conv=>whnf
     refine CondP.ndec (fun hl1=>?_) (fun hl1=>?_)
     ·have hl1:a5.length≠b5.length:=fun g=>hl1 (by show ((a5.map (encIn p1)).length:Int)=(b5.map (encIn p2)).length;rw [e5,e5,g])
      (conv=>whnf);exact hneg0 (by simp [sameUn,allS_ne sameIn _ _ hl1])
     have hl1:a5.length=b5.length:=by have hl1:((a5.map (encIn p1)).length:Int)=(b5.map (encIn p2)).length:=hl1;rw [e5,e5] at hl1;omega
     conv=>whnf
     refine CondP.ndec (fun hl2=>?_) (fun hl2=>?_)
     ·have hl2:a6.length≠b6.length:=fun g=>hl2 (by show ((a6.map (encOv p1)).length:Int)=(b6.map (encOv p2)).length;rw [e6,e6,g])
      (conv=>whnf);exact hneg0 (by simp [sameUn,allS_ne sameOv _ _ hl2])
     have hl2:a6.length=b6.length:=by have hl2:((a6.map (encOv p1)).length:Int)=(b6.map (encOv p2)).length:=hl2;rw [e6,e6] at hl2;omega
     conv=>whnf
     have hs0:sameUn (.mk a1 a2 a3 a4 a5 a6) (.mk b1 b2 b3 b4 b5 b6)=(allS sameCo a4 b4 && (allS sameIn a5 b5 && allS sameOv a6 b6)):=by simp [sameUn,sameCos_eq,hq1,hq2,hq3]
     refine ⟨⟨0,rfl,rfl,by omega,hs0⟩,?_⟩
     intro vs σ hI
     obtain ⟨i,rfl,rfl,hi,hs⟩:=hI
     conv=>whnf
     refine CondP.dec (fun hi2=>?_) (fun hi2=>?_)
     ·have hi2:i<a4.length:=by have hi2:(i:Int)<(encCos p1 a4).length:=hi2;rw [e4] at hi2;omega
      have hi3:i<b4.length:=by omega
      have hg:=szS_get szCo a4 i hi2
      rw [allS_drop _ hi2 hi3] at hs
      obtain ⟨eA,hA⟩:∃e,a4[i]=e:=⟨_,rfl⟩
      obtain ⟨eB,hB⟩:∃e,b4[i]=e:=⟨_,rfl⟩
      obtain ⟨a1e,a2e,a3e,a4e,⟨u1,u2,u3,u4,u5,u6⟩,a6e⟩:=eA
      obtain ⟨b1e,b2e,b3e,b4e,⟨v1,v2,v3,v4,v5,v6⟩,b6e⟩:=eB
      have hr1:(encCos p1 a4)[((i:Nat):Int).toNat]?=some (encCo p1 (.mk a1e a2e a3e a4e (.mk u1 u2 u3 u4 u5 u6) a6e)):=by rw [encCos_eq];simp [hi2,hA]
      have hr2:(encCos p2 b4)[((i:Nat):Int).toNat]?=some (encCo p2 (.mk b1e b2e b3e b4e (.mk v1 v2 v3 v4 v5 v6) b6e)):=by rw [encCos_eq];simp [hi3,hB]
      rw [hA,hB] at hs
      rw [hA] at hg
      simp only [szCo] at hg
      have hneg:sameCo (.mk a1e a2e a3e a4e (.mk u1 u2 u3 u4 u5 u6) a6e) (.mk b1e b2e b3e b4e (.mk v1 v2 v3 v4 v5 v6) b6e)=false→K (.ret (.d (.bool false))) ⟨[],[],0⟩:=fun he=>by rw [he] at hs;simp only [Bool.false_and] at hs;exact hneg0 hs
      conv=>whnf
      (repeat (first | (refine ⟨_,by omega,hr1,?_⟩;conv=>whnf) | (refine ⟨_,by omega,hr2,?_⟩;conv=>whnf)))
      refine ⟨?_,?_,trivial⟩
      ·conv=>whnf
       (repeat (first | (refine ⟨?_,trivial⟩;conv=>whnf) | (refine ⟨rfl,?_⟩;conv=>whnf)))
       refine CondP.ndec (fun hc1=>?_) (fun hc1=>?_)
       ·(conv=>whnf);exact hneg (by simp [sameCo,hc1])
       (try dsimp only at hc1)
       conv=>whnf
       refine CondP.ndec (fun hc2=>?_) (fun hc2=>?_)
       ·(conv=>whnf);exact hneg (by simp [sameCo,hc2])
       (try dsimp only at hc2)
       conv=>whnf
       refine ⟨a2e,b2e,rfl,rfl,⟨by omega,by omega⟩,fun b_3 hb3=>?_⟩
       cases b_3 with
       | false =>
        conv=>whnf
        (repeat (refine ⟨rfl,?_⟩;conv=>whnf))
        exact hneg (by simp [sameCo,hb3])
       | true =>
        conv=>whnf
        (repeat (refine ⟨rfl,?_⟩;conv=>whnf))
        refine ⟨a4e,b4e,rfl,rfl,⟨by omega,by omega⟩,fun b_4 hb4=>?_⟩
        cases b_4 with
        | false =>
         conv=>whnf
         (repeat (refine ⟨rfl,?_⟩;conv=>whnf))
         exact hneg (by simp [sameCo,hb4])
        | true =>
         conv=>whnf
         (repeat (refine ⟨rfl,?_⟩;conv=>whnf))
         refine ⟨by omega,p1,(.mk u1 u2 u3 u4 u5 u6),p2,(.mk v1 v2 v3 v4 v5 v6),rfl,rfl,⟨rfl,by simp only [szUn] at hg ⊢;omega,by omega⟩,fun b_5 hb5=>?_⟩
         cases b_5 with
         | false =>
          conv=>whnf
          (repeat (refine ⟨rfl,?_⟩;conv=>whnf))
          exact hneg (by simp [sameCo,hb5])
         | true =>
          conv=>whnf
          (repeat (refine ⟨rfl,?_⟩;conv=>whnf))
          have he:sameCo (.mk a1e a2e a3e a4e (.mk u1 u2 u3 u4 u5 u6) a6e) (.mk b1e b2e b3e b4e (.mk v1 v2 v3 v4 v5 v6) b6e)=true:=by simp [sameCo,hc1,hc2,hb3,hb4,hb5]
          rw [he,Bool.true_and] at hs
          refine Or.inl ⟨InR.i64 (by omega) (by omega),?_⟩
          conv=>whnf
          refine ⟨⟨i+1,rfl,rfl,by omega,hs⟩,?_⟩
          show ((a4.length:Int) - ((i:Int)+1)).toNat<((a4.length:Int) - (i:Int)).toNat
          omega
      ·conv=>whnf
       (repeat (first | (refine ⟨?_,trivial⟩;conv=>whnf) | (refine ⟨rfl,?_⟩;conv=>whnf)))
       refine CondP.ndec (fun hc1=>?_) (fun hc1=>?_)
       ·(conv=>whnf);exact hneg (by simp [sameCo,hc1])
       (try dsimp only at hc1)
       conv=>whnf
       refine CondP.ndec (fun hc2=>?_) (fun hc2=>?_)
       ·(conv=>whnf);exact hneg (by simp [sameCo,hc2])
       (try dsimp only at hc2)
       conv=>whnf
       refine ⟨a2e,b2e,rfl,rfl,⟨by omega,by omega⟩,fun b_3 hb3=>?_⟩
       cases b_3 with
       | false =>
        conv=>whnf
        (repeat (refine ⟨rfl,?_⟩;conv=>whnf))
        exact hneg (by simp [sameCo,hb3])
       | true =>
        conv=>whnf
        (repeat (refine ⟨rfl,?_⟩;conv=>whnf))
        refine ⟨a4e,b4e,rfl,rfl,⟨by omega,by omega⟩,fun b_4 hb4=>?_⟩
        cases b_4 with
        | false =>
         conv=>whnf
         (repeat (refine ⟨rfl,?_⟩;conv=>whnf))
         exact hneg (by simp [sameCo,hb4])
        | true =>
         conv=>whnf
         (repeat (refine ⟨rfl,?_⟩;conv=>whnf))
         refine ⟨by omega,p1,(.mk u1 u2 u3 u4 u5 u6),p2,(.mk v1 v2 v3 v4 v5 v6),rfl,rfl,⟨rfl,by simp only [szUn] at hg ⊢;omega,by omega⟩,fun b_5 hb5=>?_⟩
         cases b_5 with
         | false =>
          conv=>whnf
          (repeat (refine ⟨rfl,?_⟩;conv=>whnf))
          exact hneg (by simp [sameCo,hb5])
         | true =>
          conv=>whnf
          (repeat (refine ⟨rfl,?_⟩;conv=>whnf))
          have he:sameCo (.mk a1e a2e a3e a4e (.mk u1 u2 u3 u4 u5 u6) a6e) (.mk b1e b2e b3e b4e (.mk v1 v2 v3 v4 v5 v6) b6e)=true:=by simp [sameCo,hc1,hc2,hb3,hb4,hb5]
          rw [he,Bool.true_and] at hs
          refine Or.inl ⟨InR.i64 (by omega) (by omega),?_⟩
          conv=>whnf
          refine ⟨⟨i+1,rfl,rfl,by omega,hs⟩,?_⟩
          show ((a4.length:Int) - ((i:Int)+1)).toNat<((a4.length:Int) - (i:Int)).toNat
          omega
     have hi2:a4.length≤i:=by have hi2:¬(i:Int)<(encCos p1 a4).length:=hi2;rw [e4] at hi2;omega
     rw [allS_end _ hi2 (by omega)] at hs
     rw [Bool.true_and] at hs
     conv=>whnf
     refine ⟨⟨0,rfl,rfl,by omega,hs⟩,?_⟩
     intro vs σ hI
     obtain ⟨i,rfl,rfl,hi,hs⟩:=hI
     conv=>whnf
     refine CondP.dec (fun hi2=>?_) (fun hi2=>?_)
     ·have hi2:i<a5.length:=by have hi2:(i:Int)<(a5.map (encIn p1)).length:=hi2;rw [e5] at hi2;omega
      have hi3:i<b5.length:=by omega
      have hg:=szS_get szIn a5 i hi2
      rw [allS_drop _ hi2 hi3] at hs
      obtain ⟨eA,hA⟩:∃e,a5[i]=e:=⟨_,rfl⟩
      obtain ⟨eB,hB⟩:∃e,b5[i]=e:=⟨_,rfl⟩
      obtain ⟨a1e,a2e,a3e,a4e⟩:=eA
      obtain ⟨b1e,b2e,b3e,b4e⟩:=eB
      have hr1:(a5.map (encIn p1))[((i:Nat):Int).toNat]?=some (encIn p1 (⟨a1e,a2e,a3e,a4e⟩:Ini)):=by simp [hi2,hA]
      have hr2:(b5.map (encIn p2))[((i:Nat):Int).toNat]?=some (encIn p2 (⟨b1e,b2e,b3e,b4e⟩:Ini)):=by simp [hi3,hB]
      rw [hA,hB] at hs
      rw [hA] at hg
      simp only [szIn] at hg
      have hneg:sameIn (⟨a1e,a2e,a3e,a4e⟩:Ini) (⟨b1e,b2e,b3e,b4e⟩:Ini)=false→K (.ret (.d (.bool false))) ⟨[],[],0⟩:=fun he=>by rw [he] at hs;simp only [Bool.false_and] at hs;exact hneg0 hs
      conv=>whnf
      (repeat (first | (refine ⟨_,by omega,hr1,?_⟩;conv=>whnf) | (refine ⟨_,by omega,hr2,?_⟩;conv=>whnf)))
      refine ⟨?_,?_,trivial⟩
      ·conv=>whnf
       (repeat (first | (refine ⟨?_,trivial⟩;conv=>whnf) | (refine ⟨rfl,?_⟩;conv=>whnf)))
       refine CondP.ndec (fun hc1=>?_) (fun hc1=>?_)
       ·(conv=>whnf);exact hneg (by simp [sameIn,hc1])
       (try dsimp only at hc1)
       conv=>whnf
       refine CondP.ndec (fun hc2=>?_) (fun hc2=>?_)
       ·(conv=>whnf);exact hneg (by simp [sameIn,hc2])
       (try dsimp only at hc2)
       conv=>whnf
       refine ⟨a3e,b3e,rfl,rfl,⟨by omega,by omega⟩,fun b_3 hb3=>?_⟩
       cases b_3 with
       | false =>
        conv=>whnf
        (repeat (refine ⟨rfl,?_⟩;conv=>whnf))
        exact hneg (by simp [sameIn,hb3])
       | true =>
        conv=>whnf
        (repeat (refine ⟨rfl,?_⟩;conv=>whnf))
        have he:sameIn (⟨a1e,a2e,a3e,a4e⟩:Ini) (⟨b1e,b2e,b3e,b4e⟩:Ini)=true:=by simp [sameIn,hc1,hc2,hb3]
        rw [he,Bool.true_and] at hs
        refine Or.inl ⟨InR.i64 (by omega) (by omega),?_⟩
        conv=>whnf
        refine ⟨⟨i+1,rfl,rfl,by omega,hs⟩,?_⟩
        show ((a5.length:Int) - ((i:Int)+1)).toNat<((a5.length:Int) - (i:Int)).toNat
        omega
      ·conv=>whnf
       (repeat (first | (refine ⟨?_,trivial⟩;conv=>whnf) | (refine ⟨rfl,?_⟩;conv=>whnf)))
       refine CondP.ndec (fun hc1=>?_) (fun hc1=>?_)
       ·(conv=>whnf);exact hneg (by simp [sameIn,hc1])
       (try dsimp only at hc1)
       conv=>whnf
       refine CondP.ndec (fun hc2=>?_) (fun hc2=>?_)
       ·(conv=>whnf);exact hneg (by simp [sameIn,hc2])
       (try dsimp only at hc2)
       conv=>whnf
       refine ⟨a3e,b3e,rfl,rfl,⟨by omega,by omega⟩,fun b_3 hb3=>?_⟩
       cases b_3 with
       | false =>
        conv=>whnf
        (repeat (refine ⟨rfl,?_⟩;conv=>whnf))
        exact hneg (by simp [sameIn,hb3])
       | true =>
        conv=>whnf
        (repeat (refine ⟨rfl,?_⟩;conv=>whnf))
        have he:sameIn (⟨a1e,a2e,a3e,a4e⟩:Ini) (⟨b1e,b2e,b3e,b4e⟩:Ini)=true:=by simp [sameIn,hc1,hc2,hb3]
        rw [he,Bool.true_and] at hs
        refine Or.inl ⟨InR.i64 (by omega) (by omega),?_⟩
        conv=>whnf
        refine ⟨⟨i+1,rfl,rfl,by omega,hs⟩,?_⟩
        show ((a5.length:Int) - ((i:Int)+1)).toNat<((a5.length:Int) - (i:Int)).toNat
        omega
     have hi2:a5.length≤i:=by have hi2:¬(i:Int)<(a5.map (encIn p1)).length:=hi2;rw [e5] at hi2;omega
     rw [allS_end _ hi2 (by omega)] at hs
     rw [Bool.true_and] at hs
     conv=>whnf
     refine ⟨⟨0,rfl,rfl,by omega,hs⟩,?_⟩
     intro vs σ hI
     obtain ⟨i,rfl,rfl,hi,hs⟩:=hI
     conv=>whnf
     refine CondP.dec (fun hi2=>?_) (fun hi2=>?_)
     ·have hi2:i<a6.length:=by have hi2:(i:Int)<(a6.map (encOv p1)).length:=hi2;rw [e6] at hi2;omega
      have hi3:i<b6.length:=by omega
      have hg:=szS_get (sz0 (α:=Ov)) a6 i hi2
      rw [allS_drop _ hi2 hi3] at hs
      obtain ⟨eA,hA⟩:∃e,a6[i]=e:=⟨_,rfl⟩
      obtain ⟨eB,hB⟩:∃e,b6[i]=e:=⟨_,rfl⟩
      obtain ⟨a1e,a2e⟩:=eA
      obtain ⟨b1e,b2e⟩:=eB
      have hr1:(a6.map (encOv p1))[((i:Nat):Int).toNat]?=some (encOv p1 (⟨a1e,a2e⟩:Ov)):=by simp [hi2,hA]
      have hr2:(b6.map (encOv p2))[((i:Nat):Int).toNat]?=some (encOv p2 (⟨b1e,b2e⟩:Ov)):=by simp [hi3,hB]
      rw [hA,hB] at hs
      have hneg:sameOv (⟨a1e,a2e⟩:Ov) (⟨b1e,b2e⟩:Ov)=false→K (.ret (.d (.bool false))) ⟨[],[],0⟩:=fun he=>by rw [he] at hs;simp only [Bool.false_and] at hs;exact hneg0 hs
      conv=>whnf
      (repeat (first | (refine ⟨_,by omega,hr1,?_⟩;conv=>whnf) | (refine ⟨_,by omega,hr2,?_⟩;conv=>whnf)))
      refine CondP.ndec (fun hc1=>?_) (fun hc1=>?_)
      ·(conv=>whnf);exact hneg (by simp [sameOv,hc1])
      (try dsimp only at hc1)
      conv=>whnf
      have he:sameOv (⟨a1e,a2e⟩:Ov) (⟨b1e,b2e⟩:Ov)=true:=by simp [sameOv,hc1]
      rw [he,Bool.true_and] at hs
      refine Or.inl ⟨InR.i64 (by omega) (by omega),?_⟩
      conv=>whnf
      refine ⟨⟨i+1,rfl,rfl,by omega,hs⟩,?_⟩
      show ((a6.length:Int) - ((i:Int)+1)).toNat<((a6.length:Int) - (i:Int)).toNat
      omega
     have hi2:a6.length≤i:=by have hi2:¬(i:Int)<(a6.map (encOv p1)).length:=hi2;rw [e6] at hi2;omega
     rw [allS_end _ hi2 (by omega)] at hs
     rw [hs] at h
     conv=>whnf
     exact h
 ·exact h.elim
theorem ckTab (n:Nat) {sp:Spec} (h:PCalls (GG w0 nG) 20 sp) (hm:SpecMono sp):TblOK (GG w0 nG) [(51,spLS encTy sameTy szTy n),(52,spLS encRe sameRe szRe n),(53,spLS encRu sameRu szRu n),(54,spL2 encBs eqB n),(20,sp)] :=
 ⟨⟨kTypes_ok ⟨⟨kFields_ok,spL2_mono _ _ _⟩,trivial⟩,spLS_mono _ _ _ _⟩,⟨kRels_ok ⟨⟨kFields_ok,spL2_mono _ _ _⟩,trivial⟩,spLS_mono _ _ _ _⟩,⟨kRules_ok ⟨⟨cSameEs n,spLS_mono _ _ _ _⟩,⟨cLits n,spLS_mono _ _ _ _⟩,trivial⟩,spLS_mono _ _ _ _⟩,⟨kTexts_ok,spL2_mono _ _ _⟩,⟨h,hm⟩,trivial⟩
theorem cKUnit:∀n,PCalls (GG w0 nG) 20 (spKU n)
 | 0=>kUnit_ok (ckTab 0 (pcalls_none (enters_of Tryz.func20 (by kernel_rfl) rfl)) (spB_mono spKU_mono _))
 | n+1=>kUnit_ok (ckTab _ (pcalls_less (sp:=spKU) (cKUnit n)) (spB_mono spKU_mono _))
end Go.PM.Lex
end
