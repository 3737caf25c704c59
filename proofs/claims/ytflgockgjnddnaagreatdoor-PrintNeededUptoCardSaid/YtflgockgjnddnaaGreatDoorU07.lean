/- A part of the proof: plain logic, contracts and laws over the given program. -/
import Derived.Lib.ValidU
import Derived.Test.YtflgockgjnddnaaGreatDoorValid
import Derived.Shelf.Unicode.ValidAny
import Derived.Lib.MapLaws
import Derived.Test.YtflgockgjnddnaaGreatDoorU06
set_option linter.unusedVariables false
set_option linter.unusedSimpArgs false
set_option linter.all false
section
set_option maxRecDepth 100000
set_option maxHeartbeats 4000000
namespace Go.PM.Lex
open Go.Proofs
variable {w0:World} {nG:Nat}
def signedB:Nat→Ts→R Ex
 | 0=>fun _=>.err 0 150
 | d+1=>signedD d
theorem exprB_eq (d:Nat):exprB d=fun ts=>lineK (signedB d) 6 1 ts:=by cases d <;> rfl
theorem signedD_eq (d:Nat) (ts:Ts):signedD d ts=signedF d (signedB d) ts:=by cases d <;> rfl
theorem startsF_ne {ts:Ts} (h:startsF ts=true):ts≠[]:=by rintro rfl;simp [startsF,hd] at h
noncomputable abbrev spExprB (d:Nat):Spec:=spRB (fun L en (v:Ex)=>aggD (encE (placeOf L en) v)) (exprB d) 0 d
noncomputable abbrev spSignedB (d:Nat):Spec:=spRB (fun L en (v:Ex)=>aggD (encE (placeOf L en) v)) (signedB d) 0 d
noncomputable abbrev spExpr (d:Nat):Spec:=spRD (fun L en (v:Ex)=>aggD (encE (placeOf L en) v)) (exprD d) 0 d
noncomputable abbrev spSigned (d:Nat):Spec:=spRD (fun L en (v:Ex)=>aggD (encE (placeOf L en) v)) (signedD d) 0 d
noncomputable abbrev spPrimary (d:Nat):Spec:=spRD (fun L en (v:Ex)=>aggD (encE (placeOf L en) v)) (primaryF d (exprB d)) 0 d
noncomputable def spArgs (d:Nat):Spec:=rdSp fun rest L en dp a ts K=>match rest with
 | [.d (.str fr),.d (.str tw)]=>((dp=64 - (d:Int)∧0≤dp)∧tw≠[])∧∀x,argsF d (exprB d) fr tw ts=x→RKk (fun (l:List Ex)=>.d (.sl (l.map (encE (placeOf L en))))) L en dp a x K
 | _=>False
theorem spArgs_mono (d:Nat):SpecMono (spArgs d):=rdSp_mono fun rest L en dp a ts K K' hK h=>by
 split at h
 ·exact ⟨h.1,fun x hx=>RKk_mono hK (h.2 x hx)⟩
 ·exact h.elim
noncomputable def spCall (d:Nat):Spec:=rdSp fun rest L en dp a ts K=>match rest with
 | [.agg [.d (.int .u8 op),.d (.str []),.d (.int .i64 n),.nils e,.d (.int .i64 at')]]=>((dp=64 - (d:Int)∧0≤dp)∧n=0∧e=24)∧∃o:Nat,op=(o:Int)∧∀x,withinF d [40] [41] (callGo (exprB d) (arity o) []) ts=x →
   RKk (fun (l:List Ex)=>.agg [.d (.int .u8 op),.d (.str []),.d (.int .i64 0),.d (.sl (l.map (encE (placeOf L en)))),.d (.int .i64 at')]) L en dp a x K
 | _=>False
theorem spCall_mono (d:Nat):SpecMono (spCall d):=rdSp_mono fun rest L en dp a ts K K' hK h=>by
 split at h
 ·obtain ⟨h0,o,h1,h2⟩:=h
  exact ⟨h0,o,h1,fun x hx=>RKk_mono hK (h2 x hx)⟩
 ·exact h.elim
noncomputable def spManyExB (d:Nat):Spec:=fun args σ K=>match args,σ with
 | [.ptr 0 0,.d (.str sg),.d (.int .i64 m),.func g1 [.ptr 0 0] [],.func g2 [.ptr 0 0] []],⟨[.cells t [.d (.sl rows),.d (.int .i64 a),.d (.int .i64 en),.d (.int .i64 dp)]],[],0⟩ =>
   (sg=[44]∧m=12∧g1=262∧g2=35∧0<d∧dp=65 - (d:Int)∧0≤dp)∧∃L ts,rows=toksR L∧ROK L a ts∧∀x,manyF [44] 12 startsF (exprB d) ts=x →
    RKk (fun (l:List Ex)=>.d (.sl (l.map (encE (placeOf L en))))) L en dp a x fun pe a' dp'=>K pe ⟨[.cells t [.d (.sl (toksR L)),.d (.int .i64 a'),.d (.int .i64 en),.d (.int .i64 dp')]],[],0⟩
 | _,_=>False
theorem spManyExB_mono (d:Nat):SpecMono (spManyExB d):=fun args σ K K' hK h=>by
 unfold spManyExB at h ⊢
 split at h
 ·obtain ⟨h0,L,ts,h1,h2,h3⟩:=h
  exact ⟨h0,L,ts,h1,h2,fun x hx=>RKk_mono (fun _ _ _ hk=>hK _ _ hk) (h3 x hx)⟩
 ·exact h.elim
noncomputable def tblArgs1 (d:Nat):Tbl:=[(136,spIs),(261,spManyExB d)]
noncomputable def tblArgsW (d:Nat):Tbl:=[(136,spIs),(143,spMust),(81,spFail),(260,spIn Tryz.f260 (tblArgs1 d))]
noncomputable def tblArgs (d:Nat):Tbl:=[(204,spIn Tryz.f204 (tblArgsW d))]
theorem args_ok {d:Nat} (ht:TblOK (GG w0 nG) (tblArgs d)):PCalls (GG w0 nG) 207 (spArgs d):=by
 refine pcalls tab_ok mixed (tbl:=tblArgs d) ht Tryz.func207 rfl (by kernel_rfl) (by kernel_rfl) ?_
 intro args σ K h
 unfold spArgs rdSp at h
 split at h
 ·rename_i rest t rows a en dp
  obtain ⟨L,ts,rfl,ho,h⟩:=h
  split at h
  ·rename_i fr tw
   obtain ⟨⟨hdp,hto⟩,h⟩:=h
   have h0:=ho.lo
   have h1:=ho.hi
   have h2:=ho.big
   refine ⟨loopsOf [],1,false,by simp,Nat.le_of_ble_eq_true rfl,?_⟩
   have h:=h _ rfl
   unfold argsF at h
   conv=>whnf
   refine ⟨_,fun _ _ h=>h,Nat.le_of_ble_eq_true rfl,?_⟩
   conv=>whnf
   refine ⟨L,ts,rfl,ho,[fr],rfl,by simp,fun b hw1=>?_⟩
   cases b with
   | false =>
    rw [withinF,if_neg (by rw [hw1];simp)] at h
    conv=>whnf
    refine ⟨L,ts,rfl,ho,fun x hx=>?_⟩
    rw [mustF,if_neg (by rw [hw1];simp)] at hx
    subst hx
    intro a9 d9
    conv=>whnf
    exact h _ _
   | true =>
    rw [withinF,if_pos hw1] at h
    conv=>whnf
    refine CondP.dec (fun hc=>?_) (fun hc=>?_)
    ·rw [if_pos (by omega)] at h
     conv=>whnf
     refine ⟨L,ts,rfl,ho,?_⟩
     conv=>whnf
     exact h _ _
    ·rw [if_neg (by omega)] at h
     conv=>whnf
     refine ⟨L,ts,rfl,ho,fun x hx=>?_⟩
     rw [mustF,if_pos hw1] at hx
     subst hx
     intro a1 hle1 ho1
     have hb1:=ho1.hi
     conv=>whnf
     refine Or.inl ⟨InR.i64 (by omega) (by omega),?_⟩
     conv=>whnf
     refine ⟨_,fun _ _ h=>h,Nat.le_of_ble_eq_true rfl,?_⟩
     conv=>whnf
     refine ⟨L,ts.tail,rfl,ho1,[tw],rfl,by simp,fun b hw4=>?_⟩
     have hgo:∀(x:R (List Ex)),(if isW ts.tail [tw]=true then R.ok [] ts.tail else manyF [44] 12 startsF (exprB d) ts.tail)=x→True:=fun _ _=>trivial
     cases b with
     | true =>
      rw [if_pos hw4,R.bind_ok] at h
      conv=>whnf
      have ho2:=ho1
      refine CondP.ndec (fun _=>?_) (fun g=>absurd g hto)
      conv=>whnf
      rw [if_neg hto] at h
      refine ⟨L,ts.tail,rfl,ho1,fun x hx3=>?_⟩
      rcases x with ⟨v3,ts3⟩ | ⟨r3,e3⟩
      rotate_left
      ·rw [hx3,R.bind_err] at h;intro a9 d9;(conv=>whnf);exact h _ _
      rw [hx3,R.bind_ok] at h
      intro a3 hle3 ho3
      have hb3:=ho3.hi
      conv=>whnf
      refine Or.inl ⟨InR.i64 (by omega) (by omega),?_⟩
      conv=>whnf
      rw [Int.add_sub_cancel]
      exact h _ (by omega) ho3
     | false =>
      rw [if_neg (by rw [hw4];simp)] at h
      conv=>whnf
      refine ⟨⟨rfl,rfl,rfl,rfl,by omega,by omega,by omega⟩,L,ts.tail,rfl,ho1,fun x hx2=>?_⟩
      rcases x with ⟨v2,ts2⟩ | ⟨r2,e2⟩
      rotate_left
      ·rw [hx2,R.bind_err] at h;intro a9 d9;(conv=>whnf);exact h _ _
      rw [hx2,R.bind_ok] at h
      intro a2 hle2 ho2
      have hb2:=ho2.hi
      conv=>whnf
      refine CondP.ndec (fun _=>?_) (fun g=>absurd g hto)
      conv=>whnf
      rw [if_neg hto] at h
      refine ⟨L,ts2,rfl,ho2,fun x hx3=>?_⟩
      rcases x with ⟨v3,ts3⟩ | ⟨r3,e3⟩
      rotate_left
      ·rw [hx3,R.bind_err] at h;intro a9 d9;(conv=>whnf);exact h _ _
      rw [hx3,R.bind_ok] at h
      intro a3 hle3 ho3
      have hb3:=ho3.hi
      conv=>whnf
      refine Or.inl ⟨InR.i64 (by omega) (by omega),?_⟩
      conv=>whnf
      rw [Int.add_sub_cancel]
      exact h _ (by omega) ho3
  ·exact h.elim
 ·exact h.elim
end Go.PM.Lex
end

section
set_option maxRecDepth 100000
set_option maxHeartbeats 4000000
namespace Go.PM.Lex
open Go.Proofs
variable {w0:World} {nG:Nat}
theorem callGo_eq (ex:Ts→R Ex) (k:Nat) (l:List Ex) (ts:Ts):callGo ex (k+1) l ts=(if l=[] then .ok () ts else mustF [44] ts).bind fun _ ts=>(ex ts).bind fun e ts=>callGo ex k (l++[e]) ts:=rfl
noncomputable def tblCall1 (d:Nat):Tbl:=[(143,spMust),(35,spExprB d)]
noncomputable def tblCallW (d:Nat):Tbl:=[(136,spIs),(143,spMust),(81,spFail),(313,spInU Tryz.f313 (unrOf [(1,5)]) (tblCall1 d))]
noncomputable def tblCall (d:Nat):Tbl:=[(204,spIn Tryz.f204 (tblCallW d))]
theorem call_ok {d:Nat} (ht:TblOK (GG w0 nG) (tblCall d)):PCalls (GG w0 nG) 283 (spCall d):=by
 refine pcalls tab_ok mixed (tbl:=tblCall d) ht Tryz.func283 rfl (by kernel_rfl) (by kernel_rfl) ?_
 intro args σ K h
 unfold spCall rdSp at h
 split at h
 ·rename_i rest t rows a en dp
  obtain ⟨L,ts,rfl,ho,h⟩:=h
  split at h
  ·rename_i op n e at'
   obtain ⟨⟨hdp,rfl,rfl⟩,o,rfl,h⟩:=h
   have h:=h _ rfl
   have h0:=ho.lo
   have h1:=ho.hi
   have h2:=ho.big
   refine ⟨loopsOf [],1,false,by simp,Nat.le_of_ble_eq_true rfl,?_⟩
   conv=>whnf
   refine CondP.dec (fun hop=>?_) (fun hop=>?_)
   ·obtain rfl:o=22:=by omega
    have har:arity 22=3:=rfl
    conv=>whnf
    refine Or.inl ⟨InR.i64 (by decide) (by decide),?_⟩
    conv=>whnf
    refine Or.inl ⟨InR.i64 (by decide) (by decide),?_⟩
    conv=>whnf
    rw [har] at h
    refine ⟨_,fun _ _ h=>h,Nat.le_of_ble_eq_true rfl,?_⟩
    conv=>whnf
    refine ⟨L,ts,rfl,ho,[[40]],rfl,by simp,fun b hw1=>?_⟩
    cases b with
    | false =>
     rw [withinF,if_neg (by rw [hw1];simp)] at h
     conv=>whnf
     refine ⟨L,ts,rfl,ho,fun x hx=>?_⟩
     rw [mustF,if_neg (by rw [hw1];simp)] at hx
     subst hx
     intro a9 d9
     conv=>whnf
     exact h _ _
    | true =>
     rw [withinF,if_pos hw1] at h
     conv=>whnf
     refine CondP.dec (fun hc=>?_) (fun hc=>?_)
     ·rw [if_pos (by omega)] at h
      conv=>whnf
      refine ⟨L,ts,rfl,ho,?_⟩
      conv=>whnf
      exact h _ _
     ·rw [if_neg (by omega)] at h
      conv=>whnf
      refine ⟨L,ts,rfl,ho,fun x hx=>?_⟩
      rw [mustF,if_pos hw1] at hx
      subst hx
      intro a1 hle1 ho1
      have hb1:=ho1.hi
      conv=>whnf
      refine Or.inl ⟨InR.i64 (by omega) (by omega),?_⟩
      conv=>whnf
      refine ⟨_,fun _ _ h=>h,Nat.le_of_ble_eq_true rfl,?_⟩
      conv=>whnf
      rw [callGo_eq] at h
      rw [if_pos rfl,R.bind_ok] at h
      refine ⟨L,ts.tail,rfl,ho1,⟨by omega,by omega,by omega⟩,fun x hx10=>?_⟩
      rcases x with ⟨v10,ts10⟩ | ⟨r10,e10⟩
      rotate_left
      ·rw [hx10,R.bind_err,R.bind_err] at h;intro a9 d9;(conv=>whnf);exact h _ _
      rw [hx10,R.bind_ok] at h
      intro a10 hle10 ho10
      have hb10:=ho10.hi
      obtain ⟨v10a,v10b,v10c,v10d,v10e⟩:=v10
      conv=>whnf
      refine ⟨rfl,rfl,Nat.le_of_ble_eq_true rfl,Nat.le_of_ble_eq_true rfl,?_⟩
      conv=>whnf
      repeat (refine ⟨rfl,?_⟩;conv=>whnf)
      refine Or.inl ⟨InR.i64 (by decide) (by decide),?_⟩
      conv=>whnf
      rw [callGo_eq] at h
      rw [if_neg (by simp)] at h
      refine ⟨L,ts10,rfl,ho10,fun x hx11=>?_⟩
      rcases x with ⟨v11,ts11⟩ | ⟨r11,e11⟩
      rotate_left
      ·rw [hx11,R.bind_err,R.bind_err] at h;intro a9 d9;(conv=>whnf);exact h _ _
      rw [hx11,R.bind_ok] at h
      intro a11 hle11 ho11
      have hb11:=ho11.hi
      conv=>whnf
      refine ⟨L,ts11,rfl,ho11,⟨by omega,by omega,by omega⟩,fun x hx12=>?_⟩
      rcases x with ⟨v12,ts12⟩ | ⟨r12,e12⟩
      rotate_left
      ·rw [hx12,R.bind_err,R.bind_err] at h;intro a9 d9;(conv=>whnf);exact h _ _
      rw [hx12,R.bind_ok] at h
      intro a12 hle12 ho12
      have hb12:=ho12.hi
      obtain ⟨v12a,v12b,v12c,v12d,v12e⟩:=v12
      conv=>whnf
      refine ⟨rfl,rfl,Nat.le_of_ble_eq_true rfl,Nat.le_of_ble_eq_true rfl,?_⟩
      conv=>whnf
      repeat (refine ⟨rfl,?_⟩;conv=>whnf)
      refine Or.inl ⟨InR.i64 (by decide) (by decide),?_⟩
      conv=>whnf
      rw [callGo_eq] at h
      rw [if_neg (by simp)] at h
      refine ⟨L,ts12,rfl,ho12,fun x hx13=>?_⟩
      rcases x with ⟨v13,ts13⟩ | ⟨r13,e13⟩
      rotate_left
      ·rw [hx13,R.bind_err,R.bind_err] at h;intro a9 d9;(conv=>whnf);exact h _ _
      rw [hx13,R.bind_ok] at h
      intro a13 hle13 ho13
      have hb13:=ho13.hi
      conv=>whnf
      refine ⟨L,ts13,rfl,ho13,⟨by omega,by omega,by omega⟩,fun x hx14=>?_⟩
      rcases x with ⟨v14,ts14⟩ | ⟨r14,e14⟩
      rotate_left
      ·rw [hx14,R.bind_err,R.bind_err] at h;intro a9 d9;(conv=>whnf);exact h _ _
      rw [hx14,R.bind_ok] at h
      intro a14 hle14 ho14
      have hb14:=ho14.hi
      obtain ⟨v14a,v14b,v14c,v14d,v14e⟩:=v14
      conv=>whnf
      refine ⟨rfl,rfl,Nat.le_of_ble_eq_true rfl,Nat.le_of_ble_eq_true rfl,?_⟩
      conv=>whnf
      repeat (refine ⟨rfl,?_⟩;conv=>whnf)
      refine Or.inl ⟨InR.i64 (by decide) (by decide),?_⟩
      conv=>whnf
      rw [callGo] at h
      rw [R.bind_ok] at h
      have hx99:ts14=ts14:=rfl
      have ho2:=ho14
      obtain ⟨ts2,hts2⟩:∃t,t=ts14:=⟨_,rfl⟩
      rw [← hts2] at h ho2
      rw [if_neg (by simp)] at h
      refine ⟨L,ts2,rfl,ho2,fun x hx3=>?_⟩
      rcases x with ⟨v3,ts3⟩ | ⟨r3,e3⟩
      rotate_left
      ·rw [hx3,R.bind_err] at h;intro a9 d9;(conv=>whnf);exact h _ _
      rw [hx3,R.bind_ok] at h
      intro a3 hle3 ho3
      have hb3:=ho3.hi
      conv=>whnf
      refine Or.inl ⟨InR.i64 (by omega) (by omega),?_⟩
      conv=>whnf
      rw [Int.add_sub_cancel]
      exact h _ (by omega) ho3
   conv=>whnf
   refine CondP.dec (fun hop2=>?_) (fun hop2=>?_)
   ·obtain rfl:o=20:=by omega
    have har:arity 20=2:=rfl
    conv=>whnf
    refine Or.inl ⟨InR.i64 (by decide) (by decide),?_⟩
    conv=>whnf
    rw [har] at h
    refine ⟨_,fun _ _ h=>h,Nat.le_of_ble_eq_true rfl,?_⟩
    conv=>whnf
    refine ⟨L,ts,rfl,ho,[[40]],rfl,by simp,fun b hw1=>?_⟩
    cases b with
    | false =>
     rw [withinF,if_neg (by rw [hw1];simp)] at h
     conv=>whnf
     refine ⟨L,ts,rfl,ho,fun x hx=>?_⟩
     rw [mustF,if_neg (by rw [hw1];simp)] at hx
     subst hx
     intro a9 d9
     conv=>whnf
     exact h _ _
    | true =>
     rw [withinF,if_pos hw1] at h
     conv=>whnf
     refine CondP.dec (fun hc=>?_) (fun hc=>?_)
     ·rw [if_pos (by omega)] at h
      conv=>whnf
      refine ⟨L,ts,rfl,ho,?_⟩
      conv=>whnf
      exact h _ _
     ·rw [if_neg (by omega)] at h
      conv=>whnf
      refine ⟨L,ts,rfl,ho,fun x hx=>?_⟩
      rw [mustF,if_pos hw1] at hx
      subst hx
      intro a1 hle1 ho1
      have hb1:=ho1.hi
      conv=>whnf
      refine Or.inl ⟨InR.i64 (by omega) (by omega),?_⟩
      conv=>whnf
      refine ⟨_,fun _ _ h=>h,Nat.le_of_ble_eq_true rfl,?_⟩
      conv=>whnf
      rw [callGo_eq] at h
      rw [if_pos rfl,R.bind_ok] at h
      refine ⟨L,ts.tail,rfl,ho1,⟨by omega,by omega,by omega⟩,fun x hx10=>?_⟩
      rcases x with ⟨v10,ts10⟩ | ⟨r10,e10⟩
      rotate_left
      ·rw [hx10,R.bind_err,R.bind_err] at h;intro a9 d9;(conv=>whnf);exact h _ _
      rw [hx10,R.bind_ok] at h
      intro a10 hle10 ho10
      have hb10:=ho10.hi
      obtain ⟨v10a,v10b,v10c,v10d,v10e⟩:=v10
      conv=>whnf
      refine ⟨rfl,rfl,Nat.le_of_ble_eq_true rfl,Nat.le_of_ble_eq_true rfl,?_⟩
      conv=>whnf
      repeat (refine ⟨rfl,?_⟩;conv=>whnf)
      refine Or.inl ⟨InR.i64 (by decide) (by decide),?_⟩
      conv=>whnf
      rw [callGo_eq] at h
      rw [if_neg (by simp)] at h
      refine ⟨L,ts10,rfl,ho10,fun x hx11=>?_⟩
      rcases x with ⟨v11,ts11⟩ | ⟨r11,e11⟩
      rotate_left
      ·rw [hx11,R.bind_err,R.bind_err] at h;intro a9 d9;(conv=>whnf);exact h _ _
      rw [hx11,R.bind_ok] at h
      intro a11 hle11 ho11
      have hb11:=ho11.hi
      conv=>whnf
      refine ⟨L,ts11,rfl,ho11,⟨by omega,by omega,by omega⟩,fun x hx12=>?_⟩
      rcases x with ⟨v12,ts12⟩ | ⟨r12,e12⟩
      rotate_left
      ·rw [hx12,R.bind_err,R.bind_err] at h;intro a9 d9;(conv=>whnf);exact h _ _
      rw [hx12,R.bind_ok] at h
      intro a12 hle12 ho12
      have hb12:=ho12.hi
      obtain ⟨v12a,v12b,v12c,v12d,v12e⟩:=v12
      conv=>whnf
      refine ⟨rfl,rfl,Nat.le_of_ble_eq_true rfl,Nat.le_of_ble_eq_true rfl,?_⟩
      conv=>whnf
      repeat (refine ⟨rfl,?_⟩;conv=>whnf)
      refine Or.inl ⟨InR.i64 (by decide) (by decide),?_⟩
      conv=>whnf
      rw [callGo] at h
      rw [R.bind_ok] at h
      have hx99:ts12=ts12:=rfl
      have ho2:=ho12
      obtain ⟨ts2,hts2⟩:∃t,t=ts12:=⟨_,rfl⟩
      rw [← hts2] at h ho2
      rw [if_neg (by simp)] at h
      refine ⟨L,ts2,rfl,ho2,fun x hx3=>?_⟩
      rcases x with ⟨v3,ts3⟩ | ⟨r3,e3⟩
      rotate_left
      ·rw [hx3,R.bind_err] at h;intro a9 d9;(conv=>whnf);exact h _ _
      rw [hx3,R.bind_ok] at h
      intro a3 hle3 ho3
      have hb3:=ho3.hi
      conv=>whnf
      refine Or.inl ⟨InR.i64 (by omega) (by omega),?_⟩
      conv=>whnf
      rw [Int.add_sub_cancel]
      exact h _ (by omega) ho3
   have har:arity o=1:=by rw [arity,if_neg (by omega),if_neg (by omega)]
   conv=>whnf
   rw [har] at h
   refine ⟨_,fun _ _ h=>h,Nat.le_of_ble_eq_true rfl,?_⟩
   conv=>whnf
   refine ⟨L,ts,rfl,ho,[[40]],rfl,by simp,fun b hw1=>?_⟩
   cases b with
   | false =>
    rw [withinF,if_neg (by rw [hw1];simp)] at h
    conv=>whnf
    refine ⟨L,ts,rfl,ho,fun x hx=>?_⟩
    rw [mustF,if_neg (by rw [hw1];simp)] at hx
    subst hx
    intro a9 d9
    conv=>whnf
    exact h _ _
   | true =>
    rw [withinF,if_pos hw1] at h
    conv=>whnf
    refine CondP.dec (fun hc=>?_) (fun hc=>?_)
    ·rw [if_pos (by omega)] at h
     conv=>whnf
     refine ⟨L,ts,rfl,ho,?_⟩
     conv=>whnf
     exact h _ _
    ·rw [if_neg (by omega)] at h
     conv=>whnf
     refine ⟨L,ts,rfl,ho,fun x hx=>?_⟩
     rw [mustF,if_pos hw1] at hx
     subst hx
     intro a1 hle1 ho1
     have hb1:=ho1.hi
     conv=>whnf
     refine Or.inl ⟨InR.i64 (by omega) (by omega),?_⟩
     conv=>whnf
     refine ⟨_,fun _ _ h=>h,Nat.le_of_ble_eq_true rfl,?_⟩
     conv=>whnf
     rw [callGo_eq] at h
     rw [if_pos rfl,R.bind_ok] at h
     refine ⟨L,ts.tail,rfl,ho1,⟨by omega,by omega,by omega⟩,fun x hx10=>?_⟩
     rcases x with ⟨v10,ts10⟩ | ⟨r10,e10⟩
     rotate_left
     ·rw [hx10,R.bind_err,R.bind_err] at h;intro a9 d9;(conv=>whnf);exact h _ _
     rw [hx10,R.bind_ok] at h
     intro a10 hle10 ho10
     have hb10:=ho10.hi
     obtain ⟨v10a,v10b,v10c,v10d,v10e⟩:=v10
     conv=>whnf
     refine ⟨rfl,rfl,Nat.le_of_ble_eq_true rfl,Nat.le_of_ble_eq_true rfl,?_⟩
     conv=>whnf
     repeat (refine ⟨rfl,?_⟩;conv=>whnf)
     refine Or.inl ⟨InR.i64 (by decide) (by decide),?_⟩
     conv=>whnf
     rw [callGo] at h
     rw [R.bind_ok] at h
     have hx99:ts10=ts10:=rfl
     have ho2:=ho10
     obtain ⟨ts2,hts2⟩:∃t,t=ts10:=⟨_,rfl⟩
     rw [← hts2] at h ho2
     rw [if_neg (by simp)] at h
     refine ⟨L,ts2,rfl,ho2,fun x hx3=>?_⟩
     rcases x with ⟨v3,ts3⟩ | ⟨r3,e3⟩
     rotate_left
     ·rw [hx3,R.bind_err] at h;intro a9 d9;(conv=>whnf);exact h _ _
     rw [hx3,R.bind_ok] at h
     intro a3 hle3 ho3
     have hb3:=ho3.hi
     conv=>whnf
     refine Or.inl ⟨InR.i64 (by omega) (by omega),?_⟩
     conv=>whnf
     rw [Int.add_sub_cancel]
     exact h _ (by omega) ho3
  ·exact h.elim
 ·exact h.elim
end Go.PM.Lex
end

section
set_option maxRecDepth 100000
set_option maxHeartbeats 4000000
namespace Go.PM.Lex
open Go.Proofs
variable {w0:World} {nG:Nat}
noncomputable def tblPrim1 (d:Nat):Tbl:=[(35,spExprB d)]
noncomputable def tblPrimW (d:Nat):Tbl:=[(136,spIs),(143,spMust),(81,spFail),(282,spIn Tryz.f282 (tblPrim1 d))]
noncomputable def tblPrim (d:Nat):Tbl:=[(262,spAsk startsF),(81,spFail),(198,spMore),(204,spIn Tryz.f204 (tblPrimW d)),(207,spArgs d),(142,spNameP),(136,spIs),(212,spFunctor),(283,spCall d)]
theorem primary_ok {d:Nat} (ht:TblOK (GG w0 nG) (tblPrim d)):PCalls (GG w0 nG) 229 (spPrimary d):=by
 refine pcallsB tab_ok mixed (tbl:=tblPrim d) ht Tryz.func229 rfl (by kernel_rfl) (by kernel_rfl) ?_
 intro args σ K h
 unfold spPrimary spRD rdSp at h
 split at h
 ·rename_i rest t rows a en dp
  obtain ⟨L,ts,rfl,ho,h⟩:=h
  split at h
  ·obtain ⟨hdp,h⟩:=h
   have h0:=ho.lo
   have h1:=ho.hi
   have h2:=ho.big
   refine ⟨loopsOf [],unrOf [],tieOf [],tieOf [],tieOf [283],1,false,by simp,Nat.le_of_ble_eq_true rfl,?_⟩
   have h:=h _ rfl
   conv=>whnf
   refine ⟨L,ts,rfl,ho,fun b hst=>?_⟩
   cases b with
   | false =>
    rw [primaryF,if_pos hst] at h
    conv=>whnf
    refine ⟨L,ts,rfl,ho,?_⟩
    conv=>whnf
    exact h _ _
   | true =>
    rw [primaryF,if_neg (by rw [hst];simp)] at h
    have hot:=ho.tl (startsF_ne hst)
    have hbt:=hot.hi
    conv=>whnf
    refine ⟨L,ts,rfl,ho,fun fin=>Or.inl ⟨rfl,?_⟩⟩
    conv=>whnf
    refine CondP.dec (fun hc=>?_) (fun hc=>?_)
    ·rw [if_pos (show (hd ts).kind=2 by omega)] at h
     conv=>whnf
     repeat (refine ⟨rfl,?_⟩;conv=>whnf)
     refine Or.inl ⟨InR.i64 (by omega) (by omega),?_⟩
     conv=>whnf
     exact h _ (by omega) hot
    rw [if_neg (show ¬(hd ts).kind=2 by omega)] at h
    conv=>whnf
    refine CondP.dec (fun hc=>?_) (fun hc=>?_)
    ·rw [if_pos (show (hd ts).kind=3 by omega)] at h
     conv=>whnf
     repeat (refine ⟨rfl,?_⟩;conv=>whnf)
     refine Or.inl ⟨InR.i64 (by omega) (by omega),?_⟩
     conv=>whnf
     exact h _ (by omega) hot
    rw [if_neg (show ¬(hd ts).kind=3 by omega)] at h
    conv=>whnf
    refine CondP.dec (fun hc=>?_) (fun hc=>?_)
    ·rw [if_pos (show (hd ts).text=[40] from hc)] at h
     conv=>whnf
     refine ⟨_,fun _ _ h=>h,Nat.le_of_ble_eq_true rfl,?_⟩
     conv=>whnf
     refine ⟨L,ts,rfl,ho,[[40]],rfl,by simp,fun b hw1=>?_⟩
     cases b with
     | false =>
      rw [withinF,if_neg (by rw [hw1];simp)] at h
      conv=>whnf
      refine ⟨L,ts,rfl,ho,fun x hx=>?_⟩
      rw [mustF,if_neg (by rw [hw1];simp)] at hx
      subst hx
      intro a9 d9
      conv=>whnf
      exact h _ _
     | true =>
      rw [withinF,if_pos hw1] at h
      conv=>whnf
      refine CondP.dec (fun hc=>?_) (fun hc=>?_)
      ·rw [if_pos (by omega)] at h
       conv=>whnf
       refine ⟨L,ts,rfl,ho,?_⟩
       conv=>whnf
       exact h _ _
      ·rw [if_neg (by omega)] at h
       conv=>whnf
       refine ⟨L,ts,rfl,ho,fun x hx=>?_⟩
       rw [mustF,if_pos hw1] at hx
       subst hx
       intro a1 hle1 ho1
       have hb1:=ho1.hi
       conv=>whnf
       refine Or.inl ⟨InR.i64 (by omega) (by omega),?_⟩
       conv=>whnf
       refine ⟨_,fun _ _ h=>h,Nat.le_of_ble_eq_true rfl,?_⟩
       conv=>whnf
       refine ⟨L,ts.tail,rfl,ho1,⟨by omega,by omega,by omega⟩,fun x hx2=>?_⟩
       rcases x with ⟨v2,ts2⟩ | ⟨r2,e2⟩
       rotate_left
       ·rw [hx2,R.bind_err] at h;intro a9 d9;(conv=>whnf);exact h _ _
       rw [hx2,R.bind_ok] at h
       intro a2 hle2 ho2
       have hb2:=ho2.hi
       obtain ⟨v2a,v2b,v2c,v2d,v2e⟩:=v2
       conv=>whnf
       rw [if_neg (by simp)] at h
       refine ⟨L,ts2,rfl,ho2,fun x hx3=>?_⟩
       rcases x with ⟨v3,ts3⟩ | ⟨r3,e3⟩
       rotate_left
       ·rw [hx3,R.bind_err] at h;intro a9 d9;(conv=>whnf);exact h _ _
       rw [hx3,R.bind_ok] at h
       intro a3 hle3 ho3
       have hb3:=ho3.hi
       conv=>whnf
       refine Or.inl ⟨InR.i64 (by omega) (by omega),?_⟩
       conv=>whnf
       rw [Int.add_sub_cancel]
       exact h _ (by omega) ho3
    rw [if_neg (show ¬(hd ts).text=[40] from hc)] at h
    conv=>whnf
    refine CondP.dec (fun hc=>?_) (fun hc=>?_)
    ·rw [if_pos (show (hd ts).text=[91] from hc)] at h
     conv=>whnf
     refine ⟨L,ts,rfl,ho,⟨hdp,by simp⟩,fun x hx1=>?_⟩
     rcases x with ⟨v1,ts1⟩ | ⟨r1,e1⟩
     rotate_left
     ·rw [hx1,R.bind_err] at h;intro a9 d9;(conv=>whnf);exact h _ _
     rw [hx1,R.bind_ok] at h
     intro a1 hle1 ho1
     have hb1:=ho1.hi
     conv=>whnf
     rw [← encEs_eq]
     exact h _ (by omega) ho1
    rw [if_neg (show ¬(hd ts).text=[91] from hc)] at h
    conv=>whnf
    refine CondP.dec (fun hc=>?_) (fun hc=>?_)
    ·rw [if_pos (show (hd ts).text=[36] from hc)] at h
     conv=>whnf
     refine Or.inl ⟨InR.i64 (by omega) (by omega),?_⟩
     conv=>whnf
     refine ⟨L,ts.tail,rfl,hot,fun x hx1=>?_⟩
     rcases x with ⟨v1,ts1⟩ | ⟨r1,e1⟩
     rotate_left
     ·rw [hx1,R.bind_err] at h;intro a9 d9;(conv=>whnf);exact h _ _
     rw [hx1,R.bind_ok] at h
     intro a1 hle1 ho1
     have hb1:=ho1.hi
     conv=>whnf
     refine ⟨L,ts1,rfl,ho1,[[40]],rfl,by simp,fun b hw2=>?_⟩
     cases b with
     | false =>
      rw [if_neg (by rw [hw2];simp)] at h
      conv=>whnf
      exact h _ (by omega) ho1
     | true =>
      rw [if_pos hw2] at h
      conv=>whnf
      refine ⟨L,ts1,rfl,ho1,⟨hdp,by simp⟩,fun x hx3=>?_⟩
      rcases x with ⟨v3,ts3⟩ | ⟨r3,e3⟩
      rotate_left
      ·rw [hx3,R.bind_err] at h;intro a9 d9;(conv=>whnf);exact h _ _
      rw [hx3,R.bind_ok] at h
      intro a3 hle3 ho3
      have hb3:=ho3.hi
      conv=>whnf
      rw [← encEs_eq]
      exact h _ (by omega) ho3
    rw [if_neg (show ¬(hd ts).text=[36] from hc)] at h
    conv=>whnf
    intro n hn
    conv=>whnf
    refine CondP.ndec (fun hc=>?_) (fun hc=>?_)
    ·rw [if_pos (show functorF (hd ts).text≠0 by omega)] at h
     conv=>whnf
     refine Or.inl ⟨InR.i64 (by omega) (by omega),?_⟩
     conv=>whnf
     intro n2 hn2
     conv=>whnf
     refine ⟨L,ts.tail,rfl,hot,⟨hdp,rfl,rfl⟩,functorF (hd ts).text,hn2.symm,fun x hx1=>?_⟩
     rcases x with ⟨v1,ts1⟩ | ⟨r1,e1⟩
     rotate_left
     ·rw [hx1,R.bind_err] at h;intro a9 d9;(conv=>whnf);exact h _ _
     rw [hx1,R.bind_ok] at h
     intro a1 hle1 ho1
     have hb1:=ho1.hi
     conv=>whnf
     rw [← hn2,← encEs_eq]
     exact h _ (by omega) ho1
    rw [if_neg (show ¬functorF (hd ts).text≠0 by omega)] at h
    conv=>whnf
    refine CondP.dec (fun hc=>?_) (fun hc=>?_)
    ·rw [if_pos (show (hd ts).text=[110,105,108] from hc)] at h
     conv=>whnf
     refine Or.inl ⟨InR.i64 (by omega) (by omega),?_⟩
     conv=>whnf
     exact h _ (by omega) hot
    rw [if_neg (show ¬(hd ts).text=[110,105,108] from hc)] at h
    conv=>whnf
    refine CondP.dec (fun hc=>?_) (fun hc=>?_)
    ·rw [if_pos (show (hd ts).text=[95] from hc)] at h
     conv=>whnf
     refine Or.inl ⟨InR.i64 (by omega) (by omega),?_⟩
     conv=>whnf
     exact h _ (by omega) hot
    rw [if_neg (show ¬(hd ts).text=[95] from hc)] at h
    conv=>whnf
    repeat (refine ⟨rfl,?_⟩;conv=>whnf)
    refine Or.inl ⟨InR.i64 (by omega) (by omega),?_⟩
    conv=>whnf
    exact h _ (by omega) hot
  ·exact h.elim
 ·exact h.elim
noncomputable def tblSign1 (d:Nat):Tbl:=[(161,spSignedB d)]
noncomputable def tblSignW (d:Nat):Tbl:=[(136,spIs),(143,spMust),(81,spFail),(228,spIn Tryz.f228 (tblSign1 d))]
noncomputable def tblPSign (d:Nat):Tbl:=[(141,spPlace),(136,spIs),(204,spIn Tryz.f204 (tblSignW d)),(229,spPrimary d)]
theorem signed_ok {d:Nat} (ht:TblOK (GG w0 nG) (tblPSign d)):PCalls (GG w0 nG) 161 (spSigned d):=by
 refine pcallsN tab_ok mixed (tbl:=tblPSign d) ht Tryz.func161 rfl (by kernel_rfl) (by kernel_rfl) ?_
 intro args σ K h
 unfold spSigned spRD rdSp at h
 split at h
 ·rename_i rest t rows a en dp
  obtain ⟨L,ts,rfl,ho,h⟩:=h
  split at h
  ·obtain ⟨hdp,h⟩:=h
   have h0:=ho.lo
   have h1:=ho.hi
   have h2:=ho.big
   refine ⟨loopsOf [],unrOf [(3,4)],tieOf [],1,false,by simp,Nat.le_of_ble_eq_true rfl,?_⟩
   have h:=h _ rfl
   rw [signedD_eq,signedF] at h
   conv=>whnf
   refine ⟨L,ts,rfl,ho,?_⟩
   conv=>whnf
   refine ⟨by decide,by decide,?_⟩
   conv=>whnf
   refine ⟨L,ts,rfl,ho,[[45]],rfl,by simp,fun b hw8=>?_⟩
   cases b with
   | true =>
    rw [if_pos hw8] at h
    conv=>whnf
    refine ⟨_,fun _ _ h=>h,Nat.le_of_ble_eq_true rfl,?_⟩
    conv=>whnf
    refine ⟨L,ts,rfl,ho,[[45]],rfl,by simp,fun b hw1=>?_⟩
    cases b with
    | false =>
     rw [withinF,if_neg (by rw [hw1];simp),R.bind_err] at h
     conv=>whnf
     refine ⟨L,ts,rfl,ho,fun x hx=>?_⟩
     rw [mustF,if_neg (by rw [hw1];simp)] at hx
     subst hx
     intro a9 d9
     conv=>whnf
     exact h _ _
    | true =>
     rw [withinF,if_pos hw1] at h
     conv=>whnf
     refine CondP.dec (fun hc=>?_) (fun hc=>?_)
     ·rw [if_pos (by omega),R.bind_err] at h
      conv=>whnf
      refine ⟨L,ts,rfl,ho,?_⟩
      conv=>whnf
      exact h _ _
     ·rw [if_neg (by omega)] at h
      conv=>whnf
      refine ⟨L,ts,rfl,ho,fun x hx=>?_⟩
      rw [mustF,if_pos hw1] at hx
      subst hx
      intro a1 hle1 ho1
      have hb1:=ho1.hi
      conv=>whnf
      refine Or.inl ⟨InR.i64 (by omega) (by omega),?_⟩
      conv=>whnf
      refine ⟨_,fun _ _ h=>h,Nat.le_of_ble_eq_true rfl,?_⟩
      conv=>whnf
      refine ⟨L,ts.tail,rfl,ho1,⟨by omega,by omega,by omega⟩,fun x hx2=>?_⟩
      rcases x with ⟨v2,ts2⟩ | ⟨r2,e2⟩
      rotate_left
      ·rw [hx2,R.bind_err] at h;intro a9 d9;(conv=>whnf);exact h _ _
      rw [hx2,R.bind_ok] at h
      intro a2 hle2 ho2
      have hb2:=ho2.hi
      obtain ⟨v2a,v2b,v2c,v2d,v2e⟩:=v2
      conv=>whnf
      repeat (refine ⟨rfl,?_⟩;conv=>whnf)
      rw [if_pos rfl,R.bind_ok] at h
      refine Or.inl ⟨InR.i64 (by omega) (by omega),?_⟩
      conv=>whnf
      rw [Int.add_sub_cancel]
      exact h _ (by omega) ho2
   | false =>
    rw [if_neg (by rw [hw8];simp)] at h
    conv=>whnf
    refine Or.inl ⟨InR.i64 (by decide) (by decide),?_⟩
    conv=>whnf
    refine ⟨by decide,by decide,?_⟩
    conv=>whnf
    refine ⟨L,ts,rfl,ho,[[126]],rfl,by simp,fun b hw9=>?_⟩
    cases b with
    | true =>
     rw [if_pos hw9] at h
     conv=>whnf
     refine ⟨_,fun _ _ h=>h,Nat.le_of_ble_eq_true rfl,?_⟩
     conv=>whnf
     refine ⟨L,ts,rfl,ho,[[126]],rfl,by simp,fun b hw1=>?_⟩
     cases b with
     | false =>
      rw [withinF,if_neg (by rw [hw1];simp),R.bind_err] at h
      conv=>whnf
      refine ⟨L,ts,rfl,ho,fun x hx=>?_⟩
      rw [mustF,if_neg (by rw [hw1];simp)] at hx
      subst hx
      intro a9 d9
      conv=>whnf
      exact h _ _
     | true =>
      rw [withinF,if_pos hw1] at h
      conv=>whnf
      refine CondP.dec (fun hc=>?_) (fun hc=>?_)
      ·rw [if_pos (by omega),R.bind_err] at h
       conv=>whnf
       refine ⟨L,ts,rfl,ho,?_⟩
       conv=>whnf
       exact h _ _
      ·rw [if_neg (by omega)] at h
       conv=>whnf
       refine ⟨L,ts,rfl,ho,fun x hx=>?_⟩
       rw [mustF,if_pos hw1] at hx
       subst hx
       intro a1 hle1 ho1
       have hb1:=ho1.hi
       conv=>whnf
       refine Or.inl ⟨InR.i64 (by omega) (by omega),?_⟩
       conv=>whnf
       refine ⟨_,fun _ _ h=>h,Nat.le_of_ble_eq_true rfl,?_⟩
       conv=>whnf
       refine ⟨L,ts.tail,rfl,ho1,⟨by omega,by omega,by omega⟩,fun x hx2=>?_⟩
       rcases x with ⟨v2,ts2⟩ | ⟨r2,e2⟩
       rotate_left
       ·rw [hx2,R.bind_err] at h;intro a9 d9;(conv=>whnf);exact h _ _
       rw [hx2,R.bind_ok] at h
       intro a2 hle2 ho2
       have hb2:=ho2.hi
       obtain ⟨v2a,v2b,v2c,v2d,v2e⟩:=v2
       conv=>whnf
       repeat (refine ⟨rfl,?_⟩;conv=>whnf)
       rw [if_pos rfl,R.bind_ok] at h
       refine Or.inl ⟨InR.i64 (by omega) (by omega),?_⟩
       conv=>whnf
       rw [Int.add_sub_cancel]
       exact h _ (by omega) ho2
    | false =>
     rw [if_neg (by rw [hw9];simp)] at h
     conv=>whnf
     refine Or.inl ⟨InR.i64 (by decide) (by decide),?_⟩
     conv=>whnf
     rw [show lineK (signedB d) 6 1=exprB d from (exprB_eq d).symm] at h
     refine ⟨L,ts,rfl,ho,hdp,fun x hx1=>?_⟩
     rcases x with ⟨v1,ts1⟩ | ⟨r1,e1⟩
     rotate_left
     ·rw [hx1] at h;intro a9 d9;(conv=>whnf);exact h _ _
     rw [hx1] at h
     intro a1 hle1 ho1
     have hb1:=ho1.hi
     obtain ⟨v1a,v1b,v1c,v1d,v1e⟩:=v1
     conv=>whnf
     exact h _ (by omega) ho1
  ·exact h.elim
 ·exact h.elim
noncomputable def spLine (d j:Nat):Spec:=rdSp fun rest L en dp a ts K=>match rest with
 | [.d (.int .i64 least)]=>((dp=64 - (d:Int)∧0≤dp)∧1≤least∧least≤6∧6≤least+(j:Int))∧∀x,lineK (signedD d) j least.toNat ts=x→RKk (fun (v:Ex)=>aggD (encE (placeOf L en) v)) L en dp a x K
 | _=>False
theorem spLine_mono (d j:Nat):SpecMono (spLine d j):=rdSp_mono fun rest L en dp a ts K K' hK h=>by
 split at h
 ·exact ⟨h.1,fun x hx=>RKk_mono hK (h.2 x hx)⟩
 ·exact h.elim
noncomputable def spLineB (d j:Nat):Spec:=rdSp fun rest L en dp a ts K=>match rest with
 | [.d (.int .i64 least)]=>((dp=64 - (d:Int)∧0≤dp)∧0<j∧1≤least∧least≤6∧7≤least+(j:Int))∧∀x,lineK (signedD d) (j - 1) least.toNat ts=x→RKk (fun (v:Ex)=>aggD (encE (placeOf L en) v)) L en dp a x K
 | _=>False
theorem spLineB_mono (d j:Nat):SpecMono (spLineB d j):=rdSp_mono fun rest L en dp a ts K K' hK h=>by
 split at h
 ·exact ⟨h.1,fun x hx=>RKk_mono hK (h.2 x hx)⟩
 ·exact h.elim
theorem binF_le (ts:Ts):(binF ts).1≤5∧(binF ts).2≤255:=by
 unfold binF
 repeat' (first | (split;decide) | split)
 all_goals decide
theorem lineGo_eq (sub : Nat → Ts → R Ex) (least f : Nat) (e : Ex) (ts : Ts) : lineGo sub least (f + 1) e ts = if (binF ts).1 < least ∨ (binF ts).1 = 0 then .ok e ts
      else (sub ((binF ts).1+1) ts.tail).bind fun g ts'=>lineGo sub least f (.mk (binF ts).2 [] 0 [e,g] e.at') ts':=rfl
theorem lineGo_top {sub:Nat→Ts→R Ex} {least f:Nat} {e:Ex} {ts:Ts} (h:6≤least):lineGo sub least (f+1) e ts=.ok e ts:=by
 rw [lineGo_eq,if_pos];have:=(binF_le ts).1;omega
theorem binF_ne {ts:Ts} (h:(binF ts).1≠0):ts≠[]:=by rintro rfl;exact h rfl
theorem lineK_eq (sg:Ts→R Ex) (j least:Nat) (ts:Ts) (h:6≤least+j):lineK sg j least ts=(sg ts).bind fun e ts=>lineGo (lineK sg (j - 1)) least (ts.length+1) e ts:=by
 cases j with
 | zero =>
  rw [lineK]
  cases sg ts with
  | ok e ts=>rw [R.bind_ok,lineGo_top (by omega)]
  | err r e=>rfl
 | succ j=>rfl
noncomputable def tblLine (d j:Nat):Tbl:=[(161,spSigned d),(162,spBin),(82,spLineB d j)]
theorem line_ok {d j:Nat} (ht:TblOK (GG w0 nG) (tblLine d j)):PCalls (GG w0 nG) 82 (spLine d j):=by
 refine pcalls tab_ok mixed (tbl:=tblLine d j) ht Tryz.func82 rfl (by kernel_rfl) (by kernel_rfl) ?_
 intro args σ K h
 unfold spLine rdSp at h
 split at h
 ·rename_i rest t rows a en dp
  obtain ⟨L,ts,rfl,ho,h⟩:=h
  split at h
  ·rename_i least
   obtain ⟨⟨hdp,hl1,hl2,hl3⟩,h⟩:=h
   have h0:=ho.lo
   have h1:=ho.hi
   have h2:=ho.big
   refine ⟨loopsOf [(2,⟨[],[0,1,4,5],fun vs σ=>∃(u1:Nat) (u2:Bs) (u3:Int) (u4:List Ex) (u5:Nat) (a':Int) (ts':Ts) (f:Nat),vs=[]∧σ=⟨[.cells t [.d (.sl (toksR L)),.d (.int .i64 a'),.d (.int .i64 en),.d (.int .i64 dp)],.cells 24 [.d (.int .u8 0),.d (.str []),.d (.int .i64 0),.sl 0 24 [],.d (.int .i64 0)],.cells 24 [.d (.int .u8 u1),.d (.str u2),.d (.int .i64 u3),.d (.sl (encEs (placeOf L en) u4)),.d (.int .i64 (placeOf L en u5))]],[0],1⟩∧ROK L a' ts'∧a≤a'∧ts'.length<f∧RKk (fun (v:Ex)=>aggD (encE (placeOf L en) v)) L en dp a (lineGo (lineK (signedD d) (j - 1)) least.toNat f (.mk u1 u2 u3 u4 u5) ts') (fun pe a' dp'=>K pe ⟨[.cells t [.d (.sl (toksR L)),.d (.int .i64 a'),.d (.int .i64 en),.d (.int .i64 dp')]],[],0⟩),fun _ σ=>match σ with | ⟨.cells _ [_,.d (.int _ i),_,_]::_,_,_⟩=>((L.length:Int) - i).toNat | _=>0⟩)],1,false,by simp,Nat.le_of_ble_eq_true rfl,?_⟩
   have h:=h _ rfl
   rw [lineK_eq _ _ _ _ (by omega)] at h
   conv=>whnf
   refine ⟨L,ts,rfl,ho,hdp,fun x hx1=>?_⟩
   rcases x with ⟨v1,ts1⟩ | ⟨r1,e1⟩
   rotate_left
   ·rw [hx1,R.bind_err] at h;intro a9 d9;(conv=>whnf);exact h _ _
   rw [hx1,R.bind_ok] at h
   intro a1 hle1 ho1
   have hb1:=ho1.hi
   obtain ⟨v1a,v1b,v1c,v1d,v1e⟩:=v1
   conv=>whnf
   refine ⟨⟨v1a,v1b,v1c,v1d,v1e,a1,ts1,ts1.length+1,rfl,rfl,ho1,by omega,by omega,h⟩,?_⟩
   clear h hx1 ho1 hb1 hle1
   intro vs σ hI
   obtain ⟨u1,u2,u3,u4,u5,a',ts',f,rfl,rfl,ho',hle',hf,h⟩:=hI
   obtain ⟨f,rfl⟩:∃g,f=g+1:=⟨f - 1,by omega⟩
   rw [lineGo_eq] at h
   have hhi':=ho'.hi
   have hlen':=ho'.len
   conv=>whnf
   refine ⟨L,ts',rfl,ho',fun n op hn hop=>?_⟩
   conv=>whnf
   have hbin:=binF_le ts'
   refine CondP.dec (fun hc=>?_) (fun hc=>?_)
   ·rw [if_pos (by omega)] at h
    conv=>whnf
    exact h _ (by omega) ho'
   conv=>whnf
   refine CondP.dec (fun hc2=>?_) (fun hc2=>?_)
   ·rw [if_pos (by omega)] at h
    conv=>whnf
    exact h _ (by omega) ho'
   rw [if_neg (by omega)] at h
   have ho2:=ho'.tl (binF_ne (by omega))
   have hb2:=ho2.hi
   have hlen2:=ho2.len
   conv=>whnf
   refine Or.inl ⟨InR.i64 (by omega) (by omega),?_⟩
   conv=>whnf
   refine Or.inl ⟨InR.i64 (by omega) (by omega),?_⟩
   conv=>whnf
   refine ⟨L,ts'.tail,rfl,ho2,⟨hdp,by omega,by omega,by omega,by omega⟩,fun x hx3=>?_⟩
   rw [show (n+1).toNat=(binF ts').1+1 by omega] at hx3
   rcases x with ⟨v3,ts3⟩ | ⟨r3,e3⟩
   rotate_left
   ·rw [hx3,R.bind_err] at h;intro a9 d9;(conv=>whnf);exact h _ _
   rw [hx3,R.bind_ok] at h
   intro a3 hle3 ho3
   have hb3:=ho3.hi
   obtain ⟨v3a,v3b,v3c,v3d,v3e⟩:=v3
   conv=>whnf
   have hlen3:=ho3.len
   obtain rfl:op=((binF ts').2:Int):=hop.symm
   refine ⟨⟨(binF ts').2,[],0,[.mk u1 u2 u3 u4 u5,.mk v3a v3b v3c v3d v3e],u5,a3,ts3,f,rfl,rfl,ho3,by omega,by omega,h⟩,?_⟩
   show ((L.length:Int) - a3).toNat<((L.length:Int) - a').toNat
   omega
  ·exact h.elim
 ·exact h.elim
noncomputable def tblExpr (d:Nat):Tbl:=[(82,spLine d 6)]
theorem expr_ok {d:Nat} (ht:TblOK (GG w0 nG) (tblExpr d)):PCalls (GG w0 nG) 35 (spExpr d):=by
 refine pcalls tab_ok mixed (tbl:=tblExpr d) ht Tryz.func35 rfl (by kernel_rfl) (by kernel_rfl) ?_
 intro args σ K h
 unfold spExpr spRD rdSp at h
 split at h
 ·rename_i rest t rows a en dp
  obtain ⟨L,ts,rfl,ho,h⟩:=h
  split at h
  ·obtain ⟨hdp,h⟩:=h
   have h0:=ho.lo
   have h1:=ho.hi
   have h2:=ho.big
   refine ⟨loopsOf [],1,false,by simp,Nat.le_of_ble_eq_true rfl,?_⟩
   have h:=h _ rfl
   conv=>whnf
   refine ⟨L,ts,rfl,ho,⟨hdp,by omega,by omega,by omega⟩,fun x hx1=>?_⟩
   rw [exprD] at h
   change lineK (signedD d) 6 1 ts=x at hx1
   rcases x with ⟨v1,ts1⟩ | ⟨r1,e1⟩
   rotate_left
   ·rw [hx1] at h;intro a9 d9;(conv=>whnf);exact h _ _
   rw [hx1] at h
   intro a1 hle1 ho1
   have hb1:=ho1.hi
   obtain ⟨v1a,v1b,v1c,v1d,v1e⟩:=v1
   conv=>whnf
   exact h _ (by omega) ho1
  ·exact h.elim
 ·exact h.elim
end Go.PM.Lex
end

section
set_option maxRecDepth 100000
set_option maxHeartbeats 4000000
namespace Go.PM.Lex
open Go.Proofs
variable {w0:World} {nG:Nat}
end Go.PM.Lex
end

section
set_option maxRecDepth 100000
set_option maxHeartbeats 4000000
namespace Go.PM.Lex
open Go.Proofs
variable {w0:World} {nG:Nat}
end Go.PM.Lex
end

section
set_option maxRecDepth 100000
set_option maxHeartbeats 4000000
namespace Go.PM.Lex
open Go.Proofs
variable {w0:World} {nG:Nat}
theorem cPlace:PCalls (GG w0 nG) 141 spPlace:=place_ok ⟨⟨more_ok,spMore_mono⟩,trivial⟩
theorem cIs:PCalls (GG w0 nG) 136 spIs:=is_ok ⟨⟨more_ok,spMore_mono⟩,⟨contains_ok,spContains_mono⟩,trivial⟩
theorem cNamed:PCalls (GG w0 nG) 145 (spAsk namedF):=named_ok ⟨⟨more_ok,spMore_mono⟩,⟨kept_ok,spKept_mono⟩,trivial⟩
theorem cFail:PCalls (GG w0 nG) 81 spFail:=fail_ok ⟨⟨cPlace,spPlace_mono⟩,trivial⟩
theorem cTake:PCalls (GG w0 nG) 200 spTake:=take_ok ⟨⟨cIs,spIs_mono⟩,trivial⟩
theorem cMust:PCalls (GG w0 nG) 143 spMust:=must_ok ⟨⟨cTake,spTake_mono⟩,⟨cFail,spFail_mono⟩,trivial⟩
theorem cPName:PCalls (GG w0 nG) 142 spNameP:=pname_ok ⟨⟨cNamed,spAsk_mono _⟩,⟨cFail,spFail_mono⟩,trivial⟩
theorem cStarts:PCalls (GG w0 nG) 262 (spAsk startsF):=starts_ok ⟨⟨more_ok,spMore_mono⟩,⟨cIs,spIs_mono⟩,⟨kept_ok,spKept_mono⟩,⟨functor_ok,spFunctor_mono⟩,trivial⟩
theorem cBinary:PCalls (GG w0 nG) 162 spBin:=binary_ok ⟨⟨more_ok,spMore_mono⟩,trivial⟩
theorem manyExB_zero (h:Enters (GG w0 nG).P 261):PCalls (GG w0 nG) 261 (spManyExB 0):=⟨h,fun args σ K hs=>by
 exfalso
 unfold spManyExB at hs
 split at hs
 ·exact absurd hs.1.2.2.2.2.1 (by omega)
 ·exact hs⟩
theorem manyExB_succ {d:Nat} (h:PCalls (GG w0 nG) 261 (spManyEx d)):PCalls (GG w0 nG) 261 (spManyExB (d+1)):=h.weaken1 fun args σ K hs=>by
 unfold spManyExB at hs
 unfold spManyEx
 split at hs
 ·obtain ⟨⟨h1,h2,h3,h4,h5,h6,h7⟩,hs⟩:=hs
  exact ⟨⟨h1,h2,h3,h4,by omega,h7⟩,hs⟩
 ·exact hs.elim
theorem lineB_zero (d:Nat) (h:Enters (GG w0 nG).P 82):PCalls (GG w0 nG) 82 (spLineB d 0):=⟨h,fun args σ K hs=>by
 exfalso
 unfold spLineB rdSp at hs
 split at hs
 ·obtain ⟨L,ts,_,_,hs⟩:=hs
  split at hs
  ·exact absurd hs.1.2.1 (by omega)
  ·exact hs
 ·exact hs⟩
theorem lineB_succ {d j:Nat} (h:PCalls (GG w0 nG) 82 (spLine d j)):PCalls (GG w0 nG) 82 (spLineB d (j+1)):=h.weaken1 fun args σ K hs=>by
 unfold spLineB rdSp at hs
 unfold spLine rdSp
 split at hs
 ·obtain ⟨L,ts,h1,h2,hs⟩:=hs
  refine ⟨L,ts,h1,h2,?_⟩
  split at hs
  ·exact ⟨⟨hs.1.1,hs.1.2.2.1,hs.1.2.2.2.1,by have:=hs.1.2.2.2.2;omega⟩,hs.2⟩
  ·exact hs.elim
 ·exact hs
structure Deep (w0:World) (nG d:Nat):Prop where
 sg:PCalls (GG w0 nG) 161 (spSignedB d)
 ex:PCalls (GG w0 nG) 35 (spExprB d)
 many:PCalls (GG w0 nG) 261 (spManyExB d)
theorem cArgs_of {d:Nat} (D:Deep w0 nG d):PCalls (GG w0 nG) 207 (spArgs d):=args_ok ⟨⟨(in_ok (tb:=tblArgsW d) ⟨⟨cIs,spIs_mono⟩,⟨cMust,spMust_mono⟩,⟨cFail,spFail_mono⟩,⟨(in_ok (tb:=tblArgs1 d) ⟨⟨cIs,spIs_mono⟩,⟨D.many,spManyExB_mono d⟩,trivial⟩ Tryz.func260 rfl (by kernel_rfl) (by kernel_rfl)),spIn_mono _ _⟩,trivial⟩ Tryz.func204 rfl (by kernel_rfl) (by kernel_rfl)),spIn_mono _ _⟩,trivial⟩
theorem cCall_of {d:Nat} (D:Deep w0 nG d):PCalls (GG w0 nG) 283 (spCall d):=call_ok ⟨⟨(in_ok (tb:=tblCallW d) ⟨⟨cIs,spIs_mono⟩,⟨cMust,spMust_mono⟩,⟨cFail,spFail_mono⟩,⟨(inU_ok (tb:=tblCall1 d) ⟨⟨cMust,spMust_mono⟩,⟨D.ex,spRB_mono _ _ _ _⟩,trivial⟩ Tryz.func313 rfl (by kernel_rfl) (by kernel_rfl)),spInU_mono _ _ _⟩,trivial⟩ Tryz.func204 rfl (by kernel_rfl) (by kernel_rfl)),spIn_mono _ _⟩,trivial⟩
theorem cPrimary_of {d:Nat} (D:Deep w0 nG d):PCalls (GG w0 nG) 229 (spPrimary d):=primary_ok ⟨⟨cStarts,spAsk_mono _⟩,⟨cFail,spFail_mono⟩,⟨more_ok,spMore_mono⟩,⟨(in_ok (tb:=tblPrimW d) ⟨⟨cIs,spIs_mono⟩,⟨cMust,spMust_mono⟩,⟨cFail,spFail_mono⟩,⟨(in_ok (tb:=tblPrim1 d) ⟨⟨D.ex,spRB_mono _ _ _ _⟩,trivial⟩ Tryz.func282 rfl (by kernel_rfl) (by kernel_rfl)),spIn_mono _ _⟩,trivial⟩ Tryz.func204 rfl (by kernel_rfl) (by kernel_rfl)),spIn_mono _ _⟩,⟨cArgs_of D,spArgs_mono d⟩,⟨cPName,spR_mono _ _ _⟩,⟨cIs,spIs_mono⟩,⟨functor_ok,spFunctor_mono⟩,⟨cCall_of D,spCall_mono d⟩,trivial⟩
theorem cSigned_of {d:Nat} (D:Deep w0 nG d):PCalls (GG w0 nG) 161 (spSigned d):=signed_ok ⟨⟨cPlace,spPlace_mono⟩,⟨cIs,spIs_mono⟩,⟨(in_ok (tb:=tblSignW d) ⟨⟨cIs,spIs_mono⟩,⟨cMust,spMust_mono⟩,⟨cFail,spFail_mono⟩,⟨(in_ok (tb:=tblSign1 d) ⟨⟨D.sg,spRB_mono _ _ _ _⟩,trivial⟩ Tryz.func228 rfl (by kernel_rfl) (by kernel_rfl)),spIn_mono _ _⟩,trivial⟩ Tryz.func204 rfl (by kernel_rfl) (by kernel_rfl)),spIn_mono _ _⟩,⟨cPrimary_of D,spRD_mono _ _ _ _⟩,trivial⟩
theorem cLine_of {d:Nat} (D:Deep w0 nG d):∀j,PCalls (GG w0 nG) 82 (spLine d j)
 | 0=>line_ok ⟨⟨cSigned_of D,spRD_mono _ _ _ _⟩,⟨cBinary,spBin_mono⟩,⟨lineB_zero d (enters_of Tryz.func82 (by kernel_rfl) rfl),spLineB_mono d 0⟩,trivial⟩
 | j+1=>line_ok ⟨⟨cSigned_of D,spRD_mono _ _ _ _⟩,⟨cBinary,spBin_mono⟩,⟨lineB_succ (cLine_of D j),spLineB_mono d (j+1)⟩,trivial⟩
theorem cExpr_of {d:Nat} (D:Deep w0 nG d):PCalls (GG w0 nG) 35 (spExpr d):=expr_ok ⟨⟨cLine_of D 6,spLine_mono d 6⟩,trivial⟩
theorem manyEx_of {d:Nat} (h:PCalls (GG w0 nG) 35 (spExpr d)):PCalls (GG w0 nG) 261 (spManyEx d):=manyEx_ok d ⟨⟨cStarts,spAsk_mono _⟩,⟨cFail,spFail_mono⟩,⟨h,spRD_mono _ _ _ _⟩,⟨cTake,spTake_mono⟩,trivial⟩
theorem deep:∀d,Deep w0 nG d
 | 0=>⟨spRB_zero (enters_of Tryz.func161 (by kernel_rfl) rfl),spRB_zero (enters_of Tryz.func35 (by kernel_rfl) rfl),manyExB_zero (enters_of Tryz.func261 (by kernel_rfl) rfl)⟩
 | d+1=>⟨spRB_succ (cSigned_of (deep d)),spRB_succ (cExpr_of (deep d)),manyExB_succ (manyEx_of (cExpr_of (deep d)))⟩
theorem cExpr (d:Nat):PCalls (GG w0 nG) 35 (spExpr d):=cExpr_of (deep d)
end Go.PM.Lex
end

section
set_option maxRecDepth 100000
set_option maxHeartbeats 4000000
namespace Go.PM.Lex
open Go.Proofs
def R.good {α:Type} (x:R α):Prop:=match x with | .ok _ _=>True | .err _ e=>e≠0
theorem R.good_bind {α β:Type} {x:R α} {f:α→Ts→R β} (h:x.good) (hf:∀a ts,(f a ts).good):(x.bind f).good:=by
 cases x with
 | ok a ts=>exact hf a ts
 | err r e=>exact h
theorem R.good_ok {α:Type} (a:α) (ts:Ts):(R.ok a ts:R α).good:=trivial
theorem R.good_ite {α:Type} {c:Prop} [Decidable c] {x y:R α} (h1:x.good) (h2:y.good):(if c then x else y).good:=by split;exact h1;exact h2
theorem R.good_err {α:Type} {r e:Nat} (h:e≠0):(R.err r e:R α).good:=h
theorem must_good (w:Bs) (ts:Ts):(mustF w ts).good:=R.good_ite trivial (R.good_err (by decide))
theorem nameP_good (ts:Ts):(nameP ts).good:=R.good_ite trivial (R.good_err (by decide))
theorem within_good {α:Type} {d:Nat} {fr tw:Bs} {read:Ts→R α} (h:∀ts,(read ts).good) (ts:Ts):(withinF d fr tw read ts).good :=
 R.good_ite (R.good_ite (R.good_err (by decide)) (R.good_bind (h _) fun _ _=>R.good_ite trivial (R.good_bind (must_good _ _) fun _ _=>trivial))) (R.good_err (by decide))
theorem manyGo_good {α:Type} {sign:Bs} {most:Nat} {st:Ts→Bool} {one:Ts→R α} (h:∀ts,(one ts).good):∀f l ts,(manyGo sign most st one f l ts).good
 | 0,_,_=>R.good_err (by decide)
 | f+1,l,ts=>R.good_ite (R.good_err (by decide)) (R.good_bind (h _) fun _ _=>R.good_ite (manyGo_good h f _ _) trivial)
theorem many_good {α:Type} {sign:Bs} {most:Nat} {st:Ts→Bool} {one:Ts→R α} (h:∀ts,(one ts).good) (ts:Ts):(manyF sign most st one ts).good:=manyGo_good h _ _ _
theorem args_good {d:Nat} {ex:Ts→R Ex} (h:∀ts,(ex ts).good) (fr tw:Bs) (ts:Ts):(argsF d ex fr tw ts).good:=by
 unfold argsF
 exact within_good (fun ts=>R.good_ite (R.good_ok _ _) (many_good h _)) ts
theorem callGo_good {ex:Ts→R Ex} (h:∀ts,(ex ts).good):∀k l ts,(callGo ex k l ts).good
 | 0,_,_=>trivial
 | k+1,l,ts=>R.good_bind (R.good_ite trivial (must_good _ _)) fun _ _=>R.good_bind (h _) fun _ _=>callGo_good h k _ _
theorem primary_good {d:Nat} {ex:Ts→R Ex} (h:∀ts,(ex ts).good) (ts:Ts):(primaryF d ex ts).good :=
 R.good_ite (R.good_err (by decide)) <| R.good_ite trivial <| R.good_ite trivial <| R.good_ite (within_good h _) <| R.good_ite (R.good_bind (args_good h _ _ _) fun _ _=>trivial) <|
 R.good_ite (R.good_bind (nameP_good _) fun _ _=>R.good_ite (R.good_bind (args_good h _ _ _) fun _ _=>trivial) trivial) <|
 R.good_ite (R.good_bind (within_good (callGo_good h _ _) _) fun _ _=>trivial) <| R.good_ite trivial <| R.good_ite trivial trivial
theorem lineGo_good {sub:Nat→Ts→R Ex} (h:∀n ts,(sub n ts).good) (least:Nat):∀f e ts,(lineGo sub least f e ts).good
 | 0,_,_=>R.good_err (by decide)
 | f+1,e,ts=>R.good_ite trivial (R.good_bind (h _ _) fun _ _=>lineGo_good h least f _ _)
theorem lineK_good {sg:Ts→R Ex} (h:∀ts,(sg ts).good):∀k least ts,(lineK sg k least ts).good
 | 0,_,_=>h _
 | k+1,least,ts=>R.good_bind (h _) fun _ _=>lineGo_good (fun n ts=>lineK_good h k n ts) _ _ _ _
theorem signedF_good {d:Nat} {sg:Ts→R Ex} (h:∀ts,(sg ts).good) (ts:Ts):(signedF d sg ts).good :=
 R.good_ite (R.good_bind (within_good h _) fun _ _=>trivial) <| R.good_ite (R.good_bind (within_good h _) fun _ _=>trivial) (primary_good (fun ts=>lineK_good h _ _ _) _)
theorem signed_good:∀d ts,(signedD d ts).good
 | 0,ts=>signedF_good (fun _=>(R.good_err (by decide))) ts
 | d+1,ts=>signedF_good (signed_good d) ts
theorem expr_good (d:Nat) (ts:Ts):(exprD d ts).good:=lineK_good (signed_good d) _ _ _
theorem nextF_room {a:Nat} {r:Bs} {room:Bool} {t:Tok} (h:nextF a r room=.tok t):room=true:=by
 cases room with
 | true=>rfl
 | false =>
  unfold nextF at h
  simp only at h
  split at h
  ·cases h
  ·simp at h
theorem allGo_le:∀(f:Nat) (m:Int) (a:Nat) (r:Bs),(allGo f m a r).1.length≤m.toNat
 | 0,m,a,r=>by simp [allGo]
 | f+1,m,a,r=>by
  unfold allGo
  split
  ·simp
  ·simp only
   split
   ·simp
   ·split
    ·simp
    ·rename_i t ht
     have hr:=nextF_room ht
     rw [decide_eq_true_eq] at hr
     have:=allGo_le f (m - 1) t.fin ((r.drop (blankF r).2).drop (t.fin - (a+(blankF r).2)))
     simp only [List.length_cons]
     omega
theorem allF_le (s:Bs) (m:Int):(allF s m).1.length≤m.toNat:=allGo_le _ _ _ _
inductive Top (α:Type) where
 | ok (v:α) (L:List Tok) | err (p:Int) (e:Nat)
def readTop {α:Type} (bytes most:Nat) (P:Ts→R α) (s:Bs):Top α :=
 if bytes<s.length then .err 0 3
 else if (allF s most).2.2≠0 then .err (allF s most).2.1 (allF s most).2.2
 else match P ((allF s most).1.map Tok.t0) with
  | .ok v []=>.ok v (allF s most).1
  | .ok v (_::ts)=>.err (placeOf (allF s most).1 s.length (ts.length+1)) 150
  | .err r e=>.err (placeOf (allF s most).1 s.length r) e
theorem readTop_err {α:Type} {bytes most:Nat} {P:Ts→R α} (hP:∀ts,(P ts).good) {s:Bs} {p:Int} {e:Nat} (h:readTop bytes most P s=.err p e):e≠0:=by
 unfold readTop at h
 split at h
 ·cases h;decide
 ·split at h
  ·rename_i hn;cases h;exact hn
  ·split at h
   ·cases h
   ·cases h;decide
   ·rename_i r e' he
    cases h
    have:=hP ((allF s most).1.map Tok.t0)
    rw [he] at this;exact this
end Go.PM.Lex
end

section
set_option maxRecDepth 100000
set_option maxHeartbeats 4000000
namespace Go.PM.Lex
open Go.Proofs
variable {w0:World} {nG:Nat}
noncomputable def spTokQ:Spec:=fun args σ K=>match args,σ with
 | [.d (.str s),.d (.int .i64 m)],⟨[],[],0⟩=>s.length<4294967281 ∧
   ∀l p c,allF s m=(l,(p,c))→(c=0→K (.ret (.tuple [.d (.sl (toksR l)),.d (.int .i64 p),.d (.int .i64 0)])) ⟨[],[],0⟩) ∧
    (c≠0→K (.ret (.tuple [.d (.sl []),.d (.int .i64 p),.d (.int .i64 c)])) ⟨[],[],0⟩)
 | _,_=>False
theorem spTokQ_mono:SpecMono spTokQ:=fun args σ K K' hK h=>by
 unfold spTokQ at h ⊢
 split at h
 ·exact ⟨h.1,fun l p c hx=>⟨fun g=>hK _ _ ((h.2 l p c hx).1 g),fun g=>hK _ _ ((h.2 l p c hx).2 g)⟩⟩
 ·exact h.elim
theorem tokQ_of (h:PCalls (GG w0 nG) 79 spTokens):PCalls (GG w0 nG) 79 spTokQ:=h.weaken1 fun args σ K hs=>by
 unfold spTokQ at hs
 unfold spTokens
 split at hs
 ·rename_i s m
  obtain ⟨h1,hs⟩:=hs
  refine ⟨h1,?_⟩
  have hs:=hs (allF s m).1 (allF s m).2.1 (allF s m).2.2 rfl
  by_cases hc:(allF s m).2.2=0
  ·rw [if_pos hc,hc];exact hs.1 hc
  ·rw [if_neg hc];exact hs.2 hc
 ·exact hs.elim
noncomputable def recOf:Nat×Nat×Code:=match recB (bodyOf Tryz.f80) with | some x=>x | none=>(0,0,.skip)
noncomputable def spDefR:List PV→St→(St→Prop)→Prop:=fun args σ K=>args.length≤Tryz.f80.ntmps∧W (ctx Tab0 [] (loopsOf [])) recOf.2.2 (recQ Tab0 Tryz.f80 σ.bx.length K) (fset (fset (argF 0 args) recOf.1 (.d .nili)) recOf.2.1 (.d .nili)) σ
noncomputable def spDefP:PV→List PV→St→(St→Prop)→Prop:=fun pv args σ K=>args.length≤Tryz.f80.ntmps∧W (ctx Tab0 [] (loopsOf [])) recOf.2.2 (recQ Tab0 Tryz.f80 σ.bx.length K) (fset (fset (argF 0 args) recOf.1 pv) recOf.2.1 pv) σ
theorem def_ok:PDef (GG w0 nG) 80 spDefR spDefP :=
 pdef_of (a:=recOf.1) (b:=recOf.2.1) (rest:=recOf.2.2) tab_ok mixed (tbl:=[]) trivial Tryz.func80 rfl (by kernel_rfl) rfl (by kernel_rfl) (fun args σ K h=>⟨loopsOf [],σ.bx.length,Nat.le_refl _,h.1,h.2⟩) (fun pv args σ K h=>⟨loopsOf [],σ.bx.length,Nat.le_refl _,h.1,h.2⟩)
def WhK {α:Type} (tU:TypeId) (enc:List Tok→Int→α→List PV) (bad:List PV→Prop) (n:Int) (x:Top α) (K:PEnd→St→Prop):Prop:=match x with
 | .ok v L=>K (.ret (.tuple [.d (.int .i64 0),.d (.int .i64 0)])) ⟨[.cells tU (enc L n v)],[],0⟩
 | .err p e=>∀cs,bad cs→K (.ret (.tuple [.d (.int .i64 p),.d (.int .i64 e)])) ⟨[.cells tU cs],[],0⟩
theorem WhK_mono {α:Type} {tU:TypeId} {enc:List Tok→Int→α→List PV} {bad:List PV→Prop} {n:Int} {x:Top α} {K K':PEnd→St→Prop} (hK:∀e σ,K e σ→K' e σ) (h:WhK tU enc bad n x K):WhK tU enc bad n x K':=by
 cases x with
 | ok v L=>exact hK _ _ h
 | err p e=>exact fun cs hb=>hK _ _ (h cs hb)
theorem ROK_start {l:List Tok} (h:l.length≤1048576):ROK l 0 (l.map Tok.t0):=⟨by omega,by omega,h,by simp [tz]⟩
def badE (cs:List PV):Prop:=∃(a:Int) (b:Bs) (c:Int) (d:List (List D)) (e:Int),cs=[.d (.int .u8 a),.d (.str b),.d (.int .i64 c),.d (.sl d),.d (.int .i64 e)]
noncomputable def tblExpr1:Tbl:=[(35,spExpr 64)]
noncomputable def spWhE:Spec:=fun args σ K=>match args,σ with
 | [.d (.str s),.d (.int .i64 by'),.d (.int .i64 most),.func g [] [.ptr 0 0]],⟨[.cells tU c0],tk,n⟩=>(g=34∧by'=65536∧most=16384∧c0=[.d (.int .u8 0),.d (.str []),.d (.int .i64 0),.sl 0 24 [],.d (.int .i64 0)]∧tk=[0]∧n=1)∧s.length<4294967281 ∧
   ∀x,readTop 65536 16384 (exprD 64) s=x→WhK tU (fun L n (v:Ex)=>(encE (placeOf L n) v).map .d) badE s.length x K
 | _,_=>False
theorem spWhE_mono:SpecMono spWhE:=fun args σ K K' hK h=>by
 unfold spWhE at h ⊢
 split at h
 ·exact ⟨h.1,h.2.1,fun x hx=>WhK_mono hK (h.2.2 x hx)⟩
 ·exact h.elim
noncomputable def tblWhE:Tbl:=[(79,spTokQ),(34,spIn Tryz.f34 tblExpr1),(81,spFail)]
theorem wholeE_ok (ht:TblOK (GG w0 nG) tblWhE):PCalls (GG w0 nG) 33 spWhE:=by
 refine pcallsD tab_ok mixed (tbl:=tblWhE) ht Tryz.func33 rfl (by kernel_rfl) (by kernel_rfl) def_ok ?_
 intro args σ K h
 unfold spWhE at h
 split at h
 ·obtain ⟨⟨rfl,rfl,rfl,rfl,rfl,rfl⟩,hs,h⟩:=h
  rename_i s tU
  have h:=h _ rfl
  refine ⟨loopsOf [],unrOf [],tieOf [],1,false,by simp,Nat.le_of_ble_eq_true rfl,?_⟩
  unfold readTop at h
  conv=>whnf
  refine CondP.dec (fun hc=>?_) (fun hc=>?_)
  ·rw [if_pos (by omega)] at h
   conv=>whnf
   exact h _ ⟨_,_,_,_,_,rfl⟩
  rw [if_neg (by omega)] at h
  conv=>whnf
  refine ⟨hs,fun l p c hx=>?_⟩
  have hlen:=allF_le s 16384
  rw [show ((16384:Nat):Int)=16384 from rfl,hx] at h
  rw [hx] at hlen
  refine ⟨fun h0=>?_,fun h0=>?_⟩
  ·subst h0
   rw [if_neg (by simp)] at h
   simp only at h hlen
   have ho:=ROK_start (l:=l) (by simp at hlen;omega)
   clear hx hlen
   generalize hts:l.map Tok.t0=ts at h ho
   conv=>whnf
   refine ⟨_,fun _ _ h=>h,Nat.le_of_ble_eq_true rfl,?_⟩
   conv=>whnf
   refine ⟨l,ts,rfl,ho,by omega,fun x hx=>?_⟩
   rw [hx] at h
   rcases x with ⟨⟨v1,v2,v3,v4,v5⟩,ts2⟩ | ⟨r,e⟩
   rotate_left
   ·intro a9 d9;(conv=>whnf);refine ⟨Nat.le_of_ble_eq_true rfl,?_⟩;(conv=>whnf);(repeat (refine ⟨rfl,?_⟩;conv=>whnf));exact h _ ⟨_,_,_,_,_,rfl⟩
   intro a2 hle2 ho2
   conv=>whnf
   have hl2:=ho2.len
   (repeat (refine ⟨rfl,?_⟩;conv=>whnf))
   refine CondP.dec (fun hc3=>?_) (fun hc3=>?_)
   ·have hc3:a2<l.length:=by have hc3:a2<((toksR l).length:Int):=hc3;rw [toksR_len] at hc3;exact hc3
    cases ts2 with
    | nil=>simp at hl2;omega
    | cons t0 ts3 =>
     conv=>whnf
     refine ⟨l,_,rfl,ho2,?_⟩
     conv=>whnf
     refine ⟨Nat.le_of_ble_eq_true rfl,?_⟩
     conv=>whnf
     (repeat (refine ⟨rfl,?_⟩;conv=>whnf))
     exact h _ ⟨_,_,_,_,_,rfl⟩
   have hc3:¬a2<l.length:=by have hc3:¬a2<((toksR l).length:Int):=hc3;rw [toksR_len] at hc3;exact hc3
   obtain rfl:ts2=[]:=List.eq_nil_of_length_eq_zero (by omega)
   conv=>whnf
   refine ⟨Nat.le_of_ble_eq_true rfl,?_⟩
   conv=>whnf
   exact h
  rw [if_pos h0] at h
  conv=>whnf
  refine CondP.ndec (fun hc2=>?_) (fun hc2=>absurd (show c=0 by omega) h0)
  conv=>whnf
  (repeat (refine ⟨rfl,?_⟩;conv=>whnf))
  exact h _ ⟨_,_,_,_,_,rfl⟩
 ·exact h.elim
end Go.PM.Lex
end

section
set_option maxRecDepth 100000
set_option maxHeartbeats 4000000
namespace Go.PM.Lex
open Go.Proofs
variable {w0:World} {nG:Nat}
def TopK {α:Type} (enc:List Tok→α→PV) (zero:PV) (x:Top α) (K:PEnd→St→Prop):Prop:=match x with
 | .ok v L=>K (.ret (.tuple [enc L v,.d (.int .i64 0),.d (.int .i64 0)])) ⟨[],[],0⟩
 | .err p e=>K (.ret (.tuple [zero,.d (.int .i64 p),.d (.int .i64 e)])) ⟨[],[],0⟩
theorem TopK_mono {α:Type} {enc:List Tok→α→PV} {zero:PV} {x:Top α} {K K':PEnd→St→Prop} (hK:∀e σ,K e σ→K' e σ) (h:TopK enc zero x K):TopK enc zero x K':=by
 cases x <;> exact hK _ _ h
noncomputable def spTopE:Spec:=fun args σ K=>match args,σ with
 | [.d (.str s)],⟨[],[],0⟩=>s.length<4294967281∧∀x,readTop 65536 16384 (exprD 64) s=x→TopK (fun L (v:Ex)=>aggD (encE (placeOf L s.length) v)) (aggD [.int .u8 0,.str [],.int .i64 0,.sl [],.int .i64 0]) x K
 | _,_=>False
theorem spTopE_mono:SpecMono spTopE:=fun args σ K K' hK h=>by
 unfold spTopE at h ⊢
 split at h
 ·exact ⟨h.1,fun x hx=>TopK_mono hK (h.2 x hx)⟩
 ·exact h.elim
noncomputable def tblTopE:Tbl:=[(33,spWhE)]
theorem topE_ok (ht:TblOK (GG w0 nG) tblTopE):PCalls (GG w0 nG) 14 spTopE:=by
 refine pcalls tab_ok mixed (tbl:=tblTopE) ht Tryz.func14 rfl (by kernel_rfl) (by kernel_rfl) ?_
 intro args σ K h
 unfold spTopE at h
 split at h
 ·rename_i s
  obtain ⟨hs,h⟩:=h
  refine ⟨loopsOf [],0,false,by simp,Nat.le_of_ble_eq_true rfl,?_⟩
  conv=>whnf
  refine ⟨⟨rfl,rfl,rfl,rfl,rfl,rfl⟩,hs,fun x hx=>?_⟩
  have h:=h x hx
  cases x with
  | ok v L =>
   obtain ⟨v1,v2,v3,v4,v5⟩:=v
   conv=>whnf
   exact h
  | err p e =>
   have he:=readTop_err (expr_good 64) hx
   intro cs hcs
   obtain ⟨b1,b2,b3,b4,b5,rfl⟩:=hcs
   conv=>whnf
   refine CondP.ndec (fun hc=>?_) (fun hc=>absurd (show e=0 by omega) he)
   conv=>whnf
   exact h
 ·exact h.elim
theorem cWhole_tok (hg:GlobOK w0 nG):PCalls (GG w0 nG) 79 spTokQ:=tokQ_of (cTokens hg)
theorem cTopE (hg:GlobOK w0 nG):PCalls (GG w0 nG) 14 spTopE:=topE_ok ⟨⟨wholeE_ok ⟨⟨cWhole_tok hg,spTokQ_mono⟩,⟨in_ok (tb:=tblExpr1) ⟨⟨cExpr 64,spRD_mono _ _ _ _⟩,trivial⟩ Tryz.func34 rfl (by kernel_rfl) (by kernel_rfl),spIn_mono _ _⟩,⟨cFail,spFail_mono⟩,trivial⟩,spWhE_mono⟩,trivial⟩
end Go.PM.Lex
end

section
set_option maxRecDepth 100000
set_option maxHeartbeats 4000000
namespace Go.PM.Lex
open Go.Proofs
variable {w0:World} {nG:Nat}
mutual
def sameE:Ex→Ex→Bool
 | .mk o1 t1 n1 l1 _,.mk o2 t2 n2 l2 _=>decide (o1=o2) && (decide (t1=t2) && (decide (n1=n2) && sameEs l1 l2))
def sameEs:List Ex→List Ex→Bool
 | [],[]=>true
 | x::l,y::m=>sameE x y && sameEs l m
 | _,_=>false
end
mutual
def szE:Ex→Nat
 | .mk _ _ _ l _=>1+szEs l
def szEs:List Ex→Nat
 | []=>0
 | x::l=>1+szE x+szEs l
end
theorem szEs_len:∀(l:List Ex),l.length≤szEs l
 | []=>Nat.le_refl _
 | x::l=>by have:=szEs_len l;simp only [List.length_cons,szEs];omega
theorem szEs_get:∀(l:List Ex) (i:Nat) (h:i<l.length),szE l[i]<szEs l
 | x::l,0,h=>by simp only [List.getElem_cons_zero,szEs];omega
 | x::l,i+1,h=>by have:=szEs_get l i (by simpa using h);simp only [List.getElem_cons_succ,szEs];omega
theorem sameEs_ne:∀(l m:List Ex),l.length≠m.length→sameEs l m=false
 | [],[],h=>absurd rfl h
 | [],_::_,_=>by simp [sameEs]
 | _::_,[],_=>by simp [sameEs]
 | x::l,y::m,h=>by simp [sameEs,sameEs_ne l m (by simpa using h)]
theorem sameEs_drop {l m:List Ex} {i:Nat} (h1:i<l.length) (h2:i<m.length):sameEs (l.drop i) (m.drop i)=(sameE l[i] m[i] && sameEs (l.drop (i+1)) (m.drop (i+1))):=by
 rw [List.drop_eq_getElem_cons h1,List.drop_eq_getElem_cons h2,sameEs]
noncomputable def spSameE (n:Nat):Spec:=fun args σ K=>match args,σ with
 | [.agg c1,.agg c2,.d (.bool at')],⟨[],[],0⟩=>∃pl1 e1 pl2 e2,c1=(encE pl1 e1).map .d∧c2=(encE pl2 e2).map .d∧(at'=false∧szE e1≤n∧n≤1099511627776)∧∀b,sameE e1 e2=b→K (.ret (.d (.bool b))) ⟨[],[],0⟩
 | _,_=>False
theorem spSameE_mono (n:Nat):SpecMono (spSameE n):=fun args σ K K' hK h=>by
 unfold spSameE at h ⊢
 split at h
 ·obtain ⟨p1,e1,p2,e2,h1,h2,h3,h4⟩:=h
  exact ⟨p1,e1,p2,e2,h1,h2,h3,fun b hb=>hK _ _ (h4 b hb)⟩
 ·exact h.elim
noncomputable def spSameEs (n:Nat):Spec:=fun args σ K=>match args,σ with
 | [.d (.sl r1),.d (.sl r2),.d (.bool at')],⟨[],[],0⟩=>∃pl1 l1 pl2 l2,r1=encEs pl1 l1∧r2=encEs pl2 l2∧(at'=false∧szEs l1≤n∧n≤1099511627776)∧∀b,sameEs l1 l2=b→K (.ret (.d (.bool b))) ⟨[],[],0⟩
 | _,_=>False
theorem spSameEs_mono (n:Nat):SpecMono (spSameEs n):=fun args σ K K' hK h=>by
 unfold spSameEs at h ⊢
 split at h
 ·obtain ⟨p1,e1,p2,e2,h1,h2,h3,h4⟩:=h
  exact ⟨p1,e1,p2,e2,h1,h2,h3,fun b hb=>hK _ _ (h4 b hb)⟩
 ·exact h.elim
noncomputable def spSameEB (n:Nat):Spec:=fun args σ K=>0<n∧spSameE (n - 1) args σ K
theorem spSameEB_mono (n:Nat):SpecMono (spSameEB n):=fun args σ K K' hK h=>⟨h.1,spSameE_mono _ _ _ _ _ hK h.2⟩
noncomputable def spSameEsB (n:Nat):Spec:=fun args σ K=>0<n∧spSameEs (n - 1) args σ K
theorem spSameEsB_mono (n:Nat):SpecMono (spSameEsB n):=fun args σ K K' hK h=>⟨h.1,spSameEs_mono _ _ _ _ _ hK h.2⟩
noncomputable def tblSameE (n:Nat):Tbl:=[(36,spSameEsB n)]
theorem sameE_ok {n:Nat} (ht:TblOK (GG w0 nG) (tblSameE n)):PCalls (GG w0 nG) 15 (spSameE n):=by
 refine pcalls tab_ok mixed (tbl:=tblSameE n) ht Tryz.func15 rfl (by kernel_rfl) (by kernel_rfl) ?_
 intro args σ K h
 unfold spSameE at h
 split at h
 ·obtain ⟨p1,⟨a1,a2,a3,a4,a5⟩,p2,⟨b1,b2,b3,b4,b5⟩,rfl,rfl,⟨rfl,hz,hn⟩,h⟩:=h
  have h:=h _ rfl
  rw [sameE] at h
  rw [szE] at hz
  refine ⟨loopsOf [],0,false,by simp,Nat.le_of_ble_eq_true rfl,?_⟩
  conv=>whnf
  refine CondP.dec (fun h1=>?_) (fun h1=>?_)
  ·rw [decide_eq_true (show a1=b1 by omega),Bool.true_and] at h
   conv=>whnf
   refine CondP.dec (fun h2=>?_) (fun h2=>?_)
   ·rw [decide_eq_true h2,Bool.true_and] at h
    conv=>whnf
    refine CondP.dec (fun h3=>?_) (fun h3=>?_)
    ·rw [decide_eq_true h3,Bool.true_and] at h
     conv=>whnf
     refine ⟨by omega,p1,a4,p2,b4,rfl,rfl,⟨rfl,by omega,by omega⟩,fun b hb=>?_⟩
     rw [hb] at h
     conv=>whnf
     exact h
    ·rw [decide_eq_false h3,Bool.false_and] at h
     conv=>whnf
     exact h
   ·rw [decide_eq_false h2,Bool.false_and] at h
    conv=>whnf
    exact h
  ·rw [decide_eq_false (show ¬a1=b1 by omega),Bool.false_and] at h
   conv=>whnf
   exact h
 ·exact h.elim
noncomputable def tblSameEs (n:Nat):Tbl:=[(15,spSameEB n)]
theorem sameEs_ok {n:Nat} (ht:TblOK (GG w0 nG) (tblSameEs n)):PCalls (GG w0 nG) 36 (spSameEs n):=by
 refine pcalls tab_ok mixed (tbl:=tblSameEs n) ht Tryz.func36 rfl (by kernel_rfl) (by kernel_rfl) ?_
 intro args σ K h
 unfold spSameEs at h
 split at h
 ·obtain ⟨p1,l1,p2,l2,rfl,rfl,⟨rfl,hz,hn⟩,h⟩:=h
  have h:=h _ rfl
  have hlen1:(encEs p1 l1).length=l1.length:=by rw [encEs_eq,List.length_map]
  have hlen2:(encEs p2 l2).length=l2.length:=by rw [encEs_eq,List.length_map]
  have hsz:=szEs_len l1
  refine ⟨loopsOf [(4,⟨[7],[0,1,2],fun vs σ=>∃i:Nat,vs=[.d (.int .i64 i)]∧σ=⟨[],[],0⟩∧i≤l1.length∧sameEs l1 l2=sameEs (l1.drop i) (l2.drop i),fun vs _=>match vs with | [.d (.int _ i)]=>((l1.length:Int) - i).toNat | _=>0⟩)],0,false,by simp,Nat.le_of_ble_eq_true rfl,?_⟩
  conv=>whnf
  refine CondP.ndec (fun hc=>?_) (fun hc=>?_)
  ·have hc:l1.length≠l2.length:=fun g=>hc (by show ((encEs p1 l1).length:Int)=(encEs p2 l2).length;rw [hlen1,hlen2,g])
   rw [sameEs_ne _ _ hc] at h
   conv=>whnf
   exact h
  ·have hc:l1.length=l2.length:=by have hc:((encEs p1 l1).length:Int)=(encEs p2 l2).length:=hc;rw [hlen1,hlen2] at hc;omega
   conv=>whnf
   refine ⟨⟨0,rfl,rfl,by omega,rfl⟩,?_⟩
   intro vs σ hI
   obtain ⟨i,rfl,rfl,hi,hs⟩:=hI
   conv=>whnf
   refine CondP.dec (fun hi2=>?_) (fun hi2=>?_)
   ·have hi2:i<l1.length:=by have hi2:(i:Int)<(encEs p1 l1).length:=hi2;rw [hlen1] at hi2;omega
    have hi3:i<l2.length:=by omega
    have hg:=szEs_get l1 i hi2
    rw [sameEs_drop hi2 hi3] at hs
    obtain ⟨eA,hA⟩:∃e,l1[i]=e:=⟨_,rfl⟩
    obtain ⟨eB,hB⟩:∃e,l2[i]=e:=⟨_,rfl⟩
    obtain ⟨a1,a2,a3,a4,a5⟩:=eA
    obtain ⟨b1,b2,b3,b4,b5⟩:=eB
    rw [hA,hB] at hs
    rw [hA] at hg
    conv=>whnf
    refine ⟨encE p1 (.mk a1 a2 a3 a4 a5),by omega,by rw [encEs_eq];simp [hi2,hA],?_⟩
    conv=>whnf
    refine ⟨encE p2 (.mk b1 b2 b3 b4 b5),by omega,by rw [encEs_eq];simp [hi3,hB],?_⟩
    conv=>whnf
    refine ⟨by omega,p1,.mk a1 a2 a3 a4 a5,p2,.mk b1 b2 b3 b4 b5,rfl,rfl,⟨rfl,by omega,by omega⟩,fun b hb=>?_⟩
    rw [hb] at hs
    cases b with
    | true =>
     rw [Bool.true_and] at hs
     conv=>whnf
     (repeat (refine ⟨rfl,?_⟩;conv=>whnf))
     refine Or.inl ⟨InR.i64 (by omega) (by omega),?_⟩
     conv=>whnf
     refine ⟨⟨i+1,rfl,rfl,by omega,hs⟩,?_⟩
     show ((l1.length:Int) - ((i:Int)+1)).toNat<((l1.length:Int) - (i:Int)).toNat
     omega
    | false =>
     rw [hs,Bool.false_and] at h
     conv=>whnf
     (repeat (refine ⟨rfl,?_⟩;conv=>whnf))
     exact h
   ·have hi2:l1.length≤i:=by have hi2:¬(i:Int)<(encEs p1 l1).length:=hi2;rw [hlen1] at hi2;omega
    rw [List.drop_eq_nil_of_le hi2,List.drop_eq_nil_of_le (by omega)] at hs
    rw [hs] at h
    conv=>whnf
    exact h
 ·exact h.elim
theorem cSame:∀n,PCalls (GG w0 nG) 15 (spSameE n)∧PCalls (GG w0 nG) 36 (spSameEs n)
 | 0=>⟨sameE_ok ⟨⟨⟨enters_of Tryz.func36 (by kernel_rfl) rfl,fun args σ K hs=>absurd hs.1 (by omega)⟩,spSameEsB_mono 0⟩,trivial⟩,sameEs_ok ⟨⟨⟨enters_of Tryz.func15 (by kernel_rfl) rfl,fun args σ K hs=>absurd hs.1 (by omega)⟩,spSameEB_mono 0⟩,trivial⟩⟩
 | n+1=>⟨sameE_ok ⟨⟨(cSame n).2.weaken1 fun args σ K hs=>hs.2,spSameEsB_mono _⟩,trivial⟩,sameEs_ok ⟨⟨(cSame n).1.weaken1 fun args σ K hs=>hs.2,spSameEB_mono _⟩,trivial⟩⟩
def Li.op:Li→Nat | .mk o _ _ _ _=>o
end Go.PM.Lex
end

section
namespace Go.PM.Lex
mutual
def erE:Ex→Ex
 | .mk op t n args _=>.mk op t n (erEs args) 0
def erEs:List Ex→List Ex
 | []=>[]
 | e::l=>erE e::erEs l
end
theorem erEs_eq (l:List Ex):erEs l=l.map erE:=by induction l with | nil=>rfl | cons x l ih=>simp [erEs,ih]
mutual
def erL:Li→Li
 | .mk op rel args body _=>.mk op rel (erEs args) (erLs body) 0
def erLs:List Li→List Li
 | []=>[]
 | e::l=>erL e::erLs l
end
theorem erLs_eq (l:List Li):erLs l=l.map erL:=by induction l with | nil=>rfl | cons x l ih=>simp [erLs,ih]
def erRu (r:Ru):Ru:=⟨r.head,r.args.map erE,r.body.map erL,0⟩
def erTy (t:Ty):Ty:={ t with at':=0 }
def erRe (t:Re):Re:={ t with at':=0 }
def erIn (t:Ini):Ini:={ t with at':=0 }
def erOv (t:Ov):Ov:={ t with at':=0 }
mutual
def erUn:Un→Un
 | .mk a b c d e f=>.mk (a.map erTy) (b.map erRe) (c.map erRu) (erCos d) (e.map erIn) (f.map erOv)
def erCo:Co→Co
 | .mk nm ps base tys u _=>.mk nm ps base tys (erUn u) 0
def erCos:List Co→List Co
 | []=>[]
 | e::l=>erCo e::erCos l
end
def Stb {α:Type} (er:α→α) (m:Ts) (x y:R α):Prop:=∀v ts,x=.ok v ts→∃v',er v'=er v∧y=.ok v' (ts++m)
section
variable {α β:Type} {er:α→α} {er2:β→β} {m:Ts}
theorem Stb.ok {v v':α} {ts:Ts} (h:er v'=er v):Stb er m (.ok v ts) (.ok v' (ts++m)):=fun w rest e=>by cases e;exact ⟨v',h,rfl⟩
theorem Stb.ok' {v v':α} {ts ts':Ts} (h:er v'=er v) (e:ts'=ts++m):Stb er m (.ok v ts) (.ok v' ts'):=e ▸ Stb.ok h
theorem Stb.err {r e:Nat} {y:R α}:Stb er m (.err r e) y:=fun w rest e=>by cases e
theorem Stb.bind {x y:R α} {f g:α→Ts→R β} (h:Stb er m x y) (hf:∀v v' ts,er v'=er v→Stb er2 m (f v ts) (g v' (ts++m))):Stb er2 m (x.bind f) (y.bind g):=fun w rest e=>by
 cases x with
 | ok v ts =>
  obtain ⟨v',h1,rfl⟩:=h v ts rfl
  exact hf v v' ts h1 w rest e
 | err r e'=>cases e
theorem Stb.binds {x y:R α} {f g:α→Ts→R β} (h:Stb id m x y) (hf:∀v ts,Stb er2 m (f v ts) (g v (ts++m))):Stb er2 m (x.bind f) (y.bind g):=Stb.bind h fun v v' ts e=>by cases (show v'=v from e);exact hf v ts
end
variable {m:Ts}
theorem isW_nil (ws:List Bs):isW [] ws=false:=by simp [isW,hd]
theorem isW_pos {ts:Ts} {ws:List Bs} (h:isW ts ws=true):∃t l,ts=t::l:=by
 cases ts with
 | nil=>rw [isW_nil] at h;cases h
 | cons t l=>exact ⟨t,l,rfl⟩
theorem map_id' {α:Type} (l:List α):l.map id=l:=by simp
theorem bin_pos {ts:Ts} (h:(binF ts).1≠0):∃t l,ts=t::l:=by
 cases ts with
 | nil=>exact absurd rfl h
 | cons t l=>exact ⟨t,l,rfl⟩
def Un.app:Un→Un→Un
 | .mk a1 a2 a3 a4 a5 a6,.mk b1 b2 b3 b4 b5 b6=>.mk (a1++b1) (a2++b2) (a3++b3) (a4++b4) (a5++b5) (a6++b6)
def Un.le:Un→Un→Prop
 | .mk a1 a2 a3 a4 a5 a6,.mk b1 b2 b3 b4 b5 b6=>a1.length≤b1.length∧a2.length≤b2.length∧a3.length≤b3.length∧a4.length≤b4.length∧a5.length≤b5.length∧a6.length≤b6.length
theorem Un.le_refl:∀u:Un,Un.le u u | .mk ..=>⟨Nat.le_refl _,Nat.le_refl _,Nat.le_refl _,Nat.le_refl _,Nat.le_refl _,Nat.le_refl _⟩
theorem Un.le_trans:∀{u v w:Un},Un.le u v→Un.le v w→Un.le u w
 | .mk ..,.mk ..,.mk ..,⟨h1,h2,h3,h4,h5,h6⟩,⟨k1,k2,k3,k4,k5,k6⟩=>⟨by omega,by omega,by omega,by omega,by omega,by omega⟩
def Un.room:Un→Un→Prop
 | .mk a1 a2 a3 a4 a5 a6,.mk b1 b2 b3 b4 b5 b6=>a1.length+b1.length≤256∧a2.length+b2.length≤256∧a3.length+b3.length≤1024∧a4.length+b4.length≤64∧a5.length+b5.length≤256∧a6.length+b6.length≤256
theorem R.bind_of {α β:Type} {x:R α} {f:α→Ts→R β} {v:β} {ts:Ts} (h:x.bind f=.ok v ts):∃a ts1,x=.ok a ts1∧f a ts1=.ok v ts:=by
 cases x with
 | ok a ts1=>exact ⟨a,ts1,rfl,h⟩
 | err r e=>cases h
end Go.PM.Lex
end

section
set_option maxRecDepth 100000
set_option maxHeartbeats 4000000
namespace Go.PM.Lex
open Go.Proofs
variable {w0:World} {nG:Nat}
def allS {α:Type} (f:α→α→Bool):List α→List α→Bool
 | [],[]=>true
 | x::l,y::m=>f x y && allS f l m
 | _,_=>false
def szS {α:Type} (f:α→Nat):List α→Nat
 | []=>0
 | x::l=>1+f x+szS f l
theorem szS_len {α:Type} (f:α→Nat):∀(l:List α),l.length≤szS f l
 | []=>Nat.le_refl _
 | x::l=>by have:=szS_len f l;simp only [List.length_cons,szS];omega
theorem szS_get {α:Type} (f:α→Nat):∀(l:List α) (i:Nat) (h:i<l.length),f l[i]<szS f l
 | x::l,0,h=>by simp only [List.getElem_cons_zero,szS];omega
 | x::l,i+1,h=>by have:=szS_get f l i (by simpa using h);simp only [List.getElem_cons_succ,szS];omega
theorem sameEs_eq:∀(l m:List Ex),sameEs l m=allS sameE l m
 | [],[]=>rfl
 | [],_::_=>by rw [sameEs,allS] <;> simp
 | _::_,[]=>by rw [sameEs,allS] <;> simp
 | x::l,y::m=>by rw [sameEs,allS,sameEs_eq l m]
theorem szEs_eq:∀(l:List Ex),szEs l=szS szE l
 | []=>rfl
 | x::l=>by rw [szEs,szS,szEs_eq l]
def eqB (a b:Bs):Bool:=decide (a=b)
mutual
def sameL:Li→Li→Bool
 | .mk o1 r1 a1 b1 _,.mk o2 r2 a2 b2 _=>decide ((o1:Int)=o2) && (decide (r1=r2) && (allS sameE a1 a2 && sameLs b1 b2))
def sameLs:List Li→List Li→Bool
 | [],[]=>true
 | x::l,y::m=>sameL x y && sameLs l m
 | _,_=>false
end
mutual
def szL:Li→Nat
 | .mk _ _ a b _=>1+szS szE a+szLs b
def szLs:List Li→Nat
 | []=>0
 | x::l=>1+szL x+szLs l
end
theorem szLs_eq:∀(l:List Li),szLs l=szS szL l
 | []=>by rw [szLs,szS]
 | x::l=>by rw [szLs,szS,szLs_eq l]
def sameFi (f g:Fi):Bool:=decide (f.name=g.name) && (decide (f.typ=g.typ) && true)
def sameRu (r s:Ru):Bool:=decide (r.head=s.head) && (allS sameE r.args s.args && allS sameL r.body s.body)
def szRu (r:Ru):Nat:=1+szS szE r.args+szS szL r.body
def sz0 {α:Type} (_:α):Nat:=0
def sameCa (c d:Ca):Bool:=decide (c.name=d.name) && allS sameFi c.fields d.fields
def szCa (c:Ca):Nat:=1+szS sz0 c.fields
def sameTy (a b:Ty):Bool:=decide ((a.kind:Int)=b.kind) && (decide (a.name=b.name) && (decide (a.base=b.base) && (allS sameFi a.fields b.fields && allS sameCa a.cases b.cases)))
def szTy (a:Ty):Nat:=1+szS sz0 a.fields+szS szCa a.cases
def sameRe (a b:Re):Bool:=decide (a.name=b.name) && (decide (a.inn=b.inn) && (decide (a.out=b.out) && (decide (a.inl=b.inl) && allS sameFi a.fields b.fields)))
def szRe (a:Re):Nat:=1+szS sz0 a.fields
def sameIn (a b:Ini):Bool:=decide (a.name=b.name) && (decide (a.comp=b.comp) && allS eqB a.types b.types)
def szIn (a:Ini):Nat:=1+szS sz0 a.types
def sameOv (a b:Ov):Bool:=decide (a.rel=b.rel)
mutual
def sameUn:Un→Un→Bool
 | .mk a1 a2 a3 a4 a5 a6,.mk b1 b2 b3 b4 b5 b6=>allS sameTy a1 b1 && (allS sameRe a2 b2 && (allS sameRu a3 b3 && (sameCos a4 b4 && (allS sameIn a5 b5 && allS sameOv a6 b6))))
def sameCo:Co→Co→Bool
 | .mk n1 p1 b1 t1 u1 _,.mk n2 p2 b2 t2 u2 _=>decide (n1=n2) && (decide (b1=b2) && (allS eqB p1 p2 && (allS eqB t1 t2 && sameUn u1 u2)))
def sameCos:List Co→List Co→Bool
 | [],[]=>true
 | x::l,y::m=>sameCo x y && sameCos l m
 | _,_=>false
end
mutual
def szUn:Un→Nat
 | .mk a1 a2 a3 a4 a5 a6=>1+szS szTy a1+szS szRe a2+szS szRu a3+szCos a4+szS szIn a5+szS sz0 a6
def szCo:Co→Nat
 | .mk _ p _ t u _=>1+szS sz0 p+szS sz0 t+szUn u
def szCos:List Co→Nat
 | []=>0
 | x::l=>1+szCo x+szCos l
end
theorem szCos_eq:∀(l:List Co),szCos l=szS szCo l
 | []=>by rw [szCos,szS]
 | x::l=>by rw [szCos,szS,szCos_eq l]
def spB (sp:Nat→Spec) (n:Nat):Spec:=fun args σ K=>0<n∧sp (n - 1) args σ K
theorem spB_mono {sp:Nat→Spec} (h:∀n,SpecMono (sp n)) (n:Nat):SpecMono (spB sp n):=fun args σ K K' hK g=>⟨g.1,h _ _ _ _ _ hK g.2⟩
theorem pcalls_none {g:FuncId} {sp:Nat→Spec} (h:Enters (GG w0 nG).P g):PCalls (GG w0 nG) g (spB sp 0):=⟨h,fun args σ K hs=>absurd hs.1 (by omega)⟩
theorem pcalls_less {g:FuncId} {sp:Nat→Spec} {n:Nat} (h:PCalls (GG w0 nG) g (sp n)):PCalls (GG w0 nG) g (spB sp (n+1)):=h.weaken1 fun args σ K hs=>hs.2
end Go.PM.Lex
end

section
set_option maxRecDepth 100000
set_option maxHeartbeats 4000000
namespace Go.PM.Lex
open Go.Proofs
variable {w0:World} {nG:Nat}
end Go.PM.Lex
end

section
set_option maxRecDepth 100000
set_option maxHeartbeats 4000000
namespace Go.PM.Lex
open Go.Proofs
variable {w0:World} {nG:Nat}
end Go.PM.Lex
end

section
set_option maxRecDepth 100000
namespace Go.PM.Lex
theorem dN_take {n len b0 b1 b2 b3 b1' b2' b3':Nat} (h1:1<n→b1'=b1) (h2:2<n→b2'=b2) (h3:3<n→b3'=b3) (hn:1≤n) (hd:(Lib.decodeN len b0 b1 b2 b3).2≤n) :
  Lib.decodeN (min n len) b0 b1' b2' b3'=Lib.decodeN len b0 b1 b2 b3:=by
 rcases Lib.decodeN_shape len b0 b1 b2 b3 with ⟨c,e⟩ | ⟨c1,c2,c3,cv,e⟩ | ⟨c1,c2,c3,c4,cv,cs,e⟩ | ⟨c1,c2,c3,c4,c5,cv,cw,e⟩ | e
 ·rw [e];unfold Lib.decodeN;rw [if_pos c]
 ·rw [e] at hd ⊢
  simp only at hd
  rw [h1 (by omega)]
  unfold Lib.decodeN
  rw [if_neg (by omega),if_pos ⟨c1,by omega,c3⟩,if_pos (by omega)]
 ·rw [e] at hd ⊢
  simp only at hd
  rw [h1 (by omega),h2 (by omega)]
  unfold Lib.decodeN
  rw [if_neg (by omega),if_neg (by omega),if_pos ⟨c1,⟨by omega,c3⟩,by omega,c4⟩,if_pos ⟨by omega,by omega⟩]
 ·rw [e] at hd ⊢
  simp only at hd
  rw [h1 (by omega),h2 (by omega),h3 (by omega)]
  unfold Lib.decodeN
  rw [if_neg (by omega),if_neg (by omega),if_neg (by omega),if_pos ⟨c1,⟨by omega,c3⟩,⟨by omega,c4⟩,by omega,c5⟩,if_pos ⟨by omega,by omega⟩]
 ·rw [e]
  rcases Lib.decodeN_shape (min n len) b0 b1' b2' b3' with ⟨c,e'⟩ | ⟨c1,c2,c3,cv,e'⟩ | ⟨c1,c2,c3,c4,cv,cs,e'⟩ | ⟨c1,c2,c3,c4,c5,cv,cw,e'⟩ | e'
  ·unfold Lib.decodeN at e;rw [if_pos c] at e;rw [e',← e]
  ·rw [h1 (by omega)] at c3 cv
   unfold Lib.decodeN at e
   rw [if_neg (by omega),if_pos ⟨c1,by omega,c3⟩,if_pos (by omega)] at e
   simp at e
  ·rw [h1 (by omega),h2 (by omega)] at *
   unfold Lib.decodeN at e
   rw [if_neg (by omega),if_neg (by omega),if_pos ⟨c1,⟨by omega,c3⟩,by omega,c4⟩,if_pos ⟨by omega,by omega⟩] at e
   simp at e
  ·rw [h1 (by omega),h2 (by omega),h3 (by omega)] at *
   unfold Lib.decodeN at e
   rw [if_neg (by omega),if_neg (by omega),if_neg (by omega),if_pos ⟨c1,⟨by omega,c3⟩,⟨by omega,c4⟩,by omega,c5⟩,if_pos ⟨by omega,by omega⟩] at e
   simp at e
  ·exact e'
theorem getD_take (r:Bs) (n k:Nat):(r.take n).getD k 0=if k<n then r.getD k 0 else 0:=by
 simp only [List.getD_eq_getElem?_getD,List.getElem?_take]
 split <;> simp
theorem dec_take {r:Bs} {n:Nat} (hn:1≤n) (hd:(Lib.decodeL r).2≤n):Lib.decodeL (r.take n)=Lib.decodeL r:=by
 rw [Lib.decodeL_N] at hd ⊢
 rw [Lib.decodeL_N,List.length_take,getD_take,getD_take,getD_take,getD_take,if_pos (by omega)]
 exact dN_take (fun h=>by rw [if_pos h]) (fun h=>by rw [if_pos h]) (fun h=>by rw [if_pos h]) hn hd
theorem nameGo_nil (f:Nat):nameGo f []=0:=by
 cases f with
 | zero=>rfl
 | succ f=>exact nameGo_end (by simp [pk_nil]) (by simp [pk_nil];decide) (by simp [pk_nil];decide)
theorem letter_ne {c:Int} (h:isLetter c=true∨isDigit c=true):c≠-1:=fun h1=>by rw [h1,isLetter_neg,isDigit_neg] at h;simp at h
end Go.PM.Lex
end

section
set_option maxRecDepth 100000
namespace Go.PM.Lex
abbrev ws:Bs:=[32,9,13,10]
theorem pre_nil {a b:UInt8}:Lib.hasPrefix [] [a,b]=false:=rfl
theorem blankGo_nil (f:Nat):blankGo (f+1) []=(true,0):=by simp [blankGo,Lib.trimLeftS,pre_nil]
theorem blankGo_end {f:Nat} {r:Bs} (h1:Lib.hasPrefix (Lib.trimLeftS r ws) [47,47]=false) (h2:Lib.hasPrefix (Lib.trimLeftS r ws) [47,42]=false):blankGo (f+1) r=(true,r.length - (Lib.trimLeftS r ws).length):=by
 simp only [blankGo,h1,h2,Bool.false_eq_true,if_false]
theorem blankGo_line {f:Nat} {r:Bs} (h1:Lib.hasPrefix (Lib.trimLeftS r ws) [47,47]=true) (n:Nat) (hn:n=if Lib.indexByte (Lib.trimLeftS r ws) 10<0 then (Lib.trimLeftS r ws).length else (Lib.indexByte (Lib.trimLeftS r ws) 10).toNat) :
  blankGo (f+1) r=((blankGo f ((Lib.trimLeftS r ws).drop n)).1,r.length - (Lib.trimLeftS r ws).length+n+(blankGo f ((Lib.trimLeftS r ws).drop n)).2):=by
 subst hn
 simp only [blankGo,h1,if_true]
theorem blankGo_open {f:Nat} {r:Bs} (h1:Lib.hasPrefix (Lib.trimLeftS r ws) [47,47]=false) (h2:Lib.hasPrefix (Lib.trimLeftS r ws) [47,42]=true) (h3:Lib.index ((Lib.trimLeftS r ws).drop 2) [42,47]<0):blankGo (f+1) r=(false,r.length - (Lib.trimLeftS r ws).length):=by
 simp only [blankGo,h1,h2,h3,if_true,Bool.false_eq_true,if_false]
theorem blankGo_rem {f:Nat} {r:Bs} (h1:Lib.hasPrefix (Lib.trimLeftS r ws) [47,47]=false) (h2:Lib.hasPrefix (Lib.trimLeftS r ws) [47,42]=true) (i:Nat) (h3:Lib.index ((Lib.trimLeftS r ws).drop 2) [42,47]=i) :
  blankGo (f+1) r=((blankGo f ((Lib.trimLeftS r ws).drop (i+4))).1,r.length - (Lib.trimLeftS r ws).length+(i+4)+(blankGo f ((Lib.trimLeftS r ws).drop (i+4))).2):=by
 simp only [blankGo,h1,h2,h3,if_true,Bool.false_eq_true,if_false]
 rw [if_neg (by omega)]
 simp
theorem trim_le (r:Bs):(Lib.trimLeftS r ws).length≤r.length:=(dropWhile_eq (ws.contains ·) r).2
theorem blankF_nil:blankF []=(true,0):=blankGo_nil 0
end Go.PM.Lex
end

section
set_option maxRecDepth 100000
namespace Go.PM.Lex
theorem dN_app {len len' b0 b1 b2 b3 b1' b2' b3':Nat} (hl:len≤len') (h1:1<len→b1'=b1) (h2:2<len→b2'=b2) (h3:3<len→b3'=b3) (hv:Lib.decodeN len b0 b1 b2 b3≠(65533,1)) :
  Lib.decodeN len' b0 b1' b2' b3'=Lib.decodeN len b0 b1 b2 b3:=by
 rcases Lib.decodeN_shape len b0 b1 b2 b3 with ⟨c,e⟩ | ⟨c1,c2,c3,cv,e⟩ | ⟨c1,c2,c3,c4,cv,cs,e⟩ | ⟨c1,c2,c3,c4,c5,cv,cw,e⟩ | e
 ·rw [e];unfold Lib.decodeN;rw [if_pos c]
 ·rw [e,h1 (by omega)]
  unfold Lib.decodeN
  rw [if_neg (by omega),if_pos ⟨c1,by omega,c3⟩,if_pos (by omega)]
 ·rw [e,h1 (by omega),h2 (by omega)]
  unfold Lib.decodeN
  rw [if_neg (by omega),if_neg (by omega),if_pos ⟨c1,⟨by omega,c3⟩,by omega,c4⟩,if_pos ⟨by omega,by omega⟩]
 ·rw [e,h1 (by omega),h2 (by omega),h3 (by omega)]
  unfold Lib.decodeN
  rw [if_neg (by omega),if_neg (by omega),if_neg (by omega),if_pos ⟨c1,⟨by omega,c3⟩,⟨by omega,c4⟩,by omega,c5⟩,if_pos ⟨by omega,by omega⟩]
 ·exact absurd e hv
theorem getD_app (x y:Bs) (k:Nat) (h:k<x.length):(x++y).getD k 0=x.getD k 0:=by
 simp only [List.getD_eq_getElem?_getD];rw [List.getElem?_append_left h]
theorem dec_app {x y:Bs} (hx:x≠[]) (hv:Lib.decodeL x≠(65533,1)):Lib.decodeL (x++y)=Lib.decodeL x:=by
 have hpos:=List.length_pos_iff.2 hx
 rw [Lib.decodeL_N] at hv ⊢
 rw [Lib.decodeL_N,getD_app x y 0 hpos]
 exact dN_app (by rw [List.length_append];omega) (fun h=>by rw [getD_app x y 1 h]) (fun h=>by rw [getD_app x y 2 h]) (fun h=>by rw [getD_app x y 3 h]) hv
theorem pk_app {x y:Bs} (h:(pk x).1≠-1):pk (x++y)=pk x:=by
 have hx:=(pk_le x h).2.2
 unfold pk at h ⊢
 split at h
 ·exact absurd rfl h
 ·rename_i g
  rw [if_neg g]
  simp only [not_or] at g
  have e:=dec_app (y:=y) hx g.2
  rw [e,if_neg (by simp only [not_or];exact ⟨by simp [hx],g.2⟩)]
theorem textGo_ext {y:Bs}:∀(f:Nat) (x:Bs) (esc:Bool) (acc:Bs) (p:Nat) (t:Bs) (l:Nat),textGo f x esc acc p=.ok t l→∀f',x.length<f'→textGo f' (x++y) esc acc p=.ok t l
 | 0,x,esc,acc,p,t,l,h,f',hf=>by simp [textGo] at h
 | f+1,x,esc,acc,p,t,l,h,f',hf=>by
  obtain ⟨g,rfl⟩:∃g,f'=g+1:=⟨f' - 1,by omega⟩
  unfold textGo at h
  split at h
  ·cases h
  ·rename_i hne
   have hd:=Lib.decodeL_le x hne
   have hr:=dec_rng x
   have hne':¬x++y=[]:=by simp [hne]
   have hdr:(x++y).drop (Lib.decodeL x).2=x.drop (Lib.decodeL x).2++y:=List.drop_append_of_le_length hd
   have low:(Lib.decodeL x).1<128→Lib.decodeL (x++y)=Lib.decodeL x:=fun h=>dec_app hne (fun g=>by rw [g] at h;simp at h)
   have rec':∀es ac,textGo f (x.drop (Lib.decodeL x).2) es ac (p+(Lib.decodeL x).2)=.ok t l→textGo g ((x++y).drop (Lib.decodeL x).2) es ac (p+(Lib.decodeL x).2)=.ok t l:=fun es ac h=>by
    rw [hdr];exact textGo_ext f _ _ _ _ _ _ h g (by rw [List.length_drop];omega)
   unfold textGo
   rw [if_neg hne']
   split at h
   ·rename_i he
    rw [if_pos he]
    split at h
    ·cases h
    ·rename_i b hb
     have hlow:(Lib.decodeL x).1<128:=by
      unfold escB at hb
      repeat' split at hb
      all_goals first | omega | cases hb
     rw [low hlow,hb]
     exact rec' _ _ h
   ·rename_i he
    rw [if_neg he]
    split at h
    ·rename_i h34
     rw [low (by omega),if_pos h34];exact h
    ·rename_i h34
     split at h
     ·rename_i h92
      rw [low (by omega),if_neg h34,if_pos h92]
      exact rec' _ _ h
     ·rename_i h92
      split at h
      ·cases h
      ·rename_i h32
       have hv:Lib.decodeL x≠(65533,1):=fun g=>by
        apply h32
        unfold pk;rw [if_pos (.inr g)];decide
       have e:pk (x++y)=pk x:=pk_app (by omega)
       rw [dec_app hne hv,if_neg h34,if_neg h92,e,if_neg h32]
       exact rec' _ _ h
end Go.PM.Lex
end

section
set_option maxRecDepth 100000
namespace Go.PM.Lex
def unesc (c:Nat):Option UInt8:=if c=10 then some 110 else if c=9 then some 116 else if c=34 then some 34 else if c=92 then some 92 else none
def quoGo:Nat→Bs→Bs→Option Bs
 | 0,_,_=>none
 | f+1,r,out=>if r=[] then some out else match unesc (Lib.decodeL r).1 with
  | some b=>quoGo f (r.drop (Lib.decodeL r).2) (out++[92,b])
  | none=>if (Lib.decodeL r).1<32 then none else quoGo f (r.drop (Lib.decodeL r).2) (out++Lib.encodeRune (Lib.decodeL r).1)
def quoteF (s:Bs):Option Bs:=if Lib.validD s=true then (quoGo (s.length+1) s [34]).map (·++[34]) else none
theorem unesc_some {c:Nat} {b:UInt8} (h:unesc c=some b):escB b.toNat=some (UInt8.ofNat c)∧c<128∧b.toNat<128:=by
 unfold unesc at h
 split at h;· rename_i g;cases h;subst g;decide
 split at h;· rename_i g;cases h;subst g;decide
 split at h;· rename_i g;cases h;subst g;decide
 split at h;· rename_i g;cases h;subst g;decide
 cases h
theorem unesc_none {c:Nat} (h:unesc c=none):c≠34∧c≠92:=by
 unfold unesc at h
 split at h;· cases h
 split at h;· cases h
 split at h;· cases h
 split at h;· cases h
 exact ⟨by assumption,by assumption⟩
theorem dec_low (b:UInt8) (z:Bs) (h:b.toNat<128):Lib.decodeL (b::z)=(b.toNat,1):=by
 rw [Lib.decodeL_N];unfold Lib.decodeN;rw [if_pos (by simpa using h)];simp
theorem tg_esc1 (f:Nat) (z acc:Bs) (p:Nat):textGo (f+1) (92::z) false acc p=textGo f z true acc (p+1):=by
 have h:Lib.decodeL (92::z)=(92,1):=dec_low 92 z (by decide)
 simp [textGo,h]
theorem tg_esc2 (f:Nat) (b x:UInt8) (z acc:Bs) (p:Nat) (hb:b.toNat<128) (hx:escB b.toNat=some x):textGo (f+1) (b::z) true acc p=textGo f z false (acc++[x]) (p+1):=by
 have h:=dec_low b z hb
 simp [textGo,h,hx]
theorem quo_text:∀(f:Nat) (r out q:Bs),quoGo f r out=some q→Lib.validGoD f r=true∨Lib.validGoD (f - 1) r=true→r.length<f→∃m,q=out++m∧∀(g:Nat) (acc:Bs) (p:Nat),m.length+1<g→textGo g (m++[34]) false acc p=.ok (acc++r) (p+m.length+1)
 | 0,r,out,q,h,hv,hf=>by simp [quoGo] at h
 | f+1,r,out,q,h,hv,hf=>by
  unfold quoGo at h
  split at h
  ·rename_i hr
   cases h
   refine ⟨[],by simp,fun g acc p hg=>?_⟩
   obtain ⟨g,rfl⟩:∃k,g=k+1:=⟨g - 1,by omega⟩
   simp [textGo,dec_low 34 [] (by decide),hr]
  ·rename_i hr
   have hpos:=List.length_pos_iff.2 hr
   have hd:=Lib.decodeL_le r hr
   have hrg:=dec_rng r
   have hnv:¬((Lib.decodeL r).1=65533∧(Lib.decodeL r).2=1)∧(Lib.validGoD f (r.drop (Lib.decodeL r).2)=true∨Lib.validGoD (f - 1) (r.drop (Lib.decodeL r).2)=true):=by
    rcases hv with hv | hv
    ·unfold Lib.validGoD at hv
     rw [if_neg hr] at hv
     split at hv
     ·cases hv
     ·rename_i g;exact ⟨g,.inl hv⟩
    ·simp only [Nat.add_sub_cancel] at hv
     obtain ⟨f2,rfl⟩:∃k,f=k+1:=⟨f - 1,by omega⟩
     unfold Lib.validGoD at hv
     rw [if_neg hr] at hv
     split at hv
     ·cases hv
     ·rename_i g;exact ⟨g,.inr hv⟩
   have henc:=Lib.encode_decode r hr hnv.1
   have hsplit:r=r.take (Lib.decodeL r).2++r.drop (Lib.decodeL r).2:=(List.take_append_drop _ _).symm
   split at h
   ·rename_i b hb
    obtain ⟨u1,u2,u3⟩:=unesc_some hb
    obtain ⟨m,e1,e2⟩:=quo_text f _ _ _ h hnv.2 (by rw [List.length_drop];omega)
    refine ⟨[92,b]++m,by rw [e1];simp,fun g acc p hg=>?_⟩
    obtain ⟨g,rfl⟩:∃k,g=k+2:=⟨g - 2,by omega⟩
    simp only [List.length_append,List.length_cons,List.length_nil] at hg
    have hone:r.take (Lib.decodeL r).2=[UInt8.ofNat (Lib.decodeL r).1]:=by
     rw [← henc]
     unfold Lib.encodeRune
     rw [Lib.encodeRuneZ_one (by omega) (by omega)]
     simp
    have el:([92,b]++m++[34]:Bs)=92::b::(m++[34]):=by simp
    rw [el,show g+2=(g+1)+1 from rfl,tg_esc1,tg_esc2 _ _ _ _ _ _ u3 u1]
    rw [e2 g _ _ (by omega)]
    rw [hone] at hsplit
    simp only [List.append_assoc,List.length_append,List.length_cons,List.length_nil,TR.ok.injEq]
    refine ⟨?_,by omega⟩
    congr 1
    exact hsplit.symm
   ·rename_i hb
    split at h
    ·cases h
    ·rename_i h32
     obtain ⟨n34,n92⟩:=unesc_none hb
     obtain ⟨m,e1,e2⟩:=quo_text f _ _ _ h hnv.2 (by rw [List.length_drop];omega)
     refine ⟨Lib.encodeRune (Lib.decodeL r).1++m,by rw [e1];simp,fun g acc p hg=>?_⟩
     obtain ⟨g,rfl⟩:∃k,g=k+1:=⟨g - 1,by omega⟩
     rw [henc] at hg ⊢
     have htl:(r.take (Lib.decodeL r).2).length=(Lib.decodeL r).2:=by rw [List.length_take];omega
     have hdt:Lib.decodeL (r.take (Lib.decodeL r).2)=Lib.decodeL r:=dec_take (by omega) (Nat.le_refl _)
     have htn:r.take (Lib.decodeL r).2≠[]:=fun g=>by rw [g] at htl;simp at htl;omega
     have hda:Lib.decodeL (r.take (Lib.decodeL r).2++(m++[34]))=Lib.decodeL r:=by
      rw [dec_app htn (by rw [hdt];intro g;exact hnv.1 ⟨by rw [g],by rw [g]⟩),hdt]
     rw [List.append_assoc]
     simp only [List.length_append] at hg
     unfold textGo
     rw [if_neg (by simp [htn]),if_neg (by simp),hda,if_neg n34,if_neg n92]
     have hpk:¬(pk (r.take (Lib.decodeL r).2++(m++[34]))).1<32:=by
      unfold pk
      rw [hda,if_neg]
      ·simp only;omega
      ·simp only [not_or]
       exact ⟨by simp [htn],fun g=>hnv.1 ⟨by rw [g],by rw [g]⟩⟩
     rw [if_neg hpk,henc]
     have hdrop:(r.take (Lib.decodeL r).2++(m++[34])).drop (Lib.decodeL r).2=m++[34]:=by
      conv=>lhs;arg 1;rw [← htl]
      rw [List.drop_left]
     rw [hdrop,e2 g _ _ (by omega)]
     simp only [List.append_assoc,List.length_append,TR.ok.injEq]
     refine ⟨?_,by omega⟩
     congr 1
     exact hsplit.symm
end Go.PM.Lex
end

section
set_option maxRecDepth 100000
set_option maxHeartbeats 8000000
namespace Go.PM.Lex
open Go.Proofs
variable {w0:World} {nG:Nat}
end Go.PM.Lex
end

section
set_option maxRecDepth 100000
set_option maxHeartbeats 8000000
namespace Go.PM.Lex
open Go.Proofs
variable {w0:World} {nG:Nat}
end Go.PM.Lex
end

section
set_option maxRecDepth 100000
namespace Go.PM.Lex
open Go.Proofs
variable {w0:World} {nG:Nat}
noncomputable def spValid:Spec:=fun args σ K=>match args with
 | [.d (.str s)]=>s.length≤9223372036854775807∧K (.ret (.d (.bool (Lib.validD s)))) σ
 | _=>False
theorem spValid_mono:SpecMono spValid:=fun args σ K K' hK h=>by
 unfold spValid at h ⊢;split at h <;> first | exact ⟨h.1,hK _ _ h.2⟩ | exact h.elim
theorem valid_ok (h1:1<nG) (hT:Lib.Utf8Tabs 0 1 w0):PCalls (GG w0 nG) 149 spValid:=pcalls_lib (enters_of Tryz.func149 (by kernel_rfl) rfl) fun args σ K h e w vs hS ha=>by
 unfold spValid at h
 split at h
 ·rename_i s
  obtain ⟨u,rfl,hu⟩:=args1 ha
  cases hu.dstr
  have hT':Lib.Utf8Tabs 0 1 w:=by
   have g0:=hS.glob 0 (show 0<nG by omega)
   have g1:=hS.glob 1 h1
   obtain ⟨a,b⟩:=hT
   refine ⟨fun c hc=>?_,fun i hi=>?_⟩
   ·have:=a c hc
    simpa [World.cell?,g0] using this
   ·have:=b i hi
    simpa [World.cell?,g1] using this
  exact ⟨_,h.2,_,fun _ _=>.mkbool,(Any.utf8_ValidString Tryz.laysValid ⟨s.toArray⟩ w (show s.toArray.size≤_ by simpa using h.1) hT').mono fun en w' ⟨h1,h2⟩=>⟨h1,Grows.of_below h2⟩⟩
 ·exact h.elim
end Go.PM.Lex
end

section
set_option maxRecDepth 100000
set_option maxHeartbeats 8000000
namespace Go.PM.Lex
open Go.Proofs
variable {w0:World} {nG:Nat}
theorem une_none {n:Nat} (h:unesc n=none):idxR [10,9,34,92] n=-1:=by
 unfold unesc at h
 split at h;· cases h
 split at h;· cases h
 split at h;· cases h
 split at h;· cases h
 rename_i h1 h2 h3 h4
 unfold idxR
 split
 ·rename_i h5
  have hc:([10,9,34,92]:Bs).contains ((n:Int).toNat.toUInt8)=false:=by
   have b1:=byte_ne (n:=n) (k:=10) (by omega) (by omega) h1
   have b2:=byte_ne (n:=n) (k:=9) (by omega) (by omega) h2
   have b3:=byte_ne (n:=n) (k:=34) (by omega) (by omega) h3
   have b4:=byte_ne (n:=n) (k:=92) (by omega) (by omega) h4
   simp only [List.contains_cons,List.contains_nil,Bool.or_false,Bool.or_eq_false_iff,beq_eq_false_iff_ne]
   exact ⟨b1,b2,b3,b4⟩
  rw [Lib.contains_iff_indexByte,decide_eq_false_iff_not] at hc
  have:=Lib.indexByte_ge [10,9,34,92] ((n:Int).toNat.toUInt8)
  omega
 ·rfl
theorem une_some {n:Nat} {b:UInt8} (h:unesc n=some b):(idxR [10,9,34,92] n=0∧b=110)∨(idxR [10,9,34,92] n=1∧b=116)∨(idxR [10,9,34,92] n=2∧b=34)∨(idxR [10,9,34,92] n=3∧b=92):=by
 unfold unesc at h
 split at h;· cases h;rename_i h;subst h;exact .inl ⟨by decide,rfl⟩
 split at h;· cases h;rename_i h;subst h;exact .inr (.inl ⟨by decide,rfl⟩)
 split at h;· cases h;rename_i h;subst h;exact .inr (.inr (.inl ⟨by decide,rfl⟩))
 split at h;· cases h;rename_i h;subst h;exact .inr (.inr (.inr ⟨by decide,rfl⟩))
 cases h
noncomputable def spQuote:Spec:=fun args σ K=>match args,σ with
 | [.d (.str s)],⟨[],[],0⟩=>s.length<4294967281∧(quoteF s=none→K (.ret (.tuple [.d (.str []),.d (.bool false)])) ⟨[],[],0⟩)∧(∀q,quoteF s=some q→K (.ret (.tuple [.d (.str q),.d (.bool true)])) ⟨[],[],0⟩)
 | _,_=>False
theorem spQuote_mono:SpecMono spQuote:=fun args σ K K' hK h=>by
 unfold spQuote at h ⊢
 split at h
 ·exact ⟨h.1,fun g=>hK _ _ (h.2.1 g),fun q g=>hK _ _ (h.2.2 q g)⟩
 ·exact h.elim
def muI1 (B:Nat):List PV→St→Nat:=fun _ σ=>match σ.bx with | [_,.iter _ p]=>B - p | _=>0
noncomputable def tblQuote:Tbl:=[(149,spValid),(150,spWriteByte),(151,spIndexRune),(152,spWriteRune),(31,spString)]
theorem quote_ok (ht:TblOK (GG w0 nG) tblQuote):PCalls (GG w0 nG) 73 spQuote:=by
 refine pcalls tab_ok mixed ht Tryz.func73 rfl (by kernel_rfl) (by kernel_rfl) ?_
 intro args σ K h
 unfold spQuote at h
 split at h
 ·rename_i s
  obtain ⟨hs,hbad,hgood⟩:=h
  refine ⟨loopsOf [(6,⟨[],[4,13],fun vs σ=>vs=[]∧∃(out:Bs) (i f:Nat),σ=⟨[.cells 82 [.ptr 0 0,.sl 0 5 (bytesR out)],.iter s i],[0],1⟩∧(i≤s.length∧s.length<i+f∧out.length≤4 * i+1)∧quoGo f (s.drop i) out=quoGo (s.length+1) s [34],muI1 s.length⟩)],0,false,by simp,Nat.le_of_ble_eq_true rfl,?_⟩
  conv=>whnf
  refine ⟨by omega,?_⟩
  conv=>whnf
  refine CondP.intro (fun h1=>?_) (fun h1=>?_)
  ·have hv:Lib.validD s=false:=by simpa using h1
   conv=>whnf
   exact hbad (by unfold quoteF;rw [if_neg (by rw [hv];simp)])
  ·have hv:Lib.validD s=true:=by simpa using h1
   have hq:quoteF s=(quoGo (s.length+1) s [34]).map (·++[34]):=by unfold quoteF;rw [if_pos hv]
   conv=>whnf
   refine ⟨⟨.inl rfl,rfl,rfl,by simp,by simp⟩,?_⟩
   conv=>whnf
   refine ⟨⟨rfl,[34],0,s.length+1,rfl,⟨by omega,by omega,by simp⟩,by rw [List.drop_zero]⟩,?_⟩
   intro vs σ1 hI
   obtain ⟨rfl,out,i,f,rfl,⟨hi1,hi2,hol⟩,hgo⟩:=hI
   obtain ⟨f,rfl⟩:∃g,f=g+1:=⟨f - 1,by omega⟩
   have hb1:=bytesR_one out
   have hbl:=bytesR_len out
   have hdec:=dec_eq s i
   have hdr:=dec_rng (s.drop i)
   have hdl:=Lib.decodeL_le (s.drop i)
   rw [List.length_drop] at hdl
   conv=>whnf
   refine CondP.dec (fun h2=>?_) (fun h2=>?_)
   ·have hne:s.drop i≠[]:=fun g=>by have:=congrArg List.length g;rw [List.length_drop] at this;simp at this;omega
    have g3:i+(decodeL s i).2≤s.length:=by rw [hdec];have:=hdl hne;omega
    have hdr':1≤(decodeL s i).2:=by rw [hdec];omega
    conv=>whnf
    refine ⟨⟨.inr rfl,by omega,by rw [hdec];omega⟩,?_⟩
    conv=>whnf
    generalize hk:idxR _ _=k
    have hk':idxR [10,9,34,92] ((Lib.decodeL (s.drop i)).1:Int)=k:=by rw [← hdec];exact hk
    cases hE:unesc (Lib.decodeL (s.drop i)).1 with
    | some b =>
     have g1:quoGo f (s.drop (i+(decodeL s i).2)) (out++[92,b])=quoGo (s.length+1) s [34]:=by rw [← hgo,hdec];simp [quoGo,hne,hE,List.drop_drop]
     rcases une_some hE with ⟨e1,rfl⟩ | ⟨e1,rfl⟩ | ⟨e1,rfl⟩ | ⟨e1,rfl⟩
     all_goals (rw [e1] at hk';subst hk')
     all_goals (conv=>whnf)
     all_goals (refine ⟨⟨.inr rfl,rfl,rfl,hb1,by omega⟩,?_⟩)
     all_goals (conv=>whnf)
     all_goals (refine ⟨by omega,by first | omega | (simp;done) | (simp;omega),?_⟩)
     all_goals (conv=>whnf)
     all_goals (refine ⟨⟨.inr rfl,rfl,rfl,fun r hr=>by (rcases List.mem_append.1 hr with hr | hr;exact hb1 r hr;simp at hr;subst hr;rfl),by rw [List.length_append];simp;omega⟩,?_⟩)
     all_goals (conv=>whnf)
     all_goals (refine ⟨⟨rfl,_,_,f,?_,⟨g3,by omega,?_⟩,g1⟩,?_⟩)
     all_goals (first | (rw [bytesR_app,List.append_assoc];rfl) | (rw [List.length_append];simp;omega) | exact (show s.length - (i+(decodeL s i).2)<s.length - i by omega))
    | none =>
     rw [une_none hE] at hk'
     subst hk'
     conv=>whnf
     refine CondP.dec (fun h5=>?_) (fun h5=>?_)
     ·have h5':(Lib.decodeL (s.drop i)).1<32:=by rw [hdec] at h5;omega
      conv=>whnf
      refine hbad ?_
      rw [hq,← hgo]
      simp [quoGo,hne,hE,h5']
     ·have h5':¬(Lib.decodeL (s.drop i)).1<32:=by rw [hdec] at h5;omega
      have g1:quoGo f (s.drop (i+(decodeL s i).2)) (out++Lib.encodeRune ((decodeL s i).1:Int))=quoGo (s.length+1) s [34]:=by rw [← hgo,hdec];simp [quoGo,hne,hE,h5',List.drop_drop]
      have hen:=enc_len ((decodeL s i).1:Int)
      conv=>whnf
      refine ⟨⟨.inr rfl,rfl,rfl,hb1,by omega,by omega,by rw [hdec];omega⟩,?_⟩
      conv=>whnf
      refine ⟨⟨rfl,_,_,f,?_,⟨g3,by omega,?_⟩,g1⟩,?_⟩
      ·rw [bytesR_app];rfl
      ·rw [List.length_append];omega
      ·exact (show s.length - (i+(decodeL s i).2)<s.length - i by omega)
   ·have hnil:s.drop i=[]:=List.drop_eq_nil_of_le (by omega)
    have g1:quoGo (s.length+1) s [34]=some out:=by rw [← hgo];simp [quoGo,hnil]
    conv=>whnf
    refine ⟨⟨.inr rfl,rfl,rfl,hb1,by omega⟩,?_⟩
    conv=>whnf
    refine ⟨out++[34],⟨by rw [bytesR_snoc];rfl,rfl,rfl,.inr rfl,by rw [List.length_append];simp;omega⟩,?_⟩
    conv=>whnf
    exact hgood _ (by rw [hq,g1];rfl)
 ·exact h.elim
end Go.PM.Lex
end

section
set_option maxRecDepth 100000
set_option maxHeartbeats 8000000
namespace Go.PM.Lex
open Go.Proofs
variable {w0:World} {nG:Nat}
end Go.PM.Lex
end

section
set_option maxRecDepth 100000
set_option maxHeartbeats 8000000
namespace Go.PM.Lex
open Go.Proofs
variable {w0:World} {nG:Nat}
def nameB (s:Bs):Bool:=isLetter (pk s).1 && decide (nameF s=s.length)
noncomputable def spNameB:Spec:=fun args σ K=>match args,σ with
 | [.d (.str s)],⟨[],[],0⟩=>s.length<4294967281∧K (.ret (.d (.bool (nameB s)))) ⟨[],[],0⟩
 | _,_=>False
theorem spNameB_mono:SpecMono spNameB:=fun args σ K K' hK h=>by
 unfold spNameB at h ⊢;split at h <;> first | exact ⟨h.1,hK _ _ h.2⟩ | exact h.elim
noncomputable def tblNm:Tbl:=[(209,spPeek),(210,spLetter),(211,spName)]
theorem nm_ok (ht:TblOK (GG w0 nG) tblNm):PCalls (GG w0 nG) 147 spNameB:=by
 refine pcalls tab_ok mixed ht Tryz.func147 rfl (by kernel_rfl) (by kernel_rfl) ?_
 intro args σ K h
 unfold spNameB at h
 split at h
 ·rename_i s
  obtain ⟨hs,h⟩:=h
  refine ⟨loopsOf [],0,false,by decide,Nat.le_of_ble_eq_true rfl,?_⟩
  have hpr:=pk_rng (s.drop (Int.toNat 0))
  have hd:s.drop (Int.toNat 0)=s:=List.drop_zero
  conv=>whnf
  refine ⟨⟨by omega,by omega⟩,?_⟩
  conv=>whnf
  refine ⟨⟨hpr.1,by omega⟩,?_⟩
  conv=>whnf
  refine CondP.intro (fun h1=>?_) (fun h1=>?_)
  ·have h1':isLetter (pk s).1=true:=by rw [← hd];exact h1
   conv=>whnf
   refine ⟨⟨by omega,by omega,hs⟩,?_⟩
   conv=>whnf
   refine K_bool h ?_
   rw [nameB,h1',Bool.true_and,decide_eq_decide,hd]
   omega
  ·have h1':isLetter (pk s).1=false:=by rw [← hd];exact h1
   conv=>whnf
   rw [nameB,h1'] at h
   exact h
 ·exact h.elim
end Go.PM.Lex
end

section
namespace Go.PM.Lex
def namB (s:Bs):Bool:=nameB s && (!decide (s=[95]) && !keptF s)
def lineF (op:Nat):Nat:=if op=16 then 0 else if op=17 then 0 else if op=15 then 1 else if op=18 then 2 else if op=19 then 2 else if op=10 then 3 else if op=11 then 3 else if op=12 then 4 else if op=13 then 4 else if op=14 then 4
 else if op=8 then 5 else if op=9 then 5 else if op=20 then 6 else if op=21 then 6 else if op=22 then 6 else if op=23 then 6 else if op=24 then 6 else if op=25 then 6 else if op=6∨op=7 then 6 else if op=1∨op=2∨op=3∨op=4∨op=5 then 6 else 0
def wordF (op:Nat):Bs:=if op=16 then [98,111,114] else if op=17 then [98,120,111,114] else if op=15 then [98,97,110,100] else if op=18 then [115,104,108] else if op=19 then [115,104,114] else if op=10 then [43] else if op=11 then [45] else if op=12 then [42] else if op=13 then [47] else if op=14 then [37]
 else if op=8 then [45] else if op=9 then [126] else if op=20 then [99,97,116] else if op=21 then [115,116,114,108,101,110] else if op=22 then [115,117,98,115,116,114] else if op=23 then [99,111,100,101] else if op=24 then [115,116,114] else if op=25 then [110,117,109] else []
def argsN (op:Nat):Int:=if op=16 then 2 else if op=17 then 2 else if op=15 then 2 else if op=18 then 2 else if op=19 then 2 else if op=10 then 2 else if op=11 then 2 else if op=12 then 2 else if op=13 then 2 else if op=14 then 2
 else if op=8 then 1 else if op=9 then 1 else if op=20 then 2 else if op=21 then 1 else if op=22 then 3 else if op=23 then 1 else if op=24 then 1 else if op=25 then 1 else if op=6∨op=7 then -1 else if op=1∨op=2∨op=3∨op=4∨op=5 then 0 else -2
def textB (op:Nat) (text:Bs):Bool:=if op=1∨op=7 then namB text else if op=4 then (quoteF text).isSome else decide (text=[])
mutual
def mayE:Ex→Bool
 | .mk op text n args _=>decide (-2<argsN op) && ((decide (argsN op<0) || decide ((args.length:Int)=argsN op)) && ((decide (n=0) || decide (op=3)) && (textB op text && mayEs args)))
def mayEs:List Ex→Bool
 | []=>true
 | e::l=>mayE e && mayEs l
end
theorem mayEs_eq (l:List Ex):mayEs l=l.all mayE:=by induction l with | nil=>rfl | cons x l ih=>simp [mayEs,ih]
def litB (op:Nat) (rel:Bs) (args body:Nat):Bool :=
 if op=1∨op=2 then namB rel && !decide (0<body)
 else if 3≤op∧op≤8 then decide (rel=[]) && (decide (args=2) && !decide (0<body))
 else if op=9 then decide (rel=[]) && (decide (args=1) && decide (0<body))
 else if 9<op∧op≤12 then decide (rel=[]) && (decide (args=2) && decide (0<body)) else false
mutual
def mayL:Li→Bool
 | .mk op rel args body _=>litB op rel args.length body.length && (mayEs args && mayLs body)
def mayLs:List Li→Bool
 | []=>true
 | e::l=>mayL e && mayLs l
end
def mayRu (r:Ru):Bool:=namB r.head && (r.args.all mayE && r.body.all mayL)
def mayFi (f:Fi):Bool:=namB f.name && namB f.typ
def mayCa (c:Ca):Bool:=namB c.name && c.fields.all mayFi
def typB (t:Ty):Bool:=if t.kind=1 then namB t.base && (decide (t.fields.length=0) && decide (t.cases.length=0)) else if t.kind=2 then decide (t.base=[]) && decide (t.cases.length=0)
 else if t.kind=3 then decide (t.base=[]) && (decide (t.fields.length=0) && !decide (t.cases.length=0)) else false
def mayTy (t:Ty):Bool:=typB t && (namB t.name && (t.fields.all mayFi && t.cases.all mayCa))
def mayRe (d:Re):Bool:=namB d.name && d.fields.all mayFi
def mayIn (i:Ini):Bool:=namB i.name && (namB i.comp && i.types.all namB)
def mayOv (o:Ov):Bool:=namB o.rel
mutual
def mayU:Un→Bool
 | .mk tys rels rules comps inits overs=>tys.all mayTy && (rels.all mayRe && (rules.all mayRu && (mayCos comps && (inits.all mayIn && overs.all mayOv))))
def mayCo:Co→Bool
 | .mk nm ps base tys u _=>namB nm && (ps.all namB && (tys.all namB && (((decide (base=[]) && decide (tys.length=0)) || namB base) && mayU u)))
def mayCos:List Co→Bool
 | []=>true
 | c::l=>mayCo c && mayCos l
end
def digC (d:Nat):UInt8:=if d<10 then UInt8.ofNat (48+d) else UInt8.ofNat (87+d)
def numGo (base:Nat):Nat→Nat→Bs
 | 0,_=>[]
 | f+1,n=>if n<base then [digC n] else numGo base f (n / base)++[digC (n % base)]
def baseT (base n:Nat):Bs:=numGo base (n+1) n
def numT (n:Int):Bs:=if n<0 then [48,120]++baseT 16 (n+18446744073709551616).toNat else baseT 10 n.toNat
def quoT (s:Bs):Bs:=(quoteF s).getD []
def commas (sep:Bs):List Bs→Bs
 | []=>[]
 | [x]=>x
 | x::l=>x++(sep++commas sep l)
def cmm:Bs:=[44,32]
def opE:Ex→Nat | .mk op _ _ _ _=>op
def parP (want:Nat) (p:Nat×Bs):Bs:=if p.1<want then [40]++(p.2++[41]) else p.2
def exA (w1 w2:Nat) (sep:Bs):List (Nat×Bs)→Bs
 | []=>[]
 | [a]=>parP w1 a
 | a::b::_=>parP w1 a++(sep++parP w2 b)
def exN (op:Nat) (text:Bs) (n:Int) (ps:List (Nat×Bs)):Bs :=
 if lineF op<5 then exA (lineF op) (lineF op+1) ([32]++(wordF op++[32])) ps
 else if lineF op=5 then wordF op++exA 5 5 [] ps
 else if wordF op≠[] then wordF op++([40]++(commas cmm (ps.map Prod.snd)++[41]))
 else if op=6 then [91]++(commas cmm (ps.map Prod.snd)++[93])
 else if op=7 then [36]++(text++(if ps.length=0 then [] else [40]++(commas cmm (ps.map Prod.snd)++[41])))
 else if op=3 then numT n
 else if op=4 then quoT text
 else if op=5 then [110,105,108]
 else if op=2 then [95]
 else text
mutual
def exT:Ex→Bs
 | .mk op text n args _=>exN op text n (exPs args)
def exPs:List Ex→List (Nat×Bs)
 | []=>[]
 | e::l=>(lineF (opE e),exT e)::exPs l
end
theorem exPs_eq (l:List Ex):exPs l=l.map fun e=>(lineF (opE e),exT e):=by induction l with | nil=>rfl | cons x l ih=>simp [exPs,ih]
theorem exPs_len (l:List Ex):(exPs l).length=l.length:=by rw [exPs_eq,List.length_map]
def exW (want:Nat) (e:Ex):Bs:=parP want (lineF (opE e),exT e)
def exTs (l:List Ex):List Bs:=l.map exT
theorem exPs_snd (l:List Ex):(exPs l).map Prod.snd=exTs l:=by rw [exPs_eq,List.map_map];rfl
def argT (fr fin:Bs) (l:List Ex):Bs:=fr++(commas cmm (exTs l)++fin)
def relSg (op:Nat):Bs:=if op=3 then [32,61,32] else if op=4 then [32,33,61,32] else if op=5 then [32,60,32] else if op=6 then [32,60,61,32] else if op=7 then [32,62,32] else [32,62,61,32]
def aggSg (op:Nat):Bs:=if op=9 then [99,111,117,110,116] else if op=10 then [115,117,109] else if op=11 then [109,105,110] else [109,97,120]
def aggT (l:List Ex):Bs:=(l.map fun e=>[32]++exT e).flatten
def fstT:List Ex→Bs
 | []=>[]
 | e::_=>exT e
mutual
def liT:Li→Bs
 | .mk op rel args body _ =>
  if op=2 then [33]++(rel++argT [40] [41] args)
  else if op=1 then rel++argT [40] [41] args
  else if op≤8 then fstT args++(relSg op++fstT args.tail)
  else fstT args++([32,61,32]++(aggSg op++(aggT args.tail++([32,58,32,123,32]++(commas cmm (liTs body)++[32,125])))))
def liTs:List Li→List Bs
 | []=>[]
 | e::l=>liT e::liTs l
end
def ruT (r:Ru):Bs:=r.head++(argT [40] [41] r.args++((if 0<r.body.length then [32,58,45,32]++commas cmm (liTs r.body) else [])++[46]))
def fiT (f:Fi):Bs:=f.name++([58,32]++f.typ)
def fisT (fr:Bs) (l:List Fi) (fin:Bs):Bs:=fr++(commas cmm (l.map fiT)++fin)
def angT (l:List Bs):Bs:=if l.length=0 then [] else [60]++(commas cmm l++[62])
def caT (c:Ca):Bs:=fisT (c.name++[32,123]) c.fields [125]
def tyT (t:Ty):Bs:=[116,121,112,101,32]++(t.name++((if t.kind=1 then [32,60,58,32]++t.base else if t.kind=2 then fisT [32,61,32,91] t.fields [93] else [32,61,32]++commas [32,124,32] (t.cases.map caT))++[10]))
def reT (d:Re):Bs:=fisT ([100,101,99,108,32]++(d.name++[40])) d.fields [41]++((if d.inn then [32,105,110,112,117,116] else [])++((if d.out then [32,111,117,116,112,117,116] else [])++((if d.inl then [32,105,110,108,105,110,101] else [])++[10])))
def inT (i:Ini):Bs:=[105,110,105,116,32]++(i.name++([32,61,32]++(i.comp++(angT i.types++[10]))))
def ovT (o:Ov):Bs:=[111,118,101,114,114,105,100,101,32]++(o.rel++[10])
mutual
def unT:Un→Bs
 | .mk tys rels rules comps inits overs=>(tys.map tyT).flatten++((rels.map reT).flatten++((coTs comps).flatten++((inits.map inT).flatten++((overs.map ovT).flatten++(rules.map fun r=>ruT r++[10]).flatten))))
def coT:Co→Bs
 | .mk nm ps base tys u _=>[99,111,109,112,32]++(nm++(angT ps++((if base=[] then [] else [32,58,32]++(base++angT tys))++([32,123,10]++(unT u++[125,10])))))
def coTs:List Co→List Bs
 | []=>[]
 | c::l=>coT c::coTs l
end
end Go.PM.Lex
end

section
set_option maxRecDepth 100000
set_option maxHeartbeats 4000000
namespace Go.PM.Lex
open Go.Proofs
variable {w0:World} {nG:Nat}
mutual
def wE:Ex→Nat
 | .mk _ t _ args _=>1+t.length+wEs args
def wEs:List Ex→Nat
 | []=>0
 | x::l=>1+wE x+wEs l
end
theorem wEs_eq:∀(l:List Ex),wEs l=szS wE l
 | []=>by rw [wEs,szS]
 | x::l=>by rw [wEs,szS,wEs_eq l]
mutual
def wL:Li→Nat
 | .mk _ r a b _=>1+r.length+szS wE a+wLs b
def wLs:List Li→Nat
 | []=>0
 | x::l=>1+wL x+wLs l
end
theorem wLs_eq:∀(l:List Li),wLs l=szS wL l
 | []=>by rw [wLs,szS]
 | x::l=>by rw [wLs,szS,wLs_eq l]
def wRu (r:Ru):Nat:=1+r.head.length+szS wE r.args+szS wL r.body
def wFi (f:Fi):Nat:=1+f.name.length+f.typ.length
def wCa (c:Ca):Nat:=1+c.name.length+szS wFi c.fields
def wTy (t:Ty):Nat:=1+t.name.length+t.base.length+szS wFi t.fields+szS wCa t.cases
def wRe (d:Re):Nat:=1+d.name.length+szS wFi d.fields
def wBs (s:Bs):Nat:=1+s.length
def wIn (i:Ini):Nat:=1+i.name.length+i.comp.length+szS wBs i.types
def wOv (o:Ov):Nat:=1+o.rel.length
mutual
def wUn:Un→Nat
 | .mk a1 a2 a3 a4 a5 a6=>1+szS wTy a1+szS wRe a2+szS wRu a3+wCos a4+szS wIn a5+szS wOv a6
def wCo:Co→Nat
 | .mk n p b t u _=>1+n.length+szS wBs p+b.length+szS wBs t+wUn u
def wCos:List Co→Nat
 | []=>0
 | x::l=>1+wCo x+wCos l
end
theorem wCos_eq:∀(l:List Co),wCos l=szS wCo l
 | []=>by rw [wCos,szS]
 | x::l=>by rw [wCos,szS,wCos_eq l]
abbrev aggV {α:Type} (enc:Pl→α→List D):Pl→α→PV:=fun pl x=>.agg ((enc pl x).map .d)
abbrev strV:Pl→Bs→PV:=fun _ s=>.d (.str s)
noncomputable def spHo {α:Type} (val:Pl→α→PV) (p:α→Bool) (w:α→Nat) (n:Nat):Spec:=fun args σ K=>match args,σ with
 | [v],⟨[],[],0⟩=>∃pl x,v=val pl x∧(w x≤n∧n≤1073741824)∧∀b,p x=b→K (.ret (.d (.bool b))) ⟨[],[],0⟩
 | _,_=>False
theorem spHo_mono {α:Type} (val:Pl→α→PV) (p:α→Bool) (w:α→Nat) (n:Nat):SpecMono (spHo val p w n):=fun args σ K K' hK h=>by
 unfold spHo at h ⊢
 split at h
 ·obtain ⟨pl,x,h1,h2,h3⟩:=h;exact ⟨pl,x,h1,h2,fun b hb=>hK _ _ (h3 b hb)⟩
 ·exact h.elim
noncomputable def spNo {α:Type} (h0:FuncId) (val:Pl→α→PV) (p:α→Bool) (w:α→Nat) (n:Nat):Spec:=fun args σ K=>match args,σ with
 | [v,.ptr 0 0],⟨[.cells t [.func h' [] []]],[],0⟩=>∃pl x,v=val pl x∧(h'=h0∧w x≤n∧n≤1073741824)∧∀b,(!p x)=b→K (.ret (.d (.bool b))) ⟨[.cells t [.func h' [] []]],[],0⟩
 | _,_=>False
theorem spNo_mono {α:Type} (h0:FuncId) (val:Pl→α→PV) (p:α→Bool) (w:α→Nat) (n:Nat):SpecMono (spNo h0 val p w n):=fun args σ K K' hK h=>by
 unfold spNo at h ⊢
 split at h
 ·obtain ⟨pl,x,h1,h2,h3⟩:=h;exact ⟨pl,x,h1,h2,fun b hb=>hK _ _ (h3 b hb)⟩
 ·exact h.elim
noncomputable def spIx {α:Type} (g0 h0:FuncId) (enc:Pl→α→List D) (p:α→Bool) (w:α→Nat) (n:Nat):Spec:=fun args σ K=>match args,σ with
 | [.d (.sl r),.func g' [] [.ptr 0 0]],⟨[.cells t [.func h' [] []]],[],0⟩=>∃pl l,r=l.map (enc pl)∧(g'=g0∧h'=h0∧szS w l≤n∧n≤1073741824)∧∀r:Int,(r<0↔l.all p=true)→K (.ret (.d (.int .i64 r))) ⟨[.cells t [.func h' [] []]],[],0⟩
 | _,_=>False
theorem spIx_mono {α:Type} (g0 h0:FuncId) (enc:Pl→α→List D) (p:α→Bool) (w:α→Nat) (n:Nat):SpecMono (spIx g0 h0 enc p w n):=fun args σ K K' hK h=>by
 unfold spIx at h ⊢
 split at h
 ·obtain ⟨pl,x,h1,h2,h3⟩:=h;exact ⟨pl,x,h1,h2,fun b hb=>hK _ _ (h3 b hb)⟩
 ·exact h.elim
noncomputable def spCf {α:Type} (g0 h0:FuncId) (enc:Pl→α→List D) (p:α→Bool) (w:α→Nat) (n:Nat):Spec:=fun args σ K=>match args,σ with
 | [.d (.sl r),.func g' [] [.ptr 0 0]],⟨[.cells t [.func h' [] []]],[],0⟩=>∃pl l,r=l.map (enc pl)∧(g'=g0∧h'=h0∧szS w l≤n∧n≤1073741824)∧∀b,(!l.all p)=b→K (.ret (.d (.bool b))) ⟨[.cells t [.func h' [] []]],[],0⟩
 | _,_=>False
theorem spCf_mono {α:Type} (g0 h0:FuncId) (enc:Pl→α→List D) (p:α→Bool) (w:α→Nat) (n:Nat):SpecMono (spCf g0 h0 enc p w n):=fun args σ K K' hK h=>by
 unfold spCf at h ⊢
 split at h
 ·obtain ⟨pl,x,h1,h2,h3⟩:=h;exact ⟨pl,x,h1,h2,fun b hb=>hK _ _ (h3 b hb)⟩
 ·exact h.elim
noncomputable def spAl {α:Type} (h0:FuncId) (enc:Pl→α→List D) (p:α→Bool) (w:α→Nat) (n:Nat):Spec:=fun args σ K=>match args,σ with
 | [.d (.sl r),.func h' [] []],⟨[],[],0⟩=>∃pl l,r=l.map (enc pl)∧(h'=h0∧szS w l≤n∧n≤1073741824)∧∀b,l.all p=b→K (.ret (.d (.bool b))) ⟨[],[],0⟩
 | _,_=>False
theorem spAl_mono {α:Type} (h0:FuncId) (enc:Pl→α→List D) (p:α→Bool) (w:α→Nat) (n:Nat):SpecMono (spAl h0 enc p w n):=fun args σ K K' hK h=>by
 unfold spAl at h ⊢
 split at h
 ·obtain ⟨pl,x,h1,h2,h3⟩:=h;exact ⟨pl,x,h1,h2,fun b hb=>hK _ _ (h3 b hb)⟩
 ·exact h.elim
theorem all_drop {α:Type} (p:α→Bool) {l:List α} {i:Nat} (h:i<l.length):(l.drop i).all p=(p l[i] && (l.drop (i+1)).all p):=by rw [List.drop_eq_getElem_cons h,List.all_cons]
theorem all_end {α:Type} (p:α→Bool) {l:List α} {i:Nat} (h:l.length≤i):(l.drop i).all p=true:=by rw [List.drop_eq_nil_of_le h];rfl
noncomputable def tblnoE (n:Nat):Tbl:=[(29,spHo (aggV encE) mayE wE n)]
theorem noE_ok {n:Nat} (ht:TblOK (GG w0 nG) (tblnoE n)):PCalls (GG w0 nG) 154 (spNo 29 (aggV encE) mayE wE n):=by
 refine pcalls tab_ok mixed (tbl:=tblnoE n) ht Tryz.func154 rfl (by kernel_rfl) (by kernel_rfl) ?_
 intro args σ K h
 unfold spNo at h
 split at h
 ·obtain ⟨pl,⟨a1,a2,a3,a4,a5⟩,rfl,⟨rfl,hz,hn⟩,h⟩:=h
  refine ⟨loopsOf [],1,false,by simp,Nat.le_of_ble_eq_true rfl,?_⟩
  conv=>whnf
  refine ⟨pl,(.mk a1 a2 a3 a4 a5),rfl,⟨hz,hn⟩,fun b hb=>?_⟩
  conv=>whnf
  exact h _ (by rw [hb])
 ·exact h.elim
noncomputable def tblixE (n:Nat):Tbl:=[(154,spNo 29 (aggV encE) mayE wE n)]
theorem ixE_ok {n:Nat} (ht:TblOK (GG w0 nG) (tblixE n)):PCalls (GG w0 nG) 220 (spIx 154 29 encE mayE wE n):=by
 refine pcalls tab_ok mixed (tbl:=tblixE n) ht Tryz.func220 rfl (by kernel_rfl) (by kernel_rfl) ?_
 intro args σ K h
 unfold spIx at h
 split at h
 ·obtain ⟨pl,l,rfl,⟨rfl,rfl,hz,hn⟩,h⟩:=h
  rename_i t
  have hlen:(l.map (encE pl)).length=l.length:=List.length_map ..
  have hsz:=szS_len wE l
  refine ⟨loopsOf [(2,⟨[8],[0,1,7],fun vs σ=>∃i:Nat,vs=[.d (.int .i64 i)]∧σ=⟨[.cells t [.func 29 [] []]],[],0⟩∧i≤l.length∧l.all mayE=(l.drop i).all mayE,fun vs _=>match vs with | [.d (.int _ i)]=>((l.length:Int) - i).toNat | _=>0⟩)],1,false,by simp,Nat.le_of_ble_eq_true rfl,?_⟩
  conv=>whnf
  refine ⟨⟨0,rfl,rfl,by omega,rfl⟩,?_⟩
  intro vs σ hI
  obtain ⟨i,rfl,rfl,hi,hs⟩:=hI
  conv=>whnf
  refine CondP.dec (fun hi2=>?_) (fun hi2=>?_)
  ·have hi2:i<l.length:=by have hi2:(i:Int)<(l.map (encE pl)).length:=hi2;rw [hlen] at hi2;omega
   have hg:=szS_get wE l i hi2
   rw [all_drop _ hi2] at hs
   obtain ⟨eA,hA⟩:∃e,l[i]=e:=⟨_,rfl⟩
   obtain ⟨a1,a2,a3,a4,a5⟩:=eA
   have hr1:(l.map (encE pl))[((i:Nat):Int).toNat]?=some (encE pl (.mk a1 a2 a3 a4 a5)):=by simp [hi2,hA]
   rw [hA] at hs hg
   conv=>whnf
   refine ⟨_,by omega,hr1,?_⟩
   conv=>whnf
   refine ⟨pl,(.mk a1 a2 a3 a4 a5),rfl,⟨rfl,by omega,by omega⟩,fun b hb=>?_⟩
   cases b with
   | true =>
    have hp:mayE (.mk a1 a2 a3 a4 a5)=false:=by simpa using hb
    rw [hp,Bool.false_and] at hs
    conv=>whnf
    exact h _ (by rw [hs];simp;try omega)
   | false =>
    have hp:mayE (.mk a1 a2 a3 a4 a5)=true:=by simpa using hb
    rw [hp,Bool.true_and] at hs
    conv=>whnf
    refine Or.inl ⟨InR.i64 (by omega) (by omega),?_⟩
    conv=>whnf
    refine ⟨⟨i+1,rfl,rfl,by omega,hs⟩,?_⟩
    show ((l.length:Int) - ((i:Int)+1)).toNat<((l.length:Int) - (i:Int)).toNat
    omega
  ·have hi2:l.length≤i:=by have hi2:¬(i:Int)<(l.map (encE pl)).length:=hi2;rw [hlen] at hi2;omega
   rw [all_end _ hi2] at hs
   conv=>whnf
   exact h _ (by rw [hs];simp)
 ·exact h.elim
noncomputable def tblcfE (n:Nat):Tbl:=[(220,spIx 154 29 encE mayE wE n)]
theorem cfE_ok {n:Nat} (ht:TblOK (GG w0 nG) (tblcfE n)):PCalls (GG w0 nG) 153 (spCf 154 29 encE mayE wE n):=by
 refine pcalls tab_ok mixed (tbl:=tblcfE n) ht Tryz.func153 rfl (by kernel_rfl) (by kernel_rfl) ?_
 intro args σ K h
 unfold spCf at h
 split at h
 ·obtain ⟨pl,l,rfl,⟨rfl,rfl,hz,hn⟩,h⟩:=h
  refine ⟨loopsOf [],1,false,by simp,Nat.le_of_ble_eq_true rfl,?_⟩
  conv=>whnf
  refine ⟨pl,l,rfl,⟨rfl,rfl,hz,hn⟩,fun r hr=>?_⟩
  conv=>whnf
  refine h _ ?_
  cases hb:l.all mayE with
  | true=>rw [hb] at hr;have:=hr.2 rfl;simp;omega
  | false => rw [hb] at hr; have : ¬ r < 0 := fun g => by have := hr.1 g; cases this
             simp;omega
 ·exact h.elim
noncomputable def tblalE (n:Nat):Tbl:=[(153,spCf 154 29 encE mayE wE n)]
theorem alE_ok {n:Nat} (ht:TblOK (GG w0 nG) (tblalE n)):PCalls (GG w0 nG) 74 (spAl 29 encE mayE wE n):=by
 refine pcalls tab_ok mixed (tbl:=tblalE n) ht Tryz.func74 rfl (by kernel_rfl) (by kernel_rfl) ?_
 intro args σ K h
 unfold spAl at h
 split at h
 ·obtain ⟨pl,l,rfl,⟨rfl,hz,hn⟩,h⟩:=h
  refine ⟨loopsOf [],0,false,by simp,Nat.le_of_ble_eq_true rfl,?_⟩
  conv=>whnf
  refine ⟨pl,l,rfl,⟨rfl,rfl,hz,hn⟩,fun b hb=>?_⟩
  conv=>whnf
  exact h _ (by rw [← hb,Bool.not_not])
 ·exact h.elim
theorem calE {n:Nat} (h:PCalls (GG w0 nG) 29 (spHo (aggV encE) mayE wE n)):PCalls (GG w0 nG) 74 (spAl 29 encE mayE wE n) :=
 alE_ok ⟨⟨cfE_ok ⟨⟨ixE_ok ⟨⟨noE_ok ⟨⟨h,spHo_mono _ _ _ _⟩,trivial⟩,spNo_mono _ _ _ _ _⟩,trivial⟩,spIx_mono _ _ _ _ _ _⟩,trivial⟩,spCf_mono _ _ _ _ _ _⟩,trivial⟩
end Go.PM.Lex
end
