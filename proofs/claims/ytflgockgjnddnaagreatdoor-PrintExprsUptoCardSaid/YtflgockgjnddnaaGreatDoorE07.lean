/- A part of the proof: plain logic, contracts and laws over the given program. -/
import Derived.Test.YtflgockgjnddnaaGreatDoorE06
set_option linter.unusedVariables false
set_option linter.unusedSimpArgs false
set_option linter.all false
set_option maxRecDepth 100000
set_option maxHeartbeats 16000000
section
namespace Go.PM.Lex
open Go.Proofs
variable {w0:World} {nG:Nat}
noncomputable def ZkF (body:List PV→List Tok→Int→Int→Int→Ts→RK→Prop):Zr:=fun args σ K=>match args,σ with
 | .ptr 0 0::rest,⟨[.cells t0 [.ptr 1 0],.cells t [.d (.sl rows),.d (.int .i64 a),.d (.int .i64 en),.d (.int .i64 dp)]],[],0⟩=>∃L ts,rows=Zv L∧ROK L a ts ∧
   body rest L en dp a ts fun pe a' dp'=>K pe ⟨[.cells t0 [.ptr 1 0],.cells t [.d (.sl (Zv L)),.d (.int .i64 a'),.d (.int .i64 en),.d (.int .i64 dp')]],[],0⟩
 | _,_=>False
theorem ZgA {body:List PV→List Tok→Int→Int→Int→Ts→RK→Prop} (hb:∀rest L en dp a ts (K K':RK),(∀pe a d,K pe a d→K' pe a d)→body rest L en dp a ts K→body rest L en dp a ts K'):Za (ZkF body):=fun args σ K K' hK h=>by
 unfold ZkF at h ⊢
 exact m155
noncomputable def ZuJ {α:Type} (enc:List Tok→Int→α→PV) (P:Ts→R α) (lo:Int):Zr:=ZkF fun rest L en dp a ts K=>match rest with
 | []=>∀x,P ts=x→RKk (enc L en) L en dp (a+lo) x K
 | _=>False
theorem ZiT {α:Type} (enc:List Tok→Int→α→PV) (P:Ts→R α) (lo:Int):Za (ZuJ enc P lo):=ZgA fun rest L en dp a ts K K' hK h=>by
 exact m124
noncomputable def ZiU (p:Ts→Bool):Zr:=ZkF fun rest L en dp a ts K=>match rest with
 | []=>∀b,p ts=b→K (.ret (.d (.bool b))) a dp
 | _=>False
theorem ZkG (p:Ts→Bool):Za (ZiU p):=ZgA fun rest L en dp a ts K K' hK h=>by
 split at h
 ·exact fun b hb=>hK _ _ _ (h b hb)
 ·exact h.elim
noncomputable def ZiV {α:Type} (enc:List Tok→Int→α→PV) (P:Ts→R α) (lo:Int) (d:Nat):Zr:=We fun rest L en dp a ts K=>match rest with
 | []=>(dp=64 - (d:Int)∧0≤dp)∧∀x,P ts=x→RKk (enc L en) L en dp (a+lo) x K
 | _=>False
theorem Wb {α:Type} (enc:List Tok→Int→α→PV) (P:Ts→R α) (lo:Int) (d:Nat):Za (ZiV enc P lo d):=ZS fun rest L en dp a ts K K' hK h=>by
 exact m59
theorem ZD {α β:Type} (f:α→β) (l:List α) (x:α):l.map f++[f x]=(l++[x]).map f:=by simp
theorem Vy {α : Type} (sign : Bs) (most : Nat) (st : Ts → Bool) (one : Ts → R α) (f : Nat) (l : List α) (ts : Ts) : Xe sign most st one (f + 1) l ts = if st ts = true ∧ l.length = most then .err ts.length 3
      else (one ts).bind fun x ts=>if isW ts [sign]=true then Xe sign most st one f (l++[x]) ts.tail else .ok (l++[x]) ts:=rfl
noncomputable def Vz:Zr:=fun args σ K=>match args,σ with
 | [.ptr 0 0,.d (.str sg),.d (.int .i64 m),.func g1 [.ptr 0 0] [],.func g2 [] [.ptr 1 0]],⟨[.cells t [.d (.sl rows),.d (.int .i64 a),.d (.int .i64 en),.d (.int .i64 dp)],.cells t0 [.ptr 0 0]],[],0⟩ =>
   (sg=[44]∧m=12∧g1=145∧g2=259)∧∃L ts,rows=Zv L∧ROK L a ts∧∀x,YE [44] 12 Zn YG ts=x →
    RKk (fun (l:List Fi)=>.d (.sl (l.map (U8)))) L en dp a x fun pe a' dp'=>K pe ⟨[.cells t [.d (.sl (Zv L)),.d (.int .i64 a'),.d (.int .i64 en),.d (.int .i64 dp')],.cells t0 [.ptr 0 0]],[],0⟩
 | _,_=>False
theorem ZdN:Za (Vz):=fun args σ K K' hK h=>by
 unfold Vz at h ⊢
 exact m51
noncomputable def ZiW:Tbl:=[(145,(Zaw Zn)),(81,Xl),(259,(ZuJ (fun _ _ (v:Fi)=>ZbW (U8 v)) YG 1)),(200,WT)]
theorem ZiX (ht:TblOK (GG w0 nG) (ZiW)):PCalls (GG w0 nG) 258 (Vz):=by
 refine pc ht Tryz.func258 ?_;intro args σ K h
 unfold Vz at h
 split at h
 ·rename_i sg m g1 g2 t rows a en dp t0
  obtain ⟨⟨rfl,rfl,rfl,rfl⟩,L,ts,rfl,ho,h⟩:=h;have h:=h _ rfl;have hl:=ho.len;have hbig:=ho.big;have ha0:=ho.lo;refine ⟨Zb [(2,⟨[11],[0,1,2,3,4],fun vs σ=>∃(l:List Fi) (a':Int) (ts':Ts) (f:Nat),vs=[.sl 0 66 (l.map (U8))] ∧
   σ=⟨[.cells t [.d (.sl (Zv L)),.d (.int .i64 a'),.d (.int .i64 en),.d (.int .i64 dp)],.cells t0 [.ptr 0 0]],[0],1⟩∧ROK L a' ts'∧a+l.length≤a'∧ts'.length<f ∧
   YE [44] 12 Zn YG ts=Xe [44] 12 Zn YG f l ts',
   fun _ σ=>match σ with | ⟨.cells _ [_,.d (.int _ i),_,_]::_,_,_⟩=>((L.length:Int) - i).toNat | _=>0⟩)],2,false,by simp,Ta rfl,?_⟩
  conv=>whnf
  refine ⟨⟨[],a,ts,ts.length+1,rfl,rfl,ho,by simp,by omega,rfl⟩,?_⟩;intro vs σ hI
  obtain ⟨l,a1,ts1,f,rfl,rfl,ho1,hla,hf,hm⟩:=hI;obtain ⟨f,rfl⟩:∃g,f=g+1:=⟨f - 1,by omega⟩
  rw [Vy] at hm;have hl1:=ho1.len;have hhi1:=ho1.hi;(conv=>whnf);refine ⟨L,ts1,rfl,ho1,fun b hb=>?_⟩;have step:(¬(Zn ts1=true∧l.length=12))→YE [44] 12 Zn YG ts=((YG) ts1).bind fun x ts=>if isW ts [[44]]=true then Xe [44] 12 Zn YG f (l++[x]) ts.tail else .ok (l++[x]) ts:=fun g=>by rw [hm,Tc g]
  cases b with
  | false =>
   have step:=step (by rw [hb];simp);exact m27
  | true =>
   conv=>whnf
   refine ZAf (fun hc=>?_) (fun hc=>?_)
   ·have hc:l.length=12:=by
     have hc:((l.map (U8)).length:Int)=12:=hc;rw [Ti] at hc;omega
    exact m202
   ·have step:=step (fun g=>hc (by show ((l.map (U8)).length:Int)=12;rw [Ti,g.2];rfl));exact m27
 ·exact h.elim
noncomputable def JS:Zr:=fun args σ K=>match args,σ with
 | [.ptr 0 0,.d (.str sg),.d (.int .i64 m),.func g1 [.ptr 0 0] [],.func g2 [.ptr 0 0] []],⟨[.cells t [.d (.sl rows),.d (.int .i64 a),.d (.int .i64 en),.d (.int .i64 dp)]],[],0⟩ =>
   (sg=[44]∧m=12∧g1=145∧g2=142)∧∃L ts,rows=Zv L∧ROK L a ts∧∀x,YE [44] 12 Zn Z1 ts=x →
    RKk (fun (l:List Bs)=>.d (.sl (l.map (X1)))) L en dp a x fun pe a' dp'=>K pe ⟨[.cells t [.d (.sl (Zv L)),.d (.int .i64 a'),.d (.int .i64 en),.d (.int .i64 dp')]],[],0⟩
 | _,_=>False
theorem ZfQ:Za (JS):=fun args σ K K' hK h=>by
 unfold JS at h ⊢
 exact m51
noncomputable def Zno:Tbl:=[(145,(Zaw Zn)),(81,Xl),(142,Wm),(200,WT)]
theorem Znp (ht:TblOK (GG w0 nG) (Zno)):PCalls (GG w0 nG) 206 (JS):=by
 refine pc ht Tryz.func206 ?_;intro args σ K h
 unfold JS at h
 split at h
 ·rename_i sg m g1 g2 t rows a en dp
  obtain ⟨⟨rfl,rfl,rfl,rfl⟩,L,ts,rfl,ho,h⟩:=h;have h:=h _ rfl;have hl:=ho.len;have hbig:=ho.big;have ha0:=ho.lo;refine ⟨Zb [(2,⟨[11],[0,1,2,3,4],fun vs σ=>∃(l:List Bs) (a':Int) (ts':Ts) (f:Nat),vs=[.sl 0 9 (l.map (X1))] ∧
   σ=⟨[.cells t [.d (.sl (Zv L)),.d (.int .i64 a'),.d (.int .i64 en),.d (.int .i64 dp)]],[0],1⟩∧ROK L a' ts'∧a+l.length≤a'∧ts'.length<f ∧
   YE [44] 12 Zn Z1 ts=Xe [44] 12 Zn Z1 f l ts',
   fun _ σ=>match σ with | ⟨.cells _ [_,.d (.int _ i),_,_]::_,_,_⟩=>((L.length:Int) - i).toNat | _=>0⟩)],1,false,by simp,Ta rfl,?_⟩
  conv=>whnf
  refine ⟨⟨[],a,ts,ts.length+1,rfl,rfl,ho,by simp,by omega,rfl⟩,?_⟩;intro vs σ hI
  obtain ⟨l,a1,ts1,f,rfl,rfl,ho1,hla,hf,hm⟩:=hI;obtain ⟨f,rfl⟩:∃g,f=g+1:=⟨f - 1,by omega⟩
  rw [Vy] at hm;have hl1:=ho1.len;have hhi1:=ho1.hi;(conv=>whnf);refine ⟨L,ts1,rfl,ho1,fun b hb=>?_⟩;have step:(¬(Zn ts1=true∧l.length=12))→YE [44] 12 Zn Z1 ts=((Z1) ts1).bind fun x ts=>if isW ts [[44]]=true then Xe [44] 12 Zn Z1 f (l++[x]) ts.tail else .ok (l++[x]) ts:=fun g=>by rw [hm,Tc g]
  cases b with
  | false =>
   have step:=step (by rw [hb];simp);exact m29
  | true =>
   conv=>whnf
   refine ZAf (fun hc=>?_) (fun hc=>?_)
   ·have hc:l.length=12:=by
     have hc:((l.map (X1)).length:Int)=12:=hc;rw [Ti] at hc;omega
    exact m202
   ·have step:=step (fun g=>hc (by show ((l.map (X1)).length:Int)=12;rw [Ti,g.2];rfl));exact m29
 ·exact h.elim
noncomputable def Ux:Zr:=fun args σ K=>match args,σ with
 | [.ptr 0 0,.d (.str sg),.d (.int .i64 m),.func g1 [.ptr 0 0] [],.func g2 [] [.ptr 1 0]],⟨[.cells t [.d (.sl rows),.d (.int .i64 a),.d (.int .i64 en),.d (.int .i64 dp)],.cells t0 [.ptr 0 0]],[],0⟩ =>
   (sg=[124]∧m=64∧g1=145∧g2=203)∧∃L ts,rows=Zv L∧ROK L a ts∧∀x,YE [124] 64 Zn Wv ts=x →
    RKk (fun (l:List Ca)=>.d (.sl (l.map (Za8)))) L en dp a x fun pe a' dp'=>K pe ⟨[.cells t [.d (.sl (Zv L)),.d (.int .i64 a'),.d (.int .i64 en),.d (.int .i64 dp')],.cells t0 [.ptr 0 0]],[],0⟩
 | _,_=>False
theorem ZeV:Za (Ux):=fun args σ K K' hK h=>by
 unfold Ux at h ⊢
 exact m51
noncomputable def ZkH:Tbl:=[(145,(Zaw Zn)),(81,Xl),(203,(ZuJ (fun _ _ (v:Ca)=>ZbW (Za8 v)) Wv 1)),(200,WT)]
theorem ZkI (ht:TblOK (GG w0 nG) (ZkH)):PCalls (GG w0 nG) 202 (Ux):=by
 refine pc ht Tryz.func202 ?_;intro args σ K h
 unfold Ux at h
 split at h
 ·rename_i sg m g1 g2 t rows a en dp t0
  obtain ⟨⟨rfl,rfl,rfl,rfl⟩,L,ts,rfl,ho,h⟩:=h;have h:=h _ rfl;have hl:=ho.len;have hbig:=ho.big;have ha0:=ho.lo;refine ⟨Zb [(2,⟨[11],[0,1,2,3,4],fun vs σ=>∃(l:List Ca) (a':Int) (ts':Ts) (f:Nat),vs=[.sl 0 148 (l.map (Za8))] ∧
   σ=⟨[.cells t [.d (.sl (Zv L)),.d (.int .i64 a'),.d (.int .i64 en),.d (.int .i64 dp)],.cells t0 [.ptr 0 0]],[0],1⟩∧ROK L a' ts'∧a+l.length≤a'∧ts'.length<f ∧
   YE [124] 64 Zn Wv ts=Xe [124] 64 Zn Wv f l ts',
   fun _ σ=>match σ with | ⟨.cells _ [_,.d (.int _ i),_,_]::_,_,_⟩=>((L.length:Int) - i).toNat | _=>0⟩)],2,false,by simp,Ta rfl,?_⟩
  conv=>whnf
  refine ⟨⟨[],a,ts,ts.length+1,rfl,rfl,ho,by simp,by omega,rfl⟩,?_⟩;intro vs σ hI
  obtain ⟨l,a1,ts1,f,rfl,rfl,ho1,hla,hf,hm⟩:=hI;obtain ⟨f,rfl⟩:∃g,f=g+1:=⟨f - 1,by omega⟩
  rw [Vy] at hm;have hl1:=ho1.len;have hhi1:=ho1.hi;(conv=>whnf);refine ⟨L,ts1,rfl,ho1,fun b hb=>?_⟩;have step:(¬(Zn ts1=true∧l.length=64))→YE [124] 64 Zn Wv ts=((Wv) ts1).bind fun x ts=>if isW ts [[124]]=true then Xe [124] 64 Zn Wv f (l++[x]) ts.tail else .ok (l++[x]) ts:=fun g=>by rw [hm,Tc g]
  cases b with
  | false =>
   have step:=step (by rw [hb];simp);exact m26
  | true =>
   conv=>whnf
   refine ZAf (fun hc=>?_) (fun hc=>?_)
   ·have hc:l.length=64:=by
     have hc:((l.map (Za8)).length:Int)=64:=hc;rw [Ti] at hc;omega
    exact m202
   ·have step:=step (fun g=>hc (by show ((l.map (Za8)).length:Int)=64;rw [Ti,g.2];rfl));exact m26
 ·exact h.elim
noncomputable def ZbY (d:Nat):Zr:=fun args σ K=>match args,σ with
 | [.ptr 0 0,.d (.str sg),.d (.int .i64 m),.func g1 [.ptr 0 0] [],.func g2 [.ptr 0 0] []],⟨[.cells t [.d (.sl rows),.d (.int .i64 a),.d (.int .i64 en),.d (.int .i64 dp)]],[],0⟩ =>
   (sg=[44]∧m=12∧g1=262∧g2=35∧(dp=64 - (d:Int)∧0≤dp))∧∃L ts,rows=Zv L∧ROK L a ts∧∀x,YE [44] 12 Zx (ZW d) ts=x →
    RKk (fun (l:List Ex)=>.d (.sl (l.map (Yc (Ze L en))))) L en dp a x fun pe a' dp'=>K pe ⟨[.cells t [.d (.sl (Zv L)),.d (.int .i64 a'),.d (.int .i64 en),.d (.int .i64 dp')]],[],0⟩
 | _,_=>False
noncomputable def Zpp (d:Nat):Tbl:=[(262,(Zaw Zx)),(81,Xl),(35,(ZiV (fun L en (v:Ex)=>ZbW (Yc (Ze L en) v)) (ZW d) 0 d)),(200,WT)]
theorem Zpq (d:Nat) (ht:TblOK (GG w0 nG) (Zpp d)):PCalls (GG w0 nG) 261 (ZbY d):=by
 refine pc ht Tryz.func261 ?_;intro args σ K h
 unfold ZbY at h
 split at h
 ·rename_i sg m g1 g2 t rows a en dp
  obtain ⟨⟨rfl,rfl,rfl,rfl,hdp⟩,L,ts,rfl,ho,h⟩:=h;have h:=h _ rfl;have hl:=ho.len;have hbig:=ho.big;have ha0:=ho.lo;refine ⟨Zb [(2,⟨[11],[0,1,2,3,4],fun vs σ=>∃(l:List Ex) (a':Int) (ts':Ts) (f:Nat),vs=[.sl 0 24 (l.map (Yc (Ze L en)))] ∧
   σ=⟨[.cells t [.d (.sl (Zv L)),.d (.int .i64 a'),.d (.int .i64 en),.d (.int .i64 dp)]],[0],1⟩∧ROK L a' ts'∧a+l.length≤a'∧ts'.length<f ∧
   YE [44] 12 Zx (ZW d) ts=Xe [44] 12 Zx (ZW d) f l ts',
   fun _ σ=>match σ with | ⟨.cells _ [_,.d (.int _ i),_,_]::_,_,_⟩=>((L.length:Int) - i).toNat | _=>0⟩)],1,false,by simp,Ta rfl,?_⟩
  conv=>whnf
  refine ⟨⟨[],a,ts,ts.length+1,rfl,rfl,ho,by simp,by omega,rfl⟩,?_⟩;intro vs σ hI
  obtain ⟨l,a1,ts1,f,rfl,rfl,ho1,hla,hf,hm⟩:=hI;obtain ⟨f,rfl⟩:∃g,f=g+1:=⟨f - 1,by omega⟩
  rw [Vy] at hm;have hl1:=ho1.len;have hhi1:=ho1.hi;(conv=>whnf);refine ⟨L,ts1,rfl,ho1,fun b hb=>?_⟩;have step:(¬(Zx ts1=true∧l.length=12))→YE [44] 12 Zx (ZW d) ts=(((ZW d)) ts1).bind fun x ts=>if isW ts [[44]]=true then Xe [44] 12 Zx (ZW d) f (l++[x]) ts.tail else .ok (l++[x]) ts:=fun g=>by rw [hm,Tc g]
  cases b with
  | false =>
   have step:=step (by rw [hb];simp);exact m23
  | true =>
   conv=>whnf
   refine ZAf (fun hc=>?_) (fun hc=>?_)
   ·have hc:l.length=12:=by
     have hc:((l.map (Yc (Ze L en))).length:Int)=12:=hc;rw [Ti] at hc;omega
    exact m202
   ·have step:=step (fun g=>hc (by show ((l.map (Yc (Ze L en))).length:Int)=12;rw [Ti,g.2];rfl));exact m23
 ·exact h.elim
noncomputable def ZbZ (d:Nat):Zr:=fun args σ K=>match args,σ with
 | [.ptr 0 0,.d (.str sg),.d (.int .i64 m),.func g1 [] [.ptr 1 0],.func g2 [.ptr 0 0] []],⟨[.cells t [.d (.sl rows),.d (.int .i64 a),.d (.int .i64 en),.d (.int .i64 dp)],.cells t0 [.ptr 0 0]],[],0⟩ =>
   (sg=[44]∧m=32∧g1=264∧g2=265∧(dp=64 - (d:Int)∧0≤dp))∧∃L ts,rows=Zv L∧ROK L a ts∧∀x,YE [44] 32 ZA (Zbr d (W2 d)) ts=x →
    RKk (fun (l:List Li)=>.d (.sl (l.map (Xi (Ze L en))))) L en dp a x fun pe a' dp'=>K pe ⟨[.cells t [.d (.sl (Zv L)),.d (.int .i64 a'),.d (.int .i64 en),.d (.int .i64 dp')],.cells t0 [.ptr 0 0]],[],0⟩
 | _,_=>False
theorem Zhp (d:Nat):Za (ZbZ d):=fun args σ K K' hK h=>by
 unfold ZbZ at h ⊢
 exact m51
noncomputable def Zpr (d:Nat):Tbl:=[(264,(ZiU ZA)),(81,Xl),(265,(ZiV (fun L en (v:Li)=>ZbW (Xi (Ze L en) v)) (Zbr d (W2 d)) 0 d)),(200,WT)]
theorem Zps (d:Nat) (ht:TblOK (GG w0 nG) (Zpr d)):PCalls (GG w0 nG) 263 (ZbZ d):=by
 refine pc ht Tryz.func263 ?_;intro args σ K h
 unfold ZbZ at h
 split at h
 ·rename_i sg m g1 g2 t rows a en dp t0
  obtain ⟨⟨rfl,rfl,rfl,rfl,hdp⟩,L,ts,rfl,ho,h⟩:=h;have h:=h _ rfl;have hl:=ho.len;have hbig:=ho.big;have ha0:=ho.lo;refine ⟨Zb [(2,⟨[11],[0,1,2,3,4],fun vs σ=>∃(l:List Li) (a':Int) (ts':Ts) (f:Nat),vs=[.sl 0 60 (l.map (Xi (Ze L en)))] ∧
   σ=⟨[.cells t [.d (.sl (Zv L)),.d (.int .i64 a'),.d (.int .i64 en),.d (.int .i64 dp)],.cells t0 [.ptr 0 0]],[0],1⟩∧ROK L a' ts'∧a+l.length≤a'∧ts'.length<f ∧
   YE [44] 32 ZA (Zbr d (W2 d)) ts=Xe [44] 32 ZA (Zbr d (W2 d)) f l ts',
   fun _ σ=>match σ with | ⟨.cells _ [_,.d (.int _ i),_,_]::_,_,_⟩=>((L.length:Int) - i).toNat | _=>0⟩)],2,false,by simp,Ta rfl,?_⟩
  conv=>whnf
  refine ⟨⟨[],a,ts,ts.length+1,rfl,rfl,ho,by simp,by omega,rfl⟩,?_⟩;intro vs σ hI
  obtain ⟨l,a1,ts1,f,rfl,rfl,ho1,hla,hf,hm⟩:=hI;obtain ⟨f,rfl⟩:∃g,f=g+1:=⟨f - 1,by omega⟩
  rw [Vy] at hm;have hl1:=ho1.len;have hhi1:=ho1.hi;(conv=>whnf);refine ⟨L,ts1,rfl,ho1,fun b hb=>?_⟩;have step:(¬(ZA ts1=true∧l.length=32))→YE [44] 32 ZA (Zbr d (W2 d)) ts=(((Zbr d (W2 d))) ts1).bind fun x ts=>if isW ts [[44]]=true then Xe [44] 32 ZA (Zbr d (W2 d)) f (l++[x]) ts.tail else .ok (l++[x]) ts:=fun g=>by rw [hm,Tc g]
  cases b with
  | false =>
   have step:=step (by rw [hb];simp);exact m22
  | true =>
   conv=>whnf
   refine ZAf (fun hc=>?_) (fun hc=>?_)
   ·have hc:l.length=32:=by
     have hc:((l.map (Xi (Ze L en))).length:Int)=32:=hc;rw [Ti] at hc;omega
    exact m202
   ·have step:=step (fun g=>hc (by show ((l.map (Xi (Ze L en))).length:Int)=32;rw [Ti,g.2];rfl));exact m22
 ·exact h.elim
end Go.PM.Lex
end

section
namespace Go.PM.Lex
open Go.Proofs
variable {w0:World} {nG:Nat}
noncomputable abbrev Zhq:Zr:=ZuJ (fun _ _ (v:Fi)=>ZbW (U8 v)) YG 1
noncomputable abbrev ZkJ:Zr:=ZuJ (fun _ _ (v:Ca)=>ZbW (Za8 v)) Wv 1
noncomputable def U9:Zr:=We fun rest L en dp a ts K=>match rest with
 | [.d (.str w)]=>∀x,Yn w ts=x→RKk (fun (v:List Fi)=>.d (.sl (v.map U8))) L en dp a x K
 | _=>False
theorem Ja:Za U9:=ZS fun rest L en dp a ts K K' hK h=>by
 exact m124
noncomputable abbrev ZeW:Zr:=spR (fun _ _ (v:List Bs)=>.d (.sl (v.map X1))) Y2 0
noncomputable abbrev Zhr:Zr:=spR (fun L en (v:Ty)=>ZbW (Zhm (Ze L en) v)) Jw 0
noncomputable abbrev ZlO:Zr:=spR (fun L en (v:Re)=>ZbW (ZfN (Ze L en) v)) Zd6 0
noncomputable def Zpt:Tbl:=[(142,Wm),(143,Wa)]
theorem Zpu (ht:TblOK (GG w0 nG) Zpt):PCalls (GG w0 nG) 259 Zhq:=by
 refine pc ht Tryz.func259 ?_;intro args σ K h
 unfold Zhq ZuJ ZkF at h
 split at h
 ·rename_i rest t0 t rows a en dp
  obtain ⟨L,ts,rfl,ho,h⟩:=h;split at h
  ·skip
   have h0:=ho.lo;have h1:=ho.hi;have h2:=ho.big;refine ⟨Zb [],2,false,by simp,Ta rfl,?_⟩;have h:=h _ rfl;unfold YG at h
   conv=>whnf
   refine ⟨L,ts,rfl,ho,fun x hx1=>?_⟩;rcases x with ⟨v1,ts1⟩ | ⟨r1,e1⟩
   rotate_left
   ·exact m64
   rw [hx1,R.bind_ok] at h;intro a1 hle1 ho1
   have hb1:=ho1.hi;(conv=>whnf);refine ⟨L,ts1,rfl,ho1,fun x hx2=>?_⟩;exact m205
  ·exact h.elim
 ·exact h.elim
noncomputable def Zpv:Tbl:=[(136,Zh4),(258,Vz)]
theorem Zpw (ht:TblOK (GG w0 nG) Zpv):PCalls (GG w0 nG) 201 U9:=by
 refine pc ht Tryz.func201 ?_;intro args σ K h
 unfold U9 We at h
 split at h
 ·rename_i rest t rows a en dp
  obtain ⟨L,ts,rfl,ho,h⟩:=h;split at h
  ·rename_i w
   have h0:=ho.lo;have h1:=ho.hi;have h2:=ho.big;refine ⟨Zb [],1,false,by simp,Ta rfl,?_⟩;have h:=h _ rfl;unfold Yn at h
   conv=>whnf
   refine ⟨L,ts,rfl,ho,[w],rfl,by simp,fun b1 hw1=>?_⟩
   cases b1 with
   | true =>
    rw [Tf hw1] at h;(conv=>whnf);exact h _ (by omega) ho
   | false =>
    rw [Tc (by rw [hw1];simp)] at h;(conv=>whnf);refine ⟨⟨rfl,rfl,rfl,rfl⟩,L,ts,rfl,ho,fun x hx2=>?_⟩;rcases x with ⟨v2,ts2⟩ | ⟨r2,e2⟩
    rotate_left
    ·rw [hx2] at h;intro a9 d9;(conv=>whnf);exact h _ _
    rw [hx2] at h;intro a2 hle2 ho2
    have hb2:=ho2.hi;(conv=>whnf);exact h _ (by omega) ho2
  ·exact h.elim
 ·exact h.elim
noncomputable def ZrP:Tbl:=[(200,WT),(206,JS),(143,Wa)]
theorem ZrQ (ht:TblOK (GG w0 nG) ZrP):PCalls (GG w0 nG) 144 ZeW:=by
 refine pc ht Tryz.func144 ?_;intro args σ K h
 unfold ZeW spR We at h
 split at h
 ·rename_i rest t rows a en dp
  obtain ⟨L,ts,rfl,ho,h⟩:=h;split at h
  ·skip
   have h0:=ho.lo;have h1:=ho.hi;have h2:=ho.big;refine ⟨Zb [],1,false,by simp,Ta rfl,?_⟩;have h:=h _ rfl;unfold Y2 at h
   conv=>whnf
   refine ⟨L,ts,rfl,ho,[[60]],rfl,by simp,fun hw1 ho1=>?_,fun hw1=>?_⟩
   ·rw [Tf hw1] at h;have hb1:=ho1.hi;(conv=>whnf);refine ⟨⟨rfl,rfl,rfl,rfl⟩,L,ts.tail,rfl,ho1,fun x hx2=>?_⟩;exact m205
   ·rw [Tc (by rw [hw1];simp)] at h;(conv=>whnf);exact h _ (by omega) ho
  ·exact h.elim
 ·exact h.elim
noncomputable def ZrR:Tbl:=[(142,Wm),(143,Wa),(201,U9)]
theorem ZrS (ht:TblOK (GG w0 nG) ZrR):PCalls (GG w0 nG) 203 ZkJ:=by
 refine pc ht Tryz.func203 ?_;intro args σ K h
 unfold ZkJ ZuJ ZkF at h
 split at h
 ·rename_i rest t0 t rows a en dp
  obtain ⟨L,ts,rfl,ho,h⟩:=h;split at h
  ·skip
   have h0:=ho.lo;have h1:=ho.hi;have h2:=ho.big;refine ⟨Zb [],2,false,by simp,Ta rfl,?_⟩;have h:=h _ rfl;unfold Wv at h
   conv=>whnf
   refine ⟨L,ts,rfl,ho,fun x hx1=>?_⟩;rcases x with ⟨v1,ts1⟩ | ⟨r1,e1⟩
   rotate_left
   ·exact m64
   rw [hx1,R.bind_ok] at h;intro a1 hle1 ho1
   have hb1:=ho1.hi;(conv=>whnf);refine ⟨L,ts1,rfl,ho1,fun x hx2=>?_⟩;rcases x with ⟨v2,ts2⟩ | ⟨r2,e2⟩
   rotate_left
   ·exact m50
   rw [hx2,R.bind_ok] at h;intro a2 hle2 ho2
   have hb2:=ho2.hi;(conv=>whnf);refine ⟨L,ts2,rfl,ho2,fun x hx3=>?_⟩;rcases x with ⟨v3,ts3⟩ | ⟨r3,e3⟩
   rotate_left
   ·exact m28
   rw [hx3,R.bind_ok] at h;intro a3 hle3 ho3
   have hb3:=ho3.hi;(conv=>whnf);refine ⟨L,ts3,rfl,ho3,fun x hx4=>?_⟩;rcases x with ⟨v4,ts4⟩ | ⟨r4,e4⟩
   rotate_left
   ·exact m111
   rw [hx4,R.bind_ok] at h;intro a4 hle4 ho4
   have hb4:=ho4.hi;(conv=>whnf);exact h _ (by omega) ho4
  ·exact h.elim
 ·exact h.elim
noncomputable def ZrT:Tbl:=[(141,W8),(142,Wm),(200,WT),(143,Wa),(201,U9),(202,Ux)]
theorem ZrU (ht:TblOK (GG w0 nG) ZrT):PCalls (GG w0 nG) 138 Zhr:=by
 refine pc ht Tryz.func138 ?_;intro args σ K h
 unfold Zhr spR We at h
 split at h
 ·rename_i rest t rows a en dp
  obtain ⟨L,ts,rfl,ho,h⟩:=h;split at h
  ·skip
   have h0:=ho.lo;have h1:=ho.hi;have h2:=ho.big;refine ⟨Zb [],1,false,by simp,Ta rfl,?_⟩;have h:=h _ rfl;unfold Jw at h
   conv=>whnf
   refine ⟨L,ts,rfl,ho,?_⟩;(conv=>whnf);refine ⟨L,ts,rfl,ho,fun x hx1=>?_⟩;rcases x with ⟨v1,ts1⟩ | ⟨r1,e1⟩
   rotate_left
   ·exact m64
   rw [hx1,R.bind_ok] at h;intro a1 hle1 ho1
   have hb1:=ho1.hi;(conv=>whnf);refine ⟨L,ts1,rfl,ho1,[[60,58]],rfl,by simp,fun hw2 ho2=>?_,fun hw2=>?_⟩
   ·rw [Tf hw2] at h;have hb2:=ho2.hi;(conv=>whnf);refine ⟨L,ts1.tail,rfl,ho2,fun x hx3=>?_⟩;rcases x with ⟨v3,ts3⟩ | ⟨r3,e3⟩
    rotate_left
    ·exact m28
    exact m114
   ·rw [Tc (by rw [hw2];simp)] at h;(conv=>whnf);refine ⟨L,ts1,rfl,ho1,fun x hx3=>?_⟩;rcases x with ⟨v3,ts3⟩ | ⟨r3,e3⟩
    rotate_left
    ·exact m28
    rw [hx3,R.bind_ok] at h;intro a3 hle3 ho3
    have hb3:=ho3.hi;(conv=>whnf);refine ⟨L,ts3,rfl,ho3,[[91]],rfl,by simp,fun hw4 ho4=>?_,fun hw4=>?_⟩
    ·rw [Tf hw4] at h;have hb4:=ho4.hi;(conv=>whnf);refine ⟨L,ts3.tail,rfl,ho4,fun x hx5=>?_⟩;rcases x with ⟨v5,ts5⟩ | ⟨r5,e5⟩
     rotate_left
     ·exact m49
     rw [hx5,R.bind_ok] at h;intro a5 hle5 ho5
     have hb5:=ho5.hi;(conv=>whnf);refine ⟨L,ts5,rfl,ho5,fun x hx6=>?_⟩;rcases x with ⟨v6,ts6⟩ | ⟨r6,e6⟩
     rotate_left
     ·rw [hx6,R.bind_err] at h;intro a9 d9;(conv=>whnf);exact h _ _
     rw [hx6,R.bind_ok] at h;intro a6 hle6 ho6
     have hb6:=ho6.hi;(conv=>whnf);exact h _ (by omega) ho6
    ·rw [Tc (by rw [hw4];simp)] at h;(conv=>whnf);refine ⟨⟨rfl,rfl,rfl,rfl⟩,L,ts3,rfl,ho3,fun x hx5=>?_⟩;rcases x with ⟨v5,ts5⟩ | ⟨r5,e5⟩
     rotate_left
     ·exact m49
     rw [hx5,R.bind_ok] at h;intro a5 hle5 ho5
     have hb5:=ho5.hi;(conv=>whnf);exact h _ (by omega) ho5
  ·exact h.elim
 ·exact h.elim
end Go.PM.Lex
end

section
namespace Go.PM.Lex
open Go.Proofs
variable {w0:World} {nG:Nat}
def W1 (i o n:Bool):Nat:=(match i with | true=>0 | false=>1)+(match o with | true=>0 | false=>1)+(match n with | true=>0 | false=>1)
theorem Uy (f : Nat) (i o n : Bool) (ts : Ts) : YO (f + 1) i o n ts = if i = false ∧ isW ts [[105, 110, 112, 117, 116]] = true then YO f true o n ts.tail
      else if o=false∧isW ts [[111,117,116,112,117,116]]=true then YO f i true n ts.tail
      else if n=false∧isW ts [[105,110,108,105,110,101]]=true then YO f i o true ts.tail
      else ((i,o,n),ts):=rfl
noncomputable def ZuK:Tbl:=[(141,W8),(142,Wm),(200,WT),(143,Wa),(201,U9)]
theorem ZuL (ht:TblOK (GG w0 nG) ZuK):PCalls (GG w0 nG) 139 ZlO:=by
 refine pc ht Tryz.func139 ?_;intro args σ K h
 unfold ZlO spR We at h
 split at h
 ·rename_i rest t rows a en dp
  obtain ⟨L,ts,rfl,ho,h⟩:=h;split at h
  ·skip
   have h0:=ho.lo;have h1:=ho.hi;have h2:=ho.big;refine ⟨Zb [(7,⟨[],[0,2,3],fun vs σ=>∃(nm:Bs) (l:List Fi) (a5:Int) (ts5:Ts) (i o n:Bool) (a':Int) (ts':Ts) (f:Nat),vs=[]∧σ=⟨[.cells t [.d (.sl (Zv L)),.d (.int .i64 a'),.d (.int .i64 en),.d (.int .i64 dp)],.cells 68 [.d (.str []),.sl 0 66 [],.d (.bool false),.d (.bool false),.d (.bool false),.d (.int .i64 0)],.cells 68 [.d (.str nm),.d (.sl (l.map U8)),.d (.bool i),.d (.bool o),.d (.bool n),.d (.int .i64 (Ze L en ts.length))]],[0],1⟩∧ROK L a' ts'∧a≤a'∧W1 i o n<f∧RKk (fun (v:Re)=>ZbW (ZfN (Ze L en) v)) L en dp (a+0) (R.ok ⟨nm,l,(YO f i o n ts').1.1,(YO f i o n ts').1.2.1,(YO f i o n ts').1.2.2,ts.length⟩ (YO f i o n ts').2) (fun pe a' dp'=>K pe ⟨[.cells t [.d (.sl (Zv L)),.d (.int .i64 a'),.d (.int .i64 en),.d (.int .i64 dp')]],[],0⟩),fun _ σ=>match σ with | ⟨[_,_,.cells _ [_,_,.d (.bool i),.d (.bool o),.d (.bool n),_]],_,_⟩=>W1 i o n | _=>0⟩)],1,false,by simp,Ta rfl,?_⟩;have h:=h _ rfl;unfold Zd6 at h
   conv=>whnf
   refine ⟨L,ts,rfl,ho,?_⟩;(conv=>whnf);refine ⟨L,ts,rfl,ho,fun x hx1=>?_⟩;rcases x with ⟨v1,ts1⟩ | ⟨r1,e1⟩
   rotate_left
   ·exact m64
   rw [hx1,R.bind_ok] at h;intro a1 hle1 ho1
   have hb1:=ho1.hi;(conv=>whnf);refine ⟨L,ts1,rfl,ho1,fun x hx2=>?_⟩;rcases x with ⟨v2,ts2⟩ | ⟨r2,e2⟩
   rotate_left
   ·exact m50
   rw [hx2,R.bind_ok] at h;intro a2 hle2 ho2
   have hb2:=ho2.hi;(conv=>whnf);refine ⟨L,ts2,rfl,ho2,fun x hx3=>?_⟩;rcases x with ⟨v3,ts3⟩ | ⟨r3,e3⟩
   rotate_left
   ·exact m28
   rw [hx3,R.bind_ok] at h;intro a3 hle3 ho3
   have hb3:=ho3.hi;(conv=>whnf);refine ⟨L,ts3,rfl,ho3,fun x hx4=>?_⟩;rcases x with ⟨v4,ts4⟩ | ⟨r4,e4⟩
   rotate_left
   ·exact m111
   rw [hx4,R.bind_ok] at h;intro a4 hle4 ho4
   have hb4:=ho4.hi;(conv=>whnf);refine ⟨⟨v1,v3,a4,ts4,false,false,false,a4,ts4,4,rfl,rfl,ho4,by omega,by decide,h⟩,?_⟩
   clear h hx1 hx2 hx3 hx4 ho1 ho2 ho3 ho4 hb1 hb2 hb3 hb4 hle1 hle2 hle3 hle4
   intro vs σ hI
   obtain ⟨nm,l,a5,ts5,i,o,n,a',ts',f,rfl,rfl,ho',hle,hf,h⟩:=hI;obtain ⟨f,rfl⟩:∃g,f=g+1:=⟨f - 1,by omega⟩
   rw [Uy] at h;have hhi:=ho'.hi;(conv=>whnf)
   cases i with
   | true =>
    rw [Tc (by simp)] at h;(conv=>whnf)
    cases o with
    | true =>
     rw [Tc (by simp)] at h;(conv=>whnf)
     cases n with
     | true =>
      rw [Tc (by simp)] at h;exact m97
     | false =>
      conv=>whnf
      refine ⟨L,ts',rfl,ho',[[105,110,108,105,110,101]],rfl,by simp,fun hw9 ho9=>?_,fun hw9=>?_⟩
      ·rw [Tf ⟨rfl,hw9⟩] at h;have hb9:=ho9.hi;(conv=>whnf);refine ⟨⟨nm,l,a5,ts5,true,true,true,a'+1,ts'.tail,f,rfl,rfl,ho9,by omega,?_,h⟩,?_⟩
       ·(simp only [W1] at hf ⊢;omega)
       ·show W1 true true true<W1 true true false
        (simp only [W1];omega)
      ·rw [Tc (by rw [hw9];simp)] at h;exact m97
    | false =>
     conv=>whnf
     refine ⟨L,ts',rfl,ho',[[111,117,116,112,117,116]],rfl,by simp,fun hw9 ho9=>?_,fun hw9=>?_⟩
     ·rw [Tf ⟨rfl,hw9⟩] at h;have hb9:=ho9.hi;(conv=>whnf);refine ⟨⟨nm,l,a5,ts5,true,true,n,a'+1,ts'.tail,f,rfl,rfl,ho9,by omega,?_,h⟩,?_⟩
      ·cases n <;> (simp only [W1] at hf ⊢;omega)
      ·show W1 true true n<W1 true false n
       cases n <;> (simp only [W1];omega)
     ·rw [Tc (by rw [hw9];simp)] at h;(conv=>whnf)
      cases n with
      | true =>
       rw [Tc (by simp)] at h;exact m97
      | false =>
       conv=>whnf
       refine ⟨L,ts',rfl,ho',[[105,110,108,105,110,101]],rfl,by simp,fun hw9 ho9=>?_,fun hw9=>?_⟩
       ·rw [Tf ⟨rfl,hw9⟩] at h;have hb9:=ho9.hi;(conv=>whnf);refine ⟨⟨nm,l,a5,ts5,true,false,true,a'+1,ts'.tail,f,rfl,rfl,ho9,by omega,?_,h⟩,?_⟩
        ·(simp only [W1] at hf ⊢;omega)
        ·show W1 true false true<W1 true false false
         (simp only [W1];omega)
       ·rw [Tc (by rw [hw9];simp)] at h;exact m97
   | false =>
    conv=>whnf
    refine ⟨L,ts',rfl,ho',[[105,110,112,117,116]],rfl,by simp,fun hw9 ho9=>?_,fun hw9=>?_⟩
    ·rw [Tf ⟨rfl,hw9⟩] at h;have hb9:=ho9.hi;(conv=>whnf);refine ⟨⟨nm,l,a5,ts5,true,o,n,a'+1,ts'.tail,f,rfl,rfl,ho9,by omega,?_,h⟩,?_⟩
     ·cases o <;> cases n <;> (simp only [W1] at hf ⊢;omega)
     ·show W1 true o n<W1 false o n
      cases o <;> cases n <;> (simp only [W1];omega)
    ·rw [Tc (by rw [hw9];simp)] at h;(conv=>whnf)
     cases o with
     | true =>
      rw [Tc (by simp)] at h;(conv=>whnf)
      cases n with
      | true =>
       rw [Tc (by simp)] at h;exact m97
      | false =>
       conv=>whnf
       refine ⟨L,ts',rfl,ho',[[105,110,108,105,110,101]],rfl,by simp,fun hw9 ho9=>?_,fun hw9=>?_⟩
       ·rw [Tf ⟨rfl,hw9⟩] at h;have hb9:=ho9.hi;(conv=>whnf);refine ⟨⟨nm,l,a5,ts5,false,true,true,a'+1,ts'.tail,f,rfl,rfl,ho9,by omega,?_,h⟩,?_⟩
        ·(simp only [W1] at hf ⊢;omega)
        ·show W1 false true true<W1 false true false
         (simp only [W1];omega)
       ·rw [Tc (by rw [hw9];simp)] at h;exact m97
     | false =>
      conv=>whnf
      refine ⟨L,ts',rfl,ho',[[111,117,116,112,117,116]],rfl,by simp,fun hw9 ho9=>?_,fun hw9=>?_⟩
      ·rw [Tf ⟨rfl,hw9⟩] at h;have hb9:=ho9.hi;(conv=>whnf);refine ⟨⟨nm,l,a5,ts5,false,true,n,a'+1,ts'.tail,f,rfl,rfl,ho9,by omega,?_,h⟩,?_⟩
       ·cases n <;> (simp only [W1] at hf ⊢;omega)
       ·show W1 false true n<W1 false false n
        cases n <;> (simp only [W1];omega)
      ·rw [Tc (by rw [hw9];simp)] at h;(conv=>whnf)
       cases n with
       | true =>
        rw [Tc (by simp)] at h;exact m97
       | false =>
        conv=>whnf
        refine ⟨L,ts',rfl,ho',[[105,110,108,105,110,101]],rfl,by simp,fun hw9 ho9=>?_,fun hw9=>?_⟩
        ·rw [Tf ⟨rfl,hw9⟩] at h;have hb9:=ho9.hi;(conv=>whnf);refine ⟨⟨nm,l,a5,ts5,false,false,true,a'+1,ts'.tail,f,rfl,rfl,ho9,by omega,?_,h⟩,?_⟩
         ·(simp only [W1] at hf ⊢;omega)
         ·show W1 false false true<W1 false false false
          (simp only [W1];omega)
        ·rw [Tc (by rw [hw9];simp)] at h;exact m97
  ·exact h.elim
 ·exact h.elim
end Go.PM.Lex
end

section
namespace Go.PM.Lex
open Go.Proofs
variable {w0:World} {nG:Nat}
noncomputable def ZkK (fn:Func) (tb:Tbl):Zr:=fun args σ K=>∃K0:PEnd→St→Prop,(∀e σ,K0 e σ→K e σ)∧args.length≤fn.ntmps∧WF (ctx Zko tb (Zb [])) fn σ.bx.length false args σ K0
theorem YD (fn:Func) (tb:Tbl):Za (ZkK fn tb):=fun args σ K K' hK ⟨K0,h1,h2⟩=>⟨K0,fun e σ h=>hK _ _ (h1 e σ h),h2⟩
noncomputable def ZuM (fn:Func) (unr:Nat→Nat) (tb:Tbl):Zr:=fun args σ K=>∃K0:PEnd→St→Prop,(∀e σ,K0 e σ→K e σ)∧args.length≤fn.ntmps∧WF (Zna Zko tb WJ (Zb []) unr (Yu [])) fn σ.bx.length false args σ K0
theorem Znq (fn:Func) (unr:Nat→Nat) (tb:Tbl):Za (ZuM fn unr tb):=fun args σ K K' hK ⟨K0,h1,h2⟩=>⟨K0,fun e σ h=>hK _ _ (h1 e σ h),h2⟩
theorem _root_.Go.PM.PCalls.closed {G:GE} {g:FuncId} {sp:Zr} (h:PCalls G g sp):PCalls G g (fun args σ K=>∃K0:PEnd→St→Prop,(∀e σ,K0 e σ→K e σ)∧sp args σ K0):=⟨h.enters,fun args σ K ⟨K0,hK,hs⟩ n e w vs hS ha =>
 (h.calls args σ K0 hs n e w vs hS ha).mono fun en w' ⟨pe,σ',e',hk,hr⟩=>⟨pe,σ',e',hK _ _ hk,hr⟩⟩
theorem ZcL {g : FuncId} {fn : Func} {c : Code} {tb : Tbl} (ht : TblOK (GG w0 nG) tb) (hf : (GG w0 nG).P.funcs[g]? = some fn) (hb : fn.body = some c) (hname : (fn.name == "runtime.NumGoroutine") = false) (hok : ZL fn.ntmps c = true) : PCalls (GG w0 nG) g (ZkK fn tb) := by
 have h:PCalls (GG w0 nG) g (fun args σ K=>args.length≤fn.ntmps∧WF (ctx Zko tb (Zb [])) fn σ.bx.length false args σ K):=by
  refine ZbE Z8 mixed ht hf hb hname hok ?_;intro args σ K h
  exact ⟨Zb [],σ.bx.length,false,Tq _,h.1,h.2⟩
 exact h.closed
theorem ZwK {g : FuncId} {fn : Func} {c : Code} {unr : Nat → Nat} {tb : Tbl} (ht : TblOK (GG w0 nG) tb) (hf : (GG w0 nG).P.funcs[g]? = some fn) (hb : fn.body = some c) (hname : (fn.name == "runtime.NumGoroutine") = false) (hok : ZL fn.ntmps c = true) : PCalls (GG w0 nG) g (ZuM fn unr tb) := by
 have h:PCalls (GG w0 nG) g (fun args σ K=>args.length≤fn.ntmps∧WF (Zna Zko tb WJ (Zb []) unr (Yu [])) fn σ.bx.length false args σ K):=by
  refine V7 Z8 mixed ht hf hb hname hok ?_;intro args σ K h
  exact ⟨Zb [],unr,Yu [],σ.bx.length,false,Tq _,h.1,h.2⟩
 exact h.closed
noncomputable def Zts {α:Type} (enc:List Tok→Int→α→PV) (P:Ts→R α) (lo:Int) (d:Nat):Zr:=We fun rest L en dp a ts K=>match rest with
 | []=>(0<d∧dp=65 - (d:Int)∧0≤dp)∧∀x,P ts=x→RKk (enc L en) L en dp (a+lo) x K
 | _=>False
theorem Zb0 {α:Type} (enc:List Tok→Int→α→PV) (P:Ts→R α) (lo:Int) (d:Nat):Za (Zts enc P lo d):=ZS fun rest L en dp a ts K K' hK h=>by
 exact m59
theorem ZeX {α:Type} {enc:List Tok→Int→α→PV} {P:Ts→R α} {lo:Int} {g:FuncId} (h:Vp (GG w0 nG).P g):PCalls (GG w0 nG) g (Zts enc P lo 0):=⟨h,fun args σ K hs=>by
 exfalso;unfold Zts We at hs
 split at hs
 ·obtain ⟨L,ts,_,_,hs⟩:=hs;split at hs
  ·have:=hs.1.1;omega
  ·exact hs
 ·exact hs⟩
theorem _root_.Go.PM.PCalls.weaken1 {G:GE} {g:FuncId} {sp sp':Zr} (h:PCalls G g sp) (hw:∀args σ K,sp' args σ K→sp args σ K):PCalls G g sp':=⟨h.enters,fun args σ K hs=>h.calls args σ K (hw _ _ _ hs)⟩
theorem ZeY {α:Type} {enc:List Tok→Int→α→PV} {P:Ts→R α} {lo:Int} {d:Nat} {g:FuncId} (h:PCalls (GG w0 nG) g (ZiV enc P lo d)):PCalls (GG w0 nG) g (Zts enc P lo (d+1)):=h.weaken1 fun args σ K hs=>by
 unfold Zts We at hs
 unfold ZiV We
 split at hs
 ·obtain ⟨L,ts,h1,h2,hs⟩:=hs;refine ⟨L,ts,h1,h2,?_⟩;split at hs
  ·exact ⟨by have:=hs.1.2;omega,hs.2⟩
  ·exact hs.elim
 ·exact hs
noncomputable def JT:Zr:=fun args σ K=>match args,σ with
 | [.d (.str w),.ptr 0 0],⟨[.cells t0 [.ptr 1 0],.cells t [.d (.sl rows),.d (.int .i64 a),.d (.int .i64 en),.d (.int .i64 dp)]],[],0⟩=>∃L ts,rows=Zv L∧ROK L a ts ∧
   (isW ts [w]=true→ROK L (a+1) ts.tail→K (.ret (.d (.bool true))) ⟨[.cells t0 [.ptr 1 0],.cells t [.d (.sl (Zv L)),.d (.int .i64 (a+1)),.d (.int .i64 en),.d (.int .i64 dp)]],[],0⟩) ∧
   (isW ts [w]=false→K (.ret (.d (.bool false))) ⟨[.cells t0 [.ptr 1 0],.cells t [.d (.sl (Zv L)),.d (.int .i64 a),.d (.int .i64 en),.d (.int .i64 dp)]],[],0⟩)
 | _,_=>False
theorem Zdq:Za JT:=fun args σ K K' hK h=>by
 unfold JT at h ⊢
 split at h
 ·obtain ⟨L,ts,h1,h2,h3,h4⟩:=h;exact ⟨L,ts,h1,h2,fun g1 g2=>hK _ _ (h3 g1 g2),fun g=>hK _ _ (h4 g)⟩
 ·exact h.elim
noncomputable def ZlP:Tbl:=[(200,WT)]
theorem Zpx (ht:TblOK (GG w0 nG) ZlP):PCalls (GG w0 nG) 300 JT:=by
 refine pc ht Tryz.func300 ?_;exact m70
theorem Zpy (ht:TblOK (GG w0 nG) ZlP):PCalls (GG w0 nG) 301 JT:=by
 refine pc ht Tryz.func301 ?_;exact m70
noncomputable def Znr:Zr:=fun args σ K=>match args,σ with
 | [.asl 0 0 n,.func g [] [.ptr 1 0]],⟨[.cells tA cs,.cells t0 [.ptr 2 0],.cells t [.d (.sl rows),.d (.int .i64 a),.d (.int .i64 en),.d (.int .i64 dp)]],[],0⟩=>∃L ts ws,rows=Zv L∧ROK L a ts ∧
   ((ws=relWords∧g=300)∨(ws=aggWords∧g=301))∧n=ws.length∧cs=ws.map (fun w=>PV.d (.str w)) ∧
   (∀k:Nat,UL ts 0 ws=some k→ROK L (a+1) ts.tail→K (.ret (.d (.int .i64 k))) ⟨[.cells tA cs,.cells t0 [.ptr 2 0],.cells t [.d (.sl (Zv L)),.d (.int .i64 (a+1)),.d (.int .i64 en),.d (.int .i64 dp)]],[],0⟩) ∧
   (UL ts 0 ws=none→K (.ret (.d (.int .i64 (-1)))) ⟨[.cells tA cs,.cells t0 [.ptr 2 0],.cells t [.d (.sl (Zv L)),.d (.int .i64 a),.d (.int .i64 en),.d (.int .i64 dp)]],[],0⟩)
 | _,_=>False
theorem Zns:Za Znr:=fun args σ K K' hK h=>by
 unfold Znr at h ⊢
 split at h
 ·obtain ⟨L,ts,ws,h1,h2,h3,h4,h5,h6,h7⟩:=h;exact ⟨L,ts,ws,h1,h2,h3,h4,h5,fun k g1 g2=>hK _ _ (h6 k g1 g2),fun g=>hK _ _ (h7 g)⟩
 ·exact h.elim
noncomputable def Ztt:Tbl:=[(300,JT),(301,JT)]
theorem ZwL (ht:TblOK (GG w0 nG) Ztt):PCalls (GG w0 nG) 253 Znr:=by
 refine V7 Z8 mixed (tbl:=Ztt) ht Tryz.func253 rfl (by kernel_rfl) (by kernel_rfl) ?_;intro args σ K h
 unfold Znr at h
 split at h
 ·rename_i n g tA cs t0 t rows a en dp
  obtain ⟨L,ts,ws,rfl,ho,hws,rfl,rfl,h1,h2⟩:=h;refine ⟨Zb [],W4 [(2,8)],Yu [],3,false,by simp,Ta rfl,?_⟩;rcases hws with ⟨rfl,rfl⟩ | ⟨rfl,rfl⟩
  ·conv=>whnf
   refine ⟨by decide,by decide,?_⟩;(conv=>whnf);refine ⟨L,ts,rfl,ho,fun hw0 ho2=>?_,fun hw0=>?_⟩
   ·conv=>whnf
    exact h1 0 (by simp [UL,relWords, *]) ho2
   conv=>whnf
   refine oiO ?_;(conv=>whnf);refine ⟨by decide,by decide,?_⟩;(conv=>whnf);refine ⟨L,ts,rfl,ho,fun hw1 ho2=>?_,fun hw1=>?_⟩
   ·conv=>whnf
    exact h1 1 (by simp [UL,relWords, *]) ho2
   conv=>whnf
   refine oiO ?_;(conv=>whnf);refine ⟨by decide,by decide,?_⟩;(conv=>whnf);refine ⟨L,ts,rfl,ho,fun hw2 ho2=>?_,fun hw2=>?_⟩
   ·conv=>whnf
    exact h1 2 (by simp [UL,relWords, *]) ho2
   conv=>whnf
   refine oiO ?_;(conv=>whnf);refine ⟨by decide,by decide,?_⟩;(conv=>whnf);refine ⟨L,ts,rfl,ho,fun hw3 ho2=>?_,fun hw3=>?_⟩
   ·conv=>whnf
    exact h1 3 (by simp [UL,relWords, *]) ho2
   conv=>whnf
   refine oiO ?_;(conv=>whnf);refine ⟨by decide,by decide,?_⟩;(conv=>whnf);refine ⟨L,ts,rfl,ho,fun hw4 ho2=>?_,fun hw4=>?_⟩
   ·conv=>whnf
    exact h1 4 (by simp [UL,relWords, *]) ho2
   conv=>whnf
   refine oiO ?_;(conv=>whnf);refine ⟨by decide,by decide,?_⟩;(conv=>whnf);refine ⟨L,ts,rfl,ho,fun hw5 ho2=>?_,fun hw5=>?_⟩
   ·conv=>whnf
    exact h1 5 (by simp [UL,relWords, *]) ho2
   conv=>whnf
   refine oiO ?_;(conv=>whnf);exact h2 (by simp [UL,relWords, *])
  ·conv=>whnf
   refine ⟨by decide,by decide,?_⟩;(conv=>whnf);refine ⟨L,ts,rfl,ho,fun hw0 ho2=>?_,fun hw0=>?_⟩
   ·conv=>whnf
    exact h1 0 (by simp [UL,aggWords, *]) ho2
   conv=>whnf
   refine oiO ?_;(conv=>whnf);refine ⟨by decide,by decide,?_⟩;(conv=>whnf);refine ⟨L,ts,rfl,ho,fun hw1 ho2=>?_,fun hw1=>?_⟩
   ·conv=>whnf
    exact h1 1 (by simp [UL,aggWords, *]) ho2
   conv=>whnf
   refine oiO ?_;(conv=>whnf);refine ⟨by decide,by decide,?_⟩;(conv=>whnf);refine ⟨L,ts,rfl,ho,fun hw2 ho2=>?_,fun hw2=>?_⟩
   ·conv=>whnf
    exact h1 2 (by simp [UL,aggWords, *]) ho2
   conv=>whnf
   refine oiO ?_;(conv=>whnf);refine ⟨by decide,by decide,?_⟩;(conv=>whnf);refine ⟨L,ts,rfl,ho,fun hw3 ho2=>?_,fun hw3=>?_⟩
   ·conv=>whnf
    exact h1 3 (by simp [UL,aggWords, *]) ho2
   conv=>whnf
   refine oiO ?_;(conv=>whnf);exact h2 (by simp [UL,aggWords, *])
 ·exact h.elim
end Go.PM.Lex
end

section
namespace Go.PM.Lex
open Go.Proofs
variable {w0:World} {nG:Nat}
def ZcM:Nat→Ts→R Ex
 | 0=>fun _=>.err 0 150
 | d+1=>Zp d
theorem ZlQ (d:Nat):Yi d=fun ts=>Vc (ZcM d) 6 1 ts:=by cases d <;> rfl
theorem Zak (d:Nat) (ts:Ts):Zp d ts=V4 d (ZcM d) ts:=by cases d <;> rfl
theorem ZgB {ts:Ts} (h:Zx ts=true):ts≠[]:=by rintro rfl;simp [Zx,hd] at h
noncomputable abbrev ZkL (d:Nat):Zr:=Zts (fun L en (v:Ex)=>ZbW (Yc (Ze L en) v)) (Yi d) 0 d
noncomputable abbrev ZiY (d:Nat):Zr:=Zts (fun L en (v:Ex)=>ZbW (Yc (Ze L en) v)) (ZcM d) 0 d
noncomputable abbrev ZeZ (d:Nat):Zr:=ZiV (fun L en (v:Ex)=>ZbW (Yc (Ze L en) v)) (ZW d) 0 d
noncomputable abbrev ZdX (d:Nat):Zr:=ZiV (fun L en (v:Ex)=>ZbW (Yc (Ze L en) v)) (Zp d) 0 d
noncomputable abbrev Zb1 (d:Nat):Zr:=ZiV (fun L en (v:Ex)=>ZbW (Yc (Ze L en) v)) (Yr d (Yi d)) 0 d
noncomputable def Zdr (d:Nat):Zr:=We fun rest L en dp a ts K=>match rest with
 | [.d (.str fr),.d (.str tw)]=>((dp=64 - (d:Int)∧0≤dp)∧tw≠[])∧∀x,XY d (Yi d) fr tw ts=x→RKk (fun (l:List Ex)=>.d (.sl (l.map (Yc (Ze L en))))) L en dp a x K
 | _=>False
theorem Zbb (d:Nat):Za (Zdr d):=ZS fun rest L en dp a ts K K' hK h=>by
 exact m59
noncomputable def ZiZ (d:Nat):Zr:=We fun rest L en dp a ts K=>match rest with
 | [.agg [.d (.int .u8 op),.d (.str []),.d (.int .i64 n),.nils e,.d (.int .i64 at')]]=>((dp=64 - (d:Int)∧0≤dp)∧n=0∧e=24)∧∃o:Nat,op=(o:Int)∧∀x,Zq d [40] [41] (X2 (Yi d) (YF o) []) ts=x →
   RKk (fun (l:List Ex)=>.agg [.d (.int .u8 op),.d (.str []),.d (.int .i64 0),.d (.sl (l.map (Yc (Ze L en)))),.d (.int .i64 at')]) L en dp a x K
 | _=>False
theorem ZkM (d:Nat):Za (ZiZ d):=ZS fun rest L en dp a ts K K' hK h=>by
 split at h
 ·obtain ⟨h0,o,h1,h2⟩:=h;exact ⟨h0,o,h1,fun x hx=>Ym hK (h2 x hx)⟩
 ·exact h.elim
noncomputable def WU (d:Nat):Zr:=fun args σ K=>match args,σ with
 | [.ptr 0 0,.d (.str sg),.d (.int .i64 m),.func g1 [.ptr 0 0] [],.func g2 [.ptr 0 0] []],⟨[.cells t [.d (.sl rows),.d (.int .i64 a),.d (.int .i64 en),.d (.int .i64 dp)]],[],0⟩ =>
   (sg=[44]∧m=12∧g1=262∧g2=35∧0<d∧dp=65 - (d:Int)∧0≤dp)∧∃L ts,rows=Zv L∧ROK L a ts∧∀x,YE [44] 12 Zx (Yi d) ts=x →
    RKk (fun (l:List Ex)=>.d (.sl (l.map (Yc (Ze L en))))) L en dp a x fun pe a' dp'=>K pe ⟨[.cells t [.d (.sl (Zv L)),.d (.int .i64 a'),.d (.int .i64 en),.d (.int .i64 dp')]],[],0⟩
 | _,_=>False
theorem ZfR (d:Nat):Za (WU d):=fun args σ K K' hK h=>by
 unfold WU at h ⊢
 exact m51
noncomputable def ZlR (d:Nat):Tbl:=[(136,Zh4),(261,WU d)]
noncomputable def ZlS (d:Nat):Tbl:=[(136,Zh4),(143,Wa),(81,Xl),(260,ZkK Tryz.f260 (ZlR d))]
noncomputable def ZuN (d:Nat):Tbl:=[(204,ZkK Tryz.f204 (ZlS d))]
theorem ZuO {d:Nat} (ht:TblOK (GG w0 nG) (ZuN d)):PCalls (GG w0 nG) 207 (Zdr d):=by
 refine pc ht Tryz.func207 ?_;intro args σ K h
 unfold Zdr We at h
 split at h
 ·rename_i rest t rows a en dp
  obtain ⟨L,ts,rfl,ho,h⟩:=h;split at h
  ·rename_i fr tw
   obtain ⟨⟨hdp,hto⟩,h⟩:=h;have h0:=ho.lo;have h1:=ho.hi;have h2:=ho.big;refine ⟨Zb [],1,false,by simp,Ta rfl,?_⟩;have h:=h _ rfl;unfold XY at h
   conv=>whnf
   refine ⟨_,fun _ _ h=>h,Ta rfl,?_⟩;(conv=>whnf);refine ⟨L,ts,rfl,ho,[fr],rfl,by simp,fun b hw1=>?_⟩
   cases b with
   | false =>
    exact m231
   | true =>
    rw [Zq,Tf hw1] at h;(conv=>whnf);refine ZAf (fun hc=>?_) (fun hc=>?_)
    ·exact m206
    ·rw [Tc (by omega)] at h;(conv=>whnf);refine ⟨L,ts,rfl,ho,fun x hx=>?_⟩;rw [ZO,Tf hw1] at hx;subst hx;intro a1 hle1 ho1
     have hb1:=ho1.hi;(conv=>whnf);refine oiO ?_;(conv=>whnf);refine ⟨_,fun _ _ h=>h,Ta rfl,?_⟩;(conv=>whnf);refine ⟨L,ts.tail,rfl,ho1,[tw],rfl,by simp,fun b hw4=>?_⟩;have hgo:∀(x:R (List Ex)),(if isW ts.tail [tw]=true then R.ok [] ts.tail else YE [44] 12 Zx (Yi d) ts.tail)=x→True:=fun _ _=>trivial
     cases b with
     | true =>
      rw [Tf hw4,R.bind_ok] at h;(conv=>whnf);have ho2:=ho1;refine ZAh (fun _=>?_) (fun g=>absurd g hto);(conv=>whnf);rw [Tc hto] at h;refine ⟨L,ts.tail,rfl,ho1,fun x hx3=>?_⟩;exact m19
     | false =>
      rw [Tc (by rw [hw4];simp)] at h;(conv=>whnf);refine ⟨⟨rfl,rfl,rfl,rfl,by omega,by omega,by omega⟩,L,ts.tail,rfl,ho1,fun x hx2=>?_⟩;rcases x with ⟨v2,ts2⟩ | ⟨r2,e2⟩
      rotate_left
      ·exact m50
      rw [hx2,R.bind_ok] at h;intro a2 hle2 ho2
      have hb2:=ho2.hi;(conv=>whnf);refine ZAh (fun _=>?_) (fun g=>absurd g hto);(conv=>whnf);rw [Tc hto] at h;refine ⟨L,ts2,rfl,ho2,fun x hx3=>?_⟩;exact m19
  ·exact h.elim
 ·exact h.elim
end Go.PM.Lex
end

section
namespace Go.PM.Lex
open Go.Proofs
variable {w0:World} {nG:Nat}
theorem Uz (ex:Ts→R Ex) (k:Nat) (l:List Ex) (ts:Ts):X2 ex (k+1) l ts=(if l=[] then .ok () ts else ZO [44] ts).bind fun _ ts=>(ex ts).bind fun e ts=>X2 ex k (l++[e]) ts:=rfl
noncomputable def ZlT (d:Nat):Tbl:=[(143,Wa),(35,ZkL d)]
noncomputable def ZlU (d:Nat):Tbl:=[(136,Zh4),(143,Wa),(81,Xl),(313,ZuM Tryz.f313 (W4 [(1,5)]) (ZlT d))]
noncomputable def ZuP (d:Nat):Tbl:=[(204,ZkK Tryz.f204 (ZlU d))]
theorem ZuQ {d:Nat} (ht:TblOK (GG w0 nG) (ZuP d)):PCalls (GG w0 nG) 283 (ZiZ d):=by
 refine pc ht Tryz.func283 ?_;intro args σ K h
 unfold ZiZ We at h
 split at h
 ·rename_i rest t rows a en dp
  obtain ⟨L,ts,rfl,ho,h⟩:=h;split at h
  ·rename_i op n e at'
   obtain ⟨⟨hdp,rfl,rfl⟩,o,rfl,h⟩:=h;have h:=h _ rfl;have h0:=ho.lo;have h1:=ho.hi;have h2:=ho.big;refine ⟨Zb [],1,false,by simp,Ta rfl,?_⟩;(conv=>whnf);refine ZAf (fun hop=>?_) (fun hop=>?_)
   ·obtain rfl:o=22:=by omega
    have har:YF 22=3:=rfl;(conv=>whnf);refine oiD ?_;(conv=>whnf);refine oiD ?_;(conv=>whnf);rw [har] at h;refine ⟨_,fun _ _ h=>h,Ta rfl,?_⟩;(conv=>whnf);refine ⟨L,ts,rfl,ho,[[40]],rfl,by simp,fun b hw1=>?_⟩
    cases b with
    | false =>
     exact m231
    | true =>
     rw [Zq,Tf hw1] at h;(conv=>whnf);refine ZAf (fun hc=>?_) (fun hc=>?_)
     ·exact m206
     ·rw [Tc (by omega)] at h;(conv=>whnf);refine ⟨L,ts,rfl,ho,fun x hx=>?_⟩;rw [ZO,Tf hw1] at hx;subst hx;intro a1 hle1 ho1
      have hb1:=ho1.hi;(conv=>whnf);refine oiO ?_;(conv=>whnf);refine ⟨_,fun _ _ h=>h,Ta rfl,?_⟩;(conv=>whnf);rw [Uz] at h;rw [Tf rfl,R.bind_ok] at h;refine ⟨L,ts.tail,rfl,ho1,⟨by omega,by omega,by omega⟩,fun x hx10=>?_⟩;rcases x with ⟨v10,ts10⟩ | ⟨r10,e10⟩
      rotate_left
      ·exact m160
      rw [hx10,R.bind_ok] at h;intro a10 hle10 ho10
      have hb10:=ho10.hi;obtain ⟨v10a,v10b,v10c,v10d,v10e⟩:=v10;(conv=>whnf);refine ⟨rfl,rfl,Ta rfl,Ta rfl,?_⟩;(conv=>whnf)
      repeat (refine ⟨rfl,?_⟩;conv=>whnf)
      refine oiD ?_;(conv=>whnf);rw [Uz] at h;rw [Tc (by simp)] at h;refine ⟨L,ts10,rfl,ho10,fun x hx11=>?_⟩;rcases x with ⟨v11,ts11⟩ | ⟨r11,e11⟩
      rotate_left
      ·rw [hx11,R.bind_err,R.bind_err] at h;intro a9 d9;(conv=>whnf);exact h _ _
      rw [hx11,R.bind_ok] at h;intro a11 hle11 ho11
      have hb11:=ho11.hi;(conv=>whnf);refine ⟨L,ts11,rfl,ho11,⟨by omega,by omega,by omega⟩,fun x hx12=>?_⟩;rcases x with ⟨v12,ts12⟩ | ⟨r12,e12⟩
      rotate_left
      ·rw [hx12,R.bind_err,R.bind_err] at h;intro a9 d9;(conv=>whnf);exact h _ _
      rw [hx12,R.bind_ok] at h;intro a12 hle12 ho12
      have hb12:=ho12.hi;obtain ⟨v12a,v12b,v12c,v12d,v12e⟩:=v12;(conv=>whnf);refine ⟨rfl,rfl,Ta rfl,Ta rfl,?_⟩;(conv=>whnf)
      repeat (refine ⟨rfl,?_⟩;conv=>whnf)
      refine oiD ?_;(conv=>whnf);rw [Uz] at h;rw [Tc (by simp)] at h;refine ⟨L,ts12,rfl,ho12,fun x hx13=>?_⟩;rcases x with ⟨v13,ts13⟩ | ⟨r13,e13⟩
      rotate_left
      ·rw [hx13,R.bind_err,R.bind_err] at h;intro a9 d9;(conv=>whnf);exact h _ _
      rw [hx13,R.bind_ok] at h;intro a13 hle13 ho13
      have hb13:=ho13.hi;(conv=>whnf);refine ⟨L,ts13,rfl,ho13,⟨by omega,by omega,by omega⟩,fun x hx14=>?_⟩;rcases x with ⟨v14,ts14⟩ | ⟨r14,e14⟩
      rotate_left
      ·rw [hx14,R.bind_err,R.bind_err] at h;intro a9 d9;(conv=>whnf);exact h _ _
      rw [hx14,R.bind_ok] at h;intro a14 hle14 ho14
      have hb14:=ho14.hi;obtain ⟨v14a,v14b,v14c,v14d,v14e⟩:=v14;(conv=>whnf);refine ⟨rfl,rfl,Ta rfl,Ta rfl,?_⟩;(conv=>whnf)
      repeat (refine ⟨rfl,?_⟩;conv=>whnf)
      refine oiD ?_;(conv=>whnf);rw [X2] at h;rw [R.bind_ok] at h;have hx99:ts14=ts14:=rfl;have ho2:=ho14;obtain ⟨ts2,hts2⟩:∃t,t=ts14:=⟨_,rfl⟩
      rw [← hts2] at h ho2;exact m219
   conv=>whnf
   refine ZAf (fun hop2=>?_) (fun hop2=>?_)
   ·obtain rfl:o=20:=by omega
    have har:YF 20=2:=rfl;(conv=>whnf);refine oiD ?_;(conv=>whnf);rw [har] at h;refine ⟨_,fun _ _ h=>h,Ta rfl,?_⟩;(conv=>whnf);refine ⟨L,ts,rfl,ho,[[40]],rfl,by simp,fun b hw1=>?_⟩
    cases b with
    | false =>
     exact m231
    | true =>
     rw [Zq,Tf hw1] at h;(conv=>whnf);refine ZAf (fun hc=>?_) (fun hc=>?_)
     ·exact m206
     ·rw [Tc (by omega)] at h;(conv=>whnf);refine ⟨L,ts,rfl,ho,fun x hx=>?_⟩;rw [ZO,Tf hw1] at hx;subst hx;intro a1 hle1 ho1
      have hb1:=ho1.hi;(conv=>whnf);refine oiO ?_;(conv=>whnf);refine ⟨_,fun _ _ h=>h,Ta rfl,?_⟩;(conv=>whnf);rw [Uz] at h;rw [Tf rfl,R.bind_ok] at h;refine ⟨L,ts.tail,rfl,ho1,⟨by omega,by omega,by omega⟩,fun x hx10=>?_⟩;rcases x with ⟨v10,ts10⟩ | ⟨r10,e10⟩
      rotate_left
      ·exact m160
      rw [hx10,R.bind_ok] at h;intro a10 hle10 ho10
      have hb10:=ho10.hi;obtain ⟨v10a,v10b,v10c,v10d,v10e⟩:=v10;(conv=>whnf);refine ⟨rfl,rfl,Ta rfl,Ta rfl,?_⟩;(conv=>whnf)
      repeat (refine ⟨rfl,?_⟩;conv=>whnf)
      refine oiD ?_;(conv=>whnf);rw [Uz] at h;rw [Tc (by simp)] at h;refine ⟨L,ts10,rfl,ho10,fun x hx11=>?_⟩;rcases x with ⟨v11,ts11⟩ | ⟨r11,e11⟩
      rotate_left
      ·rw [hx11,R.bind_err,R.bind_err] at h;intro a9 d9;(conv=>whnf);exact h _ _
      rw [hx11,R.bind_ok] at h;intro a11 hle11 ho11
      have hb11:=ho11.hi;(conv=>whnf);refine ⟨L,ts11,rfl,ho11,⟨by omega,by omega,by omega⟩,fun x hx12=>?_⟩;rcases x with ⟨v12,ts12⟩ | ⟨r12,e12⟩
      rotate_left
      ·rw [hx12,R.bind_err,R.bind_err] at h;intro a9 d9;(conv=>whnf);exact h _ _
      rw [hx12,R.bind_ok] at h;intro a12 hle12 ho12
      have hb12:=ho12.hi;obtain ⟨v12a,v12b,v12c,v12d,v12e⟩:=v12;(conv=>whnf);refine ⟨rfl,rfl,Ta rfl,Ta rfl,?_⟩;(conv=>whnf)
      repeat (refine ⟨rfl,?_⟩;conv=>whnf)
      refine oiD ?_;(conv=>whnf);rw [X2] at h;rw [R.bind_ok] at h;have hx99:ts12=ts12:=rfl;have ho2:=ho12;obtain ⟨ts2,hts2⟩:∃t,t=ts12:=⟨_,rfl⟩
      rw [← hts2] at h ho2;exact m219
   have har:YF o=1:=by rw [YF,Tc (by omega),Tc (by omega)]
   conv=>whnf
   rw [har] at h;refine ⟨_,fun _ _ h=>h,Ta rfl,?_⟩;(conv=>whnf);refine ⟨L,ts,rfl,ho,[[40]],rfl,by simp,fun b hw1=>?_⟩
   cases b with
   | false =>
    exact m231
   | true =>
    rw [Zq,Tf hw1] at h;(conv=>whnf);refine ZAf (fun hc=>?_) (fun hc=>?_)
    ·exact m206
    ·rw [Tc (by omega)] at h;(conv=>whnf);refine ⟨L,ts,rfl,ho,fun x hx=>?_⟩;rw [ZO,Tf hw1] at hx;subst hx;intro a1 hle1 ho1
     have hb1:=ho1.hi;(conv=>whnf);refine oiO ?_;(conv=>whnf);refine ⟨_,fun _ _ h=>h,Ta rfl,?_⟩;(conv=>whnf);rw [Uz] at h;rw [Tf rfl,R.bind_ok] at h;refine ⟨L,ts.tail,rfl,ho1,⟨by omega,by omega,by omega⟩,fun x hx10=>?_⟩;rcases x with ⟨v10,ts10⟩ | ⟨r10,e10⟩
     rotate_left
     ·exact m160
     rw [hx10,R.bind_ok] at h;intro a10 hle10 ho10
     have hb10:=ho10.hi;obtain ⟨v10a,v10b,v10c,v10d,v10e⟩:=v10;(conv=>whnf);refine ⟨rfl,rfl,Ta rfl,Ta rfl,?_⟩;(conv=>whnf)
     repeat (refine ⟨rfl,?_⟩;conv=>whnf)
     refine oiD ?_;(conv=>whnf);rw [X2] at h;rw [R.bind_ok] at h;have hx99:ts10=ts10:=rfl;have ho2:=ho10;obtain ⟨ts2,hts2⟩:∃t,t=ts10:=⟨_,rfl⟩
     rw [← hts2] at h ho2;exact m219
  ·exact h.elim
 ·exact h.elim
end Go.PM.Lex
end

section
namespace Go.PM.Lex
open Go.Proofs
variable {w0:World} {nG:Nat}
noncomputable def ZlV (d:Nat):Tbl:=[(35,ZkL d)]
noncomputable def ZlW (d:Nat):Tbl:=[(136,Zh4),(143,Wa),(81,Xl),(282,ZkK Tryz.f282 (ZlV d))]
noncomputable def Zpz (d:Nat):Tbl:=[(262,Zaw Zx),(81,Xl),(198,ZaL),(204,ZkK Tryz.f204 (ZlW d)),(207,Zdr d),(142,Wm),(136,Zh4),(212,Xk),(283,ZiZ d)]
theorem Znt {d:Nat} (ht:TblOK (GG w0 nG) (Zpz d)):PCalls (GG w0 nG) 229 (Zb1 d):=by
 refine Zez Z8 mixed (tbl:=Zpz d) ht Tryz.func229 rfl (by kernel_rfl) (by kernel_rfl) ?_;intro args σ K h
 unfold Zb1 ZiV We at h
 split at h
 ·rename_i rest t rows a en dp
  obtain ⟨L,ts,rfl,ho,h⟩:=h;split at h
  ·obtain ⟨hdp,h⟩:=h;have h0:=ho.lo;have h1:=ho.hi;have h2:=ho.big;refine ⟨Zb [],W4 [],Yu [],Yu [],Yu [283],1,false,by simp,Ta rfl,?_⟩;have h:=h _ rfl;(conv=>whnf);refine ⟨L,ts,rfl,ho,fun b hst=>?_⟩
   cases b with
   | false =>
    rw [Yr,Tf hst] at h;(conv=>whnf);refine ⟨L,ts,rfl,ho,?_⟩;exact m53
   | true =>
    rw [Yr,Tc (by rw [hst];simp)] at h;have hot:=ho.tl (ZgB hst);have hbt:=hot.hi;(conv=>whnf);refine ⟨L,ts,rfl,ho,fun fin=>Or.inl ⟨rfl,?_⟩⟩;(conv=>whnf);refine ZAf (fun hc=>?_) (fun hc=>?_)
    ·rw [Tf (show (hd ts).kind=2 by omega)] at h;exact m104
    rw [Tc (show ¬(hd ts).kind=2 by omega)] at h;(conv=>whnf);refine ZAf (fun hc=>?_) (fun hc=>?_)
    ·rw [Tf (show (hd ts).kind=3 by omega)] at h;exact m104
    rw [Tc (show ¬(hd ts).kind=3 by omega)] at h;(conv=>whnf);refine ZAf (fun hc=>?_) (fun hc=>?_)
    ·rw [Tf (show (hd ts).text=[40] from hc)] at h;(conv=>whnf);refine ⟨_,fun _ _ h=>h,Ta rfl,?_⟩;(conv=>whnf);refine ⟨L,ts,rfl,ho,[[40]],rfl,by simp,fun b hw1=>?_⟩
     cases b with
     | false =>
      exact m231
     | true =>
      rw [Zq,Tf hw1] at h;(conv=>whnf);refine ZAf (fun hc=>?_) (fun hc=>?_)
      ·exact m206
      ·rw [Tc (by omega)] at h;(conv=>whnf);refine ⟨L,ts,rfl,ho,fun x hx=>?_⟩;rw [ZO,Tf hw1] at hx;subst hx;intro a1 hle1 ho1
       have hb1:=ho1.hi;(conv=>whnf);refine oiO ?_;(conv=>whnf);refine ⟨_,fun _ _ h=>h,Ta rfl,?_⟩;(conv=>whnf);refine ⟨L,ts.tail,rfl,ho1,⟨by omega,by omega,by omega⟩,fun x hx2=>?_⟩;rcases x with ⟨v2,ts2⟩ | ⟨r2,e2⟩
       rotate_left
       ·exact m50
       rw [hx2,R.bind_ok] at h;intro a2 hle2 ho2
       have hb2:=ho2.hi;obtain ⟨v2a,v2b,v2c,v2d,v2e⟩:=v2;(conv=>whnf);exact m219
    rw [Tc (show ¬(hd ts).text=[40] from hc)] at h;(conv=>whnf);refine ZAf (fun hc=>?_) (fun hc=>?_)
    ·rw [Tf (show (hd ts).text=[91] from hc)] at h;(conv=>whnf);refine ⟨L,ts,rfl,ho,⟨hdp,by simp⟩,fun x hx1=>?_⟩;rcases x with ⟨v1,ts1⟩ | ⟨r1,e1⟩
     rotate_left
     ·exact m64
     rw [hx1,R.bind_ok] at h;intro a1 hle1 ho1
     have hb1:=ho1.hi;(conv=>whnf);rw [← Zg];exact h _ (by omega) ho1
    rw [Tc (show ¬(hd ts).text=[91] from hc)] at h;(conv=>whnf);refine ZAf (fun hc=>?_) (fun hc=>?_)
    ·rw [Tf (show (hd ts).text=[36] from hc)] at h;(conv=>whnf);refine oiO ?_;(conv=>whnf);refine ⟨L,ts.tail,rfl,hot,fun x hx1=>?_⟩;rcases x with ⟨v1,ts1⟩ | ⟨r1,e1⟩
     rotate_left
     ·exact m64
     rw [hx1,R.bind_ok] at h;intro a1 hle1 ho1
     have hb1:=ho1.hi;(conv=>whnf);refine ⟨L,ts1,rfl,ho1,[[40]],rfl,by simp,fun b hw2=>?_⟩
     cases b with
     | false =>
      rw [Tc (by rw [hw2];simp)] at h;(conv=>whnf);exact h _ (by omega) ho1
     | true =>
      rw [Tf hw2] at h;(conv=>whnf);refine ⟨L,ts1,rfl,ho1,⟨hdp,by simp⟩,fun x hx3=>?_⟩;rcases x with ⟨v3,ts3⟩ | ⟨r3,e3⟩
      rotate_left
      ·exact m28
      exact m166
    rw [Tc (show ¬(hd ts).text=[36] from hc)] at h;(conv=>whnf);intro n hn
    conv=>whnf
    refine ZAh (fun hc=>?_) (fun hc=>?_)
    ·rw [Tf (show ZU (hd ts).text≠0 by omega)] at h;(conv=>whnf);refine oiO ?_;(conv=>whnf);intro n2 hn2
     conv=>whnf
     refine ⟨L,ts.tail,rfl,hot,⟨hdp,rfl,rfl⟩,ZU (hd ts).text,hn2.symm,fun x hx1=>?_⟩;rcases x with ⟨v1,ts1⟩ | ⟨r1,e1⟩
     rotate_left
     ·exact m64
     rw [hx1,R.bind_ok] at h;intro a1 hle1 ho1
     have hb1:=ho1.hi;(conv=>whnf);rw [← hn2,← Zg];exact h _ (by omega) ho1
    rw [Tc (show ¬ZU (hd ts).text≠0 by omega)] at h;(conv=>whnf);refine ZAf (fun hc=>?_) (fun hc=>?_)
    ·rw [Tf (show (hd ts).text=[110,105,108] from hc)] at h;(conv=>whnf);refine oiO ?_;(conv=>whnf);exact h _ (by omega) hot
    rw [Tc (show ¬(hd ts).text=[110,105,108] from hc)] at h;(conv=>whnf);refine ZAf (fun hc=>?_) (fun hc=>?_)
    ·rw [Tf (show (hd ts).text=[95] from hc)] at h;(conv=>whnf);refine oiO ?_;(conv=>whnf);exact h _ (by omega) hot
    rw [Tc (show ¬(hd ts).text=[95] from hc)] at h;exact m104
  ·exact h.elim
 ·exact h.elim
noncomputable def ZlX (d:Nat):Tbl:=[(161,ZiY d)]
noncomputable def ZlY (d:Nat):Tbl:=[(136,Zh4),(143,Wa),(81,Xl),(228,ZkK Tryz.f228 (ZlX d))]
noncomputable def ZlZ (d:Nat):Tbl:=[(141,W8),(136,Zh4),(204,ZkK Tryz.f204 (ZlY d)),(229,Zb1 d)]
theorem ZpA {d:Nat} (ht:TblOK (GG w0 nG) (ZlZ d)):PCalls (GG w0 nG) 161 (ZdX d):=by
 refine V7 Z8 mixed (tbl:=ZlZ d) ht Tryz.func161 rfl (by kernel_rfl) (by kernel_rfl) ?_;intro args σ K h
 unfold ZdX ZiV We at h
 split at h
 ·rename_i rest t rows a en dp
  obtain ⟨L,ts,rfl,ho,h⟩:=h;split at h
  ·obtain ⟨hdp,h⟩:=h;have h0:=ho.lo;have h1:=ho.hi;have h2:=ho.big;refine ⟨Zb [],W4 [(3,4)],Yu [],1,false,by simp,Ta rfl,?_⟩;have h:=h _ rfl;rw [Zak,V4] at h;(conv=>whnf);refine ⟨L,ts,rfl,ho,?_⟩;(conv=>whnf);refine ⟨by decide,by decide,?_⟩;(conv=>whnf);refine ⟨L,ts,rfl,ho,[[45]],rfl,by simp,fun b hw8=>?_⟩
   cases b with
   | true =>
    rw [Tf hw8] at h;(conv=>whnf);refine ⟨_,fun _ _ h=>h,Ta rfl,?_⟩;(conv=>whnf);refine ⟨L,ts,rfl,ho,[[45]],rfl,by simp,fun b hw1=>?_⟩;exact m21
   | false =>
    rw [Tc (by rw [hw8];simp)] at h;(conv=>whnf);refine oiD ?_;(conv=>whnf);refine ⟨by decide,by decide,?_⟩;(conv=>whnf);refine ⟨L,ts,rfl,ho,[[126]],rfl,by simp,fun b hw9=>?_⟩
    cases b with
    | true =>
     rw [Tf hw9] at h;(conv=>whnf);refine ⟨_,fun _ _ h=>h,Ta rfl,?_⟩;(conv=>whnf);refine ⟨L,ts,rfl,ho,[[126]],rfl,by simp,fun b hw1=>?_⟩;exact m21
    | false =>
     rw [Tc (by rw [hw9];simp)] at h;(conv=>whnf);refine oiD ?_;(conv=>whnf);rw [show Vc (ZcM d) 6 1=Yi d from (ZlQ d).symm] at h;refine ⟨L,ts,rfl,ho,hdp,fun x hx1=>?_⟩;exact m91
  ·exact h.elim
 ·exact h.elim
noncomputable def Ze0 (d j:Nat):Zr:=We fun rest L en dp a ts K=>match rest with
 | [.d (.int .i64 least)]=>((dp=64 - (d:Int)∧0≤dp)∧1≤least∧least≤6∧6≤least+(j:Int))∧∀x,Vc (Zp d) j least.toNat ts=x→RKk (fun (v:Ex)=>ZbW (Yc (Ze L en) v)) L en dp a x K
 | _=>False
theorem ZkN (d j:Nat):Za (Ze0 d j):=ZS fun rest L en dp a ts K K' hK h=>by
 exact m59
noncomputable def ZcN (d j:Nat):Zr:=We fun rest L en dp a ts K=>match rest with
 | [.d (.int .i64 least)]=>((dp=64 - (d:Int)∧0≤dp)∧0<j∧1≤least∧least≤6∧7≤least+(j:Int))∧∀x,Vc (Zp d) (j - 1) least.toNat ts=x→RKk (fun (v:Ex)=>ZbW (Yc (Ze L en) v)) L en dp a x K
 | _=>False
theorem Zds (d j:Nat):Za (ZcN d j):=ZS fun rest L en dp a ts K K' hK h=>by
 exact m59
theorem ZkO (ts:Ts):(Wu ts).1≤5∧(Wu ts).2≤255:=by
 unfold Wu
 repeat' (first | (split;decide) | split)
 all_goals decide
theorem WV (sub : Nat → Ts → R Ex) (least f : Nat) (e : Ex) (ts : Ts) : Vb sub least (f + 1) e ts = if (Wu ts).1 < least ∨ (Wu ts).1 = 0 then .ok e ts
      else (sub ((Wu ts).1+1) ts.tail).bind fun g ts'=>Vb sub least f (.mk (Wu ts).2 [] 0 [e,g] e.at') ts':=rfl
theorem Zal {sub:Nat→Ts→R Ex} {least f:Nat} {e:Ex} {ts:Ts} (h:6≤least):Vb sub least (f+1) e ts=.ok e ts:=by
 rw [WV,Tf];have:=(ZkO ts).1;omega
theorem ZpB {ts:Ts} (h:(Wu ts).1≠0):ts≠[]:=by rintro rfl;exact h rfl
theorem Ws (sg:Ts→R Ex) (j least:Nat) (ts:Ts) (h:6≤least+j):Vc sg j least ts=(sg ts).bind fun e ts=>Vb (Vc sg (j - 1)) least (ts.length+1) e ts:=by
 cases j with
 | zero =>
  rw [Vc]
  cases sg ts with
  | ok e ts=>rw [R.bind_ok,Zal (by omega)]
  | err r e=>rfl
 | succ j=>rfl
noncomputable def ZuR (d j:Nat):Tbl:=[(161,ZdX d),(162,Zpn),(82,ZcN d j)]
theorem ZpC {d j:Nat} (ht:TblOK (GG w0 nG) (ZuR d j)):PCalls (GG w0 nG) 82 (Ze0 d j):=by
 refine pc ht Tryz.func82 ?_;intro args σ K h
 unfold Ze0 We at h
 split at h
 ·rename_i rest t rows a en dp
  obtain ⟨L,ts,rfl,ho,h⟩:=h;split at h
  ·rename_i least
   obtain ⟨⟨hdp,hl1,hl2,hl3⟩,h⟩:=h;have h0:=ho.lo;have h1:=ho.hi;have h2:=ho.big;refine ⟨Zb [(2,⟨[],[0,1,4,5],fun vs σ=>∃(u1:Nat) (u2:Bs) (u3:Int) (u4:List Ex) (u5:Nat) (a':Int) (ts':Ts) (f:Nat),vs=[]∧σ=⟨[.cells t [.d (.sl (Zv L)),.d (.int .i64 a'),.d (.int .i64 en),.d (.int .i64 dp)],.cells 24 [.d (.int .u8 0),.d (.str []),.d (.int .i64 0),.sl 0 24 [],.d (.int .i64 0)],.cells 24 [.d (.int .u8 u1),.d (.str u2),.d (.int .i64 u3),.d (.sl (ZM (Ze L en) u4)),.d (.int .i64 (Ze L en u5))]],[0],1⟩∧ROK L a' ts'∧a≤a'∧ts'.length<f∧RKk (fun (v:Ex)=>ZbW (Yc (Ze L en) v)) L en dp a (Vb (Vc (Zp d) (j - 1)) least.toNat f (.mk u1 u2 u3 u4 u5) ts') (fun pe a' dp'=>K pe ⟨[.cells t [.d (.sl (Zv L)),.d (.int .i64 a'),.d (.int .i64 en),.d (.int .i64 dp')]],[],0⟩),fun _ σ=>match σ with | ⟨.cells _ [_,.d (.int _ i),_,_]::_,_,_⟩=>((L.length:Int) - i).toNat | _=>0⟩)],1,false,by simp,Ta rfl,?_⟩;have h:=h _ rfl;rw [Ws _ _ _ _ (by omega)] at h;(conv=>whnf);refine ⟨L,ts,rfl,ho,hdp,fun x hx1=>?_⟩;rcases x with ⟨v1,ts1⟩ | ⟨r1,e1⟩
   rotate_left
   ·exact m64
   rw [hx1,R.bind_ok] at h;intro a1 hle1 ho1
   have hb1:=ho1.hi;obtain ⟨v1a,v1b,v1c,v1d,v1e⟩:=v1;(conv=>whnf);refine ⟨⟨v1a,v1b,v1c,v1d,v1e,a1,ts1,ts1.length+1,rfl,rfl,ho1,by omega,by omega,h⟩,?_⟩
   clear h hx1 ho1 hb1 hle1
   intro vs σ hI
   obtain ⟨u1,u2,u3,u4,u5,a',ts',f,rfl,rfl,ho',hle',hf,h⟩:=hI;obtain ⟨f,rfl⟩:∃g,f=g+1:=⟨f - 1,by omega⟩
   rw [WV] at h;have hhi':=ho'.hi;have hlen':=ho'.len;(conv=>whnf);refine ⟨L,ts',rfl,ho',fun n op hn hop=>?_⟩;(conv=>whnf);have hbin:=ZkO ts';refine ZAf (fun hc=>?_) (fun hc=>?_)
   ·rw [Tf (by omega)] at h;exact m97
   conv=>whnf
   refine ZAf (fun hc2=>?_) (fun hc2=>?_)
   ·rw [Tf (by omega)] at h;exact m97
   rw [Tc (by omega)] at h;have ho2:=ho'.tl (ZpB (by omega));have hb2:=ho2.hi;have hlen2:=ho2.len;(conv=>whnf);refine oiO ?_;(conv=>whnf);refine oiO ?_;(conv=>whnf);refine ⟨L,ts'.tail,rfl,ho2,⟨hdp,by omega,by omega,by omega,by omega⟩,fun x hx3=>?_⟩;rw [show (n+1).toNat=(Wu ts').1+1 by omega] at hx3;rcases x with ⟨v3,ts3⟩ | ⟨r3,e3⟩
   rotate_left
   ·exact m28
   rw [hx3,R.bind_ok] at h;intro a3 hle3 ho3
   have hb3:=ho3.hi;obtain ⟨v3a,v3b,v3c,v3d,v3e⟩:=v3;(conv=>whnf);have hlen3:=ho3.len;obtain rfl:op=((Wu ts').2:Int):=hop.symm;refine ⟨⟨(Wu ts').2,[],0,[.mk u1 u2 u3 u4 u5,.mk v3a v3b v3c v3d v3e],u5,a3,ts3,f,rfl,rfl,ho3,by omega,by omega,h⟩,?_⟩;exact m203
  ·exact h.elim
 ·exact h.elim
noncomputable def ZuS (d:Nat):Tbl:=[(82,Ze0 d 6)]
theorem ZuT {d:Nat} (ht:TblOK (GG w0 nG) (ZuS d)):PCalls (GG w0 nG) 35 (ZeZ d):=by
 refine pc ht Tryz.func35 ?_;intro args σ K h
 unfold ZeZ ZiV We at h
 split at h
 ·rename_i rest t rows a en dp
  obtain ⟨L,ts,rfl,ho,h⟩:=h;split at h
  ·obtain ⟨hdp,h⟩:=h;have h0:=ho.lo;have h1:=ho.hi;have h2:=ho.big;refine ⟨Zb [],1,false,by simp,Ta rfl,?_⟩;have h:=h _ rfl;(conv=>whnf);refine ⟨L,ts,rfl,ho,⟨hdp,by omega,by omega,by omega⟩,fun x hx1=>?_⟩;rw [ZW] at h
   change Vc (Zp d) 6 1 ts=x at hx1
   exact m91
  ·exact h.elim
 ·exact h.elim
end Go.PM.Lex
end

section
namespace Go.PM.Lex
open Go.Proofs
variable {w0:World} {nG:Nat}
noncomputable abbrev ZuU (d:Nat):Zr:=ZiV (fun L en (v:Li)=>ZbW (Xi (Ze L en) v)) (Zbr d (W2 d)) 0 d
noncomputable abbrev Zi0 (d:Nat):Zr:=ZiV (fun L en (v:List Li)=>.d (.sl (v.map (Xi (Ze L en))))) (Ue d) 0 d
noncomputable abbrev Zhs (d:Nat):Zr:=Zts (fun L en (v:List Li)=>.d (.sl (v.map (Xi (Ze L en))))) (W2 d) 0 d
theorem Zl0 (d:Nat):Ue d=YE [44] 32 ZA (Zbr d (W2 d)):=by cases d <;> rfl
noncomputable def Zi1 (d:Nat):Zr:=We fun rest L en dp a ts K=>match rest with
 | [.d (.bool b)]=>(dp=64 - (d:Int)∧0≤dp)∧∀x,Zd7 d b ts=x→RKk (fun (v:Ru)=>ZbW (Xj (Ze L en) v)) L en dp (a+1) x K
 | _=>False
theorem ZkP (d:Nat):Za (Zi1 d):=ZS fun rest L en dp a ts K K' hK h=>by
 exact m59
theorem Zbc {ts:Ts}:∀{ws:List Bs} {i k:Nat},UL ts i ws=some k→i≤k∧k<i+ws.length
 | [],i,k,h=>by simp [UL] at h
 | w::ws,i,k,h=>by
  rw [UL] at h;split at h
  ·cases h;simp
  ·have:=Zbc h;simp only [Td];omega
theorem ZcO {ts:Ts} (h:UL ts 0 relWords=none):Zbq ts=.err ts.length 150:=by rw [Zbq,h]
theorem Ze1 {ts:Ts} {j:Nat} (h:UL ts 0 relWords=some 0) (h2:UL ts.tail 0 aggWords=some j):Zbq ts=.ok (9+j) ts.tail.tail:=by rw [Zbq,h];simp only [h2]
theorem Zht {ts:Ts} (h:UL ts 0 relWords=some 0) (h2:UL ts.tail 0 aggWords=none):Zbq ts=.ok 3 ts.tail:=by rw [Zbq,h];simp only [h2]
theorem Ze2 {ts:Ts} {k:Nat} (h:UL ts 0 relWords=some (k+1)):Zbq ts=.ok (3+(k+1)) ts.tail:=by rw [Zbq,h];rfl
noncomputable def ZrV:Tbl:=[(262,(Zaw Zx)),(136,Zh4)]
theorem ZrW (ht:TblOK (GG w0 nG) ZrV):PCalls (GG w0 nG) 264 (ZiU ZA):=by
 refine pc ht Tryz.func264 ?_;intro args σ K h
 unfold ZiU ZkF at h
 split at h
 ·rename_i rest t0 t rows a en dp
  obtain ⟨L,ts,rfl,ho,h⟩:=h;split at h
  ·skip
   refine ⟨Zb [],2,false,by simp,Ta rfl,?_⟩;(conv=>whnf);refine ⟨L,ts,rfl,ho,fun b hb=>?_⟩
   cases b with
   | true =>
    conv=>whnf
    exact h _ (by rw [ZA,hb];rfl)
   | false =>
    conv=>whnf
    refine ⟨L,ts,rfl,ho,[[33]],rfl,by simp,fun b hw=>?_⟩;(conv=>whnf);exact h _ (by rw [ZA,hb,hw];rfl)
  ·exact h.elim
 ·exact h.elim
noncomputable def ZuV (d:Nat):Tbl:=[(263,ZbZ d)]
theorem ZuW {d:Nat} (ht:TblOK (GG w0 nG) (ZuV d)):PCalls (GG w0 nG) 208 (Zi0 d):=by
 refine pc ht Tryz.func208 ?_;intro args σ K h
 unfold Zi0 ZiV We at h
 split at h
 ·rename_i rest t rows a en dp
  obtain ⟨L,ts,rfl,ho,h⟩:=h;split at h
  ·obtain ⟨hdp,h⟩:=h;have h0:=ho.lo;have h1:=ho.hi;have h2:=ho.big;refine ⟨Zb [],1,false,by simp,Ta rfl,?_⟩;have h:=h _ rfl;rw [Zl0] at h;(conv=>whnf);refine ⟨⟨rfl,rfl,rfl,rfl,hdp⟩,L,ts,rfl,ho,fun x hx1=>?_⟩;rcases x with ⟨v1,ts1⟩ | ⟨r1,e1⟩
   rotate_left
   ·rw [hx1] at h;intro a9 d9;(conv=>whnf);exact h _ _
   rw [hx1] at h;intro a1 hle1 ho1
   have hb1:=ho1.hi;(conv=>whnf);exact h _ (by omega) ho1
  ·exact h.elim
 ·exact h.elim
noncomputable def ZpD (d:Nat):Tbl:=[(208,Zhs d)]
noncomputable def ZpE (d:Nat):Tbl:=[(136,Zh4),(143,Wa),(81,Xl),(302,ZkK Tryz.f302 (ZpD d))]
noncomputable def Ztu (d:Nat):Tbl:=[(141,W8),(200,WT),(198,ZaL),(145,Zaw Zn),(142,Wm),(207,Zdr d),(35,ZeZ d),(253,Znr),(81,Xl),(143,Wa),(204,ZkK Tryz.f204 (ZpE d))]
theorem ZwM {d:Nat} (ht:TblOK (GG w0 nG) (Ztu d)):PCalls (GG w0 nG) 265 (ZuU d):=by
 refine Zez Z8 mixed (tbl:=Ztu d) ht Tryz.func265 rfl (by kernel_rfl) (by kernel_rfl) ?_;intro args σ K h
 unfold ZuU ZiV We at h
 split at h
 ·rename_i rest t rows a en dp
  obtain ⟨L,ts,rfl,ho,h⟩:=h;split at h
  ·obtain ⟨hdp,h⟩:=h;have h0:=ho.lo;have h1:=ho.hi;have h2:=ho.big;refine ⟨Zb [],W4 [],Yu [],Yu [50],Yu [],1,false,by simp,Ta rfl,?_⟩;have h:=h _ rfl;rw [Zbr] at h;(conv=>whnf);refine ⟨L,ts,rfl,ho,?_⟩;(conv=>whnf);refine ⟨L,ts,rfl,ho,[[33]],rfl,by simp,fun hw1 ho1=>?_,fun hw1=>?_⟩
   ·rw [Tf hw1] at h;have hb1:=ho1.hi;(conv=>whnf);refine ⟨L,ts.tail,rfl,ho1,fun fin=>Or.inr ⟨rfl,?_⟩⟩;(conv=>whnf);rw [Jx] at h;refine ⟨L,ts.tail,rfl,ho1,fun x hx11=>?_⟩;exact m52
   ·rw [Tc (by rw [hw1];simp)] at h;(conv=>whnf);refine ⟨L,ts,rfl,ho,fun fin=>Or.inr ⟨rfl,?_⟩⟩;(conv=>whnf);refine ⟨L,ts,rfl,ho,fun b hn=>?_⟩
    cases b with
    | false =>
     rw [Tc (by rw [hn];simp)] at h;exact m0
    | true =>
     conv=>whnf
     refine ZAf (fun hc=>?_) (fun hc=>?_)
     ·conv=>whnf
      refine ZAf (fun hc2=>?_) (fun hc2=>?_)
      ·rw [Tf ⟨hn,by omega,hc2⟩] at h;(conv=>whnf);rw [Jx] at h;refine ⟨L,ts,rfl,ho,fun x hx11=>?_⟩;exact m52
      ·rw [Tc (fun g=>hc2 g.2.2)] at h;exact m0
     ·rw [Tc (fun g=>hc (by have:=g.2.1;omega))] at h;exact m0
  ·exact h.elim
 ·exact h.elim
noncomputable def ZuX (d:Nat):Tbl:=[(141,W8),(142,Wm),(207,Zdr d),(200,WT),(208,Zi0 d),(143,Wa)]
theorem ZuY {d:Nat} (ht:TblOK (GG w0 nG) (ZuX d)):PCalls (GG w0 nG) 146 (Zi1 d):=by
 refine pc ht Tryz.func146 ?_;intro args σ K h
 unfold Zi1 We at h
 split at h
 ·rename_i rest t rows a en dp
  obtain ⟨L,ts,rfl,ho,h⟩:=h;split at h
  ·rename_i bodies
   obtain ⟨hdp,h⟩:=h;have h0:=ho.lo;have h1:=ho.hi;have h2:=ho.big;refine ⟨Zb [],1,false,by simp,Ta rfl,?_⟩;have h:=h _ rfl;rw [Zd7] at h;(conv=>whnf);refine ⟨L,ts,rfl,ho,?_⟩;(conv=>whnf);refine ⟨L,ts,rfl,ho,fun x hx1=>?_⟩;rcases x with ⟨v1,ts1⟩ | ⟨r1,e1⟩
   rotate_left
   ·exact m64
   rw [hx1,R.bind_ok] at h;intro a1 hle1 ho1
   have hb1:=ho1.hi;(conv=>whnf);refine ⟨L,ts1,rfl,ho1,⟨hdp,by simp⟩,fun x hx2=>?_⟩;have hdp2:=hdp;rcases x with ⟨v2,ts2⟩ | ⟨r2,e2⟩
   rotate_left
   ·exact m50
   rw [hx2,R.bind_ok] at h;intro a2 hle2 ho2
   have hb2:=ho2.hi;(conv=>whnf)
   cases bodies with
   | false =>
    rw [Tc (by simp)] at h;(conv=>whnf);refine ⟨L,ts2,rfl,ho2,fun x hx3=>?_⟩;rcases x with ⟨v3,ts3⟩ | ⟨r3,e3⟩
    rotate_left
    ·exact m28
    exact m166
   | true =>
    conv=>whnf
    refine ⟨L,ts2,rfl,ho2,[[58,45]],rfl,by simp,fun hw3 ho3=>?_,fun hw3=>?_⟩
    ·rw [Tf ⟨rfl,hw3⟩] at h;have hb3:=ho3.hi;(conv=>whnf);refine ⟨L,ts2.tail,rfl,ho3,hdp,fun x hx4=>?_⟩;rcases x with ⟨v4,ts4⟩ | ⟨r4,e4⟩
     rotate_left
     ·exact m111
     rw [hx4,R.bind_ok] at h;intro a4 hle4 ho4
     have hb4:=ho4.hi;(conv=>whnf);refine ⟨L,ts4,rfl,ho4,fun x hx5=>?_⟩;rcases x with ⟨v5,ts5⟩ | ⟨r5,e5⟩
     rotate_left
     ·exact m49
     rw [hx5,R.bind_ok] at h;intro a5 hle5 ho5
     have hb5:=ho5.hi;(conv=>whnf);rw [← Zg,← Zs];exact h _ (by omega) ho5
    ·rw [Tc (by rw [hw3];simp)] at h;(conv=>whnf);refine ⟨L,ts2,rfl,ho2,fun x hx4=>?_⟩;rcases x with ⟨v4,ts4⟩ | ⟨r4,e4⟩
     rotate_left
     ·exact m111
     rw [hx4,R.bind_ok] at h;intro a4 hle4 ho4
     have hb4:=ho4.hi;(conv=>whnf);rw [← Zg];exact h _ (by omega) ho4
  ·exact h.elim
 ·exact h.elim
end Go.PM.Lex
end

section
namespace Go.PM.Lex
open Go.Proofs
variable {w0:World} {nG:Nat}
def Zax:Nat→Ts→R Un
 | 0=>fun _=>.err 0 150
 | d+1=>ZmN d
theorem Zl1 (d:Nat):ZmN d=ZmM true d (Zax d):=by cases d <;> rfl
def ZfS (b:Bool) (d:Nat) (ts:Ts):R Un:=ZmM b d (Zax d) ts
noncomputable def Zdt (d:Nat):Zr:=We fun rest L en dp a ts K=>match rest with
 | [.d (.bool b)]=>(dp=64 - (d:Int)∧0≤dp)∧∀x,ZfS b d ts=x→RKk (fun (v:Un)=>ZbW (Zhn (Ze L en) v)) L en dp a x K
 | _=>False
theorem ZkQ (d:Nat):Za (Zdt d):=ZS fun rest L en dp a ts K K' hK h=>by
 exact m59
noncomputable def Jb (d:Nat):Zr:=We fun rest L en dp a ts K=>match rest with
 | [.d (.bool b)]=>(0<d∧dp=65 - (d:Int)∧0≤dp∧b=true)∧∀x,Zax d ts=x→RKk (fun (v:Un)=>ZbW (Zhn (Ze L en) v)) L en dp a x K
 | _=>False
theorem Zi2 (d:Nat):Za (Jb d):=ZS fun rest L en dp a ts K K' hK h=>by
 exact m59
noncomputable abbrev Zl2 (d:Nat):Zr:=ZiV (fun L en (v:Co)=>ZbW (ZfO (Ze L en) v)) (Zd8 d (Zax d)) 0 d
noncomputable def Zl3 (d:Nat):Tbl:=[(70,Jb d)]
noncomputable def Zl4 (d:Nat):Tbl:=[(136,Zh4),(143,Wa),(81,Xl),(205,ZkK Tryz.f205 (Zl3 d))]
noncomputable def ZuZ (d:Nat):Tbl:=[(141,W8),(142,Wm),(144,ZeW),(200,WT),(204,ZkK Tryz.f204 (Zl4 d))]
theorem Zu0 {d:Nat} (ht:TblOK (GG w0 nG) (ZuZ d)):PCalls (GG w0 nG) 140 (Zl2 d):=by
 refine pc ht Tryz.func140 ?_;intro args σ K h
 unfold Zl2 ZiV We at h
 split at h
 ·rename_i rest t rows a en dp
  obtain ⟨L,ts,rfl,ho,h⟩:=h;split at h
  ·obtain ⟨hdp,h⟩:=h;have h0:=ho.lo;have h1:=ho.hi;have h2:=ho.big;refine ⟨Zb [],1,false,by simp,Ta rfl,?_⟩;have h:=h _ rfl;rw [Zd8] at h;(conv=>whnf);refine ⟨L,ts,rfl,ho,?_⟩;(conv=>whnf);refine ⟨L,ts,rfl,ho,fun x hx1=>?_⟩;rcases x with ⟨v1,ts1⟩ | ⟨r1,e1⟩
   rotate_left
   ·exact m64
   rw [hx1,R.bind_ok] at h;intro a1 hle1 ho1
   have hb1:=ho1.hi;(conv=>whnf);refine ⟨L,ts1,rfl,ho1,fun x hx2=>?_⟩;rcases x with ⟨v2,ts2⟩ | ⟨r2,e2⟩
   rotate_left
   ·exact m50
   rw [hx2,R.bind_ok] at h;intro a2 hle2 ho2
   have hb2:=ho2.hi;(conv=>whnf);refine ⟨L,ts2,rfl,ho2,[[58]],rfl,by simp,fun hw3 ho3=>?_,fun hw3=>?_⟩
   ·rw [Tf hw3] at h;have hb3:=ho3.hi;(conv=>whnf);refine ⟨L,ts2.tail,rfl,ho3,fun x hx4=>?_⟩;rcases x with ⟨v4,ts4⟩ | ⟨r4,e4⟩
    rotate_left
    ·exact m111
    rw [hx4,R.bind_ok] at h;intro a4 hle4 ho4
    have hb4:=ho4.hi;(conv=>whnf);refine ⟨L,ts4,rfl,ho4,fun x hx5=>?_⟩;rcases x with ⟨v5,ts5⟩ | ⟨r5,e5⟩
    rotate_left
    ·exact m49
    rw [hx5,R.bind_ok] at h;intro a5 hle5 ho5
    have hb5:=ho5.hi;(conv=>whnf);refine ⟨_,fun _ _ h=>h,Ta rfl,?_⟩;(conv=>whnf);refine ⟨L,ts5,rfl,ho5,[[123]],rfl,by simp,fun b hw7=>?_⟩
    cases b with
    | false =>
     rw [Zq,Tc (by rw [hw7];simp),R.bind_err] at h;(conv=>whnf);refine ⟨L,ts5,rfl,ho5,fun x hx=>?_⟩;rw [ZO,Tc (by rw [hw7];simp)] at hx;subst hx;intro a9 d9
     exact m53
    | true =>
     rw [Zq,Tf hw7] at h;(conv=>whnf);refine ZAf (fun hc=>?_) (fun hc=>?_)
     ·rw [Tf (by omega),R.bind_err] at h;(conv=>whnf);refine ⟨L,ts5,rfl,ho5,?_⟩;exact m53
     ·rw [Tc (by omega)] at h;(conv=>whnf);refine ⟨L,ts5,rfl,ho5,fun x hx=>?_⟩;rw [ZO,Tf hw7] at hx;subst hx;intro a7 hle7 ho7
      have hb7:=ho7.hi;(conv=>whnf);refine oiO ?_;(conv=>whnf);refine ⟨_,fun _ _ h=>h,Ta rfl,?_⟩;(conv=>whnf);refine ⟨L,ts5.tail,rfl,ho7,⟨by omega,by omega,by omega,rfl⟩,fun x hx8=>?_⟩;exact m45
   ·rw [Tc (by rw [hw3];simp)] at h;(conv=>whnf);refine ⟨_,fun _ _ h=>h,Ta rfl,?_⟩;(conv=>whnf);refine ⟨L,ts2,rfl,ho2,[[123]],rfl,by simp,fun b hw7=>?_⟩
    cases b with
    | false =>
     rw [Zq,Tc (by rw [hw7];simp),R.bind_err] at h;(conv=>whnf);refine ⟨L,ts2,rfl,ho2,fun x hx=>?_⟩;rw [ZO,Tc (by rw [hw7];simp)] at hx;subst hx;intro a9 d9
     exact m53
    | true =>
     rw [Zq,Tf hw7] at h;(conv=>whnf);refine ZAf (fun hc=>?_) (fun hc=>?_)
     ·rw [Tf (by omega),R.bind_err] at h;(conv=>whnf);refine ⟨L,ts2,rfl,ho2,?_⟩;exact m53
     ·rw [Tc (by omega)] at h;(conv=>whnf);refine ⟨L,ts2,rfl,ho2,fun x hx=>?_⟩;rw [ZO,Tf hw7] at hx;subst hx;intro a7 hle7 ho7
      have hb7:=ho7.hi;(conv=>whnf);refine oiO ?_;(conv=>whnf);refine ⟨_,fun _ _ h=>h,Ta rfl,?_⟩;(conv=>whnf);refine ⟨L,ts2.tail,rfl,ho7,⟨by omega,by omega,by omega,rfl⟩,fun x hx8=>?_⟩;exact m45
  ·exact h.elim
 ·exact h.elim
noncomputable def Zu1 (d:Nat):Tbl:=[(136,Zh4),(137,ZiR),(138,Zhr),(139,ZlO),(140,Zl2 d),(141,W8),(142,Wm),(143,Wa),(144,ZeW),(145,Zaw Zn),(146,Zi1 d),(81,Xl)]
theorem JU (inside:Bool) (d:Nat) (un:Ts→R Un) (f:Nat) (tys:List Ty) (rels:List Re) (rules:List Ru) (comps:List Co) (inits:List Ini) (overs:List Ov) (ts:Ts):X3 inside d un (f+1) (.mk tys rels rules comps inits overs) ts =
  if ts=[]∨(inside=true∧isW ts [[125]]=true) then .ok (.mk tys rels rules comps inits overs) ts
  else if isW ts [[116,121,112,101]]=true then (if tys.length=256 then .err ts.length 3 else (Jw ts.tail).bind fun x ts=>X3 inside d un f (.mk (tys++[x]) rels rules comps inits overs) ts)
  else if isW ts [[100,101,99,108]]=true then (if rels.length=256 then .err ts.length 3 else (Zd6 ts.tail).bind fun x ts=>X3 inside d un f (.mk tys (rels++[x]) rules comps inits overs) ts)
  else if isW ts [[99,111,109,112]]=true then (if comps.length=64 then .err ts.length 3 else (Zd8 d un ts.tail).bind fun x ts=>X3 inside d un f (.mk tys rels rules (comps++[x]) inits overs) ts)
  else if isW ts [[105,110,105,116]]=true then (if inits.length=256 then .err ts.length 3 else (Zd9 ts.tail).bind fun x ts=>X3 inside d un f (.mk tys rels rules comps (inits++[x]) overs) ts)
  else if isW ts [[111,118,101,114,114,105,100,101]]=true then (if overs.length=256 then .err ts.length 3 else (ZfF ts.tail).bind fun x ts=>X3 inside d un f (.mk tys rels rules comps inits (overs++[x])) ts)
  else if Zn ts=true then (if rules.length=1024 then .err ts.length 3 else (Zd7 d true ts).bind fun x ts=>X3 inside d un f (.mk tys rels (rules++[x]) comps inits overs) ts)
  else .err ts.length 150:=rfl
theorem Zu2 {d:Nat} (ht:TblOK (GG w0 nG) (Zu1 d)):PCalls (GG w0 nG) 70 (Zdt d):=by
 refine pc ht Tryz.func70 ?_;intro args σ K h
 unfold Zdt We at h
 split at h
 ·rename_i rest t rows a en dp
  obtain ⟨L,ts,rfl,ho,h⟩:=h;split at h
  ·rename_i inside
   obtain ⟨hdp,h⟩:=h;have h0:=ho.lo;have h1:=ho.hi;have h2:=ho.big;refine ⟨Zb [(1,⟨[],[0,1,4],fun vs σ=>∃(tys:List Ty) (rels:List Re) (rules:List Ru) (comps:List Co) (inits:List Ini) (overs:List Ov) (a':Int) (ts':Ts) (f:Nat),vs=[]∧σ=⟨[.cells t [.d (.sl (Zv L)),.d (.int .i64 a'),.d (.int .i64 en),.d (.int .i64 dp)],.cells 44 [.sl 0 64 (tys.map (Zhm (Ze L en))),.sl 1 68 (rels.map (ZfN (Ze L en))),.sl 2 50 (rules.map (Xj (Ze L en))),.sl 3 71 (comps.map (ZfO (Ze L en))),.sl 4 73 (inits.map (ZiP (Ze L en))),.sl 5 75 (overs.map (ZiQ (Ze L en)))]],[5,4,3,2,1,0],6⟩∧ROK L a' ts'∧a≤a'∧ts'.length<f∧(tys.length≤256∧rels.length≤256∧rules.length≤1024∧comps.length≤64∧inits.length≤256∧overs.length≤256)∧RKk (fun (v:Un)=>ZbW (Zhn (Ze L en) v)) L en dp a (X3 inside d (Zax d) f (.mk tys rels rules comps inits overs) ts') (fun pe a' dp'=>K pe ⟨[.cells t [.d (.sl (Zv L)),.d (.int .i64 a'),.d (.int .i64 en),.d (.int .i64 dp')]],[],0⟩),fun _ σ=>match σ with | ⟨.cells _ [_,.d (.int _ i),_,_]::_,_,_⟩=>((L.length:Int) - i).toNat | _=>0⟩)],1,false,by simp,Ta rfl,?_⟩;have h:=h _ rfl;rw [ZfS,ZmM] at h;(conv=>whnf);refine ⟨⟨[],[],[],[],[],[],a,ts,ts.length+1,rfl,rfl,ho,by omega,by omega,by simp,h⟩,?_⟩
   clear h
   intro vs σ hI
   obtain ⟨tys,rels,rules,comps,inits,overs,a',ts',f,rfl,rfl,ho',hle',hf,hlim,h⟩:=hI;obtain ⟨f,rfl⟩:∃g,f=g+1:=⟨f - 1,by omega⟩
   rw [JU] at h;have hhi':=ho'.hi;have hlen':=ho'.len;have hlo':=ho'.lo;(conv=>whnf);refine ZAf (fun hc=>?_) (fun hc=>?_)
   ·have hne:ts'≠[]:=by rintro rfl;have hc:a'<((Zv L).length:Int):=hc;rw [ZC] at hc;simp at hlen';omega
    conv=>whnf
    cases inside with
    | false =>
     rw [Tc (by simp [hne])] at h;exact m1
    | true =>
     conv=>whnf
     refine ⟨L,ts',rfl,ho',[[125]],rfl,by simp,fun b hw=>?_⟩
     cases b with
     | true =>
      rw [Tf (.inr ⟨rfl,hw⟩)] at h;(conv=>whnf)
      repeat (refine ⟨rfl,?_⟩;conv=>whnf)
      have h:=h _ (by omega) ho';simp only [ZbW,Zhn,JR,TJ,TX] at h;exact h
     | false =>
      rw [Tc (by simp [hne,hw])] at h;exact m1
   have hnil:ts'=[]:=by have hc:¬a'<((Zv L).length:Int):=hc;rw [ZC] at hc;exact TN (by omega)
   rw [Tf (.inl hnil)] at h;(conv=>whnf);have h:=h _ (by omega) ho';simp only [ZbW,Zhn,JR,TJ,TX] at h;exact h
  ·exact h.elim
 ·exact h.elim
end Go.PM.Lex
end

section
namespace Go.PM.Lex
open Go.Proofs
variable {w0:World} {nG:Nat}
theorem Zdu:PCalls (GG w0 nG) 141 W8:=ZrK ⟨⟨Zba,XP⟩,trivial⟩
theorem cIs:PCalls (GG w0 nG) 136 Zh4:=ZyB ⟨⟨Zba,XP⟩,⟨ZkE,ZeU⟩,trivial⟩
theorem ZgC:PCalls (GG w0 nG) 145 (Zaw Zn):=ZrM ⟨⟨Zba,XP⟩,⟨ZkD,Za9⟩,trivial⟩
theorem Jc:PCalls (GG w0 nG) 81 Xl:=ZuC ⟨⟨Zdu,YJ⟩,trivial⟩
theorem Zb2:PCalls (GG w0 nG) 200 WT:=ZuE ⟨⟨cIs,Yv⟩,trivial⟩
theorem Zbd:PCalls (GG w0 nG) 143 Wa:=ZuG ⟨⟨Zb2,Z0⟩,⟨Jc,ZE⟩,trivial⟩
theorem ZyC:PCalls (GG w0 nG) 137 ZiR:=ZuI ⟨⟨Jc,ZE⟩,trivial⟩
theorem ZaM:PCalls (GG w0 nG) 142 Wm:=ZrO ⟨⟨ZgC,Xu _⟩,⟨Jc,ZE⟩,trivial⟩
theorem ZkR:PCalls (GG w0 nG) 262 (Zaw Zx):=Zpm ⟨⟨Zba,XP⟩,⟨cIs,Yv⟩,⟨ZkD,Za9⟩,⟨ZcK,XE⟩,trivial⟩
theorem ZpF:PCalls (GG w0 nG) 162 Zpn:=Zpo ⟨⟨Zba,XP⟩,trivial⟩
theorem Zu3:PCalls (GG w0 nG) 259 Zhq:=Zpu ⟨⟨ZaM,Y6 _ _ _⟩,⟨Zbd,ZP⟩,trivial⟩
theorem ZkS:PCalls (GG w0 nG) 201 U9:=Zpw ⟨⟨cIs,Yv⟩,⟨ZiX ⟨⟨ZgC,Xu _⟩,⟨Jc,ZE⟩,⟨Zu3,ZiT _ _ _⟩,⟨Zb2,Z0⟩,trivial⟩,ZdN⟩,trivial⟩
theorem Ztv:PCalls (GG w0 nG) 144 ZeW:=ZrQ ⟨⟨Zb2,Z0⟩,⟨Znp ⟨⟨ZgC,Xu _⟩,⟨Jc,ZE⟩,⟨ZaM,Y6 _ _ _⟩,⟨Zb2,Z0⟩,trivial⟩,ZfQ⟩,⟨Zbd,ZP⟩,trivial⟩
theorem ZwN:PCalls (GG w0 nG) 203 ZkJ:=ZrS ⟨⟨ZaM,Y6 _ _ _⟩,⟨Zbd,ZP⟩,⟨ZkS,Ja⟩,trivial⟩
theorem ZwO:PCalls (GG w0 nG) 138 Zhr:=ZrU ⟨⟨Zdu,YJ⟩,⟨ZaM,Y6 _ _ _⟩,⟨Zb2,Z0⟩,⟨Zbd,ZP⟩,⟨ZkS,Ja⟩,⟨ZkI ⟨⟨ZgC,Xu _⟩,⟨Jc,ZE⟩,⟨ZwN,ZiT _ _ _⟩,⟨Zb2,Z0⟩,trivial⟩,ZeV⟩,trivial⟩
theorem ZyD:PCalls (GG w0 nG) 139 ZlO:=ZuL ⟨⟨Zdu,YJ⟩,⟨ZaM,Y6 _ _ _⟩,⟨Zb2,Z0⟩,⟨Zbd,ZP⟩,⟨ZkS,Ja⟩,trivial⟩
theorem Zz2:PCalls (GG w0 nG) 253 Znr:=ZwL ⟨⟨Zpx ⟨⟨Zb2,Z0⟩,trivial⟩,Zdq⟩,⟨Zpy ⟨⟨Zb2,Z0⟩,trivial⟩,Zdq⟩,trivial⟩
theorem Zi3 (h:Vp (GG w0 nG).P 261):PCalls (GG w0 nG) 261 (WU 0):=⟨h,fun args σ K hs=>by
 exfalso;unfold WU at hs
 split at hs
 ·exact absurd hs.1.2.2.2.2.1 (by omega)
 ·exact hs⟩
theorem Zi4 {d:Nat} (h:PCalls (GG w0 nG) 261 (ZbY d)):PCalls (GG w0 nG) 261 (WU (d+1)):=h.weaken1 fun args σ K hs=>by
 unfold WU at hs
 unfold ZbY
 split at hs
 ·obtain ⟨⟨h1,h2,h3,h4,h5,h6,h7⟩,hs⟩:=hs;exact ⟨⟨h1,h2,h3,h4,by omega,h7⟩,hs⟩
 ·exact hs.elim
theorem Znu (d:Nat) (h:Vp (GG w0 nG).P 82):PCalls (GG w0 nG) 82 (ZcN d 0):=⟨h,fun args σ K hs=>by
 exfalso;unfold ZcN We at hs
 split at hs
 ·obtain ⟨L,ts,_,_,hs⟩:=hs;split at hs
  ·exact absurd hs.1.2.1 (by omega)
  ·exact hs
 ·exact hs⟩
theorem Znv {d j:Nat} (h:PCalls (GG w0 nG) 82 (Ze0 d j)):PCalls (GG w0 nG) 82 (ZcN d (j+1)):=h.weaken1 fun args σ K hs=>by
 unfold ZcN We at hs
 unfold Ze0 We
 split at hs
 ·obtain ⟨L,ts,h1,h2,hs⟩:=hs;refine ⟨L,ts,h1,h2,?_⟩;split at hs
  ·exact ⟨⟨hs.1.1,hs.1.2.2.1,hs.1.2.2.2.1,by have:=hs.1.2.2.2.2;omega⟩,hs.2⟩
  ·exact hs.elim
 ·exact hs
structure Deep (w0:World) (nG d:Nat):Prop where
 sg:PCalls (GG w0 nG) 161 (ZiY d)
 ex:PCalls (GG w0 nG) 35 (ZkL d)
 many:PCalls (GG w0 nG) 261 (WU d)
theorem Zl5 {d:Nat} (D:Deep w0 nG d):PCalls (GG w0 nG) 207 (Zdr d):=ZuO ⟨⟨(ZcL (tb:=ZlS d) ⟨⟨cIs,Yv⟩,⟨Zbd,ZP⟩,⟨Jc,ZE⟩,⟨(ZcL (tb:=ZlR d) ⟨⟨cIs,Yv⟩,⟨D.many,ZfR d⟩,trivial⟩ Tryz.func260 rfl (by kernel_rfl) (by kernel_rfl)),YD _ _⟩,trivial⟩ Tryz.func204 rfl (by kernel_rfl) (by kernel_rfl)),YD _ _⟩,trivial⟩
theorem ZrX {d:Nat} (D:Deep w0 nG d):PCalls (GG w0 nG) 283 (ZiZ d):=ZuQ ⟨⟨(ZcL (tb:=ZlU d) ⟨⟨cIs,Yv⟩,⟨Zbd,ZP⟩,⟨Jc,ZE⟩,⟨(ZwK (tb:=ZlT d) ⟨⟨Zbd,ZP⟩,⟨D.ex,Zb0 _ _ _ _⟩,trivial⟩ Tryz.func313 rfl (by kernel_rfl) (by kernel_rfl)),Znq _ _ _⟩,trivial⟩ Tryz.func204 rfl (by kernel_rfl) (by kernel_rfl)),YD _ _⟩,trivial⟩
theorem ZkT {d:Nat} (D:Deep w0 nG d):PCalls (GG w0 nG) 229 (Zb1 d):=Znt ⟨⟨ZkR,Xu _⟩,⟨Jc,ZE⟩,⟨Zba,XP⟩,⟨(ZcL (tb:=ZlW d) ⟨⟨cIs,Yv⟩,⟨Zbd,ZP⟩,⟨Jc,ZE⟩,⟨(ZcL (tb:=ZlV d) ⟨⟨D.ex,Zb0 _ _ _ _⟩,trivial⟩ Tryz.func282 rfl (by kernel_rfl) (by kernel_rfl)),YD _ _⟩,trivial⟩ Tryz.func204 rfl (by kernel_rfl) (by kernel_rfl)),YD _ _⟩,⟨Zl5 D,Zbb d⟩,⟨ZaM,Y6 _ _ _⟩,⟨cIs,Yv⟩,⟨ZcK,XE⟩,⟨ZrX D,ZkM d⟩,trivial⟩
theorem ZcP {d:Nat} (D:Deep w0 nG d):PCalls (GG w0 nG) 161 (ZdX d):=ZpA ⟨⟨Zdu,YJ⟩,⟨cIs,Yv⟩,⟨(ZcL (tb:=ZlY d) ⟨⟨cIs,Yv⟩,⟨Zbd,ZP⟩,⟨Jc,ZE⟩,⟨(ZcL (tb:=ZlX d) ⟨⟨D.sg,Zb0 _ _ _ _⟩,trivial⟩ Tryz.func228 rfl (by kernel_rfl) (by kernel_rfl)),YD _ _⟩,trivial⟩ Tryz.func204 rfl (by kernel_rfl) (by kernel_rfl)),YD _ _⟩,⟨ZkT D,Wb _ _ _ _⟩,trivial⟩
theorem Zl6 {d:Nat} (D:Deep w0 nG d):∀j,PCalls (GG w0 nG) 82 (Ze0 d j)
 | 0=>ZpC ⟨⟨ZcP D,Wb _ _ _ _⟩,⟨ZpF,Zgz⟩,⟨Znu d (Zo Tryz.func82 (by kernel_rfl) rfl),Zds d 0⟩,trivial⟩
 | j+1=>ZpC ⟨⟨ZcP D,Wb _ _ _ _⟩,⟨ZpF,Zgz⟩,⟨Znv (Zl6 D j),Zds d (j+1)⟩,trivial⟩
theorem Zhu {d:Nat} (D:Deep w0 nG d):PCalls (GG w0 nG) 35 (ZeZ d):=ZuT ⟨⟨Zl6 D 6,ZkN d 6⟩,trivial⟩
theorem ZpG {d:Nat} (h:PCalls (GG w0 nG) 35 (ZeZ d)):PCalls (GG w0 nG) 261 (ZbY d):=Zpq d ⟨⟨ZkR,Xu _⟩,⟨Jc,ZE⟩,⟨h,Wb _ _ _ _⟩,⟨Zb2,Z0⟩,trivial⟩
theorem ZwP:∀d,Deep w0 nG d
 | 0=>⟨ZeX (Zo Tryz.func161 (by kernel_rfl) rfl),ZeX (Zo Tryz.func35 (by kernel_rfl) rfl),Zi3 (Zo Tryz.func261 (by kernel_rfl) rfl)⟩
 | d+1=>⟨ZeY (ZcP (ZwP d)),ZeY (Zhu (ZwP d)),Zi4 (ZpG (Zhu (ZwP d)))⟩
theorem ZwQ (d:Nat):PCalls (GG w0 nG) 207 (Zdr d):=Zl5 (ZwP d)
theorem ZwR (d:Nat):PCalls (GG w0 nG) 35 (ZeZ d):=Zhu (ZwP d)
theorem ZwS:PCalls (GG w0 nG) 264 (ZiU ZA):=ZrW ⟨⟨ZkR,Xu _⟩,⟨cIs,Yv⟩,trivial⟩
theorem Zu4 {d:Nat} (h:PCalls (GG w0 nG) 208 (Zhs d)):PCalls (GG w0 nG) 265 (ZuU d):=ZwM ⟨⟨Zdu,YJ⟩,⟨Zb2,Z0⟩,⟨Zba,XP⟩,⟨ZgC,Xu _⟩,⟨ZaM,Y6 _ _ _⟩,⟨ZwQ d,Zbb d⟩,⟨ZwR d,Wb _ _ _ _⟩,⟨Zz2,Zns⟩,⟨Jc,ZE⟩,⟨Zbd,ZP⟩,⟨(ZcL (tb:=ZpE d) ⟨⟨cIs,Yv⟩,⟨Zbd,ZP⟩,⟨Jc,ZE⟩,⟨(ZcL (tb:=ZpD d) ⟨⟨h,Zb0 _ _ _ _⟩,trivial⟩ Tryz.func302 rfl (by kernel_rfl) (by kernel_rfl)),YD _ _⟩,trivial⟩ Tryz.func204 rfl (by kernel_rfl) (by kernel_rfl)),YD _ _⟩,trivial⟩
theorem Zl7 {d:Nat} (h:PCalls (GG w0 nG) 208 (Zhs d)):PCalls (GG w0 nG) 208 (Zi0 d):=ZuW ⟨⟨Zps d ⟨⟨ZwS,ZkG _⟩,⟨Jc,ZE⟩,⟨Zu4 h,Wb _ _ _ _⟩,⟨Zb2,Z0⟩,trivial⟩,Zhp d⟩,trivial⟩
theorem Ztw:∀d,PCalls (GG w0 nG) 208 (Zhs d)
 | 0=>ZeX (Zo Tryz.func208 (by kernel_rfl) rfl)
 | d+1=>ZeY (Zl7 (Ztw d))
theorem ZyE (d:Nat):PCalls (GG w0 nG) 208 (Zi0 d):=Zl7 (Ztw d)
theorem ZyF (d:Nat):PCalls (GG w0 nG) 146 (Zi1 d):=ZuY ⟨⟨Zdu,YJ⟩,⟨ZaM,Y6 _ _ _⟩,⟨ZwQ d,Zbb d⟩,⟨Zb2,Z0⟩,⟨ZyE d,Wb _ _ _ _⟩,⟨Zbd,ZP⟩,trivial⟩
theorem Znw (h:Vp (GG w0 nG).P 70):PCalls (GG w0 nG) 70 (Jb 0):=⟨h,fun args σ K hs=>by
 exfalso;unfold Jb We at hs
 split at hs
 ·obtain ⟨L,ts,_,_,hs⟩:=hs;split at hs
  ·exact absurd hs.1.1 (by omega)
  ·exact hs
 ·exact hs⟩
theorem Znx {d:Nat} (h:PCalls (GG w0 nG) 70 (Zdt d)):PCalls (GG w0 nG) 70 (Jb (d+1)):=h.weaken1 fun args σ K hs=>by
 unfold Jb We at hs
 unfold Zdt We
 split at hs
 ·obtain ⟨L,ts,h1,h2,hs⟩:=hs;refine ⟨L,ts,h1,h2,?_⟩;split at hs
  ·obtain ⟨⟨g1,g2,g3,rfl⟩,hs⟩:=hs;refine ⟨by omega,?_⟩;rw [Zax,Zl1] at hs;exact hs
  ·exact hs.elim
 ·exact hs
theorem ZrY {d:Nat} (h:PCalls (GG w0 nG) 70 (Jb d)):PCalls (GG w0 nG) 140 (Zl2 d):=Zu0 ⟨⟨Zdu,YJ⟩,⟨ZaM,Y6 _ _ _⟩,⟨Ztv,Y6 _ _ _⟩,⟨Zb2,Z0⟩,⟨(ZcL (tb:=Zl4 d) ⟨⟨cIs,Yv⟩,⟨Zbd,ZP⟩,⟨Jc,ZE⟩,⟨(ZcL (tb:=Zl3 d) ⟨⟨h,Zi2 d⟩,trivial⟩ Tryz.func205 rfl (by kernel_rfl) (by kernel_rfl)),YD _ _⟩,trivial⟩ Tryz.func204 rfl (by kernel_rfl) (by kernel_rfl)),YD _ _⟩,trivial⟩
theorem Zl8 {d:Nat} (h:PCalls (GG w0 nG) 70 (Jb d)):PCalls (GG w0 nG) 70 (Zdt d):=Zu2 ⟨⟨cIs,Yv⟩,⟨ZyC,ZkC⟩,⟨ZwO,Y6 _ _ _⟩,⟨ZyD,Y6 _ _ _⟩,⟨ZrY h,Wb _ _ _ _⟩,⟨Zdu,YJ⟩,⟨ZaM,Y6 _ _ _⟩,⟨Zbd,ZP⟩,⟨Ztv,Y6 _ _ _⟩,⟨ZgC,Xu _⟩,⟨ZyF d,ZkP d⟩,⟨Jc,ZE⟩,trivial⟩
theorem Ztx:∀d,PCalls (GG w0 nG) 70 (Jb d)
 | 0=>Znw (Zo Tryz.func70 (by kernel_rfl) rfl)
 | d+1=>Znx (Zl8 (Ztx d))
theorem ZyG (d:Nat):PCalls (GG w0 nG) 70 (Zdt d):=Zl8 (Ztx d)
end Go.PM.Lex
end

section
namespace Go.PM.Lex
open Go.Proofs
def R.good {α:Type} (x:R α):Prop:=match x with | .ok _ _=>True | .err _ e=>e≠0
theorem ZAg {α β:Type} {x:R α} {f:α→Ts→R β} (h:x.good) (hf:∀a ts,(f a ts).good):(x.bind f).good:=by
 cases x with
 | ok a ts=>exact hf a ts
 | err r e=>exact h
theorem ZAw {α:Type} (a:α) (ts:Ts):(R.ok a ts:R α).good:=trivial
theorem ZAk {α:Type} {c:Prop} [Decidable c] {x y:R α} (h1:x.good) (h2:y.good):(if c then x else y).good:=by split;exact h1;exact h2
theorem ZAl {α:Type} {r e:Nat} (h:e≠0):(R.err r e:R α).good:=h
theorem Yw (w:Bs) (ts:Ts):(ZO w ts).good:=ZAk trivial (ZAl (by decide))
theorem Z4 (ts:Ts):(Z1 ts).good:=ZAk trivial (ZAl (by decide))
theorem Xm {α:Type} {d:Nat} {fr tw:Bs} {read:Ts→R α} (h:∀ts,(read ts).good) (ts:Ts):(Zq d fr tw read ts).good :=
 ZAk (ZAk (ZAl (by decide)) (ZAg (h _) fun _ _=>ZAk trivial (ZAg (Yw _ _) fun _ _=>trivial))) (ZAl (by decide))
theorem Ze3 {α:Type} {sign:Bs} {most:Nat} {st:Ts→Bool} {one:Ts→R α} (h:∀ts,(one ts).good):∀f l ts,(Xe sign most st one f l ts).good
 | 0,_,_=>ZAl (by decide)
 | f+1,l,ts=>ZAk (ZAl (by decide)) (ZAg (h _) fun _ _=>ZAk (Ze3 h f _ _) trivial)
theorem UA {α:Type} {sign:Bs} {most:Nat} {st:Ts→Bool} {one:Ts→R α} (h:∀ts,(one ts).good) (ts:Ts):(YE sign most st one ts).good:=Ze3 h _ _ _
theorem Zny (ts:Ts):(YG ts).good:=ZAg (Z4 _) fun _ _=>ZAg (Yw _ _) fun _ _=>ZAg (Z4 _) fun _ _=>trivial
theorem Zbe (w:Bs) (ts:Ts):(Yn w ts).good:=ZAk trivial (UA Zny _)
theorem ZcQ (ts:Ts):(Y2 ts).good:=ZAk (ZAg (UA Z4 _) fun _ _=>ZAg (Yw _ _) fun _ _=>trivial) trivial
theorem ZpH (ts:Ts):(Wv ts).good:=ZAg (Z4 _) fun _ _=>ZAg (Yw _ _) fun _ _=>ZAg (Zbe _ _) fun _ _=>ZAg (Yw _ _) fun _ _=>trivial
theorem Znz (ts:Ts):(Jw ts).good:=ZAg (Z4 _) fun _ _=>ZAk (ZAg (Z4 _) fun _ _=>trivial) (ZAg (Yw _ _) fun _ _ =>
 ZAk (ZAg (Zbe _ _) fun _ _=>ZAg (Yw _ _) fun _ _=>trivial) (ZAg (UA ZpH _) fun _ _=>trivial))
theorem ZpI (ts:Ts):(Zd6 ts).good:=ZAg (Z4 _) fun _ _=>ZAg (Yw _ _) fun _ _=>ZAg (Zbe _ _) fun _ _=>ZAg (Yw _ _) fun _ _=>trivial
theorem Zb3 {d:Nat} {ex:Ts→R Ex} (h:∀ts,(ex ts).good) (fr tw:Bs) (ts:Ts):(XY d ex fr tw ts).good:=by
 unfold XY
 exact Xm (fun ts=>ZAk (ZAw _ _) (UA h _)) ts
theorem Ze4 {ex:Ts→R Ex} (h:∀ts,(ex ts).good):∀k l ts,(X2 ex k l ts).good
 | 0,_,_=>trivial
 | k+1,l,ts=>ZAg (ZAk trivial (Yw _ _)) fun _ _=>ZAg (h _) fun _ _=>Ze4 h k _ _
theorem Zi5 {d:Nat} {ex:Ts→R Ex} (h:∀ts,(ex ts).good) (ts:Ts):(Yr d ex ts).good :=
 ZAk (ZAl (by decide)) <| ZAk trivial <| ZAk trivial <| ZAk (Xm h _) <| ZAk (ZAg (Zb3 h _ _ _) fun _ _=>trivial) <|
 ZAk (ZAg (Z4 _) fun _ _=>ZAk (ZAg (Zb3 h _ _ _) fun _ _=>trivial) trivial) <|
 ZAk (ZAg (Xm (Ze4 h _ _) _) fun _ _=>trivial) <| ZAk trivial <| ZAk trivial trivial
theorem Ze5 {sub:Nat→Ts→R Ex} (h:∀n ts,(sub n ts).good) (least:Nat):∀f e ts,(Vb sub least f e ts).good
 | 0,_,_=>ZAl (by decide)
 | f+1,e,ts=>ZAk trivial (ZAg (h _ _) fun _ _=>Ze5 h least f _ _)
theorem ZcR {sg:Ts→R Ex} (h:∀ts,(sg ts).good):∀k least ts,(Vc sg k least ts).good
 | 0,_,_=>h _
 | k+1,least,ts=>ZAg (h _) fun _ _=>Ze5 (fun n ts=>ZcR h k n ts) _ _ _ _
theorem Zdv {d:Nat} {sg:Ts→R Ex} (h:∀ts,(sg ts).good) (ts:Ts):(V4 d sg ts).good :=
 ZAk (ZAg (Xm h _) fun _ _=>trivial) <| ZAk (ZAg (Xm h _) fun _ _=>trivial) (Zi5 (fun ts=>ZcR h _ _ _) _)
theorem Ze6:∀d ts,(Zp d ts).good
 | 0,ts=>Zdv (fun _=>(ZAl (by decide))) ts
 | d+1,ts=>Zdv (Ze6 d) ts
theorem Zb4 (d:Nat) (ts:Ts):(ZW d ts).good:=ZcR (Ze6 d) _ _ _
theorem ZgD:∀d ts,(Yi d ts).good
 | 0,_=>(ZAl (by decide))
 | d+1,ts=>Zb4 d ts
theorem ZnA (ts:Ts):(Zbq ts).good:=by
 unfold Zbq
 split
 ·exact ZAl (by decide)
 ·split <;> trivial
 ·trivial
theorem Zdw (d op a:Nat) (ts:Ts):(Jx d op a ts).good:=ZAg (Z4 _) fun _ _=>ZAg (Zb3 (ZgD d) _ _ _) fun _ _=>trivial
theorem Ze7 {d:Nat} {bd:Ts→R (List Li)} (h:∀ts,(bd ts).good) (a op:Nat) (l:List Ex) (ts:Ts):(XC d bd a op l ts).good :=
 ZAk (ZAg (Yw _ _) fun _ _=>ZAg (Xm h _) fun _ _=>trivial) trivial
theorem Zl9 {d:Nat} {bd:Ts→R (List Li)} (h:∀ts,(bd ts).good) (ts:Ts):(Zbr d bd ts).good :=
 ZAk (Zdw _ _ _ _) <| ZAk (Zdw _ _ _ _) <| ZAg (Zb4 _ _) fun _ _=>ZAg (ZnA _) fun _ _=>ZAk (Ze7 h _ _ _ _) (ZAg (Zb4 _ _) fun _ _=>Ze7 h _ _ _ _)
theorem Zi6:∀d ts,(Ue d ts).good
 | 0,ts=>UA (Zl9 fun _=>(ZAl (by decide))) ts
 | d+1,ts=>UA (Zl9 (Zi6 d)) ts
theorem ZpJ (d:Nat) (b:Bool) (ts:Ts):(Zd7 d b ts).good:=ZAg (Z4 _) fun _ _=>ZAg (Zb3 (ZgD d) _ _ _) fun _ _ =>
 ZAk (ZAg (Zi6 _ _) fun _ _=>ZAg (Yw _ _) fun _ _=>trivial) (ZAg (Yw _ _) fun _ _=>trivial)
theorem ZpK {d:Nat} {un:Ts→R Un} (h:∀ts,(un ts).good) (ts:Ts):(Zd8 d un ts).good:=ZAg (Z4 _) fun _ _=>ZAg (ZcQ _) fun _ _ =>
 ZAk (ZAg (Z4 _) fun _ _=>ZAg (ZcQ _) fun _ _=>ZAg (Xm h _) fun _ _=>trivial) (ZAg (Xm h _) fun _ _=>trivial)
theorem ZpL (ts:Ts):(Zd9 ts).good:=ZAg (Z4 _) fun _ _=>ZAg (Yw _ _) fun _ _=>ZAg (Z4 _) fun _ _=>ZAg (ZcQ _) fun _ _=>trivial
theorem ZpM (ts:Ts):(ZfF ts).good:=ZAg (Z4 _) fun _ _=>trivial
theorem YS {b:Bool} {d:Nat} {un:Ts→R Un} (h:∀ts,(un ts).good):∀f u ts,(X3 b d un f u ts).good
 | 0,_,_=>ZAl (by decide)
 | f+1,.mk tys rels rules comps inits overs,ts=>by
  rw [JU];exact ZAk trivial <| ZAk (ZAk (ZAl (by decide)) (ZAg (Znz _) fun _ _=>YS h f _ _)) <| ZAk (ZAk (ZAl (by decide)) (ZAg (ZpI _) fun _ _=>YS h f _ _)) <|
   ZAk (ZAk (ZAl (by decide)) (ZAg (ZpK h _) fun _ _=>YS h f _ _)) <| ZAk (ZAk (ZAl (by decide)) (ZAg (ZpL _) fun _ _=>YS h f _ _)) <|
   ZAk (ZAk (ZAl (by decide)) (ZAg (ZpM _) fun _ _=>YS h f _ _)) <| ZAk (ZAk (ZAl (by decide)) (ZAg (ZpJ _ _ _) fun _ _=>YS h f _ _)) (ZAl (by decide))
theorem ZgE:∀d ts,(ZmN d ts).good
 | 0,ts=>YS (fun _=>(ZAl (by decide))) _ _ _
 | d+1,ts=>YS (ZgE d) _ _ _
theorem Zi7 (ts:Ts):(W3 ts).good:=YS (ZgE 63) _ _ _
theorem ZnB {a:Nat} {r:Bs} {room:Bool} {t:Tok} (h:Xn a r room=.tok t):room=true:=by
 cases room with
 | true=>rfl
 | false =>
  unfold Xn at h
  simp only at h;split at h
  ·cases h
  ·simp at h
theorem Zma:∀(f:Nat) (m:Int) (a:Nat) (r:Bs),(Xd f m a r).1.length≤m.toNat
 | 0,m,a,r=>by simp [Xd]
 | f+1,m,a,r=>by
  unfold Xd
  split
  ·simp
  ·simp only;split
   ·simp
   ·split
    ·simp
    ·rename_i t ht
     have hr:=ZnB ht;rw [TG] at hr;have:=Zma f (m - 1) t.fin ((r.drop (Zt r).2).drop (t.fin - (a+(Zt r).2)));simp only [Td];omega
theorem Zhv (s:Bs) (m:Int):(VG s m).1.length≤m.toNat:=Zma _ _ _ _
inductive Top (α:Type) where
 | ok (v:α) (L:List Tok) | err (p:Int) (e:Nat)
def ZX {α:Type} (bytes most:Nat) (P:Ts→R α) (s:Bs):Top α :=
 if bytes<s.length then .err 0 3
 else if (VG s most).2.2≠0 then .err (VG s most).2.1 (VG s most).2.2
 else match P ((VG s most).1.map Tok.t0) with
  | .ok v []=>.ok v (VG s most).1
  | .ok v (_::ts)=>.err (Ze (VG s most).1 s.length (ts.length+1)) 150
  | .err r e=>.err (Ze (VG s most).1 s.length r) e
theorem Ze8 {α:Type} {bytes most:Nat} {P:Ts→R α} (hP:∀ts,(P ts).good) {s:Bs} {p:Int} {e:Nat} (h:ZX bytes most P s=.err p e):e≠0:=by
 unfold ZX at h
 split at h
 ·cases h;decide
 ·split at h
  ·rename_i hn;cases h;exact hn
  ·split at h
   ·cases h
   ·cases h;decide
   ·rename_i r e' he
    cases h
    have:=hP ((VG s most).1.map Tok.t0);rw [he] at this;exact this
end Go.PM.Lex
end

section
namespace Go.PM.Lex
end Go.PM.Lex
end

section
namespace Go.PM.Lex
open Go.Proofs
variable {w0:World} {nG:Nat}
noncomputable def Ze9:Zr:=fun args σ K=>match args,σ with
 | [.d (.str s),.d (.int .i64 m)],⟨[],[],0⟩=>s.length<4294967281 ∧
   ∀l p c,VG s m=(l,(p,c))→(c=0→K (.ret (.tuple [.d (.sl (Zv l)),.d (.int .i64 p),.d (.int .i64 0)])) ⟨[],[],0⟩) ∧
    (c≠0→K (.ret (.tuple [.d (.sl []),.d (.int .i64 p),.d (.int .i64 c)])) ⟨[],[],0⟩)
 | _,_=>False
theorem Zfa:Za Ze9:=fun args σ K K' hK h=>by
 unfold Ze9 at h ⊢
 split at h
 ·exact ⟨h.1,fun l p c hx=>⟨fun g=>hK _ _ ((h.2 l p c hx).1 g),fun g=>hK _ _ ((h.2 l p c hx).2 g)⟩⟩
 ·exact h.elim
theorem Zu5 (h:PCalls (GG w0 nG) 79 ZbM):PCalls (GG w0 nG) 79 Ze9:=h.weaken1 fun args σ K hs=>by
 unfold Ze9 at hs
 unfold ZbM
 split at hs
 ·rename_i s m
  obtain ⟨h1,hs⟩:=hs;refine ⟨h1,?_⟩;have hs:=hs (VG s m).1 (VG s m).2.1 (VG s m).2.2 rfl
  by_cases hc:(VG s m).2.2=0
  ·rw [Tf hc,hc];exact hs.1 hc
  ·rw [Tc hc];exact hs.2 hc
 ·exact hs.elim
noncomputable def recOf:Nat×Nat×Code:=match Zx5 (Ww Tryz.f80) with | some x=>x | none=>(0,0,.skip)
noncomputable def ZwT:List PV→St→(St→Prop)→Prop:=fun args σ K=>args.length≤Tryz.f80.ntmps∧W (ctx Zko [] (Zb [])) recOf.2.2 (ZwI Zko Tryz.f80 σ.bx.length K) (Zay (Zay (Zee 0 args) recOf.1 (.d .nili)) recOf.2.1 (.d .nili)) σ
noncomputable def ZwU:PV→List PV→St→(St→Prop)→Prop:=fun pv args σ K=>args.length≤Tryz.f80.ntmps∧W (ctx Zko [] (Zb [])) recOf.2.2 (ZwI Zko Tryz.f80 σ.bx.length K) (Zay (Zay (Zee 0 args) recOf.1 pv) recOf.2.1 pv) σ
theorem Zty:PDef (GG w0 nG) 80 ZwT ZwU :=
 Zux (a:=recOf.1) (b:=recOf.2.1) (rest:=recOf.2.2) Z8 mixed (tbl:=[]) trivial Tryz.func80 rfl (by kernel_rfl) rfl (by kernel_rfl) (fun args σ K h=>⟨Zb [],σ.bx.length,Tq _,h.1,h.2⟩) (fun pv args σ K h=>⟨Zb [],σ.bx.length,Tq _,h.1,h.2⟩)
def WhK {α:Type} (tU:TypeId) (enc:List Tok→Int→α→List PV) (bad:List PV→Prop) (n:Int) (x:Top α) (K:PEnd→St→Prop):Prop:=match x with
 | .ok v L=>K (.ret (.tuple [.d (.int .i64 0),.d (.int .i64 0)])) ⟨[.cells tU (enc L n v)],[],0⟩
 | .err p e=>∀cs,bad cs→K (.ret (.tuple [.d (.int .i64 p),.d (.int .i64 e)])) ⟨[.cells tU cs],[],0⟩
theorem Zmb {α:Type} {tU:TypeId} {enc:List Tok→Int→α→List PV} {bad:List PV→Prop} {n:Int} {x:Top α} {K K':PEnd→St→Prop} (hK:∀e σ,K e σ→K' e σ) (h:WhK tU enc bad n x K):WhK tU enc bad n x K':=by
 cases x with
 | ok v L=>exact hK _ _ h
 | err p e=>exact fun cs hb=>hK _ _ (h cs hb)
theorem Zi8 {l:List Tok} (h:l.length≤1048576):ROK l 0 (l.map Tok.t0):=⟨by omega,by omega,h,by simp [tz]⟩
def Zz3 (cs:List PV):Prop:=∃a b c d e f:List (List D),cs=[.d (.sl a),.d (.sl b),.d (.sl c),.d (.sl d),.d (.sl e),.d (.sl f)]
def Zz4 (cs:List PV):Prop:=∃(a:Int) (b:Bs) (c:Int) (d:List (List D)) (e:Int),cs=[.d (.int .u8 a),.d (.str b),.d (.int .i64 c),.d (.sl d),.d (.int .i64 e)]
noncomputable def Zmc:Tbl:=[(70,Zdt 64)]
noncomputable def Zmd:Tbl:=[(35,ZeZ 64)]
noncomputable def ZpN:Zr:=fun args σ K=>match args,σ with
 | [.d (.str s),.d (.int .i64 by'),.d (.int .i64 most),.func g [] [.ptr 0 0]],⟨[.cells tU c0],tk,n⟩=>(g=69∧by'=65536∧most=16384∧c0=[.sl 0 64 [],.sl 1 68 [],.sl 2 50 [],.sl 3 71 [],.sl 4 73 [],.sl 5 75 []]∧tk=[5,4,3,2,1,0]∧n=6)∧s.length<4294967281 ∧
   ∀x,ZX 65536 16384 W3 s=x→WhK tU (fun L n (v:Un)=>(Zhn (Ze L n) v).map .d) Zz3 s.length x K
 | _,_=>False
theorem ZnC:Za ZpN:=fun args σ K K' hK h=>by
 unfold ZpN at h ⊢
 split at h
 ·exact ⟨h.1,h.2.1,fun x hx=>Zmb hK (h.2.2 x hx)⟩
 ·exact h.elim
noncomputable def Ztz:Tbl:=[(79,Ze9),(69,ZkK Tryz.f69 Zmc),(81,Xl)]
theorem ZpO (ht:TblOK (GG w0 nG) Ztz):PCalls (GG w0 nG) 33 ZpN:=by
 refine Zpj Z8 mixed (tbl:=Ztz) ht Tryz.func33 rfl (by kernel_rfl) (by kernel_rfl) Zty ?_;intro args σ K h
 unfold ZpN at h
 split at h
 ·obtain ⟨⟨rfl,rfl,rfl,rfl,rfl,rfl⟩,hs,h⟩:=h
  rename_i s tU
  have h:=h _ rfl;refine ⟨Zb [],W4 [],Yu [],1,false,by simp,Ta rfl,?_⟩;unfold ZX at h
  conv=>whnf
  refine ZAf (fun hc=>?_) (fun hc=>?_)
  ·rw [Tf (by omega)] at h;(conv=>whnf);exact h _ ⟨_,_,_,_,_,_,rfl⟩
  rw [Tc (by omega)] at h;(conv=>whnf);refine ⟨hs,fun l p c hx=>?_⟩;have hlen:=Zhv s 16384;rw [show ((16384:Nat):Int)=16384 from rfl,hx] at h;rw [hx] at hlen;refine ⟨fun h0=>?_,fun h0=>?_⟩
  ·subst h0;rw [Tc (by simp)] at h;simp only at h hlen;have ho:=Zi8 (l:=l) (by simp at hlen;omega)
   clear hx hlen
   generalize hts:l.map Tok.t0=ts at h ho;(conv=>whnf);refine ⟨_,fun _ _ h=>h,Ta rfl,?_⟩;(conv=>whnf);refine ⟨l,ts,rfl,ho,by omega,fun x hx=>?_⟩;rw [show W3 ts=ZfS false 64 ts from rfl,hx] at h;rcases x with ⟨⟨v1,v2,v3,v4,v5,v6⟩,ts2⟩ | ⟨r,e⟩
   rotate_left
   ·intro a9 d9;(conv=>whnf);refine ⟨Ta rfl,?_⟩;(conv=>whnf);(repeat (refine ⟨rfl,?_⟩;conv=>whnf));exact h _ ⟨_,_,_,_,_,_,rfl⟩
   intro a2 hle2 ho2
   conv=>whnf
   have hl2:=ho2.len
   (repeat (refine ⟨rfl,?_⟩;conv=>whnf))
   refine ZAf (fun hc3=>?_) (fun hc3=>?_)
   ·have hc3:a2<l.length:=by have hc3:a2<((Zv l).length:Int):=hc3;rw [ZC] at hc3;exact hc3
    cases ts2 with
    | nil=>simp at hl2;omega
    | cons t0 ts3 =>
     conv=>whnf
     refine ⟨l,_,rfl,ho2,?_⟩;(conv=>whnf);refine ⟨Ta rfl,?_⟩;(conv=>whnf)
     (repeat (refine ⟨rfl,?_⟩;conv=>whnf))
     exact h _ ⟨_,_,_,_,_,_,rfl⟩
   exact m221
  rw [Tf h0] at h;(conv=>whnf);refine ZAh (fun hc2=>?_) (fun hc2=>absurd (show c=0 by omega) h0);(conv=>whnf)
  (repeat (refine ⟨rfl,?_⟩;conv=>whnf))
  exact h _ ⟨_,_,_,_,_,_,rfl⟩
 ·exact h.elim
noncomputable def ZpP:Zr:=fun args σ K=>match args,σ with
 | [.d (.str s),.d (.int .i64 by'),.d (.int .i64 most),.func g [] [.ptr 0 0]],⟨[.cells tU c0],tk,n⟩=>(g=34∧by'=65536∧most=16384∧c0=[.d (.int .u8 0),.d (.str []),.d (.int .i64 0),.sl 0 24 [],.d (.int .i64 0)]∧tk=[0]∧n=1)∧s.length<4294967281 ∧
   ∀x,ZX 65536 16384 (ZW 64) s=x→WhK tU (fun L n (v:Ex)=>(Yc (Ze L n) v).map .d) Zz4 s.length x K
 | _,_=>False
theorem ZnD:Za ZpP:=fun args σ K K' hK h=>by
 unfold ZpP at h ⊢
 split at h
 ·exact ⟨h.1,h.2.1,fun x hx=>Zmb hK (h.2.2 x hx)⟩
 ·exact h.elim
noncomputable def ZtA:Tbl:=[(79,Ze9),(34,ZkK Tryz.f34 Zmd),(81,Xl)]
theorem ZpQ (ht:TblOK (GG w0 nG) ZtA):PCalls (GG w0 nG) 33 ZpP:=by
 refine Zpj Z8 mixed (tbl:=ZtA) ht Tryz.func33 rfl (by kernel_rfl) (by kernel_rfl) Zty ?_;intro args σ K h
 unfold ZpP at h
 split at h
 ·obtain ⟨⟨rfl,rfl,rfl,rfl,rfl,rfl⟩,hs,h⟩:=h
  rename_i s tU
  have h:=h _ rfl;refine ⟨Zb [],W4 [],Yu [],1,false,by simp,Ta rfl,?_⟩;unfold ZX at h
  conv=>whnf
  refine ZAf (fun hc=>?_) (fun hc=>?_)
  ·rw [Tf (by omega)] at h;(conv=>whnf);exact h _ ⟨_,_,_,_,_,rfl⟩
  rw [Tc (by omega)] at h;(conv=>whnf);refine ⟨hs,fun l p c hx=>?_⟩;have hlen:=Zhv s 16384;rw [show ((16384:Nat):Int)=16384 from rfl,hx] at h;rw [hx] at hlen;refine ⟨fun h0=>?_,fun h0=>?_⟩
  ·subst h0;rw [Tc (by simp)] at h;simp only at h hlen;have ho:=Zi8 (l:=l) (by simp at hlen;omega)
   clear hx hlen
   generalize hts:l.map Tok.t0=ts at h ho;(conv=>whnf);refine ⟨_,fun _ _ h=>h,Ta rfl,?_⟩;(conv=>whnf);refine ⟨l,ts,rfl,ho,by omega,fun x hx=>?_⟩;rw [hx] at h;rcases x with ⟨⟨v1,v2,v3,v4,v5⟩,ts2⟩ | ⟨r,e⟩
   rotate_left
   ·intro a9 d9;(conv=>whnf);refine ⟨Ta rfl,?_⟩;(conv=>whnf);(repeat (refine ⟨rfl,?_⟩;conv=>whnf));exact h _ ⟨_,_,_,_,_,rfl⟩
   intro a2 hle2 ho2
   conv=>whnf
   have hl2:=ho2.len
   (repeat (refine ⟨rfl,?_⟩;conv=>whnf))
   refine ZAf (fun hc3=>?_) (fun hc3=>?_)
   ·have hc3:a2<l.length:=by have hc3:a2<((Zv l).length:Int):=hc3;rw [ZC] at hc3;exact hc3
    cases ts2 with
    | nil=>simp at hl2;omega
    | cons t0 ts3 =>
     conv=>whnf
     refine ⟨l,_,rfl,ho2,?_⟩;(conv=>whnf);refine ⟨Ta rfl,?_⟩;(conv=>whnf)
     (repeat (refine ⟨rfl,?_⟩;conv=>whnf))
     exact h _ ⟨_,_,_,_,_,rfl⟩
   exact m221
  rw [Tf h0] at h;(conv=>whnf);refine ZAh (fun hc2=>?_) (fun hc2=>absurd (show c=0 by omega) h0);(conv=>whnf)
  (repeat (refine ⟨rfl,?_⟩;conv=>whnf))
  exact h _ ⟨_,_,_,_,_,rfl⟩
 ·exact h.elim
end Go.PM.Lex
end

section
namespace Go.PM.Lex
open Go.Proofs
variable {w0:World} {nG:Nat}
def Zwd {α:Type} (enc:List Tok→α→PV) (zero:PV) (x:Top α) (K:PEnd→St→Prop):Prop:=match x with
 | .ok v L=>K (.ret (.tuple [enc L v,.d (.int .i64 0),.d (.int .i64 0)])) ⟨[],[],0⟩
 | .err p e=>K (.ret (.tuple [zero,.d (.int .i64 p),.d (.int .i64 e)])) ⟨[],[],0⟩
theorem Zi9 {α:Type} {enc:List Tok→α→PV} {zero:PV} {x:Top α} {K K':PEnd→St→Prop} (hK:∀e σ,K e σ→K' e σ) (h:Zwd enc zero x K):Zwd enc zero x K':=by
 cases x <;> exact hK _ _ h
noncomputable def ZgF:Zr:=fun args σ K=>match args,σ with
 | [.d (.str s)],⟨[],[],0⟩=>s.length<4294967281∧∀x,ZX 65536 16384 W3 s=x→Zwd (fun L (v:Un)=>ZbW (Zhn (Ze L s.length) v)) (ZbW (Zhn (fun _=>0) .nil)) x K
 | _,_=>False
theorem ZkU:Za ZgF:=fun args σ K K' hK h=>by
 unfold ZgF at h ⊢
 split at h
 ·exact ⟨h.1,fun x hx=>Zi9 hK (h.2 x hx)⟩
 ·exact h.elim
noncomputable def Zu6:Tbl:=[(33,ZpN)]
theorem Zu7 (ht:TblOK (GG w0 nG) Zu6):PCalls (GG w0 nG) 28 ZgF:=by
 refine pc ht Tryz.func28 ?_;intro args σ K h
 unfold ZgF at h
 split at h
 ·rename_i s
  obtain ⟨hs,h⟩:=h;refine ⟨Zb [],0,false,by simp,Ta rfl,?_⟩;(conv=>whnf);refine ⟨⟨rfl,rfl,rfl,rfl,rfl,rfl⟩,hs,fun x hx=>?_⟩;have h:=h x hx
  cases x with
  | ok v L =>
   obtain ⟨v1,v2,v3,v4,v5,v6⟩:=v;exact m54
  | err p e =>
   have he:=Ze8 Zi7 hx;intro cs hcs
   obtain ⟨b1,b2,b3,b4,b5,b6,rfl⟩:=hcs;(conv=>whnf);refine ZAh (fun hc=>?_) (fun hc=>absurd (show e=0 by omega) he);exact m54
 ·exact h.elim
noncomputable def ZgG:Zr:=fun args σ K=>match args,σ with
 | [.d (.str s)],⟨[],[],0⟩=>s.length<4294967281∧∀x,ZX 65536 16384 (ZW 64) s=x→Zwd (fun L (v:Ex)=>ZbW (Yc (Ze L s.length) v)) (ZbW [.int .u8 0,.str [],.int .i64 0,.sl [],.int .i64 0]) x K
 | _,_=>False
theorem ZkV:Za ZgG:=fun args σ K K' hK h=>by
 unfold ZgG at h ⊢
 split at h
 ·exact ⟨h.1,fun x hx=>Zi9 hK (h.2 x hx)⟩
 ·exact h.elim
noncomputable def Zu8:Tbl:=[(33,ZpP)]
theorem Zu9 (ht:TblOK (GG w0 nG) Zu8):PCalls (GG w0 nG) 14 ZgG:=by
 refine pc ht Tryz.func14 ?_;intro args σ K h
 unfold ZgG at h
 split at h
 ·rename_i s
  obtain ⟨hs,h⟩:=h;refine ⟨Zb [],0,false,by simp,Ta rfl,?_⟩;(conv=>whnf);refine ⟨⟨rfl,rfl,rfl,rfl,rfl,rfl⟩,hs,fun x hx=>?_⟩;have h:=h x hx
  cases x with
  | ok v L =>
   obtain ⟨v1,v2,v3,v4,v5⟩:=v;exact m54
  | err p e =>
   have he:=Ze8 (Zb4 64) hx;intro cs hcs
   obtain ⟨b1,b2,b3,b4,b5,rfl⟩:=hcs;(conv=>whnf);refine ZAh (fun hc=>?_) (fun hc=>absurd (show e=0 by omega) he);exact m54
 ·exact h.elim
theorem ZgH (hg:GlobOK w0 nG):PCalls (GG w0 nG) 79 Ze9:=Zu5 (Zut hg)
theorem ZyH (hg:GlobOK w0 nG):PCalls (GG w0 nG) 28 ZgF:=Zu7 ⟨⟨ZpO ⟨⟨ZgH hg,Zfa⟩,⟨ZcL (tb:=Zmc) ⟨⟨ZyG 64,ZkQ 64⟩,trivial⟩ Tryz.func69 rfl (by kernel_rfl) (by kernel_rfl),YD _ _⟩,⟨Jc,ZE⟩,trivial⟩,ZnC⟩,trivial⟩
theorem ZyI (hg:GlobOK w0 nG):PCalls (GG w0 nG) 14 ZgG:=Zu9 ⟨⟨ZpQ ⟨⟨ZgH hg,Zfa⟩,⟨ZcL (tb:=Zmd) ⟨⟨ZwR 64,Wb _ _ _ _⟩,trivial⟩ Tryz.func34 rfl (by kernel_rfl) (by kernel_rfl),YD _ _⟩,⟨Jc,ZE⟩,trivial⟩,ZnD⟩,trivial⟩
end Go.PM.Lex
end

section
namespace Go.PM.Lex
open Go.Proofs
variable {w0:World} {nG:Nat}
mutual
def szE:Ex→Nat
 | .mk _ _ _ l _=>1+ZrZ l
def ZrZ:List Ex→Nat
 | []=>0
 | x::l=>1+szE x+ZrZ l
end
theorem Zme:∀(l:List Ex),l.length≤ZrZ l
 | []=>Tq _
 | x::l=>by have:=Zme l;simp only [Td,ZrZ];omega
theorem Zmf:∀(l:List Ex) (i:Nat) (h:i<l.length),szE l[i]<ZrZ l
 | x::l,0,h=>by simp only [List.getElem_cons_zero,ZrZ];omega
 | x::l,i+1,h=>by have:=Zmf l i (by simpa using h);simp only [List.getElem_cons_succ,ZrZ];omega
def Li.op:Li→Nat | .mk o _ _ _ _=>o
end Go.PM.Lex
end

section
namespace Go.PM.Lex
open Go.Proofs
variable {w0:World} {nG:Nat}
def szS {α:Type} (f:α→Nat):List α→Nat
 | []=>0
 | x::l=>1+f x+szS f l
theorem Wn {α:Type} (f:α→Nat):∀(l:List α),l.length≤szS f l
 | []=>Tq _
 | x::l=>by have:=Wn f l;simp only [Td,szS];omega
theorem Wo {α:Type} (f:α→Nat):∀(l:List α) (i:Nat) (h:i<l.length),f l[i]<szS f l
 | x::l,0,h=>by simp only [List.getElem_cons_zero,szS];omega
 | x::l,i+1,h=>by have:=Wo f l i (by simpa using h);simp only [List.getElem_cons_succ,szS];omega
theorem Zfb:∀(l:List Ex),ZrZ l=szS szE l
 | []=>rfl
 | x::l=>by rw [ZrZ,szS,Zfb l]
def eqB (a b:Bs):Bool:=decide (a=b)
mutual
def szL:Li→Nat
 | .mk _ _ a b _=>1+szS szE a+ZwV b
def ZwV:List Li→Nat
 | []=>0
 | x::l=>1+szL x+ZwV l
end
theorem Zbf:∀(l:List Li),ZwV l=szS szL l
 | []=>by rw [ZwV,szS]
 | x::l=>by rw [ZwV,szS,Zbf l]
def Zj2 (r:Ru):Nat:=1+szS szE r.args+szS szL r.body
def sz0 {α:Type} (_:α):Nat:=0
def ZyJ (c:Ca):Nat:=1+szS sz0 c.fields
def Zwe (a:Ty):Nat:=1+szS sz0 a.fields+szS ZyJ a.cases
def Zx6 (a:Re):Nat:=1+szS sz0 a.fields
def Zx7 (a:Ini):Nat:=1+szS sz0 a.types
mutual
def ZtB:Un→Nat
 | .mk a1 a2 a3 a4 a5 a6=>1+szS Zwe a1+szS Zx6 a2+szS Zj2 a3+ZpR a4+szS Zx7 a5+szS sz0 a6
def Zwf:Co→Nat
 | .mk _ p _ t u _=>1+szS sz0 p+szS sz0 t+ZtB u
def ZpR:List Co→Nat
 | []=>0
 | x::l=>1+Zwf x+ZpR l
end
theorem Zb5:∀(l:List Co),ZpR l=szS Zwf l
 | []=>by rw [ZpR,szS]
 | x::l=>by rw [ZpR,szS,Zb5 l]
def spB (sp:Nat→Zr) (n:Nat):Zr:=fun args σ K=>0<n∧sp (n - 1) args σ K
theorem ZK {sp:Nat→Zr} (h:∀n,Za (sp n)) (n:Nat):Za (spB sp n):=fun args σ K K' hK g=>⟨g.1,h _ _ _ _ _ hK g.2⟩
theorem Z5 {g:FuncId} {sp:Nat→Zr} (h:Vp (GG w0 nG).P g):PCalls (GG w0 nG) g (spB sp 0):=⟨h,fun args σ K hs=>absurd hs.1 (by omega)⟩
theorem Z6 {g:FuncId} {sp:Nat→Zr} {n:Nat} (h:PCalls (GG w0 nG) g (sp n)):PCalls (GG w0 nG) g (spB sp (n+1)):=h.weaken1 fun args σ K hs=>hs.2
end Go.PM.Lex
end

section
namespace Go.PM.Lex
open Go.Proofs
variable {w0:World} {nG:Nat}
end Go.PM.Lex
end

section
namespace Go.PM.Lex
open Go.Proofs
variable {w0:World} {nG:Nat}
end Go.PM.Lex
end

section
namespace Go.PM.Lex
open Go.Proofs
variable {w0:World} {nG:Nat}
mutual
def wE:Ex→Nat
 | .mk _ t _ args _=>1+t.length+wEs args
def wEs:List Ex→Nat
 | []=>0
 | x::l=>1+wE x+wEs l
end
theorem Zfc:∀(l:List Ex),wEs l=szS wE l
 | []=>by rw [wEs,szS]
 | x::l=>by rw [wEs,szS,Zfc l]
mutual
def wL:Li→Nat
 | .mk _ r a b _=>1+r.length+szS wE a+wLs b
def wLs:List Li→Nat
 | []=>0
 | x::l=>1+wL x+wLs l
end
theorem Zdx:∀(l:List Li),wLs l=szS wL l
 | []=>by rw [wLs,szS]
 | x::l=>by rw [wLs,szS,Zdx l]
def wRu (r:Ru):Nat:=1+r.head.length+szS wE r.args+szS wL r.body
def wFi (f:Fi):Nat:=1+f.name.length+f.typ.length
def wCa (c:Ca):Nat:=1+c.name.length+szS wFi c.fields
def wTy (t:Ty):Nat:=1+t.name.length+t.base.length+szS wFi t.fields+szS wCa t.cases
def wRe (d:Re):Nat:=1+d.name.length+szS wFi d.fields
def wBs (s:Bs):Nat:=1+s.length
def wIn (i:Ini):Nat:=1+i.name.length+i.comp.length+szS wBs i.types
def wOv (o:Ov):Nat:=1+o.rel.length
mutual
def wUn:Un→Nat
 | .mk a1 a2 a3 a4 a5 a6=>1+szS wTy a1+szS wRe a2+szS wRu a3+ZwW a4+szS wIn a5+szS wOv a6
def wCo:Co→Nat
 | .mk n p b t u _=>1+n.length+szS wBs p+b.length+szS wBs t+wUn u
def ZwW:List Co→Nat
 | []=>0
 | x::l=>1+wCo x+ZwW l
end
theorem Zhw:∀(l:List Co),ZwW l=szS wCo l
 | []=>by rw [ZwW,szS]
 | x::l=>by rw [ZwW,szS,Zhw l]
abbrev ZfT {α:Type} (enc:Pl→α→List D):Pl→α→PV:=fun pl x=>.agg ((enc pl x).map .d)
abbrev ZwX:Pl→Bs→PV:=fun _ s=>.d (.str s)
noncomputable def Zfd {α:Type} (val:Pl→α→PV) (p:α→Bool) (w:α→Nat) (n:Nat):Zr:=fun args σ K=>match args,σ with
 | [v],⟨[],[],0⟩=>∃pl x,v=val pl x∧(w x≤n∧n≤1073741824)∧∀b,p x=b→K (.ret (.d (.bool b))) ⟨[],[],0⟩
 | _,_=>False
theorem Wc {α:Type} (val:Pl→α→PV) (p:α→Bool) (w:α→Nat) (n:Nat):Za (Zfd val p w n):=fun args σ K K' hK h=>by
 unfold Zfd at h ⊢
 exact m66
noncomputable def ZtC {α:Type} (h0:FuncId) (val:Pl→α→PV) (p:α→Bool) (w:α→Nat) (n:Nat):Zr:=fun args σ K=>match args,σ with
 | [v,.ptr 0 0],⟨[.cells t [.func h' [] []]],[],0⟩=>∃pl x,v=val pl x∧(h'=h0∧w x≤n∧n≤1073741824)∧∀b,(!p x)=b→K (.ret (.d (.bool b))) ⟨[.cells t [.func h' [] []]],[],0⟩
 | _,_=>False
theorem Zja {α:Type} (h0:FuncId) (val:Pl→α→PV) (p:α→Bool) (w:α→Nat) (n:Nat):Za (ZtC h0 val p w n):=fun args σ K K' hK h=>by
 unfold ZtC at h ⊢
 exact m66
noncomputable def ZtD {α:Type} (g0 h0:FuncId) (enc:Pl→α→List D) (p:α→Bool) (w:α→Nat) (n:Nat):Zr:=fun args σ K=>match args,σ with
 | [.d (.sl r),.func g' [] [.ptr 0 0]],⟨[.cells t [.func h' [] []]],[],0⟩=>∃pl l,r=l.map (enc pl)∧(g'=g0∧h'=h0∧szS w l≤n∧n≤1073741824)∧∀r:Int,(r<0↔l.all p=true)→K (.ret (.d (.int .i64 r))) ⟨[.cells t [.func h' [] []]],[],0⟩
 | _,_=>False
theorem Zjb {α:Type} (g0 h0:FuncId) (enc:Pl→α→List D) (p:α→Bool) (w:α→Nat) (n:Nat):Za (ZtD g0 h0 enc p w n):=fun args σ K K' hK h=>by
 unfold ZtD at h ⊢
 exact m66
noncomputable def ZtE {α:Type} (g0 h0:FuncId) (enc:Pl→α→List D) (p:α→Bool) (w:α→Nat) (n:Nat):Zr:=fun args σ K=>match args,σ with
 | [.d (.sl r),.func g' [] [.ptr 0 0]],⟨[.cells t [.func h' [] []]],[],0⟩=>∃pl l,r=l.map (enc pl)∧(g'=g0∧h'=h0∧szS w l≤n∧n≤1073741824)∧∀b,(!l.all p)=b→K (.ret (.d (.bool b))) ⟨[.cells t [.func h' [] []]],[],0⟩
 | _,_=>False
theorem Zjc {α:Type} (g0 h0:FuncId) (enc:Pl→α→List D) (p:α→Bool) (w:α→Nat) (n:Nat):Za (ZtE g0 h0 enc p w n):=fun args σ K K' hK h=>by
 unfold ZtE at h ⊢
 exact m66
noncomputable def ZkW {α:Type} (h0:FuncId) (enc:Pl→α→List D) (p:α→Bool) (w:α→Nat) (n:Nat):Zr:=fun args σ K=>match args,σ with
 | [.d (.sl r),.func h' [] []],⟨[],[],0⟩=>∃pl l,r=l.map (enc pl)∧(h'=h0∧szS w l≤n∧n≤1073741824)∧∀b,l.all p=b→K (.ret (.d (.bool b))) ⟨[],[],0⟩
 | _,_=>False
theorem WX {α:Type} (h0:FuncId) (enc:Pl→α→List D) (p:α→Bool) (w:α→Nat) (n:Nat):Za (ZkW h0 enc p w n):=fun args σ K K' hK h=>by
 unfold ZkW at h ⊢
 exact m66
theorem ZdY {α:Type} (p:α→Bool) {l:List α} {i:Nat} (h:i<l.length):(l.drop i).all p=(p l[i] && (l.drop (i+1)).all p):=by rw [TM h,List.all_cons]
theorem ZpS {α:Type} (p:α→Bool) {l:List α} {i:Nat} (h:l.length≤i):(l.drop i).all p=true:=by rw [Tz h];rfl
noncomputable def ZwY (n:Nat):Tbl:=[(29,Zfd (ZfT Yc) ZQ wE n)]
theorem ZwZ {n:Nat} (ht:TblOK (GG w0 nG) (ZwY n)):PCalls (GG w0 nG) 154 (ZtC 29 (ZfT Yc) ZQ wE n):=by
 refine pc ht Tryz.func154 ?_;exact m77
noncomputable def Zw0 (n:Nat):Tbl:=[(154,ZtC 29 (ZfT Yc) ZQ wE n)]
theorem Zw1 {n:Nat} (ht:TblOK (GG w0 nG) (Zw0 n)):PCalls (GG w0 nG) 220 (ZtD 154 29 Yc ZQ wE n):=by
 refine pc ht Tryz.func220 ?_;intro args σ K h
 unfold ZtD at h
 split at h
 ·obtain ⟨pl,l,rfl,⟨rfl,rfl,hz,hn⟩,h⟩:=h
  rename_i t
  have hlen:(l.map (Yc pl)).length=l.length:=Ti ..;have hsz:=Wn wE l;refine ⟨Zb [(2,⟨[8],[0,1,7],fun vs σ=>∃i:Nat,vs=[.d (.int .i64 i)]∧σ=⟨[.cells t [.func 29 [] []]],[],0⟩∧i≤l.length∧l.all ZQ=(l.drop i).all ZQ,fun vs _=>match vs with | [.d (.int _ i)]=>((l.length:Int) - i).toNat | _=>0⟩)],1,false,by simp,Ta rfl,?_⟩;(conv=>whnf);refine ⟨⟨0,rfl,rfl,by omega,rfl⟩,?_⟩;intro vs σ hI
  obtain ⟨i,rfl,rfl,hi,hs⟩:=hI;(conv=>whnf);refine ZAf (fun hi2=>?_) (fun hi2=>?_)
  ·have hi2:i<l.length:=by have hi2:(i:Int)<(l.map (Yc pl)).length:=hi2;rw [hlen] at hi2;omega
   have hg:=Wo wE l i hi2;rw [ZdY _ hi2] at hs;obtain ⟨eA,hA⟩:∃e,l[i]=e:=⟨_,rfl⟩
   obtain ⟨a1,a2,a3,a4,a5⟩:=eA;have hr1:(l.map (Yc pl))[((i:Nat):Int).toNat]?=some (Yc pl (.mk a1 a2 a3 a4 a5)):=by simp [hi2,hA]
   rw [hA] at hs hg;(conv=>whnf);refine ⟨_,by omega,hr1,?_⟩;(conv=>whnf);refine ⟨pl,(.mk a1 a2 a3 a4 a5),rfl,⟨rfl,by omega,by omega⟩,fun b hb=>?_⟩
   cases b with
   | true =>
    have hp:ZQ (.mk a1 a2 a3 a4 a5)=false:=by simpa using hb
    rw [hp,Sc] at hs;(conv=>whnf);exact h _ (by rw [hs];simp;try omega)
   | false =>
    have hp:ZQ (.mk a1 a2 a3 a4 a5)=true:=by simpa using hb
    exact m239
  ·have hi2:l.length≤i:=by have hi2:¬(i:Int)<(l.map (Yc pl)).length:=hi2;rw [hlen] at hi2;omega
   rw [ZpS _ hi2] at hs;(conv=>whnf);exact h _ (by rw [hs];simp)
 ·exact h.elim
noncomputable def Zw2 (n:Nat):Tbl:=[(220,ZtD 154 29 Yc ZQ wE n)]
theorem Zw3 {n:Nat} (ht:TblOK (GG w0 nG) (Zw2 n)):PCalls (GG w0 nG) 153 (ZtE 154 29 Yc ZQ wE n):=by
 refine pc ht Tryz.func153 ?_;intro args σ K h
 unfold ZtE at h
 split at h
 ·obtain ⟨pl,l,rfl,⟨rfl,rfl,hz,hn⟩,h⟩:=h;refine ⟨Zb [],1,false,by simp,Ta rfl,?_⟩;(conv=>whnf);refine ⟨pl,l,rfl,⟨rfl,rfl,hz,hn⟩,fun r hr=>?_⟩;(conv=>whnf);refine h _ ?_
  cases hb:l.all ZQ with
  | true=>rw [hb] at hr;have:=hr.2 rfl;simp;omega
  | false=>rw [hb] at hr;have:¬r<0:=fun g=>(by have:=hr.1 g;cases this);simp;omega
 ·exact h.elim
noncomputable def Zw4 (n:Nat):Tbl:=[(153,ZtE 154 29 Yc ZQ wE n)]
theorem Zw5 {n:Nat} (ht:TblOK (GG w0 nG) (Zw4 n)):PCalls (GG w0 nG) 74 (ZkW 29 Yc ZQ wE n):=by
 refine pc ht Tryz.func74 ?_;exact m80
theorem Zx8 {n:Nat} (h:PCalls (GG w0 nG) 29 (Zfd (ZfT Yc) ZQ wE n)):PCalls (GG w0 nG) 74 (ZkW 29 Yc ZQ wE n) :=
 Zw5 ⟨⟨Zw3 ⟨⟨Zw1 ⟨⟨ZwZ ⟨⟨h,Wc _ _ _ _⟩,trivial⟩,Zja _ _ _ _ _⟩,trivial⟩,Zjb _ _ _ _ _ _⟩,trivial⟩,Zjc _ _ _ _ _ _⟩,trivial⟩
noncomputable def Zw6 (n:Nat):Tbl:=[(109,Zfd (ZfT Xi) ZZ wL n)]
theorem Zw7 {n:Nat} (ht:TblOK (GG w0 nG) (Zw6 n)):PCalls (GG w0 nG) 175 (ZtC 109 (ZfT Xi) ZZ wL n):=by
 refine pc ht Tryz.func175 ?_;exact m77
noncomputable def Zw8 (n:Nat):Tbl:=[(175,ZtC 109 (ZfT Xi) ZZ wL n)]
theorem Zw9 {n:Nat} (ht:TblOK (GG w0 nG) (Zw8 n)):PCalls (GG w0 nG) 245 (ZtD 175 109 Xi ZZ wL n):=by
 refine pc ht Tryz.func245 ?_;intro args σ K h
 unfold ZtD at h
 split at h
 ·obtain ⟨pl,l,rfl,⟨rfl,rfl,hz,hn⟩,h⟩:=h
  rename_i t
  have hlen:(l.map (Xi pl)).length=l.length:=Ti ..;have hsz:=Wn wL l;refine ⟨Zb [(2,⟨[8],[0,1,7],fun vs σ=>∃i:Nat,vs=[.d (.int .i64 i)]∧σ=⟨[.cells t [.func 109 [] []]],[],0⟩∧i≤l.length∧l.all ZZ=(l.drop i).all ZZ,fun vs _=>match vs with | [.d (.int _ i)]=>((l.length:Int) - i).toNat | _=>0⟩)],1,false,by simp,Ta rfl,?_⟩;(conv=>whnf);refine ⟨⟨0,rfl,rfl,by omega,rfl⟩,?_⟩;intro vs σ hI
  obtain ⟨i,rfl,rfl,hi,hs⟩:=hI;(conv=>whnf);refine ZAf (fun hi2=>?_) (fun hi2=>?_)
  ·have hi2:i<l.length:=by have hi2:(i:Int)<(l.map (Xi pl)).length:=hi2;rw [hlen] at hi2;omega
   have hg:=Wo wL l i hi2;rw [ZdY _ hi2] at hs;obtain ⟨eA,hA⟩:∃e,l[i]=e:=⟨_,rfl⟩
   obtain ⟨a1,a2,a3,a4,a5⟩:=eA;have hr1:(l.map (Xi pl))[((i:Nat):Int).toNat]?=some (Xi pl (.mk a1 a2 a3 a4 a5)):=by simp [hi2,hA]
   rw [hA] at hs hg;(conv=>whnf);refine ⟨_,by omega,hr1,?_⟩;(conv=>whnf);refine ⟨pl,(.mk a1 a2 a3 a4 a5),rfl,⟨rfl,by omega,by omega⟩,fun b hb=>?_⟩
   cases b with
   | true =>
    have hp:ZZ (.mk a1 a2 a3 a4 a5)=false:=by simpa using hb
    rw [hp,Sc] at hs;(conv=>whnf);exact h _ (by rw [hs];simp;try omega)
   | false =>
    have hp:ZZ (.mk a1 a2 a3 a4 a5)=true:=by simpa using hb
    exact m239
  ·have hi2:l.length≤i:=by have hi2:¬(i:Int)<(l.map (Xi pl)).length:=hi2;rw [hlen] at hi2;omega
   rw [ZpS _ hi2] at hs;(conv=>whnf);exact h _ (by rw [hs];simp)
 ·exact h.elim
noncomputable def Zxa (n:Nat):Tbl:=[(245,ZtD 175 109 Xi ZZ wL n)]
theorem Zxb {n:Nat} (ht:TblOK (GG w0 nG) (Zxa n)):PCalls (GG w0 nG) 174 (ZtE 175 109 Xi ZZ wL n):=by
 refine pc ht Tryz.func174 ?_;intro args σ K h
 unfold ZtE at h
 split at h
 ·obtain ⟨pl,l,rfl,⟨rfl,rfl,hz,hn⟩,h⟩:=h;refine ⟨Zb [],1,false,by simp,Ta rfl,?_⟩;(conv=>whnf);refine ⟨pl,l,rfl,⟨rfl,rfl,hz,hn⟩,fun r hr=>?_⟩;(conv=>whnf);refine h _ ?_
  cases hb:l.all ZZ with
  | true=>rw [hb] at hr;have:=hr.2 rfl;simp;omega
  | false=>rw [hb] at hr;have:¬r<0:=fun g=>(by have:=hr.1 g;cases this);simp;omega
 ·exact h.elim
noncomputable def Zxc (n:Nat):Tbl:=[(174,ZtE 175 109 Xi ZZ wL n)]
theorem Zxd {n:Nat} (ht:TblOK (GG w0 nG) (Zxc n)):PCalls (GG w0 nG) 108 (ZkW 109 Xi ZZ wL n):=by
 refine pc ht Tryz.func108 ?_;exact m80
theorem ZzH {n:Nat} (h:PCalls (GG w0 nG) 109 (Zfd (ZfT Xi) ZZ wL n)):PCalls (GG w0 nG) 108 (ZkW 109 Xi ZZ wL n) :=
 Zxd ⟨⟨Zxb ⟨⟨Zw9 ⟨⟨Zw7 ⟨⟨h,Wc _ _ _ _⟩,trivial⟩,Zja _ _ _ _ _⟩,trivial⟩,Zjb _ _ _ _ _ _⟩,trivial⟩,Zjc _ _ _ _ _ _⟩,trivial⟩
end Go.PM.Lex
end

section
namespace Go.PM.Lex
theorem Zfe:∀(f:Nat) (r out q:Bs),W6 f r out=some q→q.length≤out.length+4 * r.length
 | 0,r,out,q,h=>by simp [W6] at h
 | f+1,r,out,q,h=>by
  unfold W6 at h
  split at h
  ·cases h;omega
  ·rename_i hr
   have hd:=Lib.decodeL_le r hr;have hg:=Za5 r;split at h
   ·have:=Zfe f _ _ _ h;simp only [Tb,Td,Te,Tk] at this;omega
   ·split at h
    ·cases h
    ·have:=Zfe f _ _ _ h;have h4:=Zyo (Lib.decodeL r).1;simp only [Tb,Tk] at this;omega
theorem Zr0 (s:Bs):(ZrE s).length≤4 * s.length+2:=by
 unfold ZrE WP
 split
 ·cases hq:W6 (s.length+1) s [34] with
  | none=>simp
  | some q =>
   have:=Zfe _ _ _ _ hq;simp only [Ss,Option.getD_some,Tb,Td,Te] at this ⊢;omega
 ·simp
theorem Zmg {n:Int} (h0:-9223372036854775808≤n) (h1:n<9223372036854775808):(ZdV n).length≤20:=by
 unfold ZdV
 split
 ·have h:=(ZcI (base:=16) (.inr rfl) ((n+18446744073709551616).toNat+1) (n+18446744073709551616).toNat (by omega)).2.2.2 15 (by
   have:(16:Nat) ^ (15+1)=18446744073709551616:=by decide
   omega)
  simp only [Tb,Td,Te,X0];omega
 ·have h:=(ZcI (base:=10) (.inl rfl) (n.toNat+1) n.toNat (by omega)).2.2.2 18 (by
   have:(10:Nat) ^ (18+1)=10000000000000000000:=by decide
   omega)
  rw [X0];omega
theorem Y7 (op:Nat):(Ya op).length≤6:=by
 by_cases h:op<26
 ·have hk:∀o:Fin 26,(Ya o.val).length≤6:=by decide
  exact hk ⟨op,h⟩
 ·unfold Ya
  (repeat rw [Tc (by omega)])
  decide
def ZtF (l:List (Nat×Bs)):Nat:=(l.map fun p=>p.2.length+4).sum
theorem UB (l:List Bs):(Zl cmm l).length≤(l.map fun s=>s.length+4).sum:=by
 match l with
 | []=>exact T3 _
 | [x]=>simp [Zl]
 | x::y::l =>
  have ih:=UB (y::l);rw [Zl]
  ·simp only [Tb,TJ,List.sum_cons] at ih ⊢;have:cmm.length=2:=rfl;omega
  ·intro h;cases h
theorem Zhx (w:Nat) (p:Nat×Bs):(Zn8 w p).length≤p.2.length+2:=by
 unfold Zn8;split
 ·exact m178
 ·omega
theorem ZpT (w1 w2:Nat) (sep:Bs) (l:List (Nat×Bs)):(exA w1 w2 sep l).length≤ZtF l+sep.length:=by
 match l with
 | []=>simp [exA]
 | [a]=>have:=Zhx w1 a;simp only [exA,ZtF,TJ,TX,List.sum_cons,List.sum_nil];omega
 | a::b::l =>
  have h1:=Zhx w1 a;have h2:=Zhx w2 b;simp only [exA,ZtF,TJ,List.sum_cons,Tb];omega
theorem ZpU (op:Nat) (t:Bs) (n:Int) (l:List (Nat×Bs)) (h0:-9223372036854775808≤n) (h1:n<9223372036854775808):(exN op t n l).length≤ZtF l+5 * t.length+30:=by
 have hw:=Y7 op;have hn:=Zmg h0 h1;have hq:=Zr0 t;have hc:(Zl cmm (l.map Prod.snd)).length≤ZtF l:=by
  have:=UB (l.map Prod.snd);rw [List.map_map] at this;exact this
 unfold exN
 split
 ·have:=ZpT (Zy op) (Zy op+1) ([32]++(Ya op++[32])) l;simp only [Tb,Td,Te] at this;omega
 split
 ·have:=ZpT 5 5 [] l;simp only [Tb,Te] at this ⊢;omega
 split
 ·exact m178
 split
 ·exact m178
 split
 ·simp only [Tb,Td,Te];split
  ·simp only [Te];omega
  ·exact m178
 split
 ·omega
 split
 ·omega
 split
 ·simp only [Td,Te];omega
 split
 ·simp only [Td,Te];omega
 ·omega
mutual
theorem Z7:∀e:Ex,Jv e=true→(exT e).length+4≤64 * wE e
 | .mk op t n l a,h=>by
  obtain ⟨r1,r2⟩:=ZcJ h;have ih:=ZcS l (by rw [U7];exact Tv.2 r2);have:=ZpU op t n (ZfM l) r1.1 r1.2;rw [exT,wE];omega
theorem ZcS:∀l:List Ex,ZkA l=true→ZtF (ZfM l)≤64 * wEs l
 | [],h=>by rw [ZfM];simp [ZtF]
 | x::l,h=>by
  rw [ZkA,Tl] at h;have h1:=Z7 x h.1;have h2:=ZcS l h.2;rw [ZfM,wEs];unfold ZtF at h2 ⊢
  simp only [TJ,List.sum_cons];omega
end
theorem ZtG {α:Type} {T:α→Bs} {w:α→Nat}:∀l:List α,(∀x∈l,(T x).length+4≤64 * w x)→(l.map fun x=>(T x).length+4).sum≤64 * szS w l
 | [],h=>T3 _
 | x::l,h=>by
  have h1:=h x (by simp);have h2:=ZtG l fun y hy=>h y (Tw _ hy)
  simp only [TJ,List.sum_cons,szS];omega
theorem ZH {α:Type} {T:α→Bs} {w:α→Nat} {l:List α} (h:∀x∈l,(T x).length+4≤64 * w x):(Zl cmm (l.map T)).length≤64 * szS w l:=by
 have h1:=UB (l.map T);rw [List.map_map] at h1;exact TO h1 (ZtG l h)
theorem Zjd {α:Type} {T:α→Bs} {w:α→Nat}:∀{l:List α},(∀x∈l,(T x).length+4≤64 * w x)→((l.map T).flatten).length≤64 * szS w l
 | [],h=>T3 _
 | x::l,h=>by
  have h1:=h x (by simp);have h2:=Zjd (l:=l) fun y hy=>h y (Tw _ hy)
  simp only [TJ,List.flatten_cons,Tb,szS];omega
theorem ZkX:∀{l:List Ex},(∀x∈l,Jv x=true)→(ZiM l).length+(Zpe l.tail).length≤64 * szS wE l∧(ZiM l).length+(ZiM l.tail).length≤64 * szS wE l
 | [],h=>by simp [ZiM,Zpe]
 | x::l,h=>by
  have h1:=Z7 x (h x (by simp));have h2:=Zjd (T:=fun e=>[32]++exT e) (w:=fun e=>wE e) (l:=l) fun y hy=>by
   have:=Z7 y (h y (Tw _ hy))
   cases y with
   | mk o t n a b =>
    have hw:1≤wE (.mk o t n a b):=by rw [wE];omega
    have h3:=ZpU o t n (ZfM a) (ZcJ (h _ (Tw _ hy))).1.1 (ZcJ (h _ (Tw _ hy))).1.2;have h4:=ZcS a (by rw [U7];exact Tv.2 (ZcJ (h _ (Tw _ hy))).2);simp only [Tb,Td,Te];rw [exT,wE];omega
  refine ⟨?_,?_⟩
  ·show (exT x).length+(Zpe l).length≤64 * szS wE (x::l);rw [szS];unfold Zpe
   have:szS (fun e=>wE e) l=szS wE l:=rfl;omega
  ·show (exT x).length+(ZiM l).length≤64 * szS wE (x::l)
   cases l with
   | nil=>rw [szS,szS];simp [ZiM];omega
   | cons y l =>
    have h5:=Z7 y (h y (by simp));rw [szS,szS];simp only [ZiM];omega
theorem Zva (op:Nat):(Zpd op).length≤4:=by unfold Zpd;(repeat' split) <;> decide
theorem Zvb (op:Nat):(ZiL op).length≤5:=by unfold ZiL;(repeat' split) <;> decide
theorem Zje {fr fin:Bs} {l:List Ex} (h:∀x∈l,Jv x=true):(Wd fr fin l).length≤fr.length+64 * szS wE l+fin.length:=by
 have:=ZH (T:=exT) (w:=wE) fun x hx=>Z7 x (h x hx)
 unfold Wd ZiK
 simp only [Tb];omega
mutual
theorem ZcT:∀x:Li,Zj1 x=true→(liT x).length+4≤64 * wL x
 | .mk op rel args body a,h=>by
  obtain ⟨r1,r2⟩:=ZkB h;have h1:=Zhy body (by rw [Zaj];exact Tv.2 r2);have h2:=Zje (fr:=[40]) (fin:=[41]) r1;obtain ⟨h3,h4⟩:=ZkX r1;have h5:=Zva op;have h6:=Zvb op;have h7:=UB (Zq1 body);rw [liT,wL];simp only [Td,Te] at h2;split
  ·exact m178
  split
  ·simp only [Tb];omega
  split
  ·simp only [Tb];omega
  ·exact m178
theorem Zhy:∀l:List Li,Znl l=true→((Zq1 l).map fun s=>s.length+4).sum≤64 * wLs l
 | [],h=>by rw [Zq1];simp
 | x::l,h=>by
  rw [Znl,Tl] at h;have h1:=ZcT x h.1;have h2:=Zhy l h.2;rw [Zq1,wLs];simp only [TJ,List.sum_cons];omega
end
theorem ZpV {r:Ru} (h:ZbT r=true):(ruT r).length+10≤64 * wRu r:=by
 simp only [ZbT,Tl] at h;have r1:=Tv.1 h.1;have r2:=Tv.1 h.2;have h1:=Zje (fr:=[40]) (fin:=[41]) r1;have h2:=Zhy r.body (by rw [Zaj];exact h.2);have h3:=UB (Zq1 r.body);rw [Zdx] at h2;unfold ruT wRu
 simp only [Td,Te] at h1;split
 ·exact m178
 ·exact m178
end Go.PM.Lex
end
