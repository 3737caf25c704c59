/- A part of the proof: plain logic, contracts and laws over the given program. -/
import Derived.Test.YtcifacgjebbdbaaGreatDoorB10
set_option linter.unusedVariables false
set_option linter.unusedSimpArgs false
set_option linter.all false
set_option maxRecDepth 100000
set_option maxHeartbeats 16000000
noncomputable section
section
namespace Go.PM.Lex
open Go.Proofs
variable {w0:World} {nG:Nat}
abbrev BM:=List (Bs×Bool)
def has (k:Bs) (m:BM):Bool:=(lkM k m).getD false
def Zys:List Ca->Bool->BM->Bool×BM
 | [],b,m=>(b,m)
 | c::l,b,m=>Zys l (b || has c.name m) (YB c.name true m)
def ZaK:List Ty->BM->BM->Option Nat
 | [],_,_=>none
 | t::l,n,m=>if (Zys t.cases (has t.name n) m).1=true then some t.at' else ZaK l (YB t.name true n) (Zys t.cases (has t.name n) m).2
def ZiA (p:Pr) (t:Ty):Bool:=t.cases.any (fun c=>!Vx p c.fields) || (!Vx p t.fields || (decide (t.kind=1) && !W3 p t.base))
def Zg0 (p:Pr):List Ty->Option Nat
 | []=>none
 | t::l=>if ZiA p t=true then some t.at' else Zg0 p l
def Zea (p:Pr) (s:Bs):Nat->Bs->Bool
 | 0,_=>false
 | n+1,a=>match X0 p a with
  | none=>false
  | some c=>if c=s then true else Zea p s n c
def Zkm (p:Pr) (t:Ty):Bool:=Zea p t.name (p.types.length+1) t.name
def Zci (p:Pr):List Ty->Option Nat
 | []=>none
 | t::l=>if Zkm p t=true then some t.at' else Zci p l
def Zg1 (p:Pr):Nat->List Re->Option (Nat×Nat)
 | _,[]=>none
 | i,d::l=>if (lkM d.name (JX p)).getD 0≠(i:Int) then some (d.at',170) else if Vx p d.fields=false then some (d.at',180) else if (d.inl && (d.inn || d.out))=true then some (d.at',185) else Zg1 p (i+1) l
def ZfK:BM:=[(Zy9,true),(ZBJ,true)]
def Zcj (p:Pr):Option (Nat×Nat):=match ZaK p.types ZfK [] with
 | some a=>some (a,170)
 | none=>match Zg0 p p.types with
  | some a=>some (a,180)
  | none=>match Zci p p.types with
   | some a=>some (a,172)
   | none=>Zg1 p 0 p.rels
def ZBK (pl:Pl):Option (Nat×Nat)->List PV
 | none=>[.d (.int .i64 0),.d (.int .i64 0)]
 | some (a,e)=>[.d (.int .i64 (pl a)),.d (.int .i64 e)]
def Zqu:Zm:=ZaI fun rest pl p K=>match rest with
 | []=>∀x,Zcj p=x->K (.ret (.agg (ZBK pl x)))
 | _=>False
abbrev ZBL (pl:Pl) (p:Pr) (x y:List (Bs×MV)):List Box:=ZeE pl p++[.cells 48 [.ptr 0 0],.cells 50 [.d (.int .i64 0),.d (.int .i64 0)],.dmap x,.dmap y]
abbrev dSt (pl:Pl) (p:Pr) (n m:BM):List Box:=ZBL pl p (mvM mvB n) (mvM mvB m)
def ZuJ:Tbl:=[(49,ZfI 50 Zt ZfJ (fun p (c:Ca)=>!Vx p c.fields)),(51,Zd9),(19,U1),(33,ZfG)]
def optK.bool {k:Bs} {m:BM} {A:MV->Prop} (h:A (mvB (has k m))):optK (lkM k (mvM mvB m)) A (A (mvB false)):=by
 rw [ZQ];unfold has at h
 cases hk:lkM k m with
 | none=>rw [hk] at h;exact h
 | some b=>rw [hk] at h;exact h
def ZBa (ht:TO w0 nG ZuJ):PC w0 nG 27 Zqu:=by
 refine YF ZC mixed (tbl:=ZuJ) ht Tryz.func27 rfl kR kR ?_;intro args σ K h
 unfold Zqu ZaI at h
 split at h
 ·obtain ⟨pl,p,rfl,hp,h⟩:=h;split at h
  ·have aa:=hp.len;have hl:(p.types.map (Zq pl)).length=p.types.length:=Te ..;have hlr:(p.rels.map (ZN pl)).length=p.rels.length:=Te ..;refine ⟨Zk [(3,⟨[30],[1,2,3,4,28,29],fun vs σ=>∃(j:Nat) (n m:BM),vs=[.d (.int .i64 j)]/\σ=⟨dSt pl p n m,[],0⟩/\j<=p.types.length/\ZaK (p.types.drop j) n m=ZaK p.types ZfK [],
     fun vs _=>match vs with | [.d (.int _ j)]=>((p.types.length:Int) - j).toNat | _=>0⟩),
    (7,⟨[7,41],[1,2,3,4,6,28,29,30,39,40],fun vs σ=>∃(j k:Nat) (t:Ty) (n m:BM) (b:Bool),vs=[.ptr 5 0,.ptr 6 0,.mp 7,.mp 8,.ptr 9 0,.d (.sl (p.types.map (Zq pl))),.d (.int .i64 (p.types.map (Zq pl)).length),.d (.int .i64 j),.d (.sl (t.cases.map Zt)),.d (.int .i64 (t.cases.map Zt).length),.d (.bool b),.d (.int .i64 k)] /\
      σ=⟨dSt pl p n m++[.cells 56 ((Zq pl t).map .d)],[],0⟩/\k<=t.cases.length/\p.types[j]?=some t /\
      (if (Zys (t.cases.drop k) b m).1=true then some t.at' else ZaK (p.types.drop (j+1)) (YB t.name true n) (Zys (t.cases.drop k) b m).2)=ZaK p.types ZfK [],
     fun vs _=>match vs with | [_,_,_,_,_,_,_,_,_,.d (.int _ n),_,.d (.int _ k)]=>(n - k).toNat | _=>0⟩),
    (17,⟨[70],[1,2,68,69],fun vs σ=>∃(j:Nat) (n m:BM),vs=[.d (.int .i64 j)]/\σ=⟨dSt pl p n m,[],0⟩/\j<=p.types.length/\Zg0 p (p.types.drop j)=Zg0 p p.types,
     fun vs _=>match vs with | [.d (.int _ j)]=>((p.types.length:Int) - j).toNat | _=>0⟩),
    (24,⟨[108],[1,2,106,107],fun vs σ=>∃(j:Nat) (n m:BM),vs=[.d (.int .i64 j)]/\σ=⟨dSt pl p n m,[],0⟩/\j<=p.types.length/\Zci p (p.types.drop j)=Zci p p.types,
     fun vs _=>match vs with | [.d (.int _ j)]=>((p.types.length:Int) - j).toNat | _=>0⟩),
    (27,⟨[15,16],[1,2,14,106,107,108],fun vs σ=>∃(j k:Nat) (a:Bs) (t:Ty) (n m:BM),vs=[.ptr 5 0,.ptr 6 0,.ptr 9 0,.d (.sl (p.types.map (Zq pl))),.d (.int .i64 (p.types.map (Zq pl)).length),.d (.int .i64 j),.d (.str a),.d (.int .i64 k)] /\
      σ=⟨dSt pl p n m++[.cells 56 ((Zq pl t).map .d)],[],0⟩/\k<=p.types.length+1/\p.types[j]?=some t/\Zea p t.name (p.types.length+1 - k) a=Zkm p t,
     fun vs _=>match vs with | [_,_,_,_,.d (.int _ n),_,_,.d (.int _ k)]=>(n+1 - k).toNat | _=>0⟩),
    (36,⟨[147],[1,2,145,146],fun vs σ=>∃(j:Nat) (n m:BM),vs=[.d (.int .i64 j)]/\σ=⟨dSt pl p n m,[],0⟩/\j<=p.rels.length/\Zg1 p j (p.rels.drop j)=Zg1 p 0 p.rels,
     fun vs _=>match vs with | [.d (.int _ j)]=>((p.rels.length:Int) - j).toNat | _=>0⟩)],Ye [],ZB [7,27],5,false,sM,Tc rfl,?_⟩
   conv=>whnf
   refine ⟨⟨0,ZfK,[],rfl,rfl,oM,rfl⟩,?_⟩
   rintro vs σ1 ⟨j,n,m,rfl,rfl,hj,ha⟩
   conv=>whnf
   refine ZEw (fun hc=>?_) (fun hc=>?_)
   ·have ab:j<p.types.length:=by omega
    rw [Tl ab] at ha;simp only [ZaK] at ha;have ht:p.types[j]?=some p.types[j]:=Tb ab;have o7:=(hp.ty (TE ab)).2.1;have hr:(p.types.map (Zq pl))[(j:Int).toNat]?=some (Zq pl p.types[j]):=by rw [Ti,Tj,ht];rfl
    generalize p.types[j]=t at ha ht hr o7;obtain ⟨t1,t2,t3,t4,t5,t6⟩:=t;have jg:(t5.map Zt).length=t5.length:=Te ..;(conv=>whnf);refine ⟨_,oM,hr,wN ?_⟩;refine optK.bool (wN ?_);refine ⟨⟨j,0,⟨t1,t2,t3,t4,t5,t6⟩,n,m,has t2 n,rfl,rfl,oM,ht,ha⟩,?_⟩
    clear ha
    rintro vs σ2 ⟨j',k,t',n,m,b,bv,rfl,hk,kh,ha⟩
    have ej:(some (PV.d (.int .i64 (j:Int))):Option PV)=some (.d (.int .i64 (j':Int))):=congrArg (fun l:List PV=>l[7]?) bv;obtain rfl:j=j':=by have ej:=Option.some.inj ej;injection ej with ej;injection ej with _ ej;omega
    obtain rfl:(⟨t1,t2,t3,t4,t5,t6⟩:Ty)=t':=Option.some.inj (ht.symm.trans kh);have bv:vs=[.d (.bool b),.d (.int .i64 k)]:=congrArg (List.drop 10) bv;subst bv;(conv=>whnf);refine ZEw (fun bj=>?_) (fun bj=>?_)
    ·have aq:k<t5.length:=by have bj:(k:Int)<((t5.map Zt).length:Int):=bj;omega
     have hd:t5.drop k=t5[k]::t5.drop (k+1):=Tl aq;have dz:(t5.map Zt)[(k:Int).toNat]?=some (Zt t5[k]):=by rw [Ti,Tj,Tb aq];rfl
     simp only at ha;rw [hd] at ha
     clear hd
     generalize t5[k]=c at ha dz;obtain ⟨c1,c2⟩:=c;simp only [Zys] at ha;(conv=>whnf);refine ⟨_,oM,dz,?_⟩;have hμ:((((t5.map Zt).length:Int) - ((k:Int)+1)).toNat<(((t5.map Zt).length:Int) - (k:Int)).toNat):=oM
     cases b with
     | true =>
      conv=>whnf
      refine Zj ?_;exact ⟨⟨j,k+1,⟨t1,t2,t3,t4,t5,t6⟩,n,YB c1 true m,true,rfl,congrArg (fun x=>(⟨ZBL pl p (mvM mvB n) x++[.cells 56 ((Zq pl ⟨t1,t2,t3,t4,t5,t6⟩).map .d)],[],0⟩:St)) (VX (f:=mvB) (k:=c1) (v:=true) m),by simp only;omega,ht,ha⟩,hμ⟩
     | false =>
     conv=>whnf
     refine optK.bool (wN ?_);refine Zj ?_;exact ⟨⟨j,k+1,⟨t1,t2,t3,t4,t5,t6⟩,n,YB c1 true m,has c1 m,rfl,congrArg (fun x=>(⟨ZBL pl p (mvM mvB n) x++[.cells 56 ((Zq pl ⟨t1,t2,t3,t4,t5,t6⟩).map .d)],[],0⟩:St)) (VX (f:=mvB) (k:=c1) (v:=true) m),by simp only;omega,ht,ha⟩,hμ⟩
    have ia:k=t5.length:=by have bj:¬(k:Int)<((t5.map Zt).length:Int):=bj;have hk:k<=t5.length:=hk;omega
    subst ia;simp only [Su,Zys] at ha
    cases b with
    | true =>
     rw [Th rfl] at ha;(conv=>whnf);exact h (some (t6,170)) (by simp only [Zcj,<- ha])
    | false =>
    rw [Tf sM] at ha;(conv=>whnf);refine Zj ?_;exact ⟨⟨j+1,YB t2 true n,m,rfl,congrArg (fun x=>(⟨ZBL pl p x (mvM mvB m),[],0⟩:St)) (VX (f:=mvB) (k:=t2) (v:=true) n),oM,ha⟩,by show ((p.types.length:Int) - ((j:Int)+1)).toNat<((p.types.length:Int) - (j:Int)).toNat;omega⟩
   have tf:j=p.types.length:=oM;subst tf;rw [Su] at ha;have eh:ZaK p.types ZfK []=none:=ha.symm
   clear ha
   conv=>whnf
   refine ⟨⟨0,n,m,rfl,rfl,oM,rfl⟩,?_⟩
   clear n m
   rintro vs σ1 ⟨j,n,m,rfl,rfl,hj,ha⟩
   conv=>whnf
   refine ZEw (fun hc=>?_) (fun hc=>?_)
   ·have ab:j<p.types.length:=by omega
    rw [Tl ab] at ha;simp only [Zg0] at ha;have qf:=hp.ty (TE ab);have hr:(p.types.map (Zq pl))[(j:Int).toNat]?=some (Zq pl p.types[j]):=by rw [Ti,Tj,Tb ab];rfl
    generalize p.types[j]=t at ha hr qf;obtain ⟨t1,t2,t3,t4,t5,t6⟩:=t;simp only at qf;have yes:ZiA p ⟨t1,t2,t3,t4,t5,t6⟩=true->K (.ret (.agg (ZBK pl (some (t6,180))))) ⟨ZeE pl p,[],0⟩:=fun g=>by
     rw [Th g] at ha;exact h (some (t6,180)) (by simp only [Zcj,eh,<- ha])
    have no:ZiA p ⟨t1,t2,t3,t4,t5,t6⟩=false->Zg0 p (p.types.drop (j+1))=Zg0 p p.types:=fun g=>by
     rw [Tf (by rw [g];simp)] at ha;exact ha
    have hμ:((p.types.length:Int) - ((j:Int)+1)).toNat<((p.types.length:Int) - (j:Int)).toNat:=oM
    clear ha h
    conv=>whnf
    refine ⟨_,oM,hr,wN ?_⟩;refine ⟨pl,p,t5,rfl,rfl,⟨rfl,hp,qf.2.1,qf.2.2⟩,fun b hb=>?_⟩
    cases b with
    | true =>
     conv=>whnf
     exact yes (by simp only [ZiA];rw [hb];rfl)
    | false =>
    conv=>whnf
    refine ⟨pl,p,rfl,hp,t4,rfl,qf.1,fun b dw=>?_⟩
    cases b with
    | false =>
     conv=>whnf
     exact yes (by simp only [ZiA];rw [hb,dw];rfl)
    | true =>
    conv=>whnf
    refine ZEw (fun fm=>wN ?_) (fun fm=>wN ?_)
    ·have fm:t1=1:=by have fm:(t1:Int)=1:=fm;omega
     refine ⟨pl,p,rfl,hp,fun b gt=>?_⟩
     cases b with
     | false =>
      conv=>whnf
      exact yes (by simp only [ZiA];rw [hb,dw,gt,fm];rfl)
     | true =>
     conv=>whnf
     refine Zj ?_;exact ⟨⟨j+1,n,m,rfl,rfl,oM,no (by simp only [ZiA];rw [hb,dw,gt,fm];rfl)⟩,hμ⟩
    have fm:¬t1=1:=fun g=>fm (by simp only [g];rfl)
    refine Zj ?_;exact ⟨⟨j+1,n,m,rfl,rfl,oM,no (by simp only [ZiA];rw [hb,dw,decide_eq_false fm];rfl)⟩,hμ⟩
   have tf:j=p.types.length:=oM;subst tf;rw [Su] at ha;have co:Zg0 p p.types=none:=ha.symm
   clear ha
   conv=>whnf
   refine ⟨⟨0,n,m,rfl,rfl,oM,rfl⟩,?_⟩
   clear n m
   rintro vs σ1 ⟨j,n,m,rfl,rfl,hj,ha⟩
   conv=>whnf
   refine ZEw (fun hc=>?_) (fun hc=>?_)
   ·have ab:j<p.types.length:=by omega
    rw [Tl ab] at ha;simp only [Zci] at ha;have ht:p.types[j]?=some p.types[j]:=Tb ab;have hr:(p.types.map (Zq pl))[(j:Int).toNat]?=some (Zq pl p.types[j]):=by rw [Ti,Tj,ht];rfl
    generalize p.types[j]=t at ha ht hr;obtain ⟨t1,t2,t3,t4,t5,t6⟩:=t;have yes:Zkm p ⟨t1,t2,t3,t4,t5,t6⟩=true->K (.ret (.agg (ZBK pl (some (t6,172))))) ⟨ZeE pl p,[],0⟩:=fun g=>by
     rw [Th g] at ha;exact h (some (t6,172)) (by simp only [Zcj,eh,co,<- ha])
    have no:Zkm p ⟨t1,t2,t3,t4,t5,t6⟩=false->Zci p (p.types.drop (j+1))=Zci p p.types:=fun g=>by
     rw [Tf (by rw [g];simp)] at ha;exact ha
    have hμ:((p.types.length:Int) - ((j:Int)+1)).toNat<((p.types.length:Int) - (j:Int)).toNat:=oM
    clear ha h
    conv=>whnf
    refine ⟨_,oM,hr,wN ?_⟩;refine ⟨⟨j,0,t2,⟨t1,t2,t3,t4,t5,t6⟩,n,m,rfl,rfl,oM,ht,rfl⟩,?_⟩
    rintro vs σ2 ⟨j',k,a,t',n,m,bv,rfl,hk,kh,ha⟩
    have ej:(some (PV.d (.int .i64 (j:Int))):Option PV)=some (.d (.int .i64 (j':Int))):=congrArg (fun l:List PV=>l[5]?) bv;obtain rfl:j=j':=by have ej:=Option.some.inj ej;injection ej with ej;injection ej with _ ej;omega
    obtain rfl:(⟨t1,t2,t3,t4,t5,t6⟩:Ty)=t':=Option.some.inj (ht.symm.trans kh);have bv:vs=[.d (.str a),.d (.int .i64 k)]:=congrArg (List.drop 6) bv;subst bv;simp only at ha;(conv=>whnf);refine ZEw (fun bj=>?_) (fun bj=>?_);rotate_left
    ·rw [show p.types.length+1 - k=0 by omega] at ha;(conv=>whnf);refine Zj ?_;exact ⟨⟨j+1,n,m,rfl,rfl,oM,no ha.symm⟩,hμ⟩
    obtain ⟨q,hq⟩:∃q,p.types.length+1 - k=q+1:=⟨p.types.length - k,oM⟩
    rw [hq] at ha;simp only [Zea] at ha;(conv=>whnf);refine ⟨pl,p,rfl,hp,fun x hx=>?_⟩;rw [hx] at ha
    cases x with
    | none =>
     conv=>whnf
     refine Zj ?_;exact ⟨⟨j+1,n,m,rfl,rfl,oM,no ha.symm⟩,hμ⟩
    | some c =>
    simp only at ha;(conv=>whnf);refine ZEw (fun dk=>wN ?_) (fun dk=>wN ?_)
    ·rw [Th (show c=t2 from dk)] at ha;exact yes ha.symm
    rw [Tf (show ¬c=t2 from dk)] at ha;refine Zj ?_;exact ⟨⟨j,k+1,c,⟨t1,t2,t3,t4,t5,t6⟩,n,m,rfl,rfl,oM,ht,by rw [show p.types.length+1 - (k+1)=q by omega];exact ha⟩,by show (((p.types.map (Zq pl)).length:Int)+1 - ((k:Int)+1)).toNat<(((p.types.map (Zq pl)).length:Int)+1 - (k:Int)).toNat;omega⟩
   have tf:j=p.types.length:=oM;subst tf;rw [Su] at ha;have t7:Zci p p.types=none:=ha.symm
   clear ha
   have hdF:Zcj p=Zg1 p 0 p.rels:=by simp only [Zcj,eh,co,t7]
   conv=>whnf
   refine ⟨⟨0,n,m,rfl,rfl,oM,rfl⟩,?_⟩
   clear n m
   rintro vs σ1 ⟨j,n,m,rfl,rfl,hj,ha⟩
   conv=>whnf
   refine ZEw (fun hc=>?_) (fun hc=>?_)
   ·have ab:j<p.rels.length:=by omega
    rw [Tl ab] at ha;simp only [Zg1] at ha;have je:=hp.re (TE ab);have hr:(p.rels.map (ZN pl))[(j:Int).toNat]?=some (ZN pl p.rels[j]):=by rw [Ti,Tj,Tb ab];rfl
    generalize p.rels[j]=d at ha hr je;obtain ⟨d1,d2,d3,d4,d5,d6⟩:=d;simp only at je ha;have yes:∀e,Zg1 p 0 p.rels=some (d6,e)->K (.ret (.agg (ZBK pl (some (d6,e))))) ⟨ZeE pl p,[],0⟩:=fun e g=>h _ (by rw [hdF,g])
    have hμ:((p.rels.length:Int) - ((j:Int)+1)).toNat<((p.rels.length:Int) - (j:Int)).toNat:=oM
    clear h
    have hix:∀A:MV->Prop,A (mvI ((lkM d1 (JX p)).getD 0))->optK (lkM d1 (mvM mvI (JX p))) A (A (mvI 0)):=fun A g=>by
     rw [ZQ]
     cases hk:lkM d1 (JX p) with
     | none=>rw [hk] at g;exact g
     | some b=>rw [hk] at g;exact g
    conv=>whnf
    refine ⟨_,oM,hr,wN ?_⟩;refine hix _ (wN ?_);refine ZEy (fun h1=>wN ?_) (fun h1=>wN ?_)
    ·rw [Th h1] at ha;exact yes 170 ha.symm
    rw [Tf (fun g=>g h1)] at ha;refine ⟨pl,p,rfl,hp,d2,rfl,je,fun b hb=>?_⟩
    cases b with
    | false =>
     rw [Th hb] at ha;(conv=>whnf);exact yes 180 ha.symm
    | true =>
    rw [Tf (by rw [hb];simp)] at ha;(conv=>whnf)
    cases d5 with
    | false =>
     rw [Tf sM] at ha;(conv=>whnf);refine Zj ?_;exact ⟨⟨j+1,n,m,rfl,rfl,oM,ha⟩,hμ⟩
    | true =>
    cases d3 with
    | true =>
     rw [Th sM] at ha;(conv=>whnf);exact yes 185 ha.symm
    | false =>
    cases d4 with
    | true =>
     rw [Th sM] at ha;(conv=>whnf);exact yes 185 ha.symm
    | false =>
    rw [Tf sM] at ha;(conv=>whnf);refine Zj ?_;exact ⟨⟨j+1,n,m,rfl,rfl,oM,ha⟩,hμ⟩
   have tf:j=p.rels.length:=oM;subst tf;rw [Su] at ha;(conv=>whnf);exact h none (by rw [hdF,<- ha];rfl)
  exact h.elim
 exact h.elim
def prU (p:Pr):Un:=.mk p.types p.rels p.rules [] [] []
def ZtK (n:Nat) (p:Pr):Prop:=Zd6 n (prU p)/\BP p
abbrev Zqv (pl:Pl) (p:Pr) (b:Nat):List Box:=[.cells 31 (ZgZ pl p),.dmap (mvM mvC (Xc p)),.dmap (mvM mvI (JZ p)),
 .cells 98 ([.mp (b+4),.mp (b+5),.mp (b+2),.mp (b+1)]++ZgZ pl p),.dmap (mvM mvI (Zts p)),.dmap (mvM mvI (JX p))]
abbrev ZBM (pl:Pl) (p:Pr):List Box:=.cells 31 (ZgZ pl p)::.cells 50 [.d (.int .i64 0),.d (.int .i64 0)]::Zqv pl p 2
def ZlL {p:Pr} {a e:Nat}:∀(l:List Re) (i:Nat),Zg1 p i l=some (a,e)->e≠0
 | [],_,h=>by cases h
 | d::l,i,h=>by
  simp only [Zg1] at h;split at h
  ·cases h;decide
  split at h
  ·cases h;decide
  split at h
  ·cases h;decide
  exact ZlL l _ h
def Zeb {p:Pr} {a e:Nat} (h:Zcj p=some (a,e)):e≠0:=by
 unfold Zcj at h
 split at h
 ·cases h;decide
 split at h
 ·cases h;decide
 split at h
 ·cases h;decide
 exact ZlL _ _ h
def U6 (n:Nat):Zm:=fun args σ K=>match args,σ with
 | [.agg c],⟨[],[],0⟩=>∃pl p,c=(ZeD pl p).map .d/\(ZtK n p/\n<=16777216/\p.rules=[]) /\
   ((UC (prU p)).2≠0->K (.ret (.tuple [.d .nilp,.agg [.d (.int .i64 0),.d (.int .i64 (UC (prU p)).2)]])) ⟨[],[],0⟩) /\
   ((UC (prU p)).2=0->∀a e,Zcj p=some (a,e)->K (.ret (.tuple [.d .nilp,.agg [.d (.int .i64 (pl a)),.d (.int .i64 e)]])) ⟨[],[],0⟩) /\
   ((UC (prU p)).2=0->Zcj p=none->K (.ret (.tuple [.ptr 5 0,.agg [.d (.int .i64 0),.d (.int .i64 0)]])) ⟨ZBM pl p,[],0⟩)
 | _,_=>False
def ZfL (n:Nat):Tbl:=[(26,Zni XY Zd6 UC n),(24,U5),(27,Zqu)]
def Zec {n:Nat} (ht:TO w0 nG (ZfL n)):PC w0 nG 16 (U6 n):=by
 refine YF ZC mixed (tbl:=ZfL n) ht Tryz.func16 rfl kR kR ?_;intro args σ K h
 unfold U6 at h
 split at h
 ·obtain ⟨pl,⟨p1,p2,p3⟩,rfl,⟨⟨hc,hp⟩,hn,hz⟩,h1,h2,h3⟩:=h;simp only at hz;subst hz;obtain ⟨tx,k,ho⟩:∃s k,UC (prU ⟨p1,p2,[]⟩)=(s,k):=⟨_,_,rfl⟩
  rw [ho] at h1 h2 h3;simp only at h1 h2 h3
  by_cases hk:k=0
  ·subst hk
   cases hd:Zcj ⟨p1,p2,[]⟩ with
   | none =>
    have h3:=h3 rfl hd;refine ⟨Zk [],Ye [(9,1)],ZB [],8,false,sM,Tc rfl,wN ?_⟩;refine ⟨pl,prU ⟨p1,p2,[]⟩,rfl,⟨hc,hn⟩,fun s k he=>?_⟩;rw [ho] at he
    cases he
    conv=>whnf
    refine ⟨pl,⟨p1,p2,[]⟩,rfl,hp,wN ?_⟩;refine ⟨pl,⟨p1,p2,[]⟩,rfl,hp,fun x hx=>?_⟩;rw [hd] at hx;subst hx;(conv=>whnf);exact h3
   | some ae =>
   obtain ⟨a,e⟩:=ae;have h2:=h2 rfl a e hd;refine ⟨Zk [],Ye [(9,1)],ZB [],0,false,sM,Tc rfl,wN ?_⟩;refine ⟨pl,prU ⟨p1,p2,[]⟩,rfl,⟨hc,hn⟩,fun s k he=>?_⟩;rw [ho] at he
   cases he
   conv=>whnf
   refine ⟨pl,⟨p1,p2,[]⟩,rfl,hp,wN ?_⟩;refine ⟨pl,⟨p1,p2,[]⟩,rfl,hp,fun x hx=>?_⟩;exact mq103
  have h1:=h1 hk;refine ⟨Zk [],Ye [(9,1)],ZB [],0,false,sM,Tc rfl,wN ?_⟩;refine ⟨pl,prU ⟨p1,p2,[]⟩,rfl,⟨hc,hn⟩,fun s k he=>?_⟩;exact mq136
 exact h.elim
abbrev Vs:=List (Bs×Int)
abbrev VS:=Vs×Bool
def Zg2 (p:Pr) (n:Int):Option Ty:=p.types.find? fun t=>decide (t.kind=2) && (decide (0<=n) && decide ((lkM t.name (JZ p)).getD 0=n))
def ZiB (p:Pr) (s:Bs):Option (Ty×Ca):=match lkM s (Xc p) with
 | none=>none
 | some (i,k)=>match p.types[i.toNat]? with
  | none=>none
  | some t=>match t.cases[k.toNat]? with
   | none=>none
   | some c=>some (t,c)
def ZO (p:Pr) (op:Nat) (text:Bs) (Zck:Nat) (n:Int):List Int :=
 if op=7 then (match ZiB p text with | some tc=>ZF p tc.2.fields | none=>[])
 else if op=6 then (match Zg2 p n with | some t=>ZF p t.fields | none=>[])
 else if op=20 then [1,1] else if op=21\/op=23\/op=25 then [1] else if op=22 then [1,0,0] else List.replicate Zck 0
def ZeF (p:Pr) (vs:Vs) (op:Nat) (text:Bs):Int :=
 if op=1 then (lkM text vs).getD (-1)
 else if op=7 then (match ZiB p text with | some tc=>Xm p tc.1.name | none=>-1)
 else if op=6\/op=5\/op=2 then -1 else if op=4\/op=20\/op=22\/op=24 then 1 else 0
def ZtL (t:Bs) (n:Int) (s:VS):VS :=
 if (lkM t s.1).isNone=true\/((lkM t s.1).getD 0=-1/\n≠-1) then (YB t n s.1,s.2 || decide (n≠-1)) else s
mutual
def gvE (p:Pr):Ex->Int->VS->VS
 | .mk op text _ args _,n,s=>if op=1 then ZtL text n s
  else gvEs p args (if (ZO p op text args.length n).length=args.length then ZO p op text args.length n else List.replicate args.length (-1)) s
def gvEs (p:Pr):List Ex->List Int->VS->VS
 | e::es,n::ns,s=>gvEs p es ns (gvE p e n s)
 | _,_,s=>s
end
def Y7 (p:Pr) (name:Bs) (Zck:Nat):List Int:=match lkM name (JX p) with
 | none=>List.replicate Zck (-1)
 | some i=>match p.rels[i.toNat]? with
  | none=>List.replicate Zck (-1)
  | some d=>if d.fields.length=Zck then ZF p d.fields else List.replicate Zck (-1)
def Zza (p:Pr) (vs:Vs):Ex->Int
 | .mk op text _ _ _=>ZeF p vs op text
def Jt (p:Pr) (vs:Vs):List Ex->Int
 | a::b::_=>if Zza p vs a≠-1 then Zza p vs a else Zza p vs b
 | _=>-1
mutual
def gvL (p:Pr):Li->VS->VS
 | .mk op rel args body _,s=>if op<=2 then gvEs p args (Y7 p rel args.length) s
  else if op<=8 then gvEs p args [Jt p s.1 args,Jt p s.1 args] s
  else gvLs p body (gvEs p args (List.replicate args.length 0) s)
def gvLs (p:Pr):List Li->VS->VS
 | [],s=>s
 | x::l,s=>gvLs p l (gvL p x s)
end
def UF (p:Pr) (r:Ru) (v:Vs):VS:=gvLs p r.body (gvEs p r.args (Y7 p r.head r.args.length) (v,false))
def Vb (p:Pr) (r:Ru):Nat->Vs->Option Vs
 | 0,_=>none
 | n+1,v=>if (UF p r v).2=true then Vb p r n (UF p r v).1 else some (UF p r v).1
abbrev Flt:=Option (Nat×Nat)
mutual
def rtE (p:Pr) (vs:Vs):Ex->Int->Flt
 | .mk op text _ args a,n =>
  if op=7/\(lkM text (Xc p)).isNone=true then some (a,184)
  else if (ZeF p vs op text≠-1/\n≠-1/\ZeF p vs op text≠n)\/((op=6\/op=5)/\(Zg2 p n).isNone=true)\/(op=1/\ZeF p vs op text=-1) then some (a,183)
  else if (ZO p op text args.length n).length≠args.length then some (a,182)
  else ZaS p vs args (ZO p op text args.length n)
def ZaS (p:Pr) (vs:Vs):List Ex->List Int->Flt
 | e::es,n::ns=>match rtE p vs e n with
  | some f=>some f
  | none=>ZaS p vs es ns
 | _,_=>none
end
def ZtM (p:Pr) (vs:Vs) (name:Bs) (args:List Ex) (a:Nat) (head:Bool):Flt:=match lkM name (JX p) with
 | none=>some (a,181)
 | some i=>match p.rels[i.toNat]? with
  | none=>none
  | some d=>if (head && d.inn)=true then some (a,185) else if d.fields.length≠args.length then some (a,182) else ZaS p vs args (Y7 p name args.length)
mutual
def rtL (p:Pr) (vs:Vs):Li->Flt
 | .mk op rel args body a=>if op<=2 then ZtM p vs rel args a false
  else if op<=8 then (match ZaS p vs args [Jt p vs args,Jt p vs args] with
   | some f=>some f
   | none=>if 5<=op/\Jt p vs args≠0/\Jt p vs args≠1 then some (a,183) else none)
  else match ZaS p vs args (List.replicate args.length 0) with
   | some f=>some f
   | none=>Zhp p vs body
def Zhp (p:Pr) (vs:Vs):List Li->Flt
 | []=>none
 | x::l=>match rtL p vs x with
  | some f=>some f
  | none=>Zhp p vs l
end
def YA (p:Pr) (op:Nat) (text:Bs) (kind:Bs):List Fi :=
 if op=7 then (match ZiB p text with | some tc=>tc.2.fields | none=>[])
 else if op=6 then (match Zg2 p (Xm p kind) with | some t=>t.fields | none=>[]) else []
mutual
def wiE (p:Pr):Ex->Bs->List (Ex×Bs)
 | .mk op text n args a,kind=>(.mk op text n args a,kind)::ZaT p args (YA p op text kind)
def ZaT (p:Pr):List Ex->List Fi->List (Ex×Bs)
 | e::es,f::fs=>wiE p e f.typ++ZaT p es fs
 | _,_=>[]
end
def Znp (p:Pr) (name:Bs):List Fi:=match lkM name (JX p) with
 | none=>(match p.rels[0]? with | some d=>d.fields | none=>[])
 | some i=>match p.rels[i.toNat]? with | some d=>d.fields | none=>[]
def V5 (p:Pr):Li->List (Ex×Bs)
 | .mk op rel args _ _=>if op=1 then ZaT p args (Znp p rel) else []
def ZiC (p:Pr) (l:List Li):List (Bs×Bs):=(l.flatMap (V5 p)).filterMap fun x=>match x with
 | (.mk op text _ _ _,k)=>if op=1 then some (text,k) else none
def Ub (p:Pr) (kn:List (Bs×Bs)):List (Ex×Bs)->Flt
 | []=>none
 | (.mk op text _ _ a,k)::l =>
  if (X0 p k).isSome=true/\(8<=op\/(op=1/\(kn.any fun y=>decide (y.1=text) && XV p y.2 k)=false)) then some (a,183) else Ub p kn l
def ZlM (p:Pr) (r:Ru):Flt:=Ub p (ZiC p r.body) (ZaT p r.args (Znp p r.head))
def Zb9 (p:Pr) (r:Ru) (vs:Vs):Flt:=if 64<vs.length then some (r.at',3) else match ZtM p vs r.head r.args r.at' true with
 | some f=>some f
 | none=>match Zhp p vs r.body with
  | some f=>some f
  | none=>ZlM p r
mutual
def nvE:Ex->List Bs
 | .mk op text _ args _=>if op=1 then [text] else Zrp args
def Zrp:List Ex->List Bs
 | []=>[]
 | e::l=>nvE e++Zrp l
end
mutual
def nvL:Li->List Bs
 | .mk _ _ args body _=>Zrp args++ZtN body
def ZtN:List Li->List Bs
 | []=>[]
 | x::l=>nvL x++ZtN l
end
def nvR (r:Ru):List Bs:=Zrp r.args++ZtN r.body
def Vy (p:Pr) (r:Ru):Vs:=(Vb p r ((nvR r).length+1) []).getD []
def Xu (p:Pr):List Ru->Flt
 | []=>none
 | r::l=>match Zb9 p r (Vy p r) with
  | some f=>some f
  | none=>Xu p l
def Zrq (pl:Pl) (p:Pr):Int×Int:=if (UC (prU p)).2≠0 then (0,(UC (prU p)).2) else match Zcj p with
 | some (a,e)=>(pl a,e)
 | none=>match Xu p p.rules with
  | some (a,e)=>(pl a,e)
  | none=>(0,0)
abbrev ZDr (pl:Pl) (r:Ru) (more:Bool):List PV:=[.ptr 1 0,.d (.str r.head),.d (.sl (Zp pl r.args)),.d (.sl (Y6 pl r.body)),.d (.int .i64 (pl r.at')),.mp 2,.d (.bool more)]
abbrev ZbG (pl:Pl) (p:Pr) (r:Ru) (vs:Vs) (more:Bool):List Box:=.cells 81 (ZDr pl r more)::.cells 98 (Zix pl p 3)::.dmap (mvM mvI vs)::Ziy p
structure OKP (p:Pr):Prop where
 bp:BP p
 ends:ZA9 p
def ZaU (body:List PV->Pl->Pr->Ru->Vs->Bool->(PEnd->Vs->Bool->Prop)->Prop):Zm:=fun args σ K=>match args,σ with
 | .ptr 0 0::rest,⟨bx,[],0⟩=>∃pl p r vs more,bx=ZbG pl p r vs more/\OKP p/\body rest pl p r vs more fun pe vs' more'=>K pe ⟨ZbG pl p r vs' more',[],0⟩
 | _,_=>False
def Zed {body:List PV->Pl->Pr->Ru->Vs->Bool->(PEnd->Vs->Bool->Prop)->Prop} (hb:∀rest pl p r vs more (K K':PEnd->Vs->Bool->Prop),(∀pe v m,K pe v m->K' pe v m)->body rest pl p r vs more K->body rest pl p r vs more K'):ZL (ZaU body):=fun args σ K K' hK h=>by
 unfold ZaU at h |-
 split at h
 ·obtain ⟨pl,p,r,vs,more,h1,h2,h3⟩:=h;exact ⟨pl,p,r,vs,more,h1,h2,hb _ _ _ _ _ _ _ _ (fun pe v m hk=>hK _ _ hk) h3⟩
 exact h.elim
def ZfM {s:Bs} {i:Nat} {v:Int×Int}:∀(l:List Ca) (k:Nat) (m:List (Bs×(Int×Int))),lkM s (Yv i k l m)=some v->lkM s m=some v\/∃(j:Nat) (c:Ca),v=((i:Int),((k+j:Nat):Int))/\l[j]?=some c/\c.name=s
 | [],k,m,h=>.inl h
 | c::l,k,m,h=>by
  rcases ZfM l (k+1) _ h with h | ⟨j,c',h1,h2,h3⟩
  ·split at h
   ·rw [JW] at h;split at h
    ·rename_i e;cases h;exact .inr ⟨0,c,sM,rfl,e.symm⟩
    exact .inl h
   exact .inl h
  exact .inr ⟨j+1,c',by rw [h1];congr 2;omega,by simpa using h2,h3⟩
def ZfN {s:Bs} {v:Int×Int}:∀(l:List Ty) (i:Nat) (m:List (Bs×(Int×Int))),lkM s (JY i l m)=some v->lkM s m=some v\/∃(j k:Nat) (t:Ty) (c:Ca),v=(((i+j:Nat):Int),(k:Int))/\l[j]?=some t/\t.cases[k]?=some c/\c.name=s
 | [],i,m,h=>.inl h
 | t::l,i,m,h=>by
  rcases ZfN l (i+1) _ h with h | ⟨j,k,t',c,h1,h2,h3,h4⟩
  ·rcases ZfM _ _ _ h with h | ⟨j,c,h1,h2,h3⟩
   ·exact .inl h
   exact .inr ⟨0,j,t,c,by rw [h1];simp,rfl,h2,h3⟩
  exact .inr ⟨j+1,k,t',c,by rw [h1];congr 2;omega,by simpa using h2,h3,h4⟩
def Zee {p:Pr} {s:Bs} {v:Int×Int} (h:lkM s (Xc p)=some v):∃(j k:Nat) (t:Ty) (c:Ca),v=((j:Int),(k:Int))/\p.types[j]?=some t/\t.cases[k]?=some c/\ZiB p s=some (t,c):=by
 rcases ZfN _ _ _ h with h | ⟨j,k,t,c,h1,h2,h3,h4⟩
 ·cases h
 rw [T9] at h1;refine ⟨j,k,t,c,h1,h2,h3,?_⟩;subst h1;simp only [ZiB,h,Ti,h2,h3]
def ZfO {p:Pr} {s:Bs} (h:lkM s (Xc p)=none):ZiB p s=none:=by simp only [ZiB,h]
def Zqw:Zm:=ZaU fun rest pl p r vs more K=>match rest with
 | [.agg c]=>∃e,c=(ZW pl e).map .d/\∀n,Zza p vs e=n->K (.ret (.d (.int .i64 n))) vs more
 | _=>False
def ZBc:OKw w0 nG [(20,Va)] 110 Zqw:=by
 refine pwo Tryz.func110 fun args σ K h=>?_
 unfold Zqw ZaU at h
 split at h
 ·obtain ⟨pl,p,r,vs,more,rfl,hp,h⟩:=h;split at h
  ·obtain ⟨⟨op,text,num,eargs,ea⟩,rfl,h⟩:=h;simp only [Zza] at h;refine pwv [] 7 false ?_;refine ZEw (fun h1=>?_) (fun h1=>wN ?_)
   ·have h1:op=1:=by have h1:(op:Int)=1:=h1;omega
    subst h1;(conv=>whnf);refine ZEE (fun v hv=>?_) (fun hv=>wN ?_)
    ·rw [ZQ] at hv;obtain ⟨n,hn,rfl⟩:=TG.1 hv;(conv=>whnf);exact h n (by simp [ZeF,hn])
    rw [ZQ,Option.map_eq_none_iff] at hv;exact h (-1) (by simp [ZeF,hv])
   have h1:¬op=1:=fun g=>h1 (by simp only [g];rfl)
   refine ZEw (fun h7=>?_) (fun h7=>?_)
   ·have h7:op=7:=by have h7:(op:Int)=7:=h7;omega
    subst h7;(conv=>whnf);refine ZEE (fun v hv=>?_) (fun hv=>wN ?_)
    ·rw [ZQ] at hv;obtain ⟨n,hn,rfl⟩:=TG.1 hv;obtain ⟨j,k,t,c,rfl,h2,h3,h4⟩:=Zee hn;have hr:(p.types.map (Zq pl))[(j:Int).toNat]?=some (Zq pl t):=by rw [Ti,Tj,h2];rfl
     obtain ⟨t1,t2,t3,t4,t5,t6⟩:=t;(conv=>whnf)
     (repeat (refine ⟨rfl,?_⟩;conv=>whnf))
     refine ⟨dM,dM,wN ?_⟩;refine ⟨_,oM,hr,wN ?_⟩;refine ⟨pl,p,rfl,hp.bp,hp.ends,fun n hn=>wN ?_⟩
     (repeat (refine ⟨rfl,?_⟩;conv=>whnf))
     exact h n (by simp only [ZeF];rw [Tf dM,Th trivial,h4];exact hn)
    rw [ZQ,Option.map_eq_none_iff] at hv
    (repeat (refine ⟨rfl,?_⟩;conv=>whnf))
    exact h (-1) (by simp [ZeF,ZfO hv])
   have h7:¬op=7:=fun g=>h7 (by simp only [g];rfl)
   repeat' ((conv=>whnf);refine ZEw (fun hc=>?_) (fun hc=>?_))
   all_goals (conv=>whnf)
   all_goals first
    | (exfalso;omega)
    | (refine h _ ?_
       unfold ZeF
       rw [Tf h1,Tf h7]
       first
        | rw [Th oM]
        | rw [Tf oM,Th oM]
        | rw [Tf oM,Tf oM])
  exact h.elim
 exact h.elim
def optK.int {k:Bs} {m:List (Bs×Int)} {A:MV->Prop} (h:A (mvI ((lkM k m).getD 0))):optK (lkM k (mvM mvI m)) A (A (mvI 0)):=by
 rw [ZQ]
 cases hk:lkM k m with
 | none=>rw [hk] at h;exact h
 | some b=>rw [hk] at h;exact h
abbrev zTy:List PV:=[.d (.int .u8 0),.d (.str []),.d (.str []),.d (.sl []),.d (.sl []),.d (.int .i64 0)]
def ZiD (p:Pr) (n:Int) (t:Ty):Bool:=decide (t.kind=2) && (decide (0<=n) && decide ((lkM t.name (JZ p)).getD 0=n))
def Zkn:Zm:=ZaU fun rest pl p r vs more K=>match rest with
 | [.d (.int .i64 n)]=>(∀t,Zg2 p n=some t->K (.ret (.tuple [.agg ((Zq pl t).map .d),.d (.bool true)])) vs more)/\(Zg2 p n=none->K (.ret (.tuple [.agg zTy,.d (.bool false)])) vs more)
 | _=>False
def ZBd:PC w0 nG 109 Zkn:=by
 refine pwe Tryz.func109 fun args σ K h=>?_
 unfold Zkn ZaU at h
 split at h
 ·obtain ⟨pl,p,r,vs,more,rfl,hp,h⟩:=h;split at h
  ·rename_i n
   obtain ⟨hs,hn⟩:=h;have aa:=hp.bp.len;have hl:(p.types.map (Zq pl)).length=p.types.length:=Te ..;refine pwu [(2,⟨[17],[0,1,4,15,16],fun w σ=>∃j:Nat,w=[.d (.int .i64 j)]/\σ=⟨ZbG pl p r vs more++[.cells 56 [.d (.int .u8 0),.d (.str []),.d (.str []),.sl 0 89 [],.sl 1 59 [],.d (.int .i64 0)]],[1,0],2⟩/\j<=p.types.length/\(p.types.drop j).find? (ZiD p n)=Zg2 p n,
    fun w _=>match w with | [.d (.int _ j)]=>((p.types.length:Int) - j).toNat | _=>0⟩)] 7 false ?_
   conv=>whnf
   refine ⟨⟨0,rfl,rfl,oM,rfl⟩,?_⟩
   rintro w σ1 ⟨j,rfl,rfl,hj,ha⟩
   conv=>whnf
   refine ZEw (fun hc=>?_) (fun hc=>?_);rotate_left
   ·conv=>whnf
    rw [Tr oM] at ha;exact hn ha.symm
   have ab:j<p.types.length:=oM;rw [Tl ab,List.find?_cons] at ha;have hr:(p.types.map (Zq pl))[(j:Int).toNat]?=some (Zq pl p.types[j]):=by rw [Ti,Tj,Tb ab];rfl
   generalize p.types[j]=t at ha hr;obtain ⟨t1,t2,t3,t4,t5,t6⟩:=t;have hμ:((p.types.length:Int) - ((j:Int)+1)).toNat<((p.types.length:Int) - (j:Int)).toNat:=oM;have yes:ZiD p n ⟨t1,t2,t3,t4,t5,t6⟩=true->K (.ret (.tuple [.agg ((Zq pl ⟨t1,t2,t3,t4,t5,t6⟩).map .d),.d (.bool true)])) ⟨ZbG pl p r vs more,[],0⟩:=fun g=>by
    rw [g] at ha;exact hs _ ha.symm
   have no:ZiD p n ⟨t1,t2,t3,t4,t5,t6⟩=false->(p.types.drop (j+1)).find? (ZiD p n)=Zg2 p n:=fun g=>by rw [g] at ha;exact ha
   clear ha hs hn
   conv=>whnf
   refine ⟨_,oM,hr,wN ?_⟩;refine ZEw (fun hk=>?_) (fun hk=>?_);rotate_left
   ·have hk:¬t1=2:=fun g=>hk (by simp only [g];rfl)
    conv=>whnf
    refine Zj ?_;exact ⟨⟨j+1,rfl,rfl,oM,no (by unfold ZiD;rw [decide_eq_false hk];rfl)⟩,hμ⟩
   have hk:t1=2:=by have hk:(t1:Int)=2:=hk;omega
   conv=>whnf
   refine ZEw (fun h0=>?_) (fun h0=>?_);rotate_left
   ·conv=>whnf
    refine Zj ?_;exact ⟨⟨j+1,rfl,rfl,oM,no (by unfold ZiD;rw [decide_eq_false h0,TT,Bool.and_false])⟩,hμ⟩
   conv=>whnf
   refine optK.int (wN ?_);refine ZEw (fun he=>wN ?_) (fun he=>wN ?_)
   ·exact yes (by unfold ZiD;rw [TL hk,TL h0,TL he];rfl)
   refine Zj ?_;exact ⟨⟨j+1,rfl,rfl,oM,no (by unfold ZiD;rw [decide_eq_false he,Bool.and_false,Bool.and_false])⟩,hμ⟩
  exact h.elim
 exact h.elim
def ZlN (p:Pr) (n:Int):Ex->List Int
 | .mk op text _ args _=>ZO p op text args.length n
def Zck:Ex->Nat
 | .mk _ _ _ args _=>args.length
def Zef:Zm:=ZaU fun rest pl p r vs more K=>match rest with
 | [.agg c,.d (.int .i64 n)]=>∃e,c=(ZW pl e).map .d/\Zck e<=2097152/\∀l b,ZlN p n e=l->decide (l.length=Zck e)=b->K (.ret (.tuple [.d (.sl (Yh l)),.d (.bool b)])) vs more
 | _=>False
def Zqx (l:List Int):(Yh l).length=l.length:=Te ..
def ZtP (ht:TO w0 nG [(17,UE),(109,Zkn)]):PC w0 nG 60 Zef:=by
 refine pwt ht Tryz.func60 fun args σ K h=>?_
 unfold Zef ZaU at h
 split at h
 ·obtain ⟨pl,p,r,vs,more,rfl,hp,h⟩:=h;split at h
  ·rename_i n
   obtain ⟨⟨op,text,num,eargs,ea⟩,rfl,mh,h⟩:=h;simp only [ZlN,Zck] at h mh;have ar:(Zp pl eargs).length=eargs.length:=by rw [Ze,Te]
   have fin:∀l:List Int,ZO p op text eargs.length n=l->K (.ret (.tuple [.d (.sl (Yh l)),.d (.bool (decide (((Yh l).length:Int)=((Zp pl eargs).length:Int))))])) ⟨ZbG pl p r vs more,[],0⟩:=fun l hl =>
    h l _ hl (by rw [Zqx,ar];exact decide_eq_decide.2 oM)
   clear h
   refine pwv [] 7 false ?_;refine ZEw (fun h7=>?_) (fun h7=>wN ?_)
   ·have h7:op=7:=by have h7:(op:Int)=7:=h7;omega
    subst h7;(conv=>whnf);refine ZEE (fun v hv=>?_) (fun hv=>wN ?_)
    ·rw [ZQ] at hv;obtain ⟨m,hn,rfl⟩:=TG.1 hv;obtain ⟨j,k,t,c,rfl,h2,h3,h4⟩:=Zee hn;have o7:=(hp.bp.ty (T1 h2)).2.2 c (T1 h3);have hr:(p.types.map (Zq pl))[(j:Int).toNat]?=some (Zq pl t):=by rw [Ti,Tj,h2];rfl
     have dz:(t.cases.map Zt)[(k:Int).toNat]?=some (Zt c):=by rw [Ti,Tj,h3];rfl
     obtain ⟨t1,t2,t3,t4,t5,t6⟩:=t;obtain ⟨c1,c2⟩:=c;(conv=>whnf)
     (repeat (refine ⟨rfl,?_⟩;conv=>whnf))
     refine ⟨dM,dM,wN ?_⟩;refine ⟨_,oM,hr,wN ?_⟩;refine ⟨dM,dM,wN ?_⟩;refine ⟨_,oM,dz,wN ?_⟩;refine ⟨pl,p,rfl,hp.bp,c2,rfl,⟨hp.ends,o7⟩,wN ?_⟩
     (repeat (refine ⟨rfl,?_⟩;conv=>whnf))
     exact fin _ (by simp [ZO,h4])
    rw [ZQ,Option.map_eq_none_iff] at hv
    (repeat (refine ⟨rfl,?_⟩;conv=>whnf))
    exact fin [] (by simp [ZO,ZfO hv])
   have h7:¬op=7:=fun g=>h7 (by simp only [g];rfl)
   refine ZEw (fun h6=>?_) (fun h6=>wN ?_)
   ·have h6:op=6:=by have h6:(op:Int)=6:=h6;omega
    subst h6;(conv=>whnf);refine ⟨pl,p,r,vs,more,rfl,hp,fun t ht=>wN ?_,fun ht=>wN ?_⟩
    ·obtain ⟨t1,t2,t3,t4,t5,t6⟩:=t;have et:=(hp.bp.ty (List.mem_of_find?_eq_some ht)).1;refine ⟨pl,p,rfl,hp.bp,t4,rfl,⟨hp.ends,et⟩,wN ?_⟩
     (repeat (refine ⟨rfl,?_⟩;conv=>whnf))
     exact fin _ (by simp [ZO,ht])
    exact fin [] (by simp [ZO,ht])
   have h6:¬op=6:=fun g=>h6 (by simp only [g];rfl)
   refine ZEw (fun hc=>?_) (fun hc=>?_)
   ·have hc:op=20:=by have hc:(op:Int)=20:=hc;omega
    subst hc;(conv=>whnf);exact fin [1,1] (by simp [ZO])
   have zu:¬op=20:=fun g=>hc (by simp only [g];rfl)
   repeat' ((conv=>whnf);refine ZEw (fun hc=>?_) (fun hc=>?_))
   all_goals (conv=>whnf)
   all_goals try (exfalso;omega)
   all_goals try
    first
    | (refine fin [1] ?_;unfold ZO;rw [Tf h7,Tf h6,Tf zu,Th oM];done)
    | (refine fin [1,0,0] ?_;unfold ZO;rw [Tf h7,Tf h6,Tf zu,Tf oM,Th oM];done)
   all_goals
    refine ⟨rfl,dM,by show (Zp pl eargs).length * 1<=_;omega,by show (Zp pl eargs).length * 8<=_;omega,wN ?_⟩;rw [show List.replicate (Zp pl eargs).length [D.int .i64 0]=Yh (List.replicate eargs.length 0) by rw [Yh,List.map_replicate,ar]];exact fin _ (by unfold ZO;rw [Tf h7,Tf h6,Tf zu,Tf oM,Tf oM])
  exact h.elim
 exact h.elim
def Zyt (m:Nat):Zm:=ZaU fun rest pl p r vs more K=>match rest with
 | [.agg c,.d (.int .i64 n)]=>∃e,c=(ZW pl e).map .d/\(szE e<=m/\m<=2097152)/\∀v b,gvE p e n (vs,more)=(v,b)->K (.ret (.tuple [])) v b
 | _=>False
def ZaL (p:Pr) (op:Nat) (text:Bs) (k:Nat) (n:Int):List Int:=if (ZO p op text k n).length=k then ZO p op text k n else List.replicate k (-1)
def ZiE (p:Pr) (op:Nat) (text:Bs) (k:Nat) (n:Int):(ZaL p op text k n).length=k:=by unfold ZaL;split <;> simp [*]
def ZBe {m:Nat}:OKw w0 nG [(35,spB Zyt m),(60,Zef)] 35 (Zyt m):=by
 refine pwo Tryz.func35 fun args σ K h=>?_
 unfold Zyt ZaU at h
 split at h
 ·obtain ⟨pl,p,r,vs,more,rfl,hp,h⟩:=h;split at h
  ·rename_i n
   obtain ⟨⟨op,text,num,eargs,ea⟩,rfl,⟨hz,hm⟩,h⟩:=h;simp only [szE,UA] at hz;have mh:=ZA szE eargs;have ar:(Zp pl eargs).length=eargs.length:=by rw [Ze,Te]
   refine pwu [(8,⟨[63],[0,8,9,61,62],fun w σ=>∃(j:Nat) (v:Vs) (b:Bool),w=[.d (.int .i64 j)]/\σ=⟨ZbG pl p r v b++[.cells 138 ((ZW pl (.mk op text num eargs ea)).map .d)],[],0⟩/\j<=eargs.length /\
     gvEs p (eargs.drop j) ((ZaL p op text eargs.length n).drop j) (v,b)=gvEs p eargs (ZaL p op text eargs.length n) (vs,more),
    fun w _=>match w with | [.d (.int _ j)]=>((eargs.length:Int) - j).toNat | _=>0⟩)] 7 false ?_
   conv=>whnf
   refine ZEw (fun h1=>?_) (fun h1=>wN ?_)
   ·have h1:op=1:=by have h1:(op:Int)=1:=h1;omega
    subst h1;have h:=h (ZtL text n (vs,more)).1 (ZtL text n (vs,more)).2 (by simp [gvE]);have yes:((lkM text vs).isNone=true\/((lkM text vs).getD 0=-1/\n≠-1))->∀b,(more || decide (n≠-1))=b->K (.ret (.tuple [])) ⟨.cells 81 (ZDr pl r b)::.cells 98 (Zix pl p 3)::.dmap (YB text (mvI n) (mvM mvI vs))::Ziy p,[],0⟩:=fun g b hb=>by
     simp only [ZtL] at h;rw [Th g,hb] at h;rw [VX];exact h
    have no:¬((lkM text vs).isNone=true\/((lkM text vs).getD 0=-1/\n≠-1))->K (.ret (.tuple [])) ⟨ZbG pl p r vs more,[],0⟩:=fun g=>by
     simp only [ZtL] at h;rw [Tf g] at h;exact h
    clear h
    conv=>whnf
    refine ZEE (fun v hv=>?_) (fun hv=>wN ?_)
    ·rw [ZQ] at hv;obtain ⟨old,nq,rfl⟩:=TG.1 hv;rw [nq] at yes no;(conv=>whnf);refine ZEw (fun ho=>wN ?_) (fun ho=>wN ?_)
     ·refine ZEy (fun hn=>wN ?_) (fun hn=>wN ?_)
      ·have yes:=yes (.inr ⟨ho,hn⟩);exact mq131
      exact no (by simp [hn])
     exact no (by simp [show ¬old=-1 from ho])
    rw [ZQ,Option.map_eq_none_iff] at hv;have yes:=yes (.inl (by rw [hv];rfl));exact mq131
   have h1:¬op=1:=fun g=>h1 (by simp only [g];rfl)
   have h:=fun v b (g:gvEs p eargs (ZaL p op text eargs.length n) (vs,more)=(v,b))=>h v b (by simp only [gvE];rw [Tf h1];exact g)
   refine ⟨pl,p,r,vs,more,rfl,hp,.mk op text num eargs ea,rfl,by show eargs.length<=_;omega,fun l b hl hb=>?_⟩;simp only [ZlN,Zck] at hl hb
   cases b with
   | true =>
    have hL:ZaL p op text eargs.length n=l:=by unfold ZaL;rw [hl,Th (of_decide_eq_true hb)]
    conv=>whnf
    refine ⟨⟨0,vs,more,rfl,rfl,oM,rfl⟩,?_⟩
    rintro w σ1 ⟨j,v,b,rfl,rfl,hj,ha⟩
    conv=>whnf
    refine ZEw (fun hc=>?_) (fun hc=>?_);rotate_left
    ·conv=>whnf
     rw [Tr oM] at ha;exact h v b ha.symm
    have ab:j<eargs.length:=oM;have aq:j<(ZaL p op text eargs.length n).length:=by rw [ZiE];exact ab
    rw [Tl ab,Tl aq] at ha;simp only [gvEs] at ha;have hr:(Zp pl eargs)[(j:Int).toNat]?=some (ZW pl eargs[j]):=by rw [Ze,Ti,Tj,Tb ab];rfl
    have eg:=ZE szE eargs j ab;have dz:(Yh l)[(j:Int).toNat]?=some [.int .i64 (ZaL p op text eargs.length n)[j]]:=by
     rw [Yh,Ti,Tj,<- hL,Tb aq];rfl
    generalize (ZaL p op text eargs.length n)[j]=y at ha dz;generalize eargs[j]=x at ha hr eg;obtain ⟨x1,x2,x3,x4,x5⟩:=x;have hμ:((eargs.length:Int) - ((j:Int)+1)).toNat<((eargs.length:Int) - (j:Int)).toNat:=oM;(conv=>whnf);refine ⟨_,oM,hr,wN ?_⟩;refine ⟨_,oM,dz,wN ?_⟩;exact mq91
   | false =>
   have hL:ZaL p op text eargs.length n=List.replicate eargs.length (-1):=by unfold ZaL;rw [hl,Tf (of_decide_eq_false hb)]
   conv=>whnf
   refine ⟨⟨0,vs,more,rfl,rfl,oM,rfl⟩,?_⟩
   rintro w σ1 ⟨j,v,b,rfl,rfl,hj,ha⟩
   conv=>whnf
   refine ZEw (fun hc=>?_) (fun hc=>?_);rotate_left
   ·conv=>whnf
    rw [Tr oM] at ha;exact h v b ha.symm
   have ab:j<eargs.length:=oM;have aq:j<(ZaL p op text eargs.length n).length:=by rw [ZiE];exact ab
   rw [Tl ab,Tl aq] at ha;simp only [gvEs] at ha;have hr:(Zp pl eargs)[(j:Int).toNat]?=some (ZW pl eargs[j]):=by rw [Ze,Ti,Tj,Tb ab];rfl
   have eg:=ZE szE eargs j ab;have hy:(ZaL p op text eargs.length n)[j]=-1:=by simp only [hL,List.getElem_replicate]
   rw [hy] at ha;generalize eargs[j]=x at ha hr eg;obtain ⟨x1,x2,x3,x4,x5⟩:=x;have hμ:((eargs.length:Int) - ((j:Int)+1)).toNat<((eargs.length:Int) - (j:Int)).toNat:=oM;(conv=>whnf);refine ⟨_,oM,hr,wN ?_⟩;exact mq91
  exact h.elim
 exact h.elim
def Zeg:Zm:=ZaU fun rest pl p r vs more K=>match rest with
 | [.agg c]=>∃op rel a b args body at',c=(Xp pl (.mk op rel (a::b::args) body at')).map .d/\∀n,Jt p vs (a::b::args)=n->K (.ret (.d (.int .i64 n))) vs more
 | _=>False
def ZtR:OKw w0 nG [(110,Zqw)] 61 Zeg:=by
 refine pwo Tryz.func61 fun args σ K h=>?_
 unfold Zeg ZaU at h
 split at h
 ·obtain ⟨pl,p,r,vs,more,rfl,hp,h⟩:=h;split at h
  ·obtain ⟨op,rel,⟨a1,a2,a3,a4,a5⟩,⟨b1,b2,b3,b4,b5⟩,args,body,at',rfl,h⟩:=h;simp only [Jt] at h;refine pwv [] 7 false ?_;refine ⟨ZW pl (.mk a1 a2 a3 a4 a5),dM,rfl,wN ?_⟩;refine ⟨pl,p,r,vs,more,rfl,hp,.mk a1 a2 a3 a4 a5,rfl,fun n hn=>wN ?_⟩;rw [hn] at h;refine ZEy (fun hc=>wN ?_) (fun hc=>wN ?_)
   ·exact h n (by rw [Th hc])
   refine ⟨ZW pl (.mk b1 b2 b3 b4 b5),dM,rfl,wN ?_⟩;refine ⟨pl,p,r,vs,more,rfl,hp,.mk b1 b2 b3 b4 b5,rfl,fun n2 lm=>wN ?_⟩;exact h n2 (by rw [Tf (fun g=>g hc)];exact lm)
  exact h.elim
 exact h.elim
def RtK (pl:Pl) (K:PEnd->Vs->Bool->Prop) (vs:Vs) (more:Bool):Flt->Prop
 | none=>K (.ret (.tuple [])) vs more
 | some (a,e)=>K (.panic (.iface 50 (.agg [.d (.int .i64 (pl a)),.d (.int .i64 e)]))) vs more
def Zg3 {pl:Pl} {K K':PEnd->Vs->Bool->Prop} (hK:∀pe v m,K pe v m->K' pe v m) {vs:Vs} {more:Bool} {x:Flt} (h:RtK pl K vs more x):RtK pl K' vs more x:=by
 cases x with
 | none=>exact hK _ _ _ h
 | some ae=>exact hK _ _ _ h
def Zyu (m:Nat):Zm:=ZaU fun rest pl p r vs more K=>match rest with
 | [.agg c,.d (.int .i64 n)]=>∃e,c=(ZW pl e).map .d/\(szE e<=m/\m<=2097152)/\∀x,rtE p vs e n=x->RtK pl K vs more x
 | _=>False
def ZuK (m:Nat):Tbl:=[(93,spB Zyu m),(110,Zqw),(60,Zef),(109,Zkn)]
abbrev Zyv (a e:Int):PV:=.iface 50 (.agg [.d (.int .i64 a),.d (.int .i64 e)])
def ZuL {m:Nat} (ht:TO w0 nG (ZuK m)):PC w0 nG 93 (Zyu m):=by
 refine Zor ZC mixed (tbl:=ZuK m) ht Tryz.func93 rfl kR kR ?_;intro args σ K h
 unfold Zyu ZaU at h
 split at h
 ·obtain ⟨pl,p,r,vs,more,rfl,hp,h⟩:=h;split at h
  ·rename_i n
   obtain ⟨⟨op,text,num,eargs,ea⟩,rfl,⟨hz,hm⟩,h⟩:=h;simp only [szE,UA] at hz;have mh:=ZA szE eargs;have ar:(Zp pl eargs).length=eargs.length:=by rw [Ze,Te]
   obtain ⟨x,hx⟩:∃x,rtE p vs (.mk op text num eargs ea) n=x:=⟨_,rfl⟩
   have h:=h x hx;refine ⟨Zk [(14,⟨[101],[0,7,99,100],fun w σ=>∃(j:Nat) (c1 c2 c3 c4 c5 c6 d1 d2:D),w=[.d (.int .i64 j)]/\σ=⟨ZbG pl p r vs more++[.cells 138 ((ZW pl (.mk op text num eargs ea)).map .d),.cells 56 [.d c1,.d c2,.d c3,.d c4,.d c5,.d c6],.cells 111 [.d d1,.d d2]],[],0⟩/\j<=eargs.length /\
     (ZO p op text eargs.length n).length=eargs.length/\ZaS p vs (eargs.drop j) ((ZO p op text eargs.length n).drop j)=x,
    fun w _=>match w with | [.d (.int _ j)]=>((eargs.length:Int) - j).toNat | _=>0⟩)],Ye [],ZB [],ZB [],ZB [],Zva [(4,([0,2,4,6,7,8,10],fun w σ=>∃c1 c2 c3 c4 c5 c6:D,w=[.ptr 0 0,.d (.int .i64 n),.ptr 7 0,.d (.int .i64 (ZeF p vs op text)),.d (.sl (Yh (ZO p op text eargs.length n))),.d (.bool (decide ((ZO p op text eargs.length n).length=eargs.length))),.d (.bool (Zg2 p n).isSome)] /\
     σ=⟨ZbG pl p r vs more++[.cells 138 ((ZW pl (.mk op text num eargs ea)).map .d),.cells 56 [.d c1,.d c2,.d c3,.d c4,.d c5,.d c6]],[],0⟩)),
    (5,([0,2,4,6,7,8,10,12],fun w σ=>∃c1 c2 c3 c4 c5 c6 d1 d2:D,w=[.ptr 0 0,.d (.int .i64 n),.ptr 7 0,.d (.int .i64 (ZeF p vs op text)),.d (.sl (Yh (ZO p op text eargs.length n))),.d (.bool (decide ((ZO p op text eargs.length n).length=eargs.length))),.d (.bool (Zg2 p n).isSome),.d (.bool (lkM text (Xc p)).isSome)] /\
     σ=⟨ZbG pl p r vs more++[.cells 138 ((ZW pl (.mk op text num eargs ea)).map .d),.cells 56 [.d c1,.d c2,.d c3,.d c4,.d c5,.d c6],.cells 111 [.d d1,.d d2]],[],0⟩)),
    (13,([0,4,7],fun w σ=>∃c1 c2 c3 c4 c5 c6 d1 d2:D,w=[.ptr 0 0,.ptr 7 0,.d (.sl (Yh (ZO p op text eargs.length n)))] /\
     σ=⟨ZbG pl p r vs more++[.cells 138 ((ZW pl (.mk op text num eargs ea)).map .d),.cells 56 [.d c1,.d c2,.d c3,.d c4,.d c5,.d c6],.cells 111 [.d d1,.d d2]],[],0⟩/\(ZO p op text eargs.length n).length=eargs.length /\
     ZaS p vs eargs (ZO p op text eargs.length n)=x))],7,false,sM,Tc rfl,?_⟩
   conv=>whnf
   refine ⟨pl,p,r,vs,more,rfl,hp,.mk op text num eargs ea,rfl,fun own ke=>?_⟩;simp only [Zza] at ke;subst ke;(conv=>whnf);refine ⟨pl,p,r,vs,more,rfl,hp,.mk op text num eargs ea,rfl,by show eargs.length<=_;omega,fun l ok hl ao=>?_⟩;simp only [ZlN,Zck] at hl ao;subst hl ao;(conv=>whnf);refine ⟨?_,?_⟩
   ·refine ⟨pl,p,r,vs,more,rfl,hp,fun t we=>wN ?_,fun we=>wN ?_⟩
    ·obtain ⟨t1,t2,t3,t4,t5,t6⟩:=t;exact ⟨_,_,_,_,_,_,by rw [we];rfl,rfl⟩
    exact ⟨_,_,_,_,_,_,by rw [we];rfl,rfl⟩
   rintro w σ1 ⟨c1,c2,c3,c4,c5,c6,rfl,rfl⟩
   conv=>whnf
   refine ⟨wN ?_,?_⟩
   ·refine ZEE (fun v hv=>?_) (fun hv=>wN ?_)
    ·rw [ZQ] at hv;obtain ⟨ij,jk,rfl⟩:=TG.1 hv;obtain ⟨i,k⟩:=ij;(conv=>whnf)
     (repeat (refine ⟨rfl,?_⟩;conv=>whnf))
     exact ⟨_,_,_,_,_,_,_,_,by rw [jk];rfl,rfl⟩
    rw [ZQ,Option.map_eq_none_iff] at hv
    (repeat (refine ⟨rfl,?_⟩;conv=>whnf))
    exact ⟨_,_,_,_,_,_,_,_,by rw [hv];rfl,rfl⟩
   rintro w σ1 ⟨c1,c2,c3,c4,c5,c6,d1,d2,rfl,rfl⟩
   conv=>whnf
   refine ⟨?_,?_⟩
   ·have eok : (op = 7 -> (lkM text (Xc p)).isSome = true) -> ¬ ((ZeF p vs op text ≠ -1 /\ n ≠ -1 /\ ZeF p vs op text ≠ n) \/ ((op = 6 \/ op = 5) /\ (Zg2 p n).isSome = false) \/ (op = 1 /\ ZeF p vs op text = -1)) -> decide ((ZO p op text eargs.length n).length = eargs.length) = true ->
        (ZO p op text eargs.length n).length=eargs.length/\ZaS p vs eargs (ZO p op text eargs.length n)=x:=fun g1 g2 g3=>by
     have g3:=of_decide_eq_true g3;refine ⟨g3,?_⟩;rw [<- hx,rtE,Tf (fun g=>by have:=g1 g.1;cases hl:lkM text (Xc p) <;> simp_all),Tf (fun g=>g2 (by
      rcases g with g | ⟨g,g'⟩ | g
      ·exact .inl g
      ·exact .inr (.inl ⟨g,by cases hl:Zg2 p n <;> simp_all⟩)
      exact .inr (.inr g))),Tf (fun g=>g g3)]
    have e184:op=7->(lkM text (Xc p)).isSome=false->K (.panic (Zyv (pl ea) 184)) ⟨ZbG pl p r vs more,[],0⟩:=fun g1 g2=>by
     rw [rtE,Th ⟨g1,by cases hl:lkM text (Xc p) <;> simp_all⟩] at hx;subst hx;exact h
    have e183:(op=7->(lkM text (Xc p)).isSome=true)->((ZeF p vs op text≠-1/\n≠-1/\ZeF p vs op text≠n)\/((op=6\/op=5)/\(Zg2 p n).isSome=false)\/(op=1/\ZeF p vs op text=-1))->K (.panic (Zyv (pl ea) 183)) ⟨ZbG pl p r vs more,[],0⟩:=fun g1 g2=>by
     rw [rtE,Tf (fun g=>by have:=g1 g.1;cases hl:lkM text (Xc p) <;> simp_all),Th (by
      rcases g2 with g | ⟨g,g'⟩ | g
      ·exact .inl g
      ·exact .inr (.inl ⟨g,by cases hl:Zg2 p n <;> simp_all⟩)
      exact .inr (.inr g))] at hx
     subst hx;exact h
    have e182:(op=7->(lkM text (Xc p)).isSome=true)->¬((ZeF p vs op text≠-1/\n≠-1/\ZeF p vs op text≠n)\/((op=6\/op=5)/\(Zg2 p n).isSome=false)\/(op=1/\ZeF p vs op text=-1))->decide ((ZO p op text eargs.length n).length=eargs.length)=false->K (.panic (Zyv (pl ea) 182)) ⟨ZbG pl p r vs more,[],0⟩:=fun g1 g2 g3=>by
     have g3:=of_decide_eq_false g3;rw [rtE,Tf (fun g=>by have:=g1 g.1;cases hl:lkM text (Xc p) <;> simp_all),Tf (fun g=>g2 (by
      rcases g with g | ⟨g,g'⟩ | g
      ·exact .inl g
      ·exact .inr (.inl ⟨g,by cases hl:Zg2 p n <;> simp_all⟩)
      exact .inr (.inr g))),Th g3] at hx
     subst hx;exact h
    clear h hx
    generalize decide ((ZO p op text eargs.length n).length=eargs.length)=ok at eok e182 |-;generalize (Zg2 p n).isSome=rec at eok e182 e183 |-;generalize (lkM text (Xc p)).isSome=br at eok e182 e183 e184 |-;generalize ZeF p vs op text=own at eok e182 e183 |-;have n2:∀{rec:Bool},¬(own≠-1/\n≠-1/\own≠n)->((op=6\/op=5)->rec=true)->¬(op=1/\own=-1)->¬((own≠-1/\n≠-1/\own≠n)\/((op=6\/op=5)/\rec=false)\/(op=1/\own=-1)):=fun {rec} g1 g2 g3 g=>by
     rcases g with g | ⟨g,g'⟩ | g
     ·exact g1 g
     ·rw [g2 g] at g';cases g'
     exact g3 g
    cases br <;> cases rec <;> cases ok
    all_goals repeat' ((conv=>whnf);first | refine ZEw (fun hc=>?_) (fun hc=>?_) | refine ZEy (fun hc=>?_) (fun hc=>?_))
    all_goals (conv=>whnf)
    all_goals first
     | (exfalso;omega)
     | exact e184 oM rfl
     | exact e183 (fun g=>by first | rfl | (exfalso;omega)) (by first | (left;omega) | (right;left;exact ⟨oM,rfl⟩) | (right;right;omega))
     | exact e182 (fun g=>by first | rfl | (exfalso;omega)) (n2 oM (fun g=>by first | rfl | (exfalso;omega)) oM) rfl
     | exact ⟨c1,c2,c3,c4,c5,c6,d1,d2,rfl,rfl,eok (fun g=>by first | rfl | (exfalso;omega)) (n2 oM (fun g=>by first | rfl | (exfalso;omega)) oM) rfl⟩
   rintro w σ1 ⟨c1,c2,c3,c4,c5,c6,d1,d2,rfl,rfl,aa,ha⟩
   conv=>whnf
   refine ⟨⟨0,c1,c2,c3,c4,c5,c6,d1,d2,rfl,rfl,oM,aa,ha⟩,?_⟩
   rintro w σ1 ⟨j,c1,c2,c3,c4,c5,c6,d1,d2,rfl,rfl,hj,aa,ha⟩
   conv=>whnf
   refine ZEw (fun hc=>?_) (fun hc=>?_);rotate_left
   ·conv=>whnf
    rw [Tr oM] at ha;subst ha;exact h
   have ab:j<eargs.length:=oM;have aq:j<(ZO p op text eargs.length n).length:=by rw [aa];exact ab
   rw [Tl ab,Tl aq] at ha;simp only [ZaS] at ha;have hr:(Zp pl eargs)[(j:Int).toNat]?=some (ZW pl eargs[j]):=by rw [Ze,Ti,Tj,Tb ab];rfl
   have eg:=ZE szE eargs j ab;have dz:(Yh (ZO p op text eargs.length n))[(j:Int).toNat]?=some [.int .i64 (ZO p op text eargs.length n)[j]]:=by
    rw [Yh,Ti,Tj,Tb aq];rfl
   have hμ:((eargs.length:Int) - ((j:Int)+1)).toNat<((eargs.length:Int) - (j:Int)).toNat:=oM;generalize (ZO p op text eargs.length n)[j]=y at ha dz;generalize eargs[j]=e at ha hr eg;obtain ⟨x1,x2,x3,x4,x5⟩:=e;(conv=>whnf);refine ⟨_,oM,hr,wN ?_⟩;refine ⟨_,oM,dz,wN ?_⟩;refine ⟨oM,pl,p,r,vs,more,rfl,hp,.mk x1 x2 x3 x4 x5,rfl,⟨oM,oM⟩,fun f hf=>?_⟩;rw [hf] at ha
   cases f with
   | none =>
    simp only [RtK];(conv=>whnf)
    (repeat (refine ⟨rfl,?_⟩;conv=>whnf))
    refine Zj ?_;exact ⟨⟨j+1,c1,c2,c3,c4,c5,c6,d1,d2,rfl,rfl,oM,aa,ha⟩,hμ⟩
   | some ae =>
   obtain ⟨a,e⟩:=ae;simp only at ha;subst ha;simp only [RtK] at h |-;exact mq51
  exact h.elim
 exact h.elim
def ZcE {p:Pr} {s:Bs} {n:Int} (h:lkM s (JX p)=some n):∃(k:Nat) (d:Re),n=k/\p.rels[k]?=some d/\d.name=s:=by
 exact mq158
def ZbH {p:Pr} {s:Bs} {n:Nat} {k:Nat} {d:Re} (h:lkM s (JX p)=some (k:Int)) (hd:p.rels[k]?=some d):Y7 p s n=if d.fields.length=n then ZF p d.fields else List.replicate n (-1):=by
 simp only [Y7,h,Ti,hd]
def ZfP {p:Pr} {s:Bs} {n:Nat} (h:lkM s (JX p)=none):Y7 p s n=List.replicate n (-1):=by
 simp only [Y7,h]
def ZiF (p:Pr) (s:Bs) (n:Nat):(Y7 p s n).length=n:=by
 unfold Y7
 split
 ·simp
 split
 ·simp
 split
 ·simp [ZF, *]
 simp
def Zqy (m:Nat):Zm:=ZaU fun rest pl p r vs more K=>match rest with
 | [.d (.str name),.d (.sl rows),.func f [.ptr 0 0] []]=>∃args,rows=Zp pl args/\f=35/\(szS szE args<=m/\m<=2097152)/\∀v b,gvEs p args (Y7 p name args.length) (vs,more)=(v,b)->K (.ret (.tuple [])) v b
 | _=>False
def ZBg {m:Nat}:OKw w0 nG [(35,Zyt m),(20,Va)] 34 (Zqy m):=by
 refine pwo Tryz.func34 fun args σ K h=>?_
 unfold Zqy ZaU at h
 split at h
 ·obtain ⟨pl,p,r,vs,more,rfl,hp,h⟩:=h;split at h
  ·rename_i name rows f
   obtain ⟨eargs,rfl,rfl,⟨hz,hm⟩,h⟩:=h;have mh:=ZA szE eargs;have ar:(Zp pl eargs).length=eargs.length:=by rw [Ze,Te]
   refine pwu [(3,⟨[46],[0,3,8,9,44,45],fun w σ=>∃(j:Nat) (v:Vs) (b:Bool),w=[.d (.int .i64 j)]/\σ=⟨ZbG pl p r v b,[],0⟩/\j<=eargs.length /\
     gvEs p (eargs.drop j) ((Y7 p name eargs.length).drop j) (v,b)=gvEs p eargs (Y7 p name eargs.length) (vs,more),
    fun w _=>match w with | [.d (.int _ j)]=>((eargs.length:Int) - j).toNat | _=>0⟩)] 7 false ?_
   have step:∀(j:Nat) (v:Vs) (b:Bool),j<eargs.length->gvEs p (eargs.drop j) ((Y7 p name eargs.length).drop j) (v,b)=gvEs p eargs (Y7 p name eargs.length) (vs,more)->∃(x:Ex) (y:Int),(Zp pl eargs)[(j:Int).toNat]?=some (ZW pl x)/\(Y7 p name eargs.length)[j]?=some y/\szE x<=m /\
     ∀v' b',gvE p x y (v,b)=(v',b')->gvEs p (eargs.drop (j+1)) ((Y7 p name eargs.length).drop (j+1)) (v',b')=gvEs p eargs (Y7 p name eargs.length) (vs,more):=fun j v b ab ha=>by
    have aq:j<(Y7 p name eargs.length).length:=by rw [ZiF];exact ab
    have eg:=ZE szE eargs j ab;rw [Tl ab,Tl aq] at ha;simp only [gvEs] at ha;exact ⟨eargs[j],(Y7 p name eargs.length)[j],by rw [Ze,Ti,Tj,Tb ab];rfl,Tb aq,oM,fun v' b' hg=>by rw [hg] at ha;exact ha⟩
   have fin:∀(j:Nat) (v:Vs) (b:Bool),¬j<eargs.length->gvEs p (eargs.drop j) ((Y7 p name eargs.length).drop j) (v,b)=gvEs p eargs (Y7 p name eargs.length) (vs,more)->K (.ret (.tuple [])) ⟨ZbG pl p r v b,[],0⟩:=fun j v b hn ha=>by
    rw [Tr oM] at ha;exact h v b ha.symm
   conv=>whnf
   refine ZEE (fun v hv=>?_) (fun hv=>wN ?_)
   ·rw [ZQ] at hv;obtain ⟨i,hi,rfl⟩:=TG.1 hv;obtain ⟨k,d,rfl,h2,h3⟩:=ZcE hi;have hr:(p.rels.map (ZN pl))[(k:Int).toNat]?=some (ZN pl d):=by rw [Ti,Tj,h2];rfl
    have hT:=ZbH (n:=eargs.length) hi h2;obtain ⟨d1,d2,d3,d4,d5,d6⟩:=d;simp only at hT;(conv=>whnf);refine ⟨_,oM,hr,wN ?_⟩;refine ⟨⟨0,vs,more,rfl,rfl,oM,rfl⟩,?_⟩
    rintro w σ1 ⟨j,v,b,rfl,rfl,hj,ha⟩
    conv=>whnf
    refine ZEw (fun hc=>?_) (fun hc=>?_);rotate_left
    ·conv=>whnf
     exact fin j v b oM ha
    obtain ⟨⟨x1,x2,x3,x4,x5⟩,y,cj,hy,eg,ik⟩:=step j v b oM ha;have hμ:((eargs.length:Int) - ((j:Int)+1)).toNat<((eargs.length:Int) - (j:Int)).toNat:=oM;(conv=>whnf);refine ⟨_,oM,cj,wN ?_⟩;refine ZEw (fun hq=>?_) (fun hq=>?_)
    ·have hq:d2.length=eargs.length:=by have hq:((d2.map Zn).length:Int)=((Zp pl eargs).length:Int):=hq;rw [Te,ar] at hq;omega
     rw [hT,Th hq,ZF,Tj] at hy;obtain ⟨⟨f1,f2⟩,hf,hy⟩:=TG.1 hy;have dz:(d2.map Zn)[(j:Int).toNat]?=some (Zn ⟨f1,f2⟩):=by rw [Ti,Tj,hf];rfl
     simp only at hy;(conv=>whnf)
     (repeat (refine ⟨rfl,?_⟩;conv=>whnf))
     refine ⟨_,oM,hr,wN ?_⟩
     (repeat (refine ⟨rfl,?_⟩;conv=>whnf))
     refine ⟨_,oM,dz,wN ?_⟩
     (repeat (refine ⟨rfl,?_⟩;conv=>whnf))
     refine ⟨pl,p,rfl,hp.bp,hp.ends,fun n hn=>?_⟩;rw [hy] at hn;subst hn;(conv=>whnf)
     (repeat (refine ⟨rfl,?_⟩;conv=>whnf))
     exact mq59
    have hq:¬d2.length=eargs.length:=by have hq:¬((d2.map Zn).length:Int)=((Zp pl eargs).length:Int):=hq;rw [Te,ar] at hq;omega
    rw [hT,Tf hq,Sj] at hy;split at hy
    ·cases hy
     conv=>whnf
     exact mq59
    cases hy
   rw [ZQ,Option.map_eq_none_iff] at hv;have hT:=ZfP (n:=eargs.length) hv;refine ⟨⟨0,vs,more,rfl,rfl,oM,rfl⟩,?_⟩
   rintro w σ1 ⟨j,v,b,rfl,rfl,hj,ha⟩
   conv=>whnf
   refine ZEw (fun hc=>?_) (fun hc=>?_);rotate_left
   ·conv=>whnf
    exact fin j v b oM ha
   obtain ⟨⟨x1,x2,x3,x4,x5⟩,y,cj,hy,eg,ik⟩:=step j v b oM ha;have hμ:((eargs.length:Int) - ((j:Int)+1)).toNat<((eargs.length:Int) - (j:Int)).toNat:=oM;rw [hT,Sj] at hy;split at hy
   ·cases hy
    conv=>whnf
    refine ⟨_,oM,cj,wN ?_⟩;exact mq59
   cases hy
  exact h.elim
 exact h.elim
def ZfQ (m:Nat):Zm:=ZaU fun rest pl p r vs more K=>match rest with
 | [.d (.sl rows)]=>∃l,rows=Y6 pl l/\(szS szL l<=m/\m<=2097152)/\Zcg l=true/\∀v b,gvLs p l (vs,more)=(v,b)->K (.ret (.tuple [])) v b
 | _=>False
def Zqz {op:Nat} {rel:Bs} {args:List Ex} {body:List Li} {a:Nat} (h:YJ (.mk op rel args body a)=true) (h1:¬op<=2) (h2:op<=8):∃x y,args=[x,y]:=by
 simp only [YJ,YV] at h;rw [Tf oM,Th oM] at h;simp only [Tm,TQ] at h
 match args,h.1.2.1 with
 | [x,y],_=>exact ⟨x,y,rfl⟩
def ZlO {op:Nat} {rel:Bs} {args:List Ex} {body:List Li} {a:Nat} (h:YJ (.mk op rel args body a)=true):Zcg body=true:=by
 simp only [YJ,Tm] at h;exact h.2.2
def ZqA (m:Nat):Tbl:=[(36,spB ZfQ m),(35,Zyt m),(34,Zqy m),(61,Zeg)]
def ZqB {m:Nat} (ht:TO w0 nG (ZqA m)):PC w0 nG 36 (ZfQ m):=by
 refine YF ZC mixed (tbl:=ZqA m) ht Tryz.func36 rfl kR kR ?_;intro args σ K h
 unfold ZfQ ZaU at h
 split at h
 ·obtain ⟨pl,p,r,vs,more,rfl,hp,h⟩:=h;split at h
  ·rename_i rows
   obtain ⟨l,rfl,⟨hz,hm⟩,bo,h⟩:=h;have mh:=ZA szL l;have ar:(Y6 pl l).length=l.length:=by rw [ZD,Te]
   obtain ⟨F,hF⟩:∃F,gvLs p l (vs,more)=F:=⟨_,rfl⟩
   have h:∀v b,F=(v,b)->K (.ret (.tuple [])) ⟨ZbG pl p r v b,[],0⟩:=fun v b g=>h v b (hF.trans g)
   refine ⟨Zk [(1,⟨[11],[0,9,10],fun w σ=>∃(j:Nat) (v:Vs) (b:Bool),w=[.d (.int .i64 j)]/\σ=⟨ZbG pl p r v b,[],0⟩/\j<=l.length/\gvLs p (l.drop j) (v,b)=F,
    fun w _=>match w with | [.d (.int _ j)]=>((l.length:Int) - j).toNat | _=>0⟩),
    (4,⟨[18],[0,5,9,10,11,16,17],fun w σ=>∃(j i op:Nat) (rel:Bs) (eargs:List Ex) (body:List Li) (at':Nat) (v:Vs) (b:Bool),w=[.ptr 0 0,.ptr 7 0,.d (.sl (Y6 pl l)),.d (.int .i64 ((Y6 pl l).length:Nat)),.d (.int .i64 j),.d (.sl (Zp pl eargs)),.d (.int .i64 ((Zp pl eargs).length:Nat)),.d (.int .i64 i)] /\
     σ=⟨ZbG pl p r v b++[.cells 142 ((Xp pl (.mk op rel eargs body at')).map .d)],[],0⟩/\l[j]?=some (.mk op rel eargs body at')/\i<=eargs.length/\(szS szE eargs<=m/\szS szL body+1<=m)/\Zcg body=true /\
     gvLs p (l.drop (j+1)) (gvLs p body (gvEs p (eargs.drop i) (List.replicate (eargs.length - i) 0) (v,b)))=F,
    fun w _=>match w with | [_,_,_,_,_,_,.d (.int _ n),.d (.int _ i)]=>(n - i).toNat | _=>0⟩)],Ye [],ZB [4],7,false,sM,Tc rfl,?_⟩
   conv=>whnf
   refine ⟨⟨0,vs,more,rfl,rfl,oM,hF⟩,?_⟩
   rintro w σ1 ⟨j,v,b,rfl,rfl,hj,ha⟩
   conv=>whnf
   refine ZEw (fun hc=>?_) (fun hc=>?_);rotate_left
   ·conv=>whnf
    rw [Tr oM] at ha;exact h v b ha.symm
   have ab:j<l.length:=oM;have hr:(Y6 pl l)[(j:Int).toNat]?=some (Xp pl l[j]):=by rw [ZD,Ti,Tj,Tb ab];rfl
   have eg:=ZE szL l j ab;have ji:YJ l[j]=true:=by rw [Xj,Tq] at bo;exact bo _ (TE ab)
   rw [Tl ab] at ha;simp only [gvLs] at ha;have hμ:((l.length:Int) - ((j:Int)+1)).toNat<((l.length:Int) - (j:Int)).toNat:=oM;have j7:l[j]?=some l[j]:=Tb ab;generalize l[j]=x at ha hr eg ji j7;obtain ⟨op,rel,eargs,body,at'⟩:=x;simp only [szL,UA,ZgQ] at eg;simp only [gvL] at ha;have ai:=ZA szE eargs;have gl:(Zp pl eargs).length=eargs.length:=by rw [Ze,Te]
   conv=>whnf
   refine ⟨_,oM,hr,wN ?_⟩;refine ZEw (fun h2=>wN ?_) (fun h2=>wN ?_)
   ·have h2:op<=2:=by have h2:(op:Int)<=2:=h2;omega
    rw [Th h2] at ha;refine ⟨pl,p,r,v,b,rfl,hp,eargs,rfl,rfl,⟨oM,hm⟩,fun v' b' hg=>wN ?_⟩;rw [hg] at ha;refine Zj ?_;exact ⟨⟨j+1,v',b',rfl,rfl,oM,ha⟩,hμ⟩
   have h2:¬op<=2:=by have h2:¬(op:Int)<=2:=h2;omega
   rw [Tf h2] at ha;refine ZEw (fun h8=>?_) (fun h8=>wN ?_)
   ·have h8:op<=8:=by have h8:(op:Int)<=8:=h8;omega
    rw [Th h8] at ha;obtain ⟨⟨a1,a2,a3,a4,a5⟩,⟨b1,b2,b3,b4,b5⟩,rfl⟩:=Zqz ji h2 h8;simp only [szS] at eg;(conv=>whnf);refine ⟨pl,p,r,v,b,rfl,hp,op,rel,.mk a1 a2 a3 a4 a5,.mk b1 b2 b3 b4 b5,[],body,at',rfl,fun n hn=>wN ?_⟩;simp only [hn,gvEs] at ha;refine ⟨ZW pl (.mk a1 a2 a3 a4 a5),dM,rfl,wN ?_⟩;refine ⟨pl,p,r,v,b,rfl,hp,.mk a1 a2 a3 a4 a5,rfl,⟨oM,hm⟩,fun v1 b1' hg1=>wN ?_⟩;rw [hg1] at ha;refine ⟨ZW pl (.mk b1 b2 b3 b4 b5),dM,rfl,wN ?_⟩;refine ⟨pl,p,r,v1,b1',rfl,hp,.mk b1 b2 b3 b4 b5,rfl,⟨oM,hm⟩,fun v2 b2' hg2=>wN ?_⟩;rw [hg2] at ha;refine Zj ?_;exact ⟨⟨j+1,v2,b2',rfl,rfl,oM,ha⟩,hμ⟩
   have h8:¬op<=8:=by have h8:¬(op:Int)<=8:=h8;omega
   rw [Tf h8] at ha;refine ⟨⟨j,0,op,rel,eargs,body,at',v,b,rfl,rfl,j7,oM,⟨oM,oM⟩,ZlO ji,ha⟩,?_⟩
   rintro w σ1 ⟨j',i,op',rel',eargs',body',at'',v2,b2,hw,rfl,l0,hi,⟨xz,dc⟩,hmb,iq⟩
   have ej:(some (PV.d (.int .i64 (j:Int))):Option PV)=some (.d (.int .i64 (j':Int))):=congrArg (fun l:List PV=>l[4]?) hw;obtain rfl:j=j':=by have ej:=Option.some.inj ej;injection ej with ej;injection ej with _ ej;omega
   rw [j7] at l0;obtain ⟨rfl,rfl,rfl,rfl,rfl⟩:=Li.mk.inj (Option.some.inj l0);have hw:w=[.d (.int .i64 i)]:=congrArg (List.drop 7) hw;subst hw;(conv=>whnf);refine ZEw (fun bj=>?_) (fun bj=>?_)
   ·have aq:i<eargs.length:=by have bj:(i:Int)<((Zp pl eargs).length:Int):=bj;omega
    have dz:(Zp pl eargs)[(i:Int).toNat]?=some (ZW pl eargs[i]):=by rw [Ze,Ti,Tj,Tb aq];rfl
    have vq:=ZE szE eargs i aq;rw [Tl aq,show eargs.length - i=(eargs.length - (i+1))+1 by omega,List.replicate_succ] at iq;simp only [gvEs] at iq;generalize eargs[i]=e at iq dz vq;obtain ⟨x1,x2,x3,x4,x5⟩:=e;(conv=>whnf);refine ⟨_,oM,dz,wN ?_⟩;refine ⟨pl,p,r,v2,b2,rfl,hp,.mk x1 x2 x3 x4 x5,rfl,⟨oM,hm⟩,fun v' b' hg=>wN ?_⟩;rw [hg] at iq;refine Zj ?_;exact ⟨⟨j,i+1,op,rel,eargs,body,at',v',b',rfl,rfl,j7,oM,⟨xz,dc⟩,hmb,iq⟩,by show (((Zp pl eargs).length:Int) - ((i:Int)+1)).toNat<(((Zp pl eargs).length:Int) - (i:Int)).toNat;omega⟩
   have hii:i=eargs.length:=by have bj:¬(i:Int)<((Zp pl eargs).length:Int):=bj;omega
   subst hii;rw [Su,Nat.sub_self] at iq;simp only [gvEs,List.replicate_zero] at iq;(conv=>whnf);refine ⟨oM,pl,p,r,v2,b2,rfl,hp,body,rfl,⟨oM,oM⟩,hmb,fun v' b' hg=>wN ?_⟩;rw [hg] at iq;refine Zj ?_;exact ⟨⟨j+1,v',b',rfl,rfl,oM,iq⟩,hμ⟩
  exact h.elim
 exact h.elim
def Xn (v:Vs) (x:Bs):Bool:=decide ((lkM x v).getD (-1)=-1)
def ZlP (X:List Bs) (v:Vs):Nat:=X.countP (Xn v)
def Less (X:List Bs) (s s':VS):Prop:=(∀x,Xn s'.1 x=true->Xn s.1 x=true)/\(s'.2=true->s.2=true\/∃x∈X,Xn s.1 x=true/\Xn s'.1 x=false)
def Less.rfl' {X:List Bs} {s:VS}:Less X s s:=⟨fun _ h=>h,fun h=>.inl h⟩
def Less.trans {X:List Bs} {a b c:VS} (h:Less X a b) (k:Less X b c):Less X a c:=by
 refine ⟨fun x hx=>h.1 x (k.1 x hx),fun hc=>?_⟩;rcases k.2 hc with hb | ⟨x,hx,h1,h2⟩
 ·rcases h.2 hb with ha | ⟨x,hx,h1,h2⟩
  ·exact .inl ha
  refine .inr ⟨x,hx,h1,?_⟩
  cases hc':Xn c.1 x with
  | false=>rfl
  | true=>rw [k.1 x hc'] at h2;cases h2
 exact .inr ⟨x,hx,h.1 x h1,h2⟩
def Less.sub {X Y:List Bs} {a b:VS} (h:Less X a b) (hs:∀x∈X,x∈Y):Less Y a b :=
 ⟨h.1,fun hb=>(h.2 hb).imp id fun ⟨x,hx,h1⟩=>⟨x,hs x hx,h1⟩⟩
def ZqC {t:Bs} {n:Int} {s:VS}:Less [t] s (ZtL t n s):=by
 unfold ZtL
 split
 ·rename_i h
  have hu:Xn s.1 t=true:=by
   unfold Xn
   rcases h with h | ⟨h1,_⟩
   ·have:lkM t s.1=none:=by simpa using h
    rw [this];rfl
   cases hl:lkM t s.1 with
   | none=>rfl
   | some v=>rw [hl] at h1;simp at h1;simp [h1]
  refine ⟨fun x hx=>?_,fun hm=>?_⟩
  ·by_cases xn:x=t
   ·subst xn;exact hu
   unfold Xn at hx |-
   simp only [JW,Tf xn] at hx;exact hx
  simp only [Sm,TQ] at hm;rcases hm with hm | hm
  ·exact .inl hm
  refine .inr ⟨t,sM,hu,?_⟩;unfold Xn
  simp only [JW,if_true,Sw];simpa using hm
 exact .rfl'
mutual
def ZtS (p:Pr):∀(e:Ex) (n:Int) (s:VS),Less (nvE e) s (gvE p e n s)
 | .mk op text num args a,n,s=>by
  simp only [gvE,nvE];split
  ·exact ZqC
  exact Vz p args _ s
def Vz (p:Pr):∀(l:List Ex) (ns:List Int) (s:VS),Less (Zrp l) s (gvEs p l ns s)
 | [],_,s=>.rfl'
 | e::l,[],s=>.rfl'
 | e::l,n::ns,s=>by
  simp only [gvEs,Zrp];exact ((ZtS p e n s).sub fun x hx=>List.mem_append_left _ hx).trans ((Vz p l ns _).sub fun x hx=>List.mem_append_right _ hx)
end
mutual
def ZtT (p:Pr):∀(x:Li) (s:VS),Less (nvL x) s (gvL p x s)
 | .mk op rel args body a,s=>by
  simp only [gvL,nvL];split
  ·exact (Vz p args _ s).sub fun x hx=>List.mem_append_left _ hx
  split
  ·exact (Vz p args _ s).sub fun x hx=>List.mem_append_left _ hx
  exact ((Vz p args _ s).sub fun x hx=>List.mem_append_left _ hx).trans ((Zeh p body _).sub fun x hx=>List.mem_append_right _ hx)
def Zeh (p:Pr):∀(l:List Li) (s:VS),Less (ZtN l) s (gvLs p l s)
 | [],s=>.rfl'
 | x::l,s=>by
  simp only [gvLs,ZtN];exact ((ZtT p x s).sub fun y hy=>List.mem_append_left _ hy).trans ((Zeh p l _).sub fun y hy=>List.mem_append_right _ hy)
end
def ZqD {v v':Vs} (h:∀x,Xn v' x=true->Xn v x=true):∀X:List Bs,ZlP X v'<=ZlP X v
 | []=>Tz _
 | x::X=>by
  have ih:=ZqD h X;unfold ZlP at ih |-
  rw [List.countP_cons,List.countP_cons]
  cases h1:Xn v' x with
  | false=>simp;omega
  | true=>rw [h x h1];simpa using ih
def ZuM {v v':Vs} (h:∀x,Xn v' x=true->Xn v x=true):∀{X:List Bs} {x:Bs},x∈X->Xn v x=true->Xn v' x=false->ZlP X v'<ZlP X v
 | y::X,x,hx,h1,h2=>by
  rcases Tv.1 hx with rfl | hx
  ·have:=ZqD h X;unfold ZlP at this |-
   rw [List.countP_cons,List.countP_cons,h1,h2];simp;omega
  have ih:=ZuM h hx h1 h2;unfold ZlP at ih |-
  rw [List.countP_cons,List.countP_cons]
  cases h3:Xn v' y with
  | false=>simp;omega
  | true=>rw [h y h3];simpa using ih
def Znq (p:Pr) (r:Ru) (v:Vs):Less (nvR r) (v,false) (UF p r v):=by
 unfold UF nvR
 exact ((Vz p r.args _ _).sub fun x hx=>List.mem_append_left _ hx).trans ((Zeh p r.body _).sub fun x hx=>List.mem_append_right _ hx)
def ZiG (p:Pr) (r:Ru) (v:Vs):ZlP (nvR r) (UF p r v).1<=ZlP (nvR r) v/\((UF p r v).2=true->ZlP (nvR r) (UF p r v).1<ZlP (nvR r) v):=by
 have h:=Znq p r v;refine ⟨ZqD h.1 _,fun hb=>?_⟩;rcases h.2 hb with h1 | ⟨x,hx,h1,h2⟩
 ·cases h1
 exact ZuM h.1 hx h1 h2
def Zca (p:Pr) (r:Ru):∀(n:Nat) (v:Vs),ZlP (nvR r) v<n->∃w,Vb p r n v=some w
 | 0,v,h=>oM
 | n+1,v,h=>by
  simp only [Vb];split
  ·rename_i hb
   exact Zca p r n _ (by have:=(ZiG p r v).2 hb;omega)
  exact ⟨_,rfl⟩
def ZtU (p:Pr) (r:Ru):Vb p r ((nvR r).length+1) []=some (Vy p r):=by
 obtain ⟨w,hw⟩:=Zca p r ((nvR r).length+1) [] (Nat.lt_succ_of_le List.countP_le_length);unfold Vy
 rw [hw];rfl
def ZBh (X:List Bs) (m:List (Bs×MV)):Nat:=X.countP fun x=>match lkM x m with | some (.one (.int _ n))=>decide (n=-1) | _=>true
def ZqE (X:List Bs) (v:Vs):ZBh X (mvM mvI v)=ZlP X v:=by
 unfold ZBh ZlP
 congr 1
 funext x
 rw [ZQ];unfold Xn
 cases lkM x v with
 | none=>rfl
 | some n=>rfl
abbrev ZDs (pl:Pl) (p:Pr) (r:Ru) (v:Vs) (b:Bool):List Box:=ZeE pl p++[.cells 74 ((ZS pl r).map .d),.dmap (mvM mvI v),.cells 81 [.ptr 0 0,.d (.str r.head),.d (.sl (Zp pl r.args)),.d (.sl (Y6 pl r.body)),.d (.int .i64 (pl r.at')),.mp 6,.d (.bool b)]]
def ZaM (m:Nat):Zm:=fun args σ K=>match args,σ with
 | [.ptr 0 0,.agg c],⟨bx,[],0⟩=>∃pl p r,c=(ZS pl r).map .d/\bx=ZeE pl p/\OKP p/\(ZlE r<=m/\m<=2097152)/\Zcg r.body=true/\K (.ret (.ptr 7 0)) ⟨ZDs pl p r (Vy p r) false,[],0⟩
 | _,_=>False
def ZqG {m:Nat}:OKw w0 nG [(34,Zqy m),(36,ZfQ m)] 21 (ZaM m):=by
 refine pwo Tryz.func21 fun args σ K h=>?_
 unfold ZaM at h
 split at h
 ·obtain ⟨pl,p,⟨head,eargs,body,at'⟩,rfl,rfl,hp,⟨hz,hm⟩,bo,h⟩:=h;simp only [ZlE] at hz;refine pwu [(3,⟨[],[3,5],fun w σ=>∃(v:Vs) (b:Bool),w=[]/\σ=⟨ZDs pl p ⟨head,eargs,body,at'⟩ v b,[],0⟩/\(b=true->∃n,Vb p ⟨head,eargs,body,at'⟩ n v=some (Vy p ⟨head,eargs,body,at'⟩))/\(b=false->v=Vy p ⟨head,eargs,body,at'⟩),
   fun _ σ=>match σ with
    | ⟨_::_::_::_::_::_::.dmap m::.cells _ [_,_,_,_,_,_,.d (.bool b)]::_,_,_⟩=>2 * ZBh (nvR ⟨head,eargs,body,at'⟩) m+(if b=true then 1 else 0)
    | _=>0⟩)] 8 false ?_
  conv=>whnf
  refine ⟨⟨[],true,rfl,rfl,fun _=>⟨_,ZtU _ _⟩,fun h=>by cases h⟩,?_⟩
  rintro w σ1 ⟨v,b,rfl,rfl,h1,h2⟩
  cases b with
  | false =>
   have h2:=h2 rfl;(conv=>whnf);subst h2;exact h
  | true =>
  obtain ⟨n,hn⟩:=h1 rfl
  cases n with
  | zero=>cases hn
  | succ n =>
  simp only [Vb] at hn;(conv=>whnf);refine ⟨pl,p,⟨head,eargs,body,at'⟩,v,false,rfl,hp,eargs,rfl,rfl,⟨oM,hm⟩,fun v1 b1 hg1=>wN ?_⟩;refine ⟨pl,p,⟨head,eargs,body,at'⟩,v1,b1,rfl,hp,body,rfl,⟨oM,hm⟩,bo,fun v2 b2 hg2=>?_⟩;have hr:UF p ⟨head,eargs,body,at'⟩ v=(v2,b2):=by unfold UF;simp only [hg1];exact hg2
  have hc:=ZiG p ⟨head,eargs,body,at'⟩ v;rw [hr] at hn hc;simp only at hn hc;have hμ:2 * ZBh (nvR ⟨head,eargs,body,at'⟩) (mvM mvI v2)+(if b2=true then 1 else 0)<2 * ZBh (nvR ⟨head,eargs,body,at'⟩) (mvM mvI v)+(if true=true then 1 else 0):=by
   rw [ZqE,ZqE]
   cases b2 with
   | true=>have:=hc.2 rfl;simp;omega
   | false=>have:=hc.1;simp;omega
  conv=>whnf
  exact ⟨⟨v2,b2,rfl,rfl,fun hb=>by subst hb;exact ⟨n,by simpa using hn⟩,fun hb=>by subst hb;simpa using hn⟩,hμ⟩
 exact h.elim
def ZtV (m:Nat):Zm:=ZaU fun rest pl p r vs more K=>match rest with
 | [.d (.str name),.d (.sl rows),.func f [.ptr 0 0] []]=>∃args,rows=Zp pl args/\f=93/\(szS szE args<=m/\m<=2097152)/\∀x,ZaS p vs args (Y7 p name args.length)=x->RtK pl K vs more x
 | _=>False
def ZBj {m:Nat}:OKw w0 nG [(93,Zyu m),(20,Va)] 34 (ZtV m):=by
 refine pwo Tryz.func34 fun args σ K h=>?_
 unfold ZtV ZaU at h
 split at h
 ·obtain ⟨pl,p,r,vs,more,rfl,hp,h⟩:=h;split at h
  ·rename_i name rows f
   obtain ⟨eargs,rfl,rfl,⟨hz,hm⟩,h⟩:=h;have mh:=ZA szE eargs;obtain ⟨X,hX⟩:∃X,ZaS p vs eargs (Y7 p name eargs.length)=X:=⟨_,rfl⟩
   have h:=h X hX;have ar:(Zp pl eargs).length=eargs.length:=by rw [Ze,Te]
   refine pwu [(3,⟨[46],[0,3,8,9,44,45],fun w σ=>∃(j:Nat),w=[.d (.int .i64 j)]/\σ=⟨ZbG pl p r vs more,[],0⟩/\j<=eargs.length /\
     ZaS p vs (eargs.drop j) ((Y7 p name eargs.length).drop j)=X,
    fun w _=>match w with | [.d (.int _ j)]=>((eargs.length:Int) - j).toNat | _=>0⟩)] 7 false ?_
   have step:∀(j:Nat),j<eargs.length->ZaS p vs (eargs.drop j) ((Y7 p name eargs.length).drop j)=X->∃(x:Ex) (y:Int),(Zp pl eargs)[(j:Int).toNat]?=some (ZW pl x)/\(Y7 p name eargs.length)[j]?=some y/\szE x<=m /\
     (rtE p vs x y=none->ZaS p vs (eargs.drop (j+1)) ((Y7 p name eargs.length).drop (j+1))=X)/\∀f,rtE p vs x y=some f->X=some f:=fun j ab ha=>by
    have aq:j<(Y7 p name eargs.length).length:=by rw [ZiF];exact ab
    have eg:=ZE szE eargs j ab;rw [Tl ab,Tl aq] at ha;simp only [ZaS] at ha;exact ⟨eargs[j],(Y7 p name eargs.length)[j],by rw [Ze,Ti,Tj,Tb ab];rfl,Tb aq,oM,fun hg=>by rw [hg] at ha;exact ha,fun f hg=>by rw [hg] at ha;exact ha.symm⟩
   have fin:∀(j:Nat),¬j<eargs.length->ZaS p vs (eargs.drop j) ((Y7 p name eargs.length).drop j)=X->K (.ret (.tuple [])) ⟨ZbG pl p r vs more,[],0⟩:=fun j hn ha=>by
    rw [Tr oM] at ha;subst ha;exact h
   conv=>whnf
   refine ZEE (fun v hv=>?_) (fun hv=>wN ?_)
   ·rw [ZQ] at hv;obtain ⟨i,hi,rfl⟩:=TG.1 hv;obtain ⟨k,d,rfl,h2,h3⟩:=ZcE hi;have hr:(p.rels.map (ZN pl))[(k:Int).toNat]?=some (ZN pl d):=by rw [Ti,Tj,h2];rfl
    have hT:=ZbH (n:=eargs.length) hi h2;obtain ⟨d1,d2,d3,d4,d5,d6⟩:=d;simp only at hT;(conv=>whnf);refine ⟨_,oM,hr,wN ?_⟩;refine ⟨⟨0,rfl,rfl,oM,hX⟩,?_⟩
    rintro w σ1 ⟨j,rfl,rfl,hj,ha⟩
    conv=>whnf
    refine ZEw (fun hc=>?_) (fun hc=>?_);rotate_left
    ·conv=>whnf
     exact fin j oM ha
    obtain ⟨⟨x1,x2,x3,x4,x5⟩,y,cj,hy,eg,ik,ct⟩:=step j oM ha;have hμ:((eargs.length:Int) - ((j:Int)+1)).toNat<((eargs.length:Int) - (j:Int)).toNat:=oM;(conv=>whnf);refine ⟨_,oM,cj,wN ?_⟩;refine ZEw (fun hq=>?_) (fun hq=>?_)
    ·have hq:d2.length=eargs.length:=by have hq:((d2.map Zn).length:Int)=((Zp pl eargs).length:Int):=hq;rw [Te,ar] at hq;omega
     rw [hT,Th hq,ZF,Tj] at hy;obtain ⟨⟨f1,f2⟩,hf,hy⟩:=TG.1 hy;have dz:(d2.map Zn)[(j:Int).toNat]?=some (Zn ⟨f1,f2⟩):=by rw [Ti,Tj,hf];rfl
     simp only at hy;(conv=>whnf)
     (repeat (refine ⟨rfl,?_⟩;conv=>whnf))
     refine ⟨_,oM,hr,wN ?_⟩
     (repeat (refine ⟨rfl,?_⟩;conv=>whnf))
     refine ⟨_,oM,dz,wN ?_⟩
     (repeat (refine ⟨rfl,?_⟩;conv=>whnf))
     refine ⟨pl,p,rfl,hp.bp,hp.ends,fun n hn=>?_⟩;rw [hy] at hn;subst hn;(conv=>whnf)
     (repeat (refine ⟨rfl,?_⟩;conv=>whnf))
     exact mq31
    have hq:¬d2.length=eargs.length:=by have hq:¬((d2.map Zn).length:Int)=((Zp pl eargs).length:Int):=hq;rw [Te,ar] at hq;omega
    rw [hT,Tf hq,Sj] at hy;split at hy
    ·cases hy
     conv=>whnf
     exact mq31
    cases hy
   rw [ZQ,Option.map_eq_none_iff] at hv;have hT:=ZfP (n:=eargs.length) hv;refine ⟨⟨0,rfl,rfl,oM,hX⟩,?_⟩
   rintro w σ1 ⟨j,rfl,rfl,hj,ha⟩
   conv=>whnf
   refine ZEw (fun hc=>?_) (fun hc=>?_);rotate_left
   ·conv=>whnf
    exact fin j oM ha
   obtain ⟨⟨x1,x2,x3,x4,x5⟩,y,cj,hy,eg,ik,ct⟩:=step j oM ha;have hμ:((eargs.length:Int) - ((j:Int)+1)).toNat<((eargs.length:Int) - (j:Int)).toNat:=oM;rw [hT,Sj] at hy;split at hy
   ·cases hy
    conv=>whnf
    refine ⟨_,oM,cj,wN ?_⟩;exact mq31
   cases hy
  exact h.elim
 exact h.elim
def ZfR (m:Nat):Zm:=ZaU fun rest pl p r vs more K=>match rest with
 | [.d (.str name),.d (.sl rows),.d (.int .i64 a),.d (.bool hd)]=>∃args an,rows=Zp pl args/\a=pl an/\(szS szE args<=m/\m<=2097152)/\∀x,ZtM p vs name args an hd=x->RtK pl K vs more x
 | _=>False
def Zko (m:Nat):ZL (ZfR m):=Zed fun rest pl p r vs more K K' hK h=>by
 split at h
 ·obtain ⟨e,an,h1,h2,h3,h4⟩:=h;exact ⟨e,an,h1,h2,h3,fun x g=>Zg3 hK (h4 x g)⟩
 exact h.elim
def Zyx {m:Nat}:OKw w0 nG [(34,ZtV m)] 53 (ZfR m):=by
 refine pwo Tryz.func53 fun args σ K h=>?_
 unfold ZfR ZaU at h
 split at h
 ·obtain ⟨pl,p,r,vs,more,rfl,hp,h⟩:=h;split at h
  ·rename_i name rows a hd
   obtain ⟨eargs,an,rfl,rfl,⟨hz,hm⟩,h⟩:=h;have ar:(Zp pl eargs).length=eargs.length:=by rw [Ze,Te]
   simp only [ZtM] at h;refine pwv [] 7 false ?_;refine ZEE (fun v hv=>?_) (fun hv=>?_);rotate_left
   ·rw [ZQ,Option.map_eq_none_iff] at hv;rw [hv] at h;have h:=h _ rfl;simp only [RtK] at h;exact mq51
   rw [ZQ] at hv;obtain ⟨i,hi,rfl⟩:=TG.1 hv;obtain ⟨k,d,rfl,h2,h3⟩:=ZcE hi;have hr:(p.rels.map (ZN pl))[(k:Int).toNat]?=some (ZN pl d):=by rw [Ti,Tj,h2];rfl
   rw [hi] at h;simp only [Ti,h2] at h;obtain ⟨d1,d2,d3,d4,d5,d6⟩:=d;simp only at h;have hb:(hd && d3)=true->K (.panic (Zyv (pl an) 185)) ⟨ZbG pl p r vs more,[],0⟩:=fun g=>by
    have h:=h _ rfl;rw [Th g] at h;exact h
   have h:(hd && d3)=false->∀x,(if d2.length≠eargs.length then some (an,182) else ZaS p vs eargs (Y7 p name eargs.length))=x->RtK pl (fun pe vs' more'=>K pe ⟨ZbG pl p r vs' more',[],0⟩) vs more x:=fun g x hx=>h x (by rw [Tf (by rw [g];simp)];exact hx)
   have rest:(hd && d3)=false->∀(X:Prop),X->X:=fun _ X hX=>hX
   cases hd with
   | true =>
    conv=>whnf
    refine ⟨_,oM,hr,?_⟩
    cases d3 with
    | true =>
     conv=>whnf
     exact hb rfl
    | false =>
    exact mq30
   | false =>
   exact mq30
  exact h.elim
 exact h.elim
def orF (x:Flt) (y:Flt):Flt:=match x with | some f=>some f | none=>y
def Zei (m:Nat):Zm:=ZaU fun rest pl p r vs more K=>match rest with
 | [.d (.sl rows)]=>∃l,rows=Y6 pl l/\(szS szL l<=m/\m<=2097152)/\Zcg l=true/\∀x,Zhp p vs l=x->RtK pl K vs more x
 | _=>False
def Zkp (m:Nat):ZL (Zei m):=Zed fun rest pl p r vs more K K' hK h=>by
 split at h
 ·obtain ⟨e,h1,h2,h3,h4⟩:=h;exact ⟨e,h1,h2,h3,fun x g=>Zg3 hK (h4 x g)⟩
 exact h.elim
def ZqH (m:Nat):Tbl:=[(54,spB Zei m),(93,Zyu m),(53,ZfR m),(61,Zeg)]
def ZqI {m:Nat} (ht:TO w0 nG (ZqH m)):PC w0 nG 54 (Zei m):=by
 refine YF ZC mixed (tbl:=ZqH m) ht Tryz.func54 rfl kR kR ?_;intro args σ K h
 unfold Zei ZaU at h
 split at h
 ·obtain ⟨pl,p,r,vs,more,rfl,hp,h⟩:=h;split at h
  ·rename_i rows
   obtain ⟨l,rfl,⟨hz,hm⟩,bo,h⟩:=h;have mh:=ZA szL l;have ar:(Y6 pl l).length=l.length:=by rw [ZD,Te]
   obtain ⟨X,hX⟩:∃X,Zhp p vs l=X:=⟨_,rfl⟩
   have h:=h X hX;refine ⟨Zk [(1,⟨[11],[0,9,10],fun w σ=>∃(j:Nat),w=[.d (.int .i64 j)]/\σ=⟨ZbG pl p r vs more,[],0⟩/\j<=l.length/\Zhp p vs (l.drop j)=X,
    fun w _=>match w with | [.d (.int _ j)]=>((l.length:Int) - j).toNat | _=>0⟩),
    (4,⟨[18],[0,5,9,10,11,16,17],fun w σ=>∃(j i op:Nat) (rel:Bs) (eargs:List Ex) (body:List Li) (at':Nat),w=[.ptr 0 0,.ptr 7 0,.d (.sl (Y6 pl l)),.d (.int .i64 ((Y6 pl l).length:Nat)),.d (.int .i64 j),.d (.sl (Zp pl eargs)),.d (.int .i64 ((Zp pl eargs).length:Nat)),.d (.int .i64 i)] /\
     σ=⟨ZbG pl p r vs more++[.cells 142 ((Xp pl (.mk op rel eargs body at')).map .d)],[],0⟩/\l[j]?=some (.mk op rel eargs body at')/\i<=eargs.length/\(szS szE eargs<=m/\szS szL body+1<=m)/\Zcg body=true /\
     orF (ZaS p vs (eargs.drop i) (List.replicate (eargs.length - i) 0)) (orF (Zhp p vs body) (Zhp p vs (l.drop (j+1))))=X,
    fun w _=>match w with | [_,_,_,_,_,_,.d (.int _ n),.d (.int _ i)]=>(n - i).toNat | _=>0⟩)],Ye [],ZB [4],7,false,sM,Tc rfl,?_⟩
   conv=>whnf
   refine ⟨⟨0,rfl,rfl,oM,hX⟩,?_⟩
   rintro w σ1 ⟨j,rfl,rfl,hj,ha⟩
   conv=>whnf
   refine ZEw (fun hc=>?_) (fun hc=>?_);rotate_left
   ·conv=>whnf
    rw [Tr oM] at ha;subst ha;exact h
   have ab:j<l.length:=oM;have hr:(Y6 pl l)[(j:Int).toNat]?=some (Xp pl l[j]):=by rw [ZD,Ti,Tj,Tb ab];rfl
   have eg:=ZE szL l j ab;have ji:YJ l[j]=true:=by rw [Xj,Tq] at bo;exact bo _ (TE ab)
   rw [Tl ab] at ha;have ha:orF (rtL p vs l[j]) (Zhp p vs (l.drop (j+1)))=X:=by rw [<- ha];simp only [Zhp];rfl
   have hμ:((l.length:Int) - ((j:Int)+1)).toNat<((l.length:Int) - (j:Int)).toNat:=oM;have j7:l[j]?=some l[j]:=Tb ab;generalize l[j]=x at ha hr eg ji j7;obtain ⟨op,rel,eargs,body,at'⟩:=x;simp only [szL,UA,ZgQ] at eg;simp only [rtL] at ha;have ai:=ZA szE eargs;have gl:(Zp pl eargs).length=eargs.length:=by rw [Ze,Te]
   conv=>whnf
   refine ⟨_,oM,hr,wN ?_⟩;refine ZEw (fun h2=>wN ?_) (fun h2=>wN ?_)
   ·have h2:op<=2:=by have h2:(op:Int)<=2:=h2;omega
    rw [Th h2] at ha;refine ⟨pl,p,r,vs,more,rfl,hp,eargs,at',rfl,rfl,⟨oM,hm⟩,fun f hf=>?_⟩;rw [hf] at ha
    cases f with
    | none =>
     simp only [RtK];(conv=>whnf);exact mq89
    | some ae =>
    exact mq177
   have h2:¬op<=2:=by have h2:¬(op:Int)<=2:=h2;omega
   rw [Tf h2] at ha;refine ZEw (fun h8=>?_) (fun h8=>wN ?_)
   ·have h8:op<=8:=by have h8:(op:Int)<=8:=h8;omega
    rw [Th h8] at ha;obtain ⟨⟨a1,a2,a3,a4,a5⟩,⟨b1,b2,b3,b4,b5⟩,rfl⟩:=Zqz ji h2 h8;simp only [szS] at eg;(conv=>whnf);refine ⟨pl,p,r,vs,more,rfl,hp,op,rel,.mk a1 a2 a3 a4 a5,.mk b1 b2 b3 b4 b5,[],body,at',rfl,fun n hn=>wN ?_⟩;simp only [hn,ZaS] at ha;refine ⟨ZW pl (.mk a1 a2 a3 a4 a5),dM,rfl,wN ?_⟩;refine ⟨pl,p,r,vs,more,rfl,hp,.mk a1 a2 a3 a4 a5,rfl,⟨oM,hm⟩,fun f hf=>?_⟩;rw [hf] at ha
    cases f with
    | some ae =>
     exact mq177
    | none =>
    simp only [RtK];(conv=>whnf);refine ⟨ZW pl (.mk b1 b2 b3 b4 b5),dM,rfl,wN ?_⟩;refine ⟨pl,p,r,vs,more,rfl,hp,.mk b1 b2 b3 b4 b5,rfl,⟨oM,hm⟩,fun f hf=>?_⟩;rw [hf] at ha
    cases f with
    | some ae =>
     exact mq177
    | none =>
    simp only [RtK];simp only at ha;have good:¬(5<=op/\n≠0/\n≠1)->Zhp p vs (l.drop (j+1))=X:=fun g=>by rw [Tf g] at ha;exact ha
    have bad:(5<=op/\n≠0/\n≠1)->K (.panic (Zyv (pl at') 183)) ⟨ZbG pl p r vs more,[],0⟩:=fun g=>by
     rw [Th g] at ha;simp only [orF] at ha;subst ha;exact h
    conv=>whnf
    refine ZEw (fun h5=>wN ?_) (fun h5=>wN ?_)
    ·have h5:5<=op:=by have h5:(5:Int)<=op:=h5;omega
     refine ZEy (fun ek=>wN ?_) (fun ek=>wN ?_)
     ·refine ZEy (fun jf=>wN ?_) (fun jf=>wN ?_)
      ·conv=>whnf
       exact bad ⟨h5,ek,jf⟩
      conv=>whnf
      refine Zj ?_;exact ⟨⟨j+1,rfl,rfl,oM,good (fun g=>g.2.2 jf)⟩,hμ⟩
     conv=>whnf
     refine Zj ?_;exact ⟨⟨j+1,rfl,rfl,oM,good (fun g=>g.2.1 ek)⟩,hμ⟩
    have h5:¬5<=op:=by have h5:¬(5:Int)<=op:=h5;omega
    refine Zj ?_;exact ⟨⟨j+1,rfl,rfl,oM,good (fun g=>h5 g.1)⟩,hμ⟩
   have h8:¬op<=8:=by have h8:¬(op:Int)<=8:=h8;omega
   rw [Tf h8] at ha;have ha:orF (ZaS p vs eargs (List.replicate eargs.length 0)) (orF (Zhp p vs body) (Zhp p vs (l.drop (j+1))))=X:=by
    rw [<- ha];cases ZaS p vs eargs (List.replicate eargs.length 0) <;> rfl
   refine ⟨⟨j,0,op,rel,eargs,body,at',rfl,rfl,j7,oM,⟨oM,oM⟩,ZlO ji,ha⟩,?_⟩
   clear ha
   rintro w σ1 ⟨j',i,op',rel',eargs',body',at'',hw,rfl,l0,hi,⟨xz,dc⟩,hmb,ha⟩
   have ej:(some (PV.d (.int .i64 (j:Int))):Option PV)=some (.d (.int .i64 (j':Int))):=congrArg (fun l:List PV=>l[4]?) hw;obtain rfl:j=j':=by have ej:=Option.some.inj ej;injection ej with ej;injection ej with _ ej;omega
   rw [j7] at l0;obtain ⟨rfl,rfl,rfl,rfl,rfl⟩:=Li.mk.inj (Option.some.inj l0);have hw:w=[.d (.int .i64 i)]:=congrArg (List.drop 7) hw;subst hw;(conv=>whnf);refine ZEw (fun bj=>?_) (fun bj=>?_)
   ·have aq:i<eargs.length:=by have bj:(i:Int)<((Zp pl eargs).length:Int):=bj;omega
    have dz:(Zp pl eargs)[(i:Int).toNat]?=some (ZW pl eargs[i]):=by rw [Ze,Ti,Tj,Tb aq];rfl
    have vq:=ZE szE eargs i aq;rw [Tl aq,show eargs.length - i=(eargs.length - (i+1))+1 by omega,List.replicate_succ] at ha;simp only [ZaS] at ha;generalize eargs[i]=e at ha dz vq;obtain ⟨x1,x2,x3,x4,x5⟩:=e;(conv=>whnf);refine ⟨_,oM,dz,wN ?_⟩;refine ⟨pl,p,r,vs,more,rfl,hp,.mk x1 x2 x3 x4 x5,rfl,⟨oM,hm⟩,fun f hf=>?_⟩;rw [hf] at ha
    cases f with
    | none =>
     simp only [RtK];(conv=>whnf);refine Zj ?_;exact ⟨⟨j,i+1,op,rel,eargs,body,at',rfl,rfl,j7,oM,⟨xz,dc⟩,hmb,ha⟩,by show (((Zp pl eargs).length:Int) - ((i:Int)+1)).toNat<(((Zp pl eargs).length:Int) - (i:Int)).toNat;omega⟩
    | some ae =>
    exact mq177
   have hii:i=eargs.length:=by have bj:¬(i:Int)<((Zp pl eargs).length:Int):=bj;omega
   subst hii;rw [Su,Nat.sub_self] at ha;simp only [ZaS,List.replicate_zero,orF] at ha;(conv=>whnf);refine ⟨oM,pl,p,r,vs,more,rfl,hp,body,rfl,⟨oM,oM⟩,hmb,fun f hf=>?_⟩;rw [hf] at ha
   cases f with
   | none =>
    simp only [RtK];(conv=>whnf);exact mq89
   | some ae =>
   obtain ⟨a,e⟩:=ae;simp only at ha;subst ha;simp only [RtK] at h |-;exact mq51
  exact h.elim
 exact h.elim
abbrev SM:=List (Bs×List (List D))
def ZtW (k:Bs):List D:=[.str k]
def ZuN (M:SM):Ex×Bs->SM
 | (.mk op text _ _ _,k)=>if op=1 then YB text ((lkM text M).getD []++[ZtW k]) M else M
def WO (M:SM) (l:List (Ex×Bs)):SM:=l.foldl ZuN M
def ZqJ (M:SM) (n:Nat):Prop:=∀t rows,lkM t M=some rows->rows.length<=n
def ZlQ {M:SM} {n:Nat} (h:ZqJ M n) (x:Ex×Bs):ZqJ (ZuN M x) (n+1):=by
 obtain ⟨⟨op,text,_,_,_⟩,k⟩:=x;simp only [ZuN];split
 ·intro t rows hr
  rw [JW] at hr;split at hr
  ·cases hr
   rw [Ta]
   cases hl:lkM text M with
   | none=>simp
   | some r=>have:=h _ _ hl;simp;omega
  have:=h _ _ hr;omega
 intro t rows hr;have:=h _ _ hr;omega
def ZaN:∀(l:List (Ex×Bs)) {M:SM} {n:Nat},ZqJ M n->ZqJ (WO M l) (n+l.length)
 | [],M,n,h=>h
 | x::l,M,n,h=>by
  have:=ZaN l (ZlQ h x);rw [Td,show n+(l.length+1)=n+1+l.length by omega];exact this
def ZbI {α:Type} {k:Bs} {u v:α}:∀m:List (Bs×α),YB k v (YB k u m)=YB k v m
 | []=>by simp [YB]
 | (x,y)::l=>by
  simp only [YB]
  by_cases h:k=x
  ·simp [h,YB]
  simp only [decide_eq_false h,YB,ZbI l]
def ZBN:Zm:=fun args σ K=>match args,σ with
 | [.agg c,.d (.str k),.ptr 0 0],⟨[.cells ty [.mp 1],.smap el M none],[],0⟩=>∃pl e,c=(ZW pl e).map .d/\(ty=182/\el=9)/\ZqJ M 1073741824/\K (.ret (.tuple [])) ⟨[.cells ty [.mp 1],.smap el (ZuN M (e,k)) none],[],0⟩
 | _,_=>False
def ZCL:PC w0 nG 95 ZBN:=by
 refine Zoq ZC mixed (tbl:=[]) trivial Tryz.func95 rfl kR kR ?_;intro args σ K h
 unfold ZBN at h
 split at h
 ·rename_i k ty el M
  obtain ⟨pl,⟨op,text,num,eargs,ea⟩,rfl,⟨rfl,rfl⟩,hM,h⟩:=h;refine ⟨Zk [],Ye [],ZB [],ZB [],ZB [2],2,false,sM,Tc rfl,wN ?_⟩;simp only [ZuN] at h;refine ZEw (fun h1=>wN ?_) (fun h1=>wN ?_)
  ·have h1:op=1:=by have h1:(op:Int)=1:=h1;omega
   rw [Th h1] at h;refine ⟨1,text,wN ?_⟩;refine ZEE (fun rows hr=>wN ?_) (fun hr=>wN ?_)
   ·rw [hr] at h;have aa:=hM _ _ hr;refine ⟨rfl,wN ?_⟩;refine ⟨fun r hr=>by simp at hr;subst hr;rfl,by show (rows.length+1) * 16<=140737488355328;omega,by show rows.length+1<=140737488355328;omega,wN ?_⟩
    (repeat (refine ⟨rfl,?_⟩;conv=>whnf))
    rw [<- ZbI (u:=[])] at h;exact h
   rw [hr] at h;refine ⟨rfl,wN ?_⟩;refine ⟨fun r hr=>by simp at hr;subst hr;rfl,by show 1 * 16<=140737488355328;omega,by show 1<=140737488355328;omega,wN ?_⟩
   (repeat (refine ⟨rfl,?_⟩;conv=>whnf))
   rw [<- ZbI (u:=[])] at h;exact h
  have h1:¬op=1:=fun g=>h1 (by simp only [g];rfl)
  rw [Tf h1] at h;exact h
 exact h.elim
abbrev ZtX (pl:Pl) (r:Ru) (more:Bool) (a b:Nat):List PV:=[.ptr a 0,.d (.str r.head),.d (.sl (Zp pl r.args)),.d (.sl (Y6 pl r.body)),.d (.int .i64 (pl r.at')),.mp b,.d (.bool more)]
abbrev Zkq (pl:Pl) (p:Pr) (r:Ru) (vs:Vs) (more:Bool) (kind:Bs):List Box:=[.cells 69 [.ptr 2 0],.cells 9 [.d (.str kind)],.cells 81 (ZtX pl r more 3 4),.cells 98 (Zix pl p 5),.dmap (mvM mvI vs)]++Ziy p
def ZqK:Zm:=fun args σ K=>match args,σ with
 | [.d (.str k),.ptr 0 0,.ptr 1 0],⟨bx,[],0⟩=>∃pl p r vs more kind,bx=Zkq pl p r vs more kind/\OKP p/\∀x,XV p k kind=x->K (.ret (.d (.bool x))) ⟨bx,[],0⟩
 | _,_=>False
def Zyz:OKw w0 nG [(25,Zd8)] 98 ZqK:=by
 refine pwo Tryz.func98 fun args σ K h=>?_
 unfold ZqK at h
 split at h
 ·obtain ⟨pl,p,r,vs,more,kind,rfl,hp,h⟩:=h;refine pwv [] 9 false ?_;refine ⟨pl,p,rfl,hp.bp,fun x hx=>wN ?_⟩
  (repeat (refine ⟨rfl,?_⟩;conv=>whnf))
  exact h x hx
 exact h.elim
def ZqL:Zm:=fun args σ K=>match args,σ with
 | [.d (.sl rows),.func g [] [.ptr 0 0,.ptr 1 0]],⟨bx,[],0⟩=>∃pl p r vs more kind,∃l:List Bs,bx=Zkq pl p r vs more kind/\rows=l.map ZtW/\(g=98/\OKP p/\l.length<=1073741824)/\∀i,Zke (fun k=>XV p k kind) 0 l=i->K (.ret (.d (.int .i64 i))) ⟨bx,[],0⟩
 | [.sl 0 _ [],.func g [] [.ptr 0 0,.ptr 1 0]],⟨bx,[0],1⟩=>∃pl p r vs more kind,bx=Zkq pl p r vs more kind/\K (.ret (.d (.int .i64 (-1)))) ⟨bx,[],0⟩
 | _,_=>False
def ZyB:OKw w0 nG [(98,ZqK)] 166 ZqL:=by
 refine pwo Tryz.func166 fun args σ K h=>?_
 unfold ZqL at h
 split at h
 ·obtain ⟨pl,p,r,vs,more,kind,l,rfl,rfl,⟨rfl,hp,aa⟩,h⟩:=h;have hl:(l.map ZtW).length=l.length:=Te ..;refine pwu [(2,⟨[8],[0,1,7],fun w σ=>∃j:Nat,w=[.d (.int .i64 j)]/\σ=⟨Zkq pl p r vs more kind,[],0⟩/\j<=l.length/\Zke (fun k=>XV p k kind) j (l.drop j)=Zke (fun k=>XV p k kind) 0 l,
   fun w _=>match w with | [.d (.int _ j)]=>((l.length:Int) - j).toNat | _=>0⟩)] 9 false ?_
  conv=>whnf
  refine ⟨⟨0,rfl,rfl,oM,rfl⟩,?_⟩
  rintro w σ1 ⟨j,rfl,rfl,hj,ha⟩
  conv=>whnf
  refine ZEw (fun hc=>?_) (fun hc=>?_);rotate_left
  ·conv=>whnf
   rw [Tr oM] at ha;exact h (-1) ha.symm
  have ab:j<l.length:=oM;rw [Tl ab] at ha;have hr:(l.map ZtW)[(j:Int).toNat]?=some (ZtW l[j]):=by rw [Ti,Tj,Tb ab];rfl
  generalize l[j]=x at ha hr;(conv=>whnf);refine ⟨_,oM,hr,wN ?_⟩;refine ⟨pl,p,r,vs,more,kind,rfl,hp,fun b hb=>?_⟩;exact mq35
 ·obtain ⟨pl,p,r,vs,more,kind,rfl,h⟩:=h;refine pwv [(2,⟨[8],[0,1,7],fun w σ=>w=[.d (.int .i64 0)]/\σ=⟨Zkq pl p r vs more kind,[],0⟩,fun _ _=>0⟩)] 9 false ?_;refine ⟨⟨rfl,rfl⟩,?_⟩
  rintro w σ1 ⟨rfl,rfl⟩
  exact mq51
 exact h.elim
def ZqM:Zm:=fun args σ K=>match args,σ with
 | [.d (.sl rows),.func g [] [.ptr 0 0,.ptr 1 0]],⟨bx,[],0⟩=>∃pl p r vs more kind,∃l:List Bs,bx=Zkq pl p r vs more kind/\rows=l.map ZtW/\(g=98/\OKP p/\l.length<=1073741824)/\∀b,(l.any fun k=>XV p k kind)=b->K (.ret (.d (.bool b))) ⟨bx,[],0⟩
 | [.sl 0 _ [],.func g [] [.ptr 0 0,.ptr 1 0]],⟨bx,[0],1⟩=>∃pl p r vs more kind,bx=Zkq pl p r vs more kind/\K (.ret (.d (.bool false))) ⟨bx,[],0⟩
 | _,_=>False
def ZyD:OKw w0 nG [(166,ZqL)] 97 ZqM:=by
 refine pwo Tryz.func97 fun args σ K h=>?_
 unfold ZqM at h
 split at h
 ·obtain ⟨pl,p,r,vs,more,kind,l,rfl,rfl,hc,h⟩:=h;refine pwv [] 9 false ?_;refine ⟨pl,p,r,vs,more,kind,l,rfl,rfl,hc,fun i hi=>wN ?_⟩;exact h _ (by rw [Bool.eq_iff_iff,decide_eq_true_iff,<- hi];exact (ZgY l 0).symm)
 ·obtain ⟨pl,p,r,vs,more,kind,rfl,h⟩:=h;refine pwv [] 9 false ?_;refine ⟨pl,p,r,vs,more,kind,rfl,wN ?_⟩;exact h
 exact h.elim
def h2T (p:Pr) (kn:List (Bs×Bs)):Ex×Bs->Flt
 | (.mk op text _ _ a,k)=>if (X0 p k).isSome=true/\(8<=op\/(op=1/\(kn.any fun y=>decide (y.1=text) && XV p y.2 k)=false)) then some (a,183) else none
def ZCM (M:SM) (kn:List (Bs×Bs)):Prop:=kn.length<=1073741824/\∀t,(lkM t M).getD []=(kn.filter fun y=>decide (y.1=t)).map fun y=>ZtW y.2
abbrev ZCN (pl:Pl) (p:Pr) (r:Ru) (vs:Vs) (more:Bool) (M:SM):List Box:=[.cells 69 [.ptr 2 0],.cells 182 [.mp 3],.cells 81 (ZtX pl r more 4 5),.smap 9 M none,.cells 98 (Zix pl p 6),.dmap (mvM mvI vs)]++Ziy p
def FlK (pl:Pl) (K:PEnd->St->Prop) (σ:St):Flt->Prop
 | none=>K (.ret (.tuple [])) σ
 | some (a,e)=>K (.panic (Zyv (pl a) e)) σ
def ZBO:Zm:=fun args σ K=>match args,σ with
 | [.agg c,.d (.str kind),.ptr 0 0,.ptr 1 0],⟨bx,[],0⟩=>∃pl p r vs more M kn e,c=(ZW pl e).map .d/\bx=ZCN pl p r vs more M/\OKP p/\ZCM M kn/\∀x,h2T p kn (e,kind)=x->FlK pl K ⟨bx,[],0⟩ x
 | _,_=>False
def ZuO {p:Pr} {kn:List (Bs×Bs)} {t k:Bs}:((kn.filter fun y=>decide (y.1=t)).map (·.2)).any (fun y=>XV p y k)=kn.any fun y=>decide (y.1=t) && XV p y.2 k:=by
 rw [List.any_map,List.any_filter];rfl
def ZCP:OKw w0 nG [(33,ZfG),(97,ZqM)] 96 ZBO:=by
 refine pwo Tryz.func96 fun args σ K h=>?_
 unfold ZBO at h
 split at h
 ·rename_i kind bx
  obtain ⟨pl,p,r,vs,more,M,kn,⟨op,text,num,eargs,ea⟩,rfl,rfl,hp,⟨fm,be⟩,h⟩:=h;have good:¬((X0 p kind).isSome=true/\(8<=op\/(op=1/\(kn.any fun y=>decide (y.1=text) && XV p y.2 kind)=false)))->K (.ret (.tuple [])) ⟨ZCN pl p r vs more M,[],0⟩:=fun g=>h none (by simp only [h2T];rw [Tf g])
  have bad:((X0 p kind).isSome=true/\(8<=op\/(op=1/\(kn.any fun y=>decide (y.1=text) && XV p y.2 kind)=false)))->K (.panic (Zyv (pl ea) 183)) ⟨ZCN pl p r vs more M,[],0⟩:=fun g=>h (some (ea,183)) (by simp only [h2T];rw [Th g])
  clear h
  refine pwv [] 10 false ?_;refine ⟨pl,p,rfl,hp.bp,fun x hx=>wN ?_⟩
  (repeat (refine ⟨rfl,?_⟩;conv=>whnf))
  refine ZEE (fun rows hr=>wN ?_) (fun hr=>wN ?_)
  ·have cj:=be text;rw [hr] at cj;have cj:rows=((kn.filter fun y=>decide (y.1=text)).map (·.2)).map ZtW:=by rw [SH];exact cj
   refine ⟨pl,p,r,vs,more,kind,_,rfl,cj,⟨rfl,hp,by rw [Te];have:=List.length_filter_le (fun y:Bs×Bs=>decide (y.1=text)) kn;omega⟩,fun b hb=>?_⟩;rw [ZuO] at hb;rw [hx,hb] at good bad;generalize x.isSome=sub at good bad |-
   cases sub <;> cases b
   all_goals repeat' ((conv=>whnf);first | refine ZEw (fun hc=>?_) (fun hc=>?_) | refine ZEy (fun hc=>?_) (fun hc=>?_))
   all_goals (conv=>whnf)
   all_goals first
    | (exfalso;omega)
    | exact bad ⟨rfl,by first | (left;omega) | (right;exact ⟨oM,rfl⟩)⟩
    | exact good (fun g=>by first | exact Bool.noConfusion g.1 | (rcases g.2 with g | g <;> first | omega | exact Bool.noConfusion g.2))
  have cj:=be text;rw [hr] at cj;have d8:kn.filter (fun y=>decide (y.1=text))=[]:=by
   cases hf:kn.filter (fun y=>decide (y.1=text)) with
   | nil=>rfl
   | cons y l=>rw [hf] at cj;simp at cj
  have hb:(kn.any fun y=>decide (y.1=text) && XV p y.2 kind)=false:=by rw [<- ZuO,d8];rfl
  rw [hx,hb] at good bad;obtain ⟨b,l8⟩:∃b:Bool,b=false:=⟨_,rfl⟩
  refine ⟨pl,p,r,vs,more,kind,rfl,?_⟩
  clear l8 b
  generalize d0:false=b at good bad;generalize x.isSome=sub at good bad |-
  cases sub <;> cases b <;> first | (cases d0;done) | skip
  all_goals repeat' ((conv=>whnf);first | refine ZEw (fun hc=>?_) (fun hc=>?_) | refine ZEy (fun hc=>?_) (fun hc=>?_))
  all_goals (conv=>whnf)
  all_goals first
   | (exfalso;omega)
   | exact bad ⟨rfl,by first | (left;omega) | (right;exact ⟨oM,rfl⟩)⟩
   | exact good (fun g=>by first | exact Bool.noConfusion g.1 | (rcases g.2 with g | g <;> first | omega | exact Bool.noConfusion g.2))
 exact h.elim
def ZcF {p:Pr} {vs:Vs}:∀{l:List Ex} {ns:List Int} {j:Nat} {e:Ex} {n:Int},ZaS p vs l ns=none->l[j]?=some e->ns[j]?=some n->rtE p vs e n=none
 | [],_,j,e,n,h,h1,h2=>by simp at h1
 | x::l,[],j,e,n,h,h1,h2=>by simp at h2
 | x::l,y::ns,j,e,n,h,h1,h2=>by
  simp only [ZaS] at h
  cases hx:rtE p vs x y with
  | some f=>rw [hx] at h;cases h
  | none =>
  rw [hx] at h
  cases j with
  | zero=>simp at h1 h2;subst h1;subst h2;exact hx
  | succ j=>exact ZcF h (by simpa using h1) (by simpa using h2)
def Zcb {p:Pr} {vs:Vs} {op:Nat} {text:Bs} {num:Int} {args:List Ex} {a:Nat} {kind:Bs} (h:rtE p vs (.mk op text num args a) (Xm p kind)=none) :
  (op=7->∃(i k:Nat) (t:Ty) (c:Ca),lkM text (Xc p)=some ((i:Int),(k:Int))/\p.types[i]?=some t/\t.cases[k]?=some c/\YA p op text kind=c.fields/\c.fields.length=args.length) /\
  (op=6->∃t,Zg2 p (Xm p kind)=some t/\YA p op text kind=t.fields/\t.fields.length=args.length) /\
  (op≠7->op≠6->YA p op text kind=[]) /\
  ∀(j:Nat) (e:Ex) (f:Fi),args[j]?=some e->(YA p op text kind)[j]?=some f->rtE p vs e (Xm p f.typ)=none:=by
 simp only [rtE] at h;split at h
 ·cases h
 rename_i h1
 split at h
 ·cases h
 rename_i h2
 split at h
 ·cases h
 rename_i h3
 have h3:(ZO p op text args.length (Xm p kind)).length=args.length:=Decidable.of_not_not h3;refine ⟨fun h7=>?_,fun h6=>?_,fun h7 h6=>?_,fun j e f he hf=>?_⟩
 ·cases hl:lkM text (Xc p) with
  | none=>exact absurd ⟨h7,by rw [hl];rfl⟩ h1
  | some v =>
  obtain ⟨i,k,t,c,rfl,g2,g3,g4⟩:=Zee hl;have hp:ZO p op text args.length (Xm p kind)=ZF p c.fields:=by simp only [ZO,Th h7,g4]
  rw [hp] at h3;refine ⟨i,k,t,c,rfl,g2,g3,?_,by simpa [ZF] using h3⟩;simp only [YA,Th h7,g4]
 ·cases hr:Zg2 p (Xm p kind) with
  | none=>exact absurd (.inr (.inl ⟨.inl h6,by rw [hr];rfl⟩)) h2
  | some t =>
  have h7:¬op=7:=oM;have hp:ZO p op text args.length (Xm p kind)=ZF p t.fields:=by simp only [ZO,Tf h7,Th h6,hr]
  rw [hp] at h3;refine ⟨t,rfl,?_,by simpa [ZF] using h3⟩;simp only [YA,Tf h7,Th h6,hr]
 ·simp only [YA,Tf h7,Tf h6]
 have hp:(YA p op text kind).length≠0->ZO p op text args.length (Xm p kind)=ZF p (YA p op text kind):=fun ai=>by
  unfold YA at ai |-
  unfold ZO
  by_cases h7:op=7
  ·simp only [Th h7] at ai |-
   cases hc:ZiB p text with
   | none=>rw [hc] at ai;simp at ai
   | some tc=>rfl
  simp only [Tf h7] at ai |-
  by_cases h6:op=6
  ·simp only [Th h6] at ai |-
   cases hr:Zg2 p (Xm p kind) with
   | none=>rw [hr] at ai;simp at ai
   | some t=>rfl
  simp only [Tf h6] at ai;simp at ai
 have ai:(YA p op text kind).length≠0:=fun h0=>by
  have:=(Tk.1 hf).1;omega
 rw [hp ai] at h;exact ZcF h he (by rw [ZF,Tj,hf];rfl)
mutual
def Zg4 (p:Pr):∀(e:Ex) (kind:Bs),(wiE p e kind).length<=szE e
 | .mk op text n args a,kind=>by
  simp only [wiE,Td,szE];have:=Zg5 p args (YA p op text kind);omega
def Zg5 (p:Pr):∀(l:List Ex) (fs:List Fi),(ZaT p l fs).length<=Zy6 l
 | [],fs=>by simp [ZaT]
 | e::l,[]=>by simp [ZaT]
 | e::l,f::fs=>by
  simp only [ZaT,Ta,Zy6];have:=Zg4 p e f.typ;have:=Zg5 p l fs;omega
end
def ZcG {α:Type} {f:α->Nat} {l:List α} {j:Nat} {x:α} (h:l[j]?=some x):szS f (l.drop j)=1+f x+szS f (l.drop (j+1)):=by
 have hj:=(Tk.1 h).1;rw [Tl hj,szS];rw [Tb hj] at h
 cases h;rfl
def W4 {p:Pr} {kn:List (Bs×Bs)}:∀(a b:List (Ex×Bs)),Ub p kn (a++b)=orF (Ub p kn a) (Ub p kn b)
 | [],b=>rfl
 | (.mk op text _ _ at',k)::a,b=>by
  simp only [Sb,Ub];split
  ·rfl
  exact W4 a b
def Znr {p:Pr} {kn:List (Bs×Bs)} (x:Ex×Bs) (l:List (Ex×Bs)):Ub p kn (x::l)=orF (h2T p kn x) (Ub p kn l):=by
 obtain ⟨⟨op,text,n,args,a⟩,k⟩:=x;simp only [Ub,h2T];split <;> rfl
abbrev ZqN (pl:Pl) (p:Pr) (r:Ru) (vs:Vs) (more:Bool) (M:SM):List Box:=[.cells 81 (ZtX pl r more 2 3),.cells 182 [.mp 4],.cells 98 (Zix pl p 5),.dmap (mvM mvI vs),.smap 9 M none]++Ziy p
abbrev ZtY (pl:Pl) (p:Pr) (r:Ru) (vs:Vs) (more:Bool) (M:SM):List Box:=[.cells 81 (ZtX pl r more 3 4),.cells 69 [.ptr 0 0],.cells 182 [.mp 5],.cells 98 (Zix pl p 6),.dmap (mvM mvI vs),.smap 9 M none]++Ziy p
def Zns (m:Nat):Zm:=fun args σ K=>match args,σ with
 | [.ptr 0 0,.agg c,.d (.str kind),.func f [] [.ptr 1 0]],⟨bx,[],0⟩=>∃pl p r vs more e M n,c=(ZW pl e).map .d/\f=95/\bx=ZqN pl p r vs more M/\OKP p/\(szE e<=m/\m<=2097152)/\rtE p vs e (Xm p kind)=none/\(ZqJ M n/\n+szE e<=1073741824)/\K (.ret (.tuple [])) ⟨ZqN pl p r vs more (WO M (wiE p e kind)),[],0⟩
 | _,_=>False
def ZuP {m:Nat}:OKw w0 nG [(94,spB Zns m),(95,ZBN),(20,Va),(109,Zkn)] 94 (Zns m):=by
 refine pwo Tryz.func94 fun args σ K h=>?_
 unfold Zns at h
 split at h
 ·rename_i c kind f bx
  obtain ⟨pl,p,r,vs,more,⟨op,text,num,eargs,ea⟩,M,n,rfl,rfl,rfl,hp,⟨hz,hm⟩,we,⟨hM,hn⟩,h⟩:=h;simp only [wiE] at h;obtain ⟨F,hF⟩:∃F,WO M ((.mk op text num eargs ea,kind)::ZaT p eargs (YA p op text kind))=F:=⟨_,rfl⟩
  rw [hF] at h;have hM1:=ZlQ hM (.mk op text num eargs ea,kind);have hF:WO (ZuN M (.mk op text num eargs ea,kind)) (ZaT p eargs (YA p op text kind))=F:=hF;have ar:(Zp pl eargs).length=eargs.length:=by rw [Ze,Te]
  simp only [szE,UA] at hz hn;have mh:=ZA szE eargs;obtain ⟨r7,r6,r0,rk⟩:=Zcb we;obtain ⟨fs,rq⟩:∃fs,YA p op text kind=fs:=⟨_,rfl⟩
  rw [rq] at r7 r6 r0 rk hF
  by_cases h7:op=7
  ·obtain ⟨i0,k0,t,c,hl,h2,h3,g1,g2⟩:=r7 h7;have hr:(p.types.map (Zq pl))[(i0:Int).toNat]?=some (Zq pl t):=by rw [Ti,Tj,h2];rfl
   have dz:(t.cases.map Zt)[(k0:Int).toNat]?=some (Zt c):=by rw [Ti,Tj,h3];rfl
   obtain ⟨t1,t2,t3,t4,t5,t6⟩:=t;obtain ⟨c1,c2⟩:=c;simp only at g1 g2;obtain rfl:fs=c2:=g1;refine pwu [(11,⟨[67],[0,3,5,65,66],fun w σ=>∃(j n1:Nat) (M1:SM),w=[.d (.int .i64 j)]/\σ=⟨ZqN pl p r vs more M1++[.cells 138 ((ZW pl (.mk op text num eargs ea)).map .d),.cells 111 [.d (.int .i64 i0),.d (.int .i64 k0)]],[],0⟩/\j<=eargs.length/\(ZqJ M1 n1/\n1+szS szE (eargs.drop j)<=1073741824)/\WO M1 (ZaT p (eargs.drop j) (fs.drop j))=F,
    fun w _=>match w with | [.d (.int _ j)]=>((eargs.length:Int) - j).toNat | _=>0⟩)] 9 false ?_
   conv=>whnf
   refine ⟨pl,.mk op text num eargs ea,rfl,⟨rfl,rfl⟩,fun t rows hr=>by have:=hM t rows hr;omega,wN ?_⟩;refine ZEw (fun jr=>?_) (fun jr=>absurd (show (op:Int)=7 by omega) jr);(conv=>whnf);refine optK.yes (by rw [ZQ,hl];rfl) (wN ?_)
   (repeat (refine ⟨rfl,?_⟩;conv=>whnf))
   refine ⟨dM,dM,wN ?_⟩;refine ⟨_,oM,hr,wN ?_⟩;refine ⟨dM,dM,wN ?_⟩;refine ⟨_,oM,dz,wN ?_⟩;exact mq9
  by_cases h6:op=6
  ·obtain ⟨t0,og,g1,g2⟩:=r6 h6;refine pwu [(11,⟨[67],[0,3,5,65,66],fun w σ=>∃(j n1:Nat) (M1:SM),w=[.d (.int .i64 j)]/\σ=⟨ZqN pl p r vs more M1++[.cells 138 ((ZW pl (.mk op text num eargs ea)).map .d),.cells 56 ((Zq pl t0).map .d)],[],0⟩/\j<=eargs.length/\(ZqJ M1 n1/\n1+szS szE (eargs.drop j)<=1073741824)/\WO M1 (ZaT p (eargs.drop j) (fs.drop j))=F,
    fun w _=>match w with | [.d (.int _ j)]=>((eargs.length:Int) - j).toNat | _=>0⟩)] 9 false ?_
   conv=>whnf
   refine ⟨pl,.mk op text num eargs ea,rfl,⟨rfl,rfl⟩,fun t rows hr=>by have:=hM t rows hr;omega,wN ?_⟩;refine ZEw (fun jr=>absurd (show op=7 by have jr:(op:Int)=7:=jr;omega) h7) (fun jr=>wN ?_);refine ZEw (fun n8=>?_) (fun n8=>absurd (show (op:Int)=6 by omega) n8);(conv=>whnf);refine ⟨pl,p,rfl,hp.bp,hp.ends,fun n6 hn6=>?_⟩;subst hn6;(conv=>whnf);refine ⟨pl,p,r,vs,more,rfl,hp,fun t6 rh=>?_,fun rh=>by rw [og] at rh;cases rh⟩;obtain rfl:t0=t6:=Option.some.inj (og.symm.trans rh);obtain ⟨t1,t2,t3,t4,t5,t6⟩:=t0;simp only at g1 g2;obtain rfl:fs=t4:=g1;(conv=>whnf);exact mq9
  skip
  refine pwu [(11,⟨[67],[0,3,5,65,66],fun w σ=>∃(j n1:Nat) (M1:SM),w=[.d (.int .i64 j)]/\σ=⟨ZqN pl p r vs more M1++[.cells 138 ((ZW pl (.mk op text num eargs ea)).map .d)],[],0⟩/\j<=eargs.length/\(ZqJ M1 n1/\n1+szS szE (eargs.drop j)<=1073741824)/\WO M1 (ZaT p (eargs.drop j) (fs.drop j))=F,
   fun w _=>match w with | [.d (.int _ j)]=>((eargs.length:Int) - j).toNat | _=>0⟩)] 9 false ?_
  conv=>whnf
  refine ⟨pl,.mk op text num eargs ea,rfl,⟨rfl,rfl⟩,fun t rows hr=>by have:=hM t rows hr;omega,wN ?_⟩;refine ZEw (fun jr=>absurd (show op=7 by have jr:(op:Int)=7:=jr;omega) h7) (fun jr=>wN ?_);refine ZEw (fun n8=>absurd (show op=6 by have n8:(op:Int)=6:=n8;omega) h6) (fun n8=>wN ?_);have h0:fs=[]:=r0 h7 h6;subst h0;refine ⟨⟨0,n+1,_,rfl,rfl,oM,⟨hM1,by rw [Sn];omega⟩,hF⟩,?_⟩
  rintro w σ1 ⟨j,n1,M1,rfl,rfl,hj,⟨wg,lm⟩,ha⟩
  have ha:M1=F:=by
   exact mq149
  subst ha;exact mq51
 exact h.elim
def Znt (m:Nat):Zm:=fun args σ K=>match args,σ with
 | [.ptr 0 0,.agg c,.d (.str kind),.func f [] [.ptr 1 0,.ptr 2 0]],⟨bx,[],0⟩=>∃pl p r vs more e M kn,c=(ZW pl e).map .d/\f=96/\bx=ZtY pl p r vs more M/\OKP p/\(szE e<=m/\m<=2097152)/\rtE p vs e (Xm p kind)=none/\ZCM M kn/\∀x,Ub p kn (wiE p e kind)=x->FlK pl K ⟨bx,[],0⟩ x
 | _,_=>False
def ZuQ {m:Nat}:OKw w0 nG [(94,spB Znt m),(96,ZBO),(20,Va),(109,Zkn)] 94 (Znt m):=by
 refine pwo Tryz.func94 fun args σ K h=>?_
 unfold Znt at h
 split at h
 ·rename_i c kind f bx
  obtain ⟨pl,p,r,vs,more,⟨op,text,num,eargs,ea⟩,M,kn,rfl,rfl,rfl,hp,⟨hz,hm⟩,we,mc,h⟩:=h;simp only [wiE] at h;obtain ⟨X,hX⟩:∃X,Ub p kn ((.mk op text num eargs ea,kind)::ZaT p eargs (YA p op text kind))=X:=⟨_,rfl⟩
  have h:=h X hX;rw [Znr] at hX;have ar:(Zp pl eargs).length=eargs.length:=by rw [Ze,Te]
  simp only [szE,UA] at hz;have mh:=ZA szE eargs;obtain ⟨r7,r6,r0,rk⟩:=Zcb we;obtain ⟨fs,rq⟩:∃fs,YA p op text kind=fs:=⟨_,rfl⟩
  rw [rq] at r7 r6 r0 rk hX
  by_cases h7:op=7
  ·obtain ⟨i0,k0,t,c,hl,h2,h3,g1,g2⟩:=r7 h7;have hr:(p.types.map (Zq pl))[(i0:Int).toNat]?=some (Zq pl t):=by rw [Ti,Tj,h2];rfl
   have dz:(t.cases.map Zt)[(k0:Int).toNat]?=some (Zt c):=by rw [Ti,Tj,h3];rfl
   obtain ⟨t1,t2,t3,t4,t5,t6⟩:=t;obtain ⟨c1,c2⟩:=c;simp only at g1 g2;obtain rfl:fs=c2:=g1;refine pwu [(11,⟨[67],[0,3,5,65,66],fun w σ=>∃(j:Nat),w=[.d (.int .i64 j)]/\σ=⟨ZtY pl p r vs more M++[.cells 138 ((ZW pl (.mk op text num eargs ea)).map .d),.cells 111 [.d (.int .i64 i0),.d (.int .i64 k0)]],[],0⟩/\j<=eargs.length/\Ub p kn (ZaT p (eargs.drop j) (fs.drop j))=X,
    fun w _=>match w with | [.d (.int _ j)]=>((eargs.length:Int) - j).toNat | _=>0⟩)] 10 false ?_
   conv=>whnf
   refine ⟨pl,p,r,vs,more,M,kn,.mk op text num eargs ea,rfl,rfl,hp,mc,fun y hy=>?_⟩;rw [hy] at hX
   cases y with
   | some ae =>
    exact mq185
   | none =>
   simp only [FlK,orF] at hX |-;(conv=>whnf);refine ZEw (fun jr=>?_) (fun jr=>absurd (show (op:Int)=7 by omega) jr);(conv=>whnf);refine optK.yes (by rw [ZQ,hl];rfl) (wN ?_)
   (repeat (refine ⟨rfl,?_⟩;conv=>whnf))
   refine ⟨dM,dM,wN ?_⟩;refine ⟨_,oM,hr,wN ?_⟩;refine ⟨dM,dM,wN ?_⟩;refine ⟨_,oM,dz,wN ?_⟩;exact mq11
  by_cases h6:op=6
  ·obtain ⟨t0,og,g1,g2⟩:=r6 h6;refine pwu [(11,⟨[67],[0,3,5,65,66],fun w σ=>∃(j:Nat),w=[.d (.int .i64 j)]/\σ=⟨ZtY pl p r vs more M++[.cells 138 ((ZW pl (.mk op text num eargs ea)).map .d),.cells 56 ((Zq pl t0).map .d)],[],0⟩/\j<=eargs.length/\Ub p kn (ZaT p (eargs.drop j) (fs.drop j))=X,
    fun w _=>match w with | [.d (.int _ j)]=>((eargs.length:Int) - j).toNat | _=>0⟩)] 10 false ?_
   conv=>whnf
   refine ⟨pl,p,r,vs,more,M,kn,.mk op text num eargs ea,rfl,rfl,hp,mc,fun y hy=>?_⟩;rw [hy] at hX
   cases y with
   | some ae =>
    exact mq185
   | none =>
   simp only [FlK,orF] at hX |-;(conv=>whnf);refine ZEw (fun jr=>absurd (show op=7 by have jr:(op:Int)=7:=jr;omega) h7) (fun jr=>wN ?_);refine ZEw (fun n8=>?_) (fun n8=>absurd (show (op:Int)=6 by omega) n8);(conv=>whnf);refine ⟨pl,p,rfl,hp.bp,hp.ends,fun n6 hn6=>?_⟩;subst hn6;(conv=>whnf);refine ⟨pl,p,r,vs,more,rfl,hp,fun t6 rh=>?_,fun rh=>by rw [og] at rh;cases rh⟩;obtain rfl:t0=t6:=Option.some.inj (og.symm.trans rh);obtain ⟨t1,t2,t3,t4,t5,t6⟩:=t0;simp only at g1 g2;obtain rfl:fs=t4:=g1;(conv=>whnf);exact mq11
  skip
  refine pwu [(11,⟨[67],[0,3,5,65,66],fun w σ=>∃(j:Nat),w=[.d (.int .i64 j)]/\σ=⟨ZtY pl p r vs more M++[.cells 138 ((ZW pl (.mk op text num eargs ea)).map .d)],[],0⟩/\j<=eargs.length/\Ub p kn (ZaT p (eargs.drop j) (fs.drop j))=X,
   fun w _=>match w with | [.d (.int _ j)]=>((eargs.length:Int) - j).toNat | _=>0⟩)] 10 false ?_
  conv=>whnf
  refine ⟨pl,p,r,vs,more,M,kn,.mk op text num eargs ea,rfl,rfl,hp,mc,fun y hy=>?_⟩;rw [hy] at hX
  cases y with
  | some ae =>
   exact mq185
  | none =>
  simp only [FlK,orF] at hX |-;(conv=>whnf);refine ZEw (fun jr=>absurd (show op=7 by have jr:(op:Int)=7:=jr;omega) h7) (fun jr=>wN ?_);refine ZEw (fun n8=>absurd (show op=6 by have n8:(op:Int)=6:=n8;omega) h6) (fun n8=>wN ?_);have h0:fs=[]:=r0 h7 h6;subst h0;refine ⟨⟨0,rfl,rfl,oM,hX⟩,?_⟩
  rintro w σ1 ⟨j,rfl,rfl,hj,ha⟩
  have ha:none=X:=by
   exact mq149
  subst ha;exact mq51
 exact h.elim
def knF (x:Ex×Bs):Option (Bs×Bs):=match x with
 | (.mk op text _ _ _,k)=>if op=1 then some (text,k) else none
def ZiH (p:Pr) (l:List Li):ZiC p l=(l.flatMap (V5 p)).filterMap knF:=rfl
def ZlR (M:SM) (kn:List (Bs×Bs)):Prop:=∀t,(lkM t M).getD []=(kn.filter fun y=>decide (y.1=t)).map fun y=>ZtW y.2
def ZtZ {M:SM} {kn:List (Bs×Bs)} (h:ZlR M kn) (x:Ex×Bs):ZlR (ZuN M x) (kn++(knF x).toList):=by
 obtain ⟨⟨op,text,_,_,_⟩,k⟩:=x;simp only [ZuN,knF];split
 ·intro t
  rw [JW,List.filter_append,TP]
  by_cases ht:t=text
  ·subst ht;simp [h t]
  have la:¬text=t:=fun e=>ht e.symm
  simp [ht,la,h t]
 intro t;simpa using h t
def ZiI:∀(l:List (Ex×Bs)) {M:SM} {kn:List (Bs×Bs)},ZlR M kn->ZlR (WO M l) (kn++l.filterMap knF)
 | [],M,kn,h=>by simpa [WO] using h
 | x::l,M,kn,h=>by
  have:=ZiI l (ZtZ h x);simp only [List.filterMap_cons]
  cases hx:knF x with
  | none=>rw [hx] at this;simpa [WO] using this
  | some y=>rw [hx] at this;simpa [WO] using this
def ZfS (p:Pr):∀(l:List Li),(l.flatMap (V5 p)).length<=szS szL l
 | []=>sM
 | .mk op rel args body a::l=>by
  have:=ZfS p l;have h2:=Zg5 p args (Znp p rel);rw [UA] at h2;rw [List.flatMap_cons,Ta,szS,szL];simp only [V5];split
  ·omega
  rw [Tg];omega
def ZyE (p:Pr) {l:List Li} (h:szS szL l<=1073741824):ZCM (WO [] (l.flatMap (V5 p))) (ZiC p l):=by
 refine ⟨?_,?_⟩
 ·have h1:=ZfS p l;have h2:=List.length_filterMap_le knF (l.flatMap (V5 p));rw [ZiH];omega
 have:=ZiI (l.flatMap (V5 p)) (M:=[]) (kn:=[]) (fun t=>rfl);rw [Sh,<- ZiH] at this;exact this
def ZiJ {p:Pr} {vs:Vs} {name:Bs} {args:List Ex} {a:Nat} {hd:Bool} (h:ZtM p vs name args a hd=none) :
  ∃(i:Nat) (d:Re),lkM name (JX p)=some (i:Int)/\p.rels[i]?=some d/\d.fields.length=args.length/\ZaS p vs args (ZF p d.fields)=none/\Znp p name=d.fields:=by
 unfold ZtM at h
 cases hl:lkM name (JX p) with
 | none=>rw [hl] at h;cases h
 | some n =>
 obtain ⟨i,d,rfl,h2,h3⟩:=ZcE hl;rw [hl] at h;simp only [Ti,h2] at h;split at h
 ·cases h
 split at h
 ·cases h
 rename_i hn
 have hn:d.fields.length=args.length:=Decidable.of_not_not hn;rw [ZbH hl h2,Th hn] at h;exact ⟨i,d,rfl,h2,hn,h,by simp only [Znp,hl,Ti,h2]⟩
def ZlS {p:Pr} {vs:Vs}:∀{l:List Li} {j:Nat} {x:Li},Zhp p vs l=none->l[j]?=some x->rtL p vs x=none
 | [],j,x,h,hx=>by simp at hx
 | y::l,j,x,h,hx=>by
  simp only [Zhp] at h
  cases hy:rtL p vs y with
  | some f=>rw [hy] at h;cases h
  | none =>
  rw [hy] at h
  cases j with
  | zero=>simp at hx;subst hx;exact hy
  | succ j=>exact ZlS h (by simpa using hx)
def ZDt (a b:Zm):Zm:=fun args σ K=>a args σ K\/b args σ K
def ZqO {G:GE} {g:FuncId} {a b:Zm} (ha:PCalls G g a) (hb:PCalls G g b):PCalls G g (ZDt a b):=⟨ha.enters,fun args σ K h=>h.elim (ha.calls args σ K) (hb.calls args σ K)⟩
abbrev ZCQ (pl:Pl) (p:Pr) (r:Ru) (vs:Vs) (more:Bool) (M:SM):List Box:=ZbG pl p r vs more++[.cells 69 [.ptr 0 0],.smap 9 M none,.cells 182 [.mp 8]]
def Zej (m:Nat):Zm:=ZaU fun rest pl p r vs more K=>match rest with
 | []=>(ZlE r<=m/\m<=2097152)/\ZtM p vs r.head r.args r.at' true=none/\Zhp p vs r.body=none/\∀x,ZlM p r=x->RtK pl K vs more x
 | _=>False
def ZiK (m:Nat):ZL (Zej m):=Zed fun rest pl p r vs more K K' hK h=>by
 split at h
 ·obtain ⟨h1,h2,h3,h4⟩:=h;exact ⟨h1,h2,h3,fun x g=>Zg3 hK (h4 x g)⟩
 exact h.elim
def ZlT (m:Nat):Tbl:=[(94,ZDt (Zns m) (Znt m))]
def Zt0 {m:Nat} (ht:TO w0 nG (ZlT m)):PC w0 nG 55 (Zej m):=by
 refine Zoq ZC mixed (tbl:=ZlT m) ht Tryz.func55 rfl kR kR ?_;intro args σ K h
 unfold Zej ZaU at h
 split at h
 ·obtain ⟨pl,p,⟨head,af,body,rat⟩,vs,more,rfl,hp,h⟩:=h;split at h
  ·obtain ⟨⟨hz,hm⟩,j6,aal,h⟩:=h;simp only [ZlE] at hz j6 aal;obtain ⟨hi,hd,cg,dl,dx,eu,jg⟩:=ZiJ j6;have qn:=ZA szL body;have lc:(Y6 pl body).length=body.length:=by rw [ZD,Te]
   have hlh:(Zp pl af).length=af.length:=by rw [Ze,Te]
   have hnh:=ZA szE af;have mc:=ZyE p (l:=body) oM;obtain ⟨MF,hMF⟩:∃MF,WO [] (body.flatMap (V5 p))=MF:=⟨_,rfl⟩
   rw [hMF] at mc;obtain ⟨X,hX⟩:∃X,ZlM p ⟨head,af,body,rat⟩=X:=⟨_,rfl⟩
   have h:=h X hX;have hX:Ub p (ZiC p body) (ZaT p af hd.fields)=X:=by rw [<- hX,ZlM,jg]
   generalize ZiC p body=kn at mc hX;refine ⟨Zk [(3,⟨[16],[1,2,14,15],fun w σ=>∃(j n:Nat) (M:SM),w=[.d (.int .i64 j)]/\σ=⟨ZCQ pl p ⟨head,af,body,rat⟩ vs more M,[],0⟩/\j<=body.length/\(ZqJ M n/\n+szS szL (body.drop j)<=1073741824)/\WO M ((body.drop j).flatMap (V5 p))=MF,
     fun w _=>match w with | [.d (.int _ j)]=>((body.length:Int) - j).toNat | _=>0⟩),
    (7,⟨[45],[1,2,4,14,15,16,43,44],fun w σ=>∃(j i n:Nat) (M:SM) (rel:Bs) (eargs:List Ex) (lbody:List Li) (at':Nat) (fs:List Fi),w=[.ptr 7 0,.ptr 9 0,.ptr 10 0,.d (.sl (Y6 pl body)),.d (.int .i64 ((Y6 pl body).length:Nat)),.d (.int .i64 j),.d (.sl (fs.map Zn)),.d (.int .i64 ((fs.map Zn).length:Nat)),.d (.int .i64 i)] /\
      σ=⟨ZCQ pl p ⟨head,af,body,rat⟩ vs more M++[.cells 142 ((Xp pl (.mk 1 rel eargs lbody at')).map .d)],[],0⟩/\body[j]?=some (.mk 1 rel eargs lbody at')/\fs=Znp p rel/\i<=eargs.length /\
      (ZqJ M n/\n+szS szE (eargs.drop i)+szS szL (body.drop (j+1))<=1073741824)/\WO (WO M (ZaT p (eargs.drop i) (fs.drop i))) ((body.drop (j+1)).flatMap (V5 p))=MF,
     fun w _=>match w with | [_,_,_,_,_,_,_,.d (.int _ n),.d (.int _ i)]=>(n - i).toNat | _=>0⟩),
    (13,⟨[87],[1,2,85,86],fun w σ=>∃(j:Nat),w=[.d (.int .i64 j)]/\σ=⟨ZCQ pl p ⟨head,af,body,rat⟩ vs more MF,[],0⟩/\j<=af.length/\Ub p kn (ZaT p (af.drop j) (hd.fields.drop j))=X,
     fun w _=>match w with | [.d (.int _ j)]=>((af.length:Int) - j).toNat | _=>0⟩)],Ye [],ZB [7],ZB [9],ZB [],7,false,sM,Tc rfl,?_⟩
   conv=>whnf
   refine ⟨⟨0,0,[],rfl,rfl,oM,⟨(fun t rows hr=>by cases hr),by rw [Sn];omega⟩,hMF⟩,?_⟩
   rintro w σ1 ⟨j,n,M,rfl,rfl,hj,⟨hM,hn⟩,ha⟩
   conv=>whnf
   refine ZEw (fun hc=>?_) (fun hc=>?_);rotate_left
   ·have hc:¬(j:Int)<((Y6 pl body).length:Int):=hc;rw [Tr oM] at ha;have ha:M=MF:=ha;subst ha;have hr:(p.rels.map (ZN pl))[(hi:Int).toNat]?=some (ZN pl hd):=by rw [Ti,Tj,dl];rfl
    obtain ⟨d1,d2,d3,d4,d5,d6⟩:=hd;simp only at dx eu hX;(conv=>whnf);refine optK.yes (by rw [ZQ,cg];rfl) (wN ?_)
    (repeat (refine ⟨rfl,?_⟩;conv=>whnf))
    refine ⟨_,oM,hr,wN ?_⟩;refine ⟨⟨0,rfl,rfl,oM,hX⟩,?_⟩
    rintro w σ1 ⟨i,rfl,rfl,ac,ha⟩
    conv=>whnf
    refine ZEw (fun bj=>?_) (fun bj=>?_);rotate_left
    ·have bj:¬(i:Int)<((d2.map Zn).length:Int):=bj;rw [Te] at bj;rw [Tr oM] at ha;have ha:none=X:=ha;subst ha;exact mq51
    have ab:i<d2.length:=by have bj:(i:Int)<((d2.map Zn).length:Int):=bj;rw [Te] at bj;omega
    have aq:i<af.length:=oM;rw [Tl ab,Tl aq] at ha;simp only [ZaT] at ha;have hk:=ZcF eu (Tb aq) (by rw [ZF,Tj,Tb ab];rfl);have pj:(d2.map Zn)[(i:Int).toNat]?=some (Zn d2[i]):=by rw [Ti,Tj,Tb ab];rfl
    have n7:(Zp pl af)[(i:Int).toNat]?=some (ZW pl af[i]):=by rw [Ze,Ti,Tj,Tb aq];rfl
    have eg:=ZE szE af i aq;have hμ:((af.length:Int) - ((i:Int)+1)).toNat<((af.length:Int) - (i:Int)).toNat:=oM;generalize d2[i]=f0 at ha hk pj;generalize af[i]=x0 at ha hk n7 eg;obtain ⟨f1,f2⟩:=f0;obtain ⟨x1,x2,x3,x4,x5⟩:=x0;(conv=>whnf);refine ⟨_,oM,pj,wN ?_⟩;refine ⟨_,oM,n7,wN ?_⟩;refine .inr ⟨pl,p,⟨head,af,body,rat⟩,vs,more,.mk x1 x2 x3 x4 x5,M,kn,rfl,rfl,rfl,hp,⟨oM,hm⟩,hk,mc,fun y hy=>?_⟩;rw [W4,hy] at ha
    cases y with
    | some ae =>
     obtain ⟨a,e⟩:=ae;simp only [orF] at ha;subst ha;simp only [FlK,RtK] at h |-;exact mq51
    | none =>
    simp only [FlK,orF] at ha |-;(conv=>whnf)
    (repeat (refine ⟨rfl,?_⟩;conv=>whnf))
    refine Zj ?_;exact ⟨⟨i+1,rfl,rfl,oM,ha⟩,hμ⟩
   have ab:j<body.length:=by have hc:(j:Int)<((Y6 pl body).length:Int):=hc;omega
   have hr:(Y6 pl body)[(j:Int).toNat]?=some (Xp pl body[j]):=by rw [ZD,Ti,Tj,Tb ab];rfl
   have eg:=ZE szL body j ab;have io:=ZcG (f:=szL) (Tb ab);have hx:=ZlS aal (Tb ab);rw [Tl ab,List.flatMap_cons,WO,List.foldl_append] at ha;have hμ:((body.length:Int) - ((j:Int)+1)).toNat<((body.length:Int) - (j:Int)).toNat:=oM;have j7:body[j]?=some body[j]:=Tb ab;generalize body[j]=x at ha hr eg io hx j7;obtain ⟨op,rel,eargs,lbody,at'⟩:=x;simp only [szL,ZgQ] at eg io;simp only [V5] at ha;(conv=>whnf);refine ⟨_,oM,hr,wN ?_⟩;refine ZEy (fun ho=>wN ?_) (fun ho=>?_)
   ·have ho:¬op=1:=fun g=>ho (by simp only [g];rfl)
    rw [Tf ho] at ha;refine Zj ?_;exact ⟨⟨j+1,n,M,rfl,rfl,oM,⟨hM,oM⟩,ha⟩,hμ⟩
   have ho:op=1:=by have ho:(op:Int)=1:=ho;omega
   subst ho;rw [Th rfl] at ha;simp only [rtL] at hx;rw [Th dM] at hx;obtain ⟨ri,d,q1,q2,q3,q4,q5⟩:=ZiJ hx;have hrr:(p.rels.map (ZN pl))[(ri:Int).toNat]?=some (ZN pl d):=by rw [Ti,Tj,q2];rfl
   obtain ⟨d1,d2,d3,d4,d5,d6⟩:=d;simp only at q3 q4 q5;have gl:(Zp pl eargs).length=eargs.length:=by rw [Ze,Te]
   have ai:=ZA szE eargs;rw [q5] at ha;(conv=>whnf);refine optK.yes (by rw [ZQ,q1];rfl) (wN ?_)
   (repeat (refine ⟨rfl,?_⟩;conv=>whnf))
   refine ⟨_,oM,hrr,wN ?_⟩;refine ⟨⟨j,0,n,M,rel,eargs,lbody,at',d2,rfl,rfl,j7,q5.symm,oM,⟨hM,by rw [Sn];omega⟩,ha⟩,?_⟩
   clear ha hM hn
   rintro w σ1 ⟨j',i,n2,M2,rel',eargs',lbody',at'',fs',hw,rfl,l0,aam,ac,⟨wg,lm⟩,ha⟩
   have ej:(some (PV.d (.int .i64 (j:Int))):Option PV)=some (.d (.int .i64 (j':Int))):=congrArg (fun l:List PV=>l[5]?) hw;obtain rfl:j=j':=by have ej:=Option.some.inj ej;injection ej with ej;injection ej with _ ej;omega
   rw [j7] at l0;obtain ⟨_,rfl,rfl,rfl,rfl⟩:=Li.mk.inj (Option.some.inj l0);obtain rfl:fs'=d2:=aam.trans q5;have hw:w=[.d (.int .i64 i)]:=congrArg (List.drop 8) hw;subst hw;(conv=>whnf);refine ZEw (fun bj=>?_) (fun bj=>?_);rotate_left
   ·have bj:¬(i:Int)<((fs'.map Zn).length:Int):=bj;rw [Te] at bj;have hii:i=eargs.length:=oM;rw [Tr oM] at ha lm;have ha:WO M2 ((body.drop (j+1)).flatMap (V5 p))=MF:=ha;(conv=>whnf);refine Zj ?_;exact ⟨⟨j+1,n2,M2,rfl,rfl,oM,⟨wg,by simp only [szS] at lm;omega⟩,ha⟩,hμ⟩
   have wh:i<fs'.length:=by have bj:(i:Int)<((fs'.map Zn).length:Int):=bj;rw [Te] at bj;omega
   have aq:i<eargs.length:=oM;rw [Tl wh,Tl aq] at ha;simp only [ZaT] at ha;have hk:=ZcF q4 (Tb aq) (by rw [ZF,Tj,Tb wh];rfl);have pj:(fs'.map Zn)[(i:Int).toNat]?=some (Zn fs'[i]):=by rw [Ti,Tj,Tb wh];rfl
   have n7:(Zp pl eargs)[(i:Int).toNat]?=some (ZW pl eargs[i]):=by rw [Ze,Ti,Tj,Tb aq];rfl
   have vq:=ZE szE eargs i aq;have hde:=ZcG (f:=szE) (Tb aq);have hμ2:(((fs'.map Zn).length:Int) - ((i:Int)+1)).toNat<(((fs'.map Zn).length:Int) - (i:Int)).toNat:=by rw [Te];omega
   generalize fs'[i]=f0 at ha hk pj;generalize eargs[i]=x0 at ha hk n7 vq hde;obtain ⟨f1,f2⟩:=f0;obtain ⟨x1,x2,x3,x4,x5⟩:=x0;(conv=>whnf);refine ⟨_,oM,pj,wN ?_⟩;refine ⟨_,oM,n7,wN ?_⟩;refine .inl ⟨pl,p,⟨head,af,body,rat⟩,vs,more,.mk x1 x2 x3 x4 x5,M2,n2,rfl,rfl,rfl,hp,⟨oM,hm⟩,hk,⟨wg,oM⟩,wN ?_⟩;have hM3:=ZaN (wiE p (.mk x1 x2 x3 x4 x5) f2) wg;have hwl:=Zg4 p (.mk x1 x2 x3 x4 x5) f2;rw [show WO M2 (wiE p (.mk x1 x2 x3 x4 x5) f2++ZaT p (List.drop (i+1) eargs) (List.drop (i+1) fs'))=WO (WO M2 (wiE p (.mk x1 x2 x3 x4 x5) f2)) (ZaT p (List.drop (i+1) eargs) (List.drop (i+1) fs')) from List.foldl_append ..] at ha
   (repeat (refine ⟨rfl,?_⟩;conv=>whnf))
   refine Zj ?_;exact ⟨⟨j,i+1,n2+(wiE p (.mk x1 x2 x3 x4 x5) f2).length,_,rel,eargs,lbody,at',fs',rfl,rfl,j7,aam,oM,⟨hM3,oM⟩,ha⟩,hμ2⟩
  exact h.elim
 exact h.elim
def recOfC:Nat×Nat×Code:=match Zzz (Xs Tryz.f52) with | some x=>x | none=>(0,0,.skip)
def ZyF:List PV->St->(St->Prop)->Prop:=fun args σ K=>args.length<=Tryz.f52.ntmps/\W (ctx Zaf [] (Zk [])) recOfC.2.2 (ZvR Zaf Tryz.f52 σ.bx.length K) (Uc (Uc (Zeo 0 args) recOfC.1 (.d .nili)) recOfC.2.1 (.d .nili)) σ
def ZyG:PV->List PV->St->(St->Prop)->Prop:=fun pv args σ K=>args.length<=Tryz.f52.ntmps/\W (ctx Zaf [] (Zk [])) recOfC.2.2 (ZvR Zaf Tryz.f52 σ.bx.length K) (Uc (Uc (Zeo 0 args) recOfC.1 pv) recOfC.2.1 pv) σ
def ZyH:PDef (GG w0 nG) 52 ZyF ZyG :=
 Zpa (a:=recOfC.1) (b:=recOfC.2.1) (rest:=recOfC.2.2) ZC mixed Tryz.func52 rfl kR rfl kR (fun args σ K h=>⟨ZrN Zaf [] (Zk []) (fun _=>0) (fun _=>false),σ.bx.length,CxG.of (tbl:=[]) ZC trivial trivial _ _ _,Tz _,h.1,h.2⟩) (fun pv args σ K h=>⟨ZrN Zaf [] (Zk []) (fun _=>0) (fun _=>false),σ.bx.length,CxG.of (tbl:=[]) ZC trivial trivial _ _ _,Tz _,h.1,h.2⟩)
def ZDP (pl:Pl):Flt->PV
 | none=>.agg [.d (.int .i64 0),.d (.int .i64 0)]
 | some (a,e)=>.agg [.d (.int .i64 (pl a)),.d (.int .i64 e)]
def ZcH (m:Nat):Zm:=ZaU fun rest pl p r vs more K=>match rest with
 | []=>(ZlE r<=m/\m<=2097152)/\Zcg r.body=true/\∀x,Zb9 p r vs=x->K (.ret (ZDP pl x)) vs more
 | _=>False
def ZiL (m:Nat):Tbl:=[(53,ZfR m),(54,Zei m),(55,Zej m)]
def ZqP {m:Nat} (ht:TO w0 nG (ZiL m)):PC w0 nG 28 (ZcH m):=by
 refine ZgC ZC mixed Tryz.func28 rfl kR kR ZyH ?_;intro args σ K h
 unfold ZcH ZaU at h
 split at h
 ·obtain ⟨pl,p,⟨head,af,body,rat⟩,vs,more,rfl,hp,h⟩:=h;split at h
  ·obtain ⟨⟨hz,hm⟩,bo,h⟩:=h;simp only [ZlE] at hz bo;refine ⟨ZrN Zaf (ZiL m) (Zk []) (Ye []) (ZB []),7,false,CxG.of ZC ht ⟨Zko m,Zkp m,ZiK m,trivial⟩ _ _ _,sM,Tc rfl,wN ?_⟩;simp only [Zb9] at h;refine ZEw (fun hc=>wN ?_) (fun hc=>wN ?_)
   ·have hc:64<vs.length:=by have hc:(64:Int)<((mvM mvI vs).length:Nat):=hc;rw [Zkc] at hc;omega
    rw [Th hc] at h;exact h _ rfl
   have hc:¬64<vs.length:=by have hc:¬(64:Int)<((mvM mvI vs).length:Nat):=hc;rw [Zkc] at hc;omega
   rw [Tf hc] at h
   (repeat (refine ⟨rfl,?_⟩;conv=>whnf))
   refine ⟨pl,p,⟨head,af,body,rat⟩,vs,more,rfl,hp,af,rat,rfl,rfl,⟨oM,hm⟩,fun x hx=>?_⟩;rw [hx] at h
   cases x with
   | some ae =>
    obtain ⟨a,e⟩:=ae;have h:=h _ rfl;exact mq113
   | none =>
   simp only [RtK];(conv=>whnf)
   (repeat (refine ⟨rfl,?_⟩;conv=>whnf))
   refine ⟨pl,p,⟨head,af,body,rat⟩,vs,more,rfl,hp,body,rfl,⟨oM,hm⟩,bo,fun y hy=>?_⟩;rw [hy] at h
   cases y with
   | some ae =>
    obtain ⟨a,e⟩:=ae;have h:=h _ rfl;exact mq113
   | none =>
   simp only [RtK];(conv=>whnf)
   (repeat (refine ⟨rfl,?_⟩;conv=>whnf))
   refine ⟨pl,p,⟨head,af,body,rat⟩,vs,more,rfl,hp,⟨by simp only [ZlE];omega,hm⟩,hx,hy,fun z hz=>?_⟩;have h:=h z hz
   cases z with
   | some ae =>
    obtain ⟨a,e⟩:=ae;exact mq113
   | none =>
   exact mq113
  exact h.elim
 exact h.elim
end Go.PM.Lex
end
