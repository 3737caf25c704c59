/- A part of the proof: plain logic, contracts and laws over the given program. -/
import Derived.Deep.Slices
import Derived.ChangeArms
import Derived.DataReads
import Derived.Test.YtipdifmlclblhaaGreatDoorRows
import Derived.Test.YtipdifmlclblhaaGreatDoorTie
import Derived.Test.YtipdifmlclblhaaGreatDoorCards
import Derived.ProofKit
import Derived.OpenShut
import Derived.LaidMore
import Derived.Lay
import Derived.LaidSub
import Derived.SevenTiedAt
import Derived.Stop.Joined
import Derived.Stop.LaidErr
import Derived.Lib.LaidU8T
import Derived.Lib.LaidTab
import Derived.JoinedOf
import Derived.Test.YtipdifmlclblhaaGreatDoorG09
set_option linter.unusedVariables false
set_option linter.unusedSimpArgs false
set_option linter.all false
set_option maxRecDepth 100000
set_option maxHeartbeats 16000000
section
namespace Go.PM.Lex
open Go.Proofs
variable {w0:World} {nG:Nat}
theorem VP {s:Bs}:∀(l:List Bs) (i:Nat) (m:List (Bs×Int)),Wa i (l++[s]) m=if (lkM s (Wa i l m)).isNone=true then Uv s ((i:Int)+l.length) (Wa i l m) else Wa i l m
 | [],i,m=>by simp [Wa]
 | x::l,i,m=>by
  simp only [Sl,Wa,VP l (i+1),Tc];rw [show ((i+1:Nat):Int)+(l.length:Int)=(i:Int)+((l.length+1:Nat):Int) by omega];try rfl
noncomputable def UQ {α:Type} (enc:Pl->α->List D) (nm:α->Bs):Zo:=fun args σ K=>match args,σ with
 | [.agg c],⟨[],[],0⟩=>∃pl x,c=(enc pl x).map .d/\K (.ret (.d (.str (nm x)))) ⟨[],[],0⟩
 | _,_=>False
noncomputable def UR {α:Type} (clo:FuncId) (enc:Pl->α->List D) (nm:α->Bs):Zo:=fun args σ K=>match args,σ with
 | [.d (.sl rows),.func g [] []],⟨[],[],0⟩=>∃pl,∃l:List α,rows=l.map (enc pl)/\(g=clo/\l.length<=1073741824)/\K (.ret (.mp 0)) ⟨[.dmap (mvM mvI (Y0 (l.map nm)))],[],0⟩
 | _,_=>False
theorem ZjM:PC w0 nG 29 (UQ Zu (·.name)):=by
 refine Zd Zc mixed (tbl:=[]) trivial Tryz.func29 rfl kR kR ?_;exact m98
noncomputable def ZdL:Tbl:=[(29,UQ Zu (·.name))]
theorem ZjN (ht:TO w0 nG ZdL):PC w0 nG 28 (UR 29 Zu (·.name)):=by
 refine Zd Zc mixed (tbl:=ZdL) ht Tryz.func28 rfl kR kR ?_;intro args σ K h
 unfold UR at h
 split at h
 ·obtain ⟨pl,l,rfl,⟨rfl,aa⟩,h⟩:=h;have hl:(l.map (Zu pl)).length=l.length:=Tf ..;refine ⟨Zb [(3,⟨[13],[1,5,11,12],fun vs σ=>∃j:Nat,vs=[.d (.int .i64 j)]/\σ=⟨[.dmap (mvM mvI (Y0 ((l.take j).map (·.name))))],[],0⟩/\j<=l.length,
   mu1 l.length⟩)],1,false,sM,Ta rfl,?_⟩
  conv=>whnf
  refine ⟨⟨0,rfl,rfl,oM⟩,?_⟩
  rintro vs σ1 ⟨j,rfl,rfl,hj⟩
  conv=>whnf
  refine ZDc (fun hc=>?_) (fun hc=>?_);rotate_left
  ·conv=>whnf
   rw [List.take_of_length_le oM];exact h
  have ai:j<l.length:=oM;have hs:Y0 ((l.take (j+1)).map (·.name))=if (lkM l[j].name (Y0 ((l.take j).map (·.name)))).isNone=true then Uv l[j].name (j:Int) (Y0 ((l.take j).map (·.name))) else Y0 ((l.take j).map (·.name)):=by
   exact m107
  have hr:(l.map (Zu pl))[(j:Int).toNat]?=some (Zu pl l[j]):=by rw [Tw,To,Te ai];rfl
  exact m29
 exact h.elim
theorem ZjO:PC w0 nG 31 (UQ ZN (·.name)):=by
 refine Zd Zc mixed (tbl:=[]) trivial Tryz.func31 rfl kR kR ?_;exact m98
noncomputable def ZdM:Tbl:=[(31,UQ ZN (·.name))]
theorem ZjP (ht:TO w0 nG ZdM):PC w0 nG 30 (UR 31 ZN (·.name)):=by
 refine Zd Zc mixed (tbl:=ZdM) ht Tryz.func30 rfl kR kR ?_;intro args σ K h
 unfold UR at h
 split at h
 ·obtain ⟨pl,l,rfl,⟨rfl,aa⟩,h⟩:=h;have hl:(l.map (ZN pl)).length=l.length:=Tf ..;refine ⟨Zb [(3,⟨[13],[1,5,11,12],fun vs σ=>∃j:Nat,vs=[.d (.int .i64 j)]/\σ=⟨[.dmap (mvM mvI (Y0 ((l.take j).map (·.name))))],[],0⟩/\j<=l.length,
   mu1 l.length⟩)],1,false,sM,Ta rfl,?_⟩
  conv=>whnf
  refine ⟨⟨0,rfl,rfl,oM⟩,?_⟩
  rintro vs σ1 ⟨j,rfl,rfl,hj⟩
  conv=>whnf
  refine ZDc (fun hc=>?_) (fun hc=>?_);rotate_left
  ·conv=>whnf
   rw [List.take_of_length_le oM];exact h
  have ai:j<l.length:=oM;have hs:Y0 ((l.take (j+1)).map (·.name))=if (lkM l[j].name (Y0 ((l.take j).map (·.name)))).isNone=true then Uv l[j].name (j:Int) (Y0 ((l.take j).map (·.name))) else Y0 ((l.take j).map (·.name)):=by
   exact m107
  have hr:(l.map (ZN pl))[(j:Int).toNat]?=some (ZN pl l[j]):=by rw [Tw,To,Te ai];rfl
  exact m29
 exact h.elim
theorem ZbO {i:Nat} {c:Ca}:∀(l:List Ca) (k:Nat) (m:List (Bs×(Int×Int))),Yz i k (l++[c]) m=if (lkM c.name (Yz i k l m)).isNone=true then Uv c.name ((i:Int),((k+l.length:Nat):Int)) (Yz i k l m) else Yz i k l m
 | [],k,m=>rfl
 | x::l,k,m=>by
  simp only [Sl,Yz,ZbO l (k+1),Tc];rw [show k+1+l.length=k+(l.length+1) by omega];try rfl
theorem ZbP {t:Ty}:∀(l:List Ty) (i:Nat) (m:List (Bs×(Int×Int))),Zbc i (l++[t]) m=Yz (i+l.length) 0 t.cases (Zbc i l m)
 | [],i,m=>rfl
 | x::l,i,m=>by
  simp only [Sl,Zbc,ZbP l (i+1),Tc];rw [show i+1+l.length=i+(l.length+1) by omega]
theorem Zap {t:Ty}:∀(l:List Ty) (m:List (Bs×Int)),Yr (l++[t]) m=if t.kind≠1/\(lkM t.name (Yr l m)).isNone=true then Uv t.name ((Yr l m).length:Int) (Yr l m) else Yr l m
 | [],m=>rfl
 | x::l,m=>by simp only [Sl,Yr,Zap l];rfl
abbrev ZjQ (pl:Pl) (p:Pr):List PV:=[.d (.sl (p.types.map (Zu pl))),.d (.sl (p.rels.map (ZN pl))),.d (.sl (p.rules.map (Z8 pl)))]
abbrev Zq8 (pl:Pl) (p:Pr) (cs:List (Bs×(Int×Int))) (sh:List (Bs×Int)):List Box:=[.cells 26 (ZjQ pl p),.dmap (mvM mvC cs),.dmap (mvM mvI sh),
 .cells 91 ([.mp 4,.mp 5,.mp 2,.mp 1]++ZjQ pl p),.dmap (mvM mvI (Zth p)),.dmap (mvM mvI (ZjH p))]
noncomputable def Zaq:Zo:=fun args σ K=>match args,σ with
 | [.agg c],⟨[],[],0⟩=>∃pl p,c=(Ut pl p).map .d/\BP p/\K (.ret (.ptr 3 0)) ⟨Zq8 pl p (Zli p) (Zbd p),[],0⟩
 | _,_=>False
noncomputable def Zif:Tbl:=[(28,UR 29 Zu (·.name)),(30,UR 31 ZN (·.name))]
abbrev ZjR (p:Pr) (j:Nat):List (Bs×(Int×Int)):=Zbc 0 (p.types.take j) []
abbrev ZmZ (p:Pr) (j:Nat):List (Bs×Int):=Yr (p.types.take j) [(Zrz,0),(ZxS,1)]
theorem Zq9 (ht:TO w0 nG Zif):PC w0 nG 16 Zaq:=by
 refine Jp Zc mixed (tbl:=Zif) ht Tryz.func16 rfl kR kR ?_;intro args σ K h
 unfold Zaq at h
 split at h
 ·obtain ⟨pl,p,rfl,hp,h⟩:=h;have aa:=hp.len;have hl:(p.types.map (Zu pl)).length=p.types.length:=Tf ..;refine ⟨Zb [(5,⟨[33],[3,31,32],fun vs σ=>∃j:Nat,vs=[.d (.int .i64 j)]/\σ=⟨Zq8 pl p (ZjR p j) (ZmZ p j),[],0⟩/\j<=p.types.length,
    fun vs _=>match vs with | [.d (.int _ j)]=>((p.types.length:Int) - j).toNat | _=>0⟩),
   (8,⟨[41],[3,4,5,31,32,33,39,40],fun vs σ=>∃(j k:Nat) (t:Ty),vs=[.ptr 3 0,.d (.int .i64 j),.ptr 6 0,.d (.sl (p.types.map (Zu pl))),.d (.int .i64 (p.types.map (Zu pl)).length),.d (.int .i64 j),.d (.sl (t.cases.map Zn)),.d (.int .i64 (t.cases.map Zn).length),.d (.int .i64 k)] /\
     σ=⟨Zq8 pl p (Yz j 0 (t.cases.take k) (ZjR p j)) (ZmZ p j)++[.cells 48 ((Zu pl t).map .d)],[],0⟩/\k<=t.cases.length/\p.types[j]?=some t/\t.cases.length<=1073741824,
    fun vs _=>match vs with | [_,_,_,_,_,_,_,.d (.int _ n),.d (.int _ k)]=>(n - k).toNat | _=>0⟩)],VV [],Xj [8],6,false,sM,Ta rfl,?_⟩
  conv=>whnf
  refine ⟨pl,p.types,rfl,⟨rfl,aa.1⟩,wN ?_⟩;refine ⟨pl,p.rels,rfl,⟨rfl,aa.2.1⟩,wN ?_⟩;refine ⟨⟨0,rfl,rfl,oM⟩,?_⟩
  rintro vs σ1 ⟨j,rfl,rfl,hj⟩
  conv=>whnf
  refine ZDc (fun hc=>?_) (fun hc=>?_);rotate_left
  ·have e1:ZjR p j=Zli p:=by unfold ZjR;rw [List.take_of_length_le oM];rfl
   have e2:ZmZ p j=Zbd p:=by unfold ZmZ;rw [List.take_of_length_le oM];rfl
   conv=>whnf
   rw [<- e1,<- e2] at h;exact h
  have ai:j<p.types.length:=oM;have bw:p.types.take (j+1)=p.types.take j++[p.types[j]]:=by rw [List.take_add_one,Te ai];rfl
  have dj:ZjR p (j+1)=Yz j 0 p.types[j].cases (ZjR p j):=by unfold ZjR;rw [bw,ZbP,List.length_take,Nat.min_eq_left oM,T5]
  have ep:ZmZ p (j+1)=if p.types[j].kind≠1/\(lkM p.types[j].name (ZmZ p j)).isNone=true then Uv p.types[j].name ((ZmZ p j).length:Int) (ZmZ p j) else ZmZ p j:=by unfold ZmZ;rw [bw,Zap]
  have ht:p.types[j]?=some p.types[j]:=Te ai;have mb:=(hp.ty (TB ai)).2.1;have hr:(p.types.map (Zu pl))[(j:Int).toNat]?=some (Zu pl p.types[j]):=by rw [Tw,To,ht];rfl
  generalize p.types[j]=t at dj ep ht hr mb;obtain ⟨t1,t2,t3,t4,t5,t6⟩:=t;have uk:(t5.map Zn).length=t5.length:=Tf ..;(conv=>whnf);refine ⟨_,oM,hr,wN ?_⟩;refine ⟨⟨j,0,⟨t1,t2,t3,t4,t5,t6⟩,rfl,rfl,oM,ht,mb⟩,?_⟩
  rintro vs σ2 ⟨j',k,t',bz,rfl,hk,ma,-⟩
  have ej:(some (PV.d (.int .i64 (j:Int))):Option PV)=some (.d (.int .i64 (j':Int))):=congrArg (fun l:List PV=>l[5]?) bz;obtain rfl:j=j':=by have ej:=Option.some.inj ej;injection ej with ej;injection ej with _ ej;omega
  obtain rfl:(⟨t1,t2,t3,t4,t5,t6⟩:Ty)=t':=Option.some.inj (ht.symm.trans ma);have bz:vs=[.d (.int .i64 k)]:=congrArg (List.drop 8) bz;subst bz;(conv=>whnf);refine ZDc (fun cu=>?_) (fun cu=>?_)
  ·have gd:k<t5.length:=by have cu:(k:Int)<((t5.map Zn).length:Int):=cu;omega
   have j9:Yz j 0 (t5.take (k+1)) (ZjR p j)=if (lkM t5[k].name (Yz j 0 (t5.take k) (ZjR p j))).isNone=true then Uv t5[k].name ((j:Int),(k:Int)) (Yz j 0 (t5.take k) (ZjR p j)) else Yz j 0 (t5.take k) (ZjR p j):=by
    rw [List.take_add_one,Te gd];show Yz j 0 (t5.take k++[t5[k]]) _=_;rw [ZbO,List.length_take,Nat.min_eq_left oM,T5]
   have f5:(t5.map Zn)[(k:Int).toNat]?=some (Zn t5[k]):=by rw [Tw,To,Te gd];rfl
   generalize t5[k]=c at j9 f5;obtain ⟨c1,c2⟩:=c;(conv=>whnf);refine ⟨_,oM,f5,wN ?_⟩;refine ZDl (fun v hv=>?_) (fun hv=>wN ?_)
   ·rw [XQ] at hv;obtain ⟨n,hn,rfl⟩:=TW.1 hv;rw [Tg (by rw [show lkM _ _=some n from hn];simp)] at j9;(conv=>whnf)
    (repeat (refine ⟨rfl,?_⟩;conv=>whnf))
    refine Or.inl ⟨InR.i64 oM oM,wN ?_⟩;exact ⟨⟨j,k+1,⟨t1,t2,t3,t4,t5,t6⟩,rfl,by simp only [j9];rfl,by simp only;omega,ht,mb⟩,by show (((t5.map Zn).length:Int) - ((k:Int)+1)).toNat<(((t5.map Zn).length:Int) - (k:Int)).toNat;omega⟩
   rw [XQ,Option.map_eq_none_iff] at hv;rw [Tj (by rw [show lkM _ _=none from hv];rfl)] at j9;have e:mvM mvC (Yz j 0 (t5.take (k+1)) (ZjR p j))=Uv c1 (.agg [.int .i64 j,.int .i64 k]) (mvM mvC (Yz j 0 (t5.take k) (ZjR p j))):=by rw [j9,<- Uu];rfl
   (repeat (refine ⟨rfl,?_⟩;conv=>whnf))
   refine Or.inl ⟨InR.i64 oM oM,wN ?_⟩;exact ⟨⟨j,k+1,⟨t1,t2,t3,t4,t5,t6⟩,rfl,by rw [<- e];rfl,by simp only;omega,ht,mb⟩,by show (((t5.map Zn).length:Int) - ((k:Int)+1)).toNat<(((t5.map Zn).length:Int) - (k:Int)).toNat;omega⟩
  have ik:k=t5.length:=by have cu:¬(k:Int)<((t5.map Zn).length:Int):=cu;have hk:k<=t5.length:=hk;omega
  subst ik;have e1:ZjR p (j+1)=Yz j 0 (t5.take t5.length) (ZjR p j):=by rw [dj,T3]
  conv=>whnf
  refine ZDl (fun v hv=>?_) (fun hv=>wN ?_)
  ·rw [XQ] at hv;obtain ⟨n,hn,rfl⟩:=TW.1 hv;rw [Tg (by rw [show lkM _ _=some n from hn];simp)] at ep;(conv=>whnf);refine ZDe (fun d7=>wN ?_) (fun d7=>wN ?_)
   ·exact m55
   exact m55
  rw [XQ,Option.map_eq_none_iff] at hv;refine ZDe (fun d7=>wN ?_) (fun d7=>wN ?_)
  ·rw [Tj ⟨fun g=>d7 (by simp only [show t1=1 from g];rfl),by rw [show lkM _ _=none from hv];rfl⟩] at ep;have e2:mvM mvI (ZmZ p (j+1))=Uv t2 (.one (.int .i64 ((mvM mvI (ZmZ p j)).length:Int))) (mvM mvI (ZmZ p j)):=by rw [ep,<- Uu,Zxr];rfl
   (repeat (refine ⟨rfl,?_⟩;conv=>whnf))
   refine Or.inl ⟨InR.i64 oM oM,wN ?_⟩;exact ⟨⟨j+1,rfl,by rw [e1,<- e2];rfl,oM⟩,by show ((p.types.length:Int) - ((j:Int)+1)).toNat<((p.types.length:Int) - (j:Int)).toNat;omega⟩
  rw [Tg (fun g=>g.1 (by have d7:(t1:Int)=1:=d7;show t1=1;omega))] at ep;exact m55
 exact h.elim
abbrev BM:=List (Bs×Bool)
def has (k:Bs) (m:BM):Bool:=(lkM k m).getD false
def Zxu:List Ca->Bool->BM->Bool×BM
 | [],b,m=>(b,m)
 | c::l,b,m=>Zxu l (b || has c.name m) (Uv c.name true m)
def Zar:List Ty->BM->BM->Option Nat
 | [],_,_=>none
 | t::l,n,m=>if (Zxu t.cases (has t.name n) m).1=true then some t.at' else Zar l (Uv t.name true n) (Zxu t.cases (has t.name n) m).2
def Zec (p:Pr) (t:Ty):Bool:=t.cases.any (fun c=>!Vs p c.fields) || (!Vs p t.fields || (decide (t.kind=1) && !XR p t.base))
def ZdN (p:Pr):List Ty->Option Nat
 | []=>none
 | t::l=>if Zec p t=true then some t.at' else ZdN p l
def ZdO (p:Pr) (s:Bs):Nat->Bs->Bool
 | 0,_=>false
 | n+1,a=>match W4 p a with
  | none=>false
  | some c=>if c=s then true else ZdO p s n c
def ZjS (p:Pr) (t:Ty):Bool:=ZdO p t.name (p.types.length+1) t.name
def ZbX (p:Pr):List Ty->Option Nat
 | []=>none
 | t::l=>if ZjS p t=true then some t.at' else ZbX p l
def Zgv (p:Pr):Nat->List Re->Option (Nat×Nat)
 | _,[]=>none
 | i,d::l=>if (lkM d.name (ZjH p)).getD 0≠(i:Int) then some (d.at',170) else if Vs p d.fields=false then some (d.at',180) else if (d.inl && (d.inn || d.out))=true then some (d.at',185) else Zgv p (i+1) l
def Zfj:BM:=[(Zrz,true),(ZxS,true)]
def Zfk (p:Pr):Option (Nat×Nat):=match Zar p.types Zfj [] with
 | some a=>some (a,170)
 | none=>match ZdN p p.types with
  | some a=>some (a,180)
  | none=>match ZbX p p.types with
   | some a=>some (a,172)
   | none=>Zgv p 0 p.rels
def ZAz (pl:Pl):Option (Nat×Nat)->List PV
 | none=>[.d (.int .i64 0),.d (.int .i64 0)]
 | some (a,e)=>[.d (.int .i64 (pl a)),.d (.int .i64 e)]
noncomputable def Ztq:Zo:=Zao fun rest pl p K=>match rest with
 | []=>∀x,Zfk p=x->K (.ret (.agg (ZAz pl x)))
 | _=>False
abbrev ZAA (pl:Pl) (p:Pr) (x y:List (Bs×MV)):List Box:=Zid pl p++[.cells 56 [.ptr 0 0],.cells 58 [.d (.int .i64 0),.d (.int .i64 0)],.dmap x,.dmap y]
abbrev dSt (pl:Pl) (p:Pr) (n m:BM):List Box:=ZAA pl p (mvM mvB n) (mvM mvB m)
noncomputable def ZuA:Tbl:=[(42,Zfg 43 Zn Zfh (fun p (c:Ca)=>!Vs p c.fields)),(44,ZdJ),(18,UP),(32,Zie)]
theorem optK.bool {k:Bs} {m:BM} {A:MV->Prop} (h:A (mvB (has k m))):optK (lkM k (mvM mvB m)) A (A (mvB false)):=by
 rw [XQ];unfold has at h
 cases hk:lkM k m with
 | none=>rw [hk] at h;exact h
 | some b=>rw [hk] at h;exact h
theorem ZzS (ht:TO w0 nG ZuA):PC w0 nG 25 Ztq:=by
 refine Jp Zc mixed (tbl:=ZuA) ht Tryz.func25 rfl kR kR ?_;intro args σ K h
 unfold Ztq Zao at h
 split at h
 ·obtain ⟨pl,p,rfl,hp,h⟩:=h;split at h
  ·have aa:=hp.len;have hl:(p.types.map (Zu pl)).length=p.types.length:=Tf ..;have hlr:(p.rels.map (ZN pl)).length=p.rels.length:=Tf ..;refine ⟨Zb [(3,⟨[30],[1,2,3,4,28,29],fun vs σ=>∃(j:Nat) (n m:BM),vs=[.d (.int .i64 j)]/\σ=⟨dSt pl p n m,[],0⟩/\j<=p.types.length/\Zar (p.types.drop j) n m=Zar p.types Zfj [],
     fun vs _=>match vs with | [.d (.int _ j)]=>((p.types.length:Int) - j).toNat | _=>0⟩),
    (7,⟨[7,41],[1,2,3,4,6,28,29,30,39,40],fun vs σ=>∃(j k:Nat) (t:Ty) (n m:BM) (b:Bool),vs=[.ptr 5 0,.ptr 6 0,.mp 7,.mp 8,.ptr 9 0,.d (.sl (p.types.map (Zu pl))),.d (.int .i64 (p.types.map (Zu pl)).length),.d (.int .i64 j),.d (.sl (t.cases.map Zn)),.d (.int .i64 (t.cases.map Zn).length),.d (.bool b),.d (.int .i64 k)] /\
      σ=⟨dSt pl p n m++[.cells 48 ((Zu pl t).map .d)],[],0⟩/\k<=t.cases.length/\p.types[j]?=some t /\
      (if (Zxu (t.cases.drop k) b m).1=true then some t.at' else Zar (p.types.drop (j+1)) (Uv t.name true n) (Zxu (t.cases.drop k) b m).2)=Zar p.types Zfj [],
     fun vs _=>match vs with | [_,_,_,_,_,_,_,_,_,.d (.int _ n),_,.d (.int _ k)]=>(n - k).toNat | _=>0⟩),
    (17,⟨[70],[1,2,68,69],fun vs σ=>∃(j:Nat) (n m:BM),vs=[.d (.int .i64 j)]/\σ=⟨dSt pl p n m,[],0⟩/\j<=p.types.length/\ZdN p (p.types.drop j)=ZdN p p.types,
     fun vs _=>match vs with | [.d (.int _ j)]=>((p.types.length:Int) - j).toNat | _=>0⟩),
    (24,⟨[108],[1,2,106,107],fun vs σ=>∃(j:Nat) (n m:BM),vs=[.d (.int .i64 j)]/\σ=⟨dSt pl p n m,[],0⟩/\j<=p.types.length/\ZbX p (p.types.drop j)=ZbX p p.types,
     fun vs _=>match vs with | [.d (.int _ j)]=>((p.types.length:Int) - j).toNat | _=>0⟩),
    (27,⟨[15,16],[1,2,14,106,107,108],fun vs σ=>∃(j k:Nat) (a:Bs) (t:Ty) (n m:BM),vs=[.ptr 5 0,.ptr 6 0,.ptr 9 0,.d (.sl (p.types.map (Zu pl))),.d (.int .i64 (p.types.map (Zu pl)).length),.d (.int .i64 j),.d (.str a),.d (.int .i64 k)] /\
      σ=⟨dSt pl p n m++[.cells 48 ((Zu pl t).map .d)],[],0⟩/\k<=p.types.length+1/\p.types[j]?=some t/\ZdO p t.name (p.types.length+1 - k) a=ZjS p t,
     fun vs _=>match vs with | [_,_,_,_,.d (.int _ n),_,_,.d (.int _ k)]=>(n+1 - k).toNat | _=>0⟩),
    (36,⟨[147],[1,2,145,146],fun vs σ=>∃(j:Nat) (n m:BM),vs=[.d (.int .i64 j)]/\σ=⟨dSt pl p n m,[],0⟩/\j<=p.rels.length/\Zgv p j (p.rels.drop j)=Zgv p 0 p.rels,
     fun vs _=>match vs with | [.d (.int _ j)]=>((p.rels.length:Int) - j).toNat | _=>0⟩)],VV [],Xj [7,27],5,false,sM,Ta rfl,?_⟩
   conv=>whnf
   refine ⟨⟨0,Zfj,[],rfl,rfl,oM,rfl⟩,?_⟩
   rintro vs σ1 ⟨j,n,m,rfl,rfl,hj,ha⟩
   conv=>whnf
   refine ZDc (fun hc=>?_) (fun hc=>?_)
   ·have ai:j<p.types.length:=by omega
    rw [TH ai] at ha;simp only [Zar] at ha;have ht:p.types[j]?=some p.types[j]:=Te ai;have mb:=(hp.ty (TB ai)).2.1;have hr:(p.types.map (Zu pl))[(j:Int).toNat]?=some (Zu pl p.types[j]):=by rw [Tw,To,ht];rfl
    generalize p.types[j]=t at ha ht hr mb;obtain ⟨t1,t2,t3,t4,t5,t6⟩:=t;have uk:(t5.map Zn).length=t5.length:=Tf ..;(conv=>whnf);refine ⟨_,oM,hr,wN ?_⟩;refine optK.bool (wN ?_);refine ⟨⟨j,0,⟨t1,t2,t3,t4,t5,t6⟩,n,m,has t2 n,rfl,rfl,oM,ht,ha⟩,?_⟩
    clear ha
    rintro vs σ2 ⟨j',k,t',n,m,b,bz,rfl,hk,ma,ha⟩
    have ej:(some (PV.d (.int .i64 (j:Int))):Option PV)=some (.d (.int .i64 (j':Int))):=congrArg (fun l:List PV=>l[7]?) bz;obtain rfl:j=j':=by have ej:=Option.some.inj ej;injection ej with ej;injection ej with _ ej;omega
    obtain rfl:(⟨t1,t2,t3,t4,t5,t6⟩:Ty)=t':=Option.some.inj (ht.symm.trans ma);have bz:vs=[.d (.bool b),.d (.int .i64 k)]:=congrArg (List.drop 10) bz;subst bz;(conv=>whnf);refine ZDc (fun cu=>?_) (fun cu=>?_)
    ·have gd:k<t5.length:=by have cu:(k:Int)<((t5.map Zn).length:Int):=cu;omega
     have hd:t5.drop k=t5[k]::t5.drop (k+1):=TH gd;have f5:(t5.map Zn)[(k:Int).toNat]?=some (Zn t5[k]):=by rw [Tw,To,Te gd];rfl
     simp only at ha;rw [hd] at ha
     clear hd
     generalize t5[k]=c at ha f5;obtain ⟨c1,c2⟩:=c;simp only [Zxu] at ha;(conv=>whnf);refine ⟨_,oM,f5,?_⟩;have hμ:((((t5.map Zn).length:Int) - ((k:Int)+1)).toNat<(((t5.map Zn).length:Int) - (k:Int)).toNat):=oM
     cases b with
     | true =>
      conv=>whnf
      refine Or.inl ⟨InR.i64 oM oM,wN ?_⟩;exact ⟨⟨j,k+1,⟨t1,t2,t3,t4,t5,t6⟩,n,Uv c1 true m,true,rfl,congrArg (fun x=>(⟨ZAA pl p (mvM mvB n) x++[.cells 48 ((Zu pl ⟨t1,t2,t3,t4,t5,t6⟩).map .d)],[],0⟩:St)) (Uu (f:=mvB) (k:=c1) (v:=true) m),by simp only;omega,ht,ha⟩,hμ⟩
     | false =>
     conv=>whnf
     refine optK.bool (wN ?_);refine Or.inl ⟨InR.i64 oM oM,wN ?_⟩;exact ⟨⟨j,k+1,⟨t1,t2,t3,t4,t5,t6⟩,n,Uv c1 true m,has c1 m,rfl,congrArg (fun x=>(⟨ZAA pl p (mvM mvB n) x++[.cells 48 ((Zu pl ⟨t1,t2,t3,t4,t5,t6⟩).map .d)],[],0⟩:St)) (Uu (f:=mvB) (k:=c1) (v:=true) m),by simp only;omega,ht,ha⟩,hμ⟩
    have ik:k=t5.length:=by have cu:¬(k:Int)<((t5.map Zn).length:Int):=cu;have hk:k<=t5.length:=hk;omega
    subst ik;simp only [List.drop_length,Zxu] at ha
    cases b with
    | true =>
     rw [Tj rfl] at ha;(conv=>whnf);exact h (some (t6,170)) (by simp only [Zfk,<- ha])
    | false =>
    rw [Tg sM] at ha;(conv=>whnf);refine Or.inl ⟨InR.i64 oM oM,wN ?_⟩;exact ⟨⟨j+1,Uv t2 true n,m,rfl,congrArg (fun x=>(⟨ZAA pl p x (mvM mvB m),[],0⟩:St)) (Uu (f:=mvB) (k:=t2) (v:=true) n),oM,ha⟩,by show ((p.types.length:Int) - ((j:Int)+1)).toNat<((p.types.length:Int) - (j:Int)).toNat;omega⟩
   have qw:j=p.types.length:=oM;subst qw;rw [List.drop_length] at ha;have dq:Zar p.types Zfj []=none:=ha.symm
   clear ha
   conv=>whnf
   refine ⟨⟨0,n,m,rfl,rfl,oM,rfl⟩,?_⟩
   clear n m
   rintro vs σ1 ⟨j,n,m,rfl,rfl,hj,ha⟩
   conv=>whnf
   refine ZDc (fun hc=>?_) (fun hc=>?_)
   ·have ai:j<p.types.length:=by omega
    rw [TH ai] at ha;simp only [ZdN] at ha;have oh:=hp.ty (TB ai);have hr:(p.types.map (Zu pl))[(j:Int).toNat]?=some (Zu pl p.types[j]):=by rw [Tw,To,Te ai];rfl
    generalize p.types[j]=t at ha hr oh;obtain ⟨t1,t2,t3,t4,t5,t6⟩:=t;simp only at oh;have yes:Zec p ⟨t1,t2,t3,t4,t5,t6⟩=true->K (.ret (.agg (ZAz pl (some (t6,180))))) ⟨Zid pl p,[],0⟩:=fun g=>by
     rw [Tj g] at ha;exact h (some (t6,180)) (by simp only [Zfk,dq,<- ha])
    have no:Zec p ⟨t1,t2,t3,t4,t5,t6⟩=false->ZdN p (p.types.drop (j+1))=ZdN p p.types:=fun g=>by
     rw [Tg (by rw [g];simp)] at ha;exact ha
    have hμ:((p.types.length:Int) - ((j:Int)+1)).toNat<((p.types.length:Int) - (j:Int)).toNat:=oM
    clear ha h
    conv=>whnf
    refine ⟨_,oM,hr,wN ?_⟩;refine ⟨pl,p,t5,rfl,rfl,⟨rfl,hp,oh.2.1,oh.2.2⟩,fun b hb=>?_⟩
    cases b with
    | true =>
     conv=>whnf
     exact yes (by simp only [Zec];rw [hb];rfl)
    | false =>
    conv=>whnf
    refine ⟨pl,p,rfl,hp,t4,rfl,oh.1,fun b fy=>?_⟩
    cases b with
    | false =>
     conv=>whnf
     exact yes (by simp only [Zec];rw [hb,fy];rfl)
    | true =>
    conv=>whnf
    refine ZDc (fun d7=>wN ?_) (fun d7=>wN ?_)
    ·have d7:t1=1:=by have d7:(t1:Int)=1:=d7;omega
     refine ⟨pl,p,rfl,hp,fun b jf=>?_⟩
     cases b with
     | false =>
      conv=>whnf
      exact yes (by simp only [Zec];rw [hb,fy,jf,d7];rfl)
     | true =>
     conv=>whnf
     refine Or.inl ⟨InR.i64 oM oM,wN ?_⟩;exact ⟨⟨j+1,n,m,rfl,rfl,oM,no (by simp only [Zec];rw [hb,fy,jf,d7];rfl)⟩,hμ⟩
    have d7:¬t1=1:=fun g=>d7 (by simp only [g];rfl)
    refine Or.inl ⟨InR.i64 oM oM,wN ?_⟩;exact ⟨⟨j+1,n,m,rfl,rfl,oM,no (by simp only [Zec];rw [hb,fy,decide_eq_false d7];rfl)⟩,hμ⟩
   have qw:j=p.types.length:=oM;subst qw;rw [List.drop_length] at ha;have ca:ZdN p p.types=none:=ha.symm
   clear ha
   conv=>whnf
   refine ⟨⟨0,n,m,rfl,rfl,oM,rfl⟩,?_⟩
   clear n m
   rintro vs σ1 ⟨j,n,m,rfl,rfl,hj,ha⟩
   conv=>whnf
   refine ZDc (fun hc=>?_) (fun hc=>?_)
   ·have ai:j<p.types.length:=by omega
    rw [TH ai] at ha;simp only [ZbX] at ha;have ht:p.types[j]?=some p.types[j]:=Te ai;have hr:(p.types.map (Zu pl))[(j:Int).toNat]?=some (Zu pl p.types[j]):=by rw [Tw,To,ht];rfl
    generalize p.types[j]=t at ha ht hr;obtain ⟨t1,t2,t3,t4,t5,t6⟩:=t;have yes:ZjS p ⟨t1,t2,t3,t4,t5,t6⟩=true->K (.ret (.agg (ZAz pl (some (t6,172))))) ⟨Zid pl p,[],0⟩:=fun g=>by
     rw [Tj g] at ha;exact h (some (t6,172)) (by simp only [Zfk,dq,ca,<- ha])
    have no:ZjS p ⟨t1,t2,t3,t4,t5,t6⟩=false->ZbX p (p.types.drop (j+1))=ZbX p p.types:=fun g=>by
     rw [Tg (by rw [g];simp)] at ha;exact ha
    have hμ:((p.types.length:Int) - ((j:Int)+1)).toNat<((p.types.length:Int) - (j:Int)).toNat:=oM
    clear ha h
    conv=>whnf
    refine ⟨_,oM,hr,wN ?_⟩;refine ⟨⟨j,0,t2,⟨t1,t2,t3,t4,t5,t6⟩,n,m,rfl,rfl,oM,ht,rfl⟩,?_⟩
    rintro vs σ2 ⟨j',k,a,t',n,m,bz,rfl,hk,ma,ha⟩
    have ej:(some (PV.d (.int .i64 (j:Int))):Option PV)=some (.d (.int .i64 (j':Int))):=congrArg (fun l:List PV=>l[5]?) bz;obtain rfl:j=j':=by have ej:=Option.some.inj ej;injection ej with ej;injection ej with _ ej;omega
    obtain rfl:(⟨t1,t2,t3,t4,t5,t6⟩:Ty)=t':=Option.some.inj (ht.symm.trans ma);have bz:vs=[.d (.str a),.d (.int .i64 k)]:=congrArg (List.drop 6) bz;subst bz;simp only at ha;(conv=>whnf);refine ZDc (fun cu=>?_) (fun cu=>?_);rotate_left
    ·rw [show p.types.length+1 - k=0 by omega] at ha;exact m143
    obtain ⟨q,hq⟩:∃q,p.types.length+1 - k=q+1:=⟨p.types.length - k,oM⟩
    rw [hq] at ha;simp only [ZdO] at ha;(conv=>whnf);refine ⟨pl,p,rfl,hp,fun x hx=>?_⟩;rw [hx] at ha
    cases x with
    | none =>
     exact m143
    | some c =>
    simp only at ha;(conv=>whnf);refine ZDc (fun dj=>wN ?_) (fun dj=>wN ?_)
    ·rw [Tj (show c=t2 from dj)] at ha;exact yes ha.symm
    rw [Tg (show ¬c=t2 from dj)] at ha;refine Or.inl ⟨InR.i64 oM oM,wN ?_⟩;exact ⟨⟨j,k+1,c,⟨t1,t2,t3,t4,t5,t6⟩,n,m,rfl,rfl,oM,ht,by rw [show p.types.length+1 - (k+1)=q by omega];exact ha⟩,by show (((p.types.map (Zu pl)).length:Int)+1 - ((k:Int)+1)).toNat<(((p.types.map (Zu pl)).length:Int)+1 - (k:Int)).toNat;omega⟩
   have qw:j=p.types.length:=oM;subst qw;rw [List.drop_length] at ha;have ou:ZbX p p.types=none:=ha.symm
   clear ha
   have hdF:Zfk p=Zgv p 0 p.rels:=by simp only [Zfk,dq,ca,ou]
   conv=>whnf
   refine ⟨⟨0,n,m,rfl,rfl,oM,rfl⟩,?_⟩
   clear n m
   rintro vs σ1 ⟨j,n,m,rfl,rfl,hj,ha⟩
   conv=>whnf
   refine ZDc (fun hc=>?_) (fun hc=>?_)
   ·have ai:j<p.rels.length:=by omega
    rw [TH ai] at ha;simp only [Zgv] at ha;have ja:=hp.re (TB ai);have hr:(p.rels.map (ZN pl))[(j:Int).toNat]?=some (ZN pl p.rels[j]):=by rw [Tw,To,Te ai];rfl
    generalize p.rels[j]=d at ha hr ja;obtain ⟨d1,d2,d3,d4,d5,d6⟩:=d;simp only at ja ha;have yes:∀e,Zgv p 0 p.rels=some (d6,e)->K (.ret (.agg (ZAz pl (some (d6,e))))) ⟨Zid pl p,[],0⟩:=fun e g=>h _ (by rw [hdF,g])
    have hμ:((p.rels.length:Int) - ((j:Int)+1)).toNat<((p.rels.length:Int) - (j:Int)).toNat:=oM
    clear h
    have w7:∀A:MV->Prop,A (mvI ((lkM d1 (ZjH p)).getD 0))->optK (lkM d1 (mvM mvI (ZjH p))) A (A (mvI 0)):=fun A g=>by
     rw [XQ]
     cases hk:lkM d1 (ZjH p) with
     | none=>rw [hk] at g;exact g
     | some b=>rw [hk] at g;exact g
    conv=>whnf
    refine ⟨_,oM,hr,wN ?_⟩;refine w7 _ (wN ?_);refine ZDe (fun h1=>wN ?_) (fun h1=>wN ?_)
    ·rw [Tj h1] at ha;exact yes 170 ha.symm
    rw [Tg (fun g=>g h1)] at ha;refine ⟨pl,p,rfl,hp,d2,rfl,ja,fun b hb=>?_⟩
    cases b with
    | false =>
     rw [Tj hb] at ha;(conv=>whnf);exact yes 180 ha.symm
    | true =>
    rw [Tg (by rw [hb];simp)] at ha;(conv=>whnf)
    cases d5 with
    | false =>
     exact m132
    | true =>
    cases d3 with
    | true =>
     rw [Tj sM] at ha;(conv=>whnf);exact yes 185 ha.symm
    | false =>
    cases d4 with
    | true =>
     rw [Tj sM] at ha;(conv=>whnf);exact yes 185 ha.symm
    | false =>
    exact m132
   have qw:j=p.rels.length:=oM;subst qw;rw [List.drop_length] at ha;(conv=>whnf);exact h none (by rw [hdF,<- ha];rfl)
  exact h.elim
 exact h.elim
def prU (p:Pr):Un:=.mk p.types p.rels p.rules [] [] []
def Zm0 (n:Nat) (p:Pr):Prop:=Zib n (prU p)/\BP p
abbrev ZuB (pl:Pl) (p:Pr) (b:Nat):List Box:=[.cells 26 (ZjQ pl p),.dmap (mvM mvC (Zli p)),.dmap (mvM mvI (Zbd p)),
 .cells 91 ([.mp (b+4),.mp (b+5),.mp (b+2),.mp (b+1)]++ZjQ pl p),.dmap (mvM mvI (Zth p)),.dmap (mvM mvI (ZjH p))]
abbrev ZCR (pl:Pl) (p:Pr):List Box:=.cells 26 (ZjQ pl p)::.cells 58 [.d (.int .i64 0),.d (.int .i64 0)]::ZuB pl p 2
theorem Zlt {p:Pr} {a e:Nat}:∀(l:List Re) (i:Nat),Zgv p i l=some (a,e)->e≠0
 | [],_,h=>by cases h
 | d::l,i,h=>by
  simp only [Zgv] at h;split at h
  ·cases h;decide
  split at h
  ·cases h;decide
  split at h
  ·cases h;decide
  exact Zlt l _ h
theorem Zgw {p:Pr} {a e:Nat} (h:Zfk p=some (a,e)):e≠0:=by
 unfold Zfk at h
 split at h
 ·cases h;decide
 split at h
 ·cases h;decide
 split at h
 ·cases h;decide
 exact Zlt _ _ h
noncomputable def We (n:Nat):Zo:=fun args σ K=>match args,σ with
 | [.agg c],⟨[],[],0⟩=>∃pl p,c=(Ut pl p).map .d/\(Zm0 n p/\n<=16777216/\p.rules=[]) /\
   ((Zas (prU p)).2≠0->K (.ret (.tuple [.d .nilp,.agg [.d (.int .i64 0),.d (.int .i64 (Zas (prU p)).2)]])) ⟨[],[],0⟩) /\
   ((Zas (prU p)).2=0->∀a e,Zfk p=some (a,e)->K (.ret (.tuple [.d .nilp,.agg [.d (.int .i64 (pl a)),.d (.int .i64 e)]])) ⟨[],[],0⟩) /\
   ((Zas (prU p)).2=0->Zfk p=none->K (.ret (.tuple [.ptr 5 0,.agg [.d (.int .i64 0),.d (.int .i64 0)]])) ⟨ZCR pl p,[],0⟩)
 | _,_=>False
noncomputable def Zfl (n:Nat):Tbl:=[(24,ZmV Xb Zib Zas n),(16,Zaq),(25,Ztq)]
theorem ZjT {n:Nat} (ht:TO w0 nG (Zfl n)):PC w0 nG 15 (We n):=by
 refine Jp Zc mixed (tbl:=Zfl n) ht Tryz.func15 rfl kR kR ?_;intro args σ K h
 unfold We at h
 split at h
 ·obtain ⟨pl,⟨p1,p2,p3⟩,rfl,⟨⟨hc,hp⟩,hn,hz⟩,h1,h2,h3⟩:=h;simp only at hz;subst hz;obtain ⟨tx,k,ho⟩:∃s k,Zas (prU ⟨p1,p2,[]⟩)=(s,k):=⟨_,_,rfl⟩
  rw [ho] at h1 h2 h3;simp only at h1 h2 h3
  by_cases hk:k=0
  ·subst hk
   cases hd:Zfk ⟨p1,p2,[]⟩ with
   | none =>
    have h3:=h3 rfl hd;refine ⟨Zb [],VV [(9,1)],Xj [],8,false,sM,Ta rfl,wN ?_⟩;refine ⟨pl,prU ⟨p1,p2,[]⟩,rfl,⟨hc,hn⟩,fun s k he=>?_⟩;rw [ho] at he
    cases he
    conv=>whnf
    refine ⟨pl,⟨p1,p2,[]⟩,rfl,hp,wN ?_⟩;refine ⟨pl,⟨p1,p2,[]⟩,rfl,hp,fun x hx=>?_⟩;rw [hd] at hx;subst hx;(conv=>whnf);exact h3
   | some ae =>
   obtain ⟨a,e⟩:=ae;have h2:=h2 rfl a e hd;refine ⟨Zb [],VV [(9,1)],Xj [],0,false,sM,Ta rfl,wN ?_⟩;refine ⟨pl,prU ⟨p1,p2,[]⟩,rfl,⟨hc,hn⟩,fun s k he=>?_⟩;rw [ho] at he
   cases he
   conv=>whnf
   refine ⟨pl,⟨p1,p2,[]⟩,rfl,hp,wN ?_⟩;refine ⟨pl,⟨p1,p2,[]⟩,rfl,hp,fun x hx=>?_⟩;rw [hd] at hx;subst hx;(conv=>whnf);refine ZDe (fun _=>wN ?_) (fun g=>absurd (by have g:(e:Int)=0:=g;omega) (Zgw hd))
   (repeat (refine ⟨rfl,?_⟩;conv=>whnf))
   exact h2
  have h1:=h1 hk;refine ⟨Zb [],VV [(9,1)],Xj [],0,false,sM,Ta rfl,wN ?_⟩;refine ⟨pl,prU ⟨p1,p2,[]⟩,rfl,⟨hc,hn⟩,fun s k he=>?_⟩;rw [ho] at he
  cases he
  conv=>whnf
  refine ZDe (fun _=>wN ?_) (fun g=>absurd (by have g:(k:Int)=0:=g;omega) hk);exact h1
 exact h.elim
def Zig (pl:Pl) (p:Pr):Int×Int:=if (Zas (prU p)).2≠0 then (0,(Zas (prU p)).2) else match Zfk p with | some (a,e)=>(pl a,e) | none=>(0,0)
noncomputable def Zgx (n:Nat):Zo:=fun args σ K=>match args,σ with
 | [.agg c],⟨[],[],0⟩=>∃pl p,c=(Ut pl p).map .d/\(Zm0 n p/\n<=16777216/\p.rules=[])/\∀a e,Zig pl p=(a,e)->K (.ret (.tuple [.d (.int .i64 a),.d (.int .i64 e)])) ⟨[],[],0⟩
 | _,_=>False
noncomputable def Zra (n:Nat):Tbl:=[(15,We n)]
theorem Zrb {n:Nat} (ht:TO w0 nG (Zra n)):PC w0 nG 7 (Zgx n):=by
 refine Zd Zc mixed (tbl:=Zra n) ht Tryz.func7 rfl kR kR ?_;intro args σ K h
 unfold Zgx at h
 split at h
 ·obtain ⟨pl,p,rfl,hc,h⟩:=h;refine ⟨Zb [],0,false,sM,Ta rfl,wN ?_⟩;refine ⟨pl,p,rfl,hc,fun g=>?_,fun g a e g2=>?_,fun g g2=>?_⟩
  ·conv=>whnf
   exact h _ _ (by rw [Zig,Tj g])
  ·conv=>whnf
   exact h _ _ (by rw [Zig,Tg (fun q=>q g),g2])
  conv=>whnf
  exact h _ _ (by rw [Zig,Tg (fun q=>q g),g2])
 exact h.elim
def ZG (p:Pr):Pr:=⟨p.types,[],[]⟩
def Zna (p:Pr):Int:=(Zig (fun _=>0) (ZG p)).2
theorem Zxv (pl pl':Pl) (p:Pr):(Zig pl p).2=(Zig pl' p).2:=by
 unfold Zig
 split
 ·rfl
 split <;> rfl
theorem Zlu (pl:Pl) (p:Pr) (g:(Zas (prU p)).2≠0):(Zig pl p).2=(Zas (prU p)).2:=by rw [Zig,Tj g]
theorem Zlv (pl:Pl) {p:Pr} {a e:Nat} (g:(Zas (prU p)).2=0) (g2:Zfk p=some (a,e)):(Zig pl p).2=e:=by rw [Zig,Tg (fun q=>q g),g2]
theorem Zrc (pl:Pl) {p:Pr} (g:(Zas (prU p)).2=0) (g2:Zfk p=none):(Zig pl p).2=0:=by rw [Zig,Tg (fun q=>q g),g2]
def Zgy (p:Pr) (s:Bs):Int×Int:=if Zna p≠0 then (0,Zna p) else if XR (ZG p) s=false then (0,180) else (YV (ZG p) s,0)
def Zxw:Prop:=∀p:Pr,Zfk p=none->Zxs p
noncomputable def Zgz (n:Nat):Zo:=fun args σ K=>match args,σ with
 | [.agg c,.d (.str s)],⟨[],[],0⟩=>∃pl p,c=(Ut pl p).map .d/\(Zm0 n (ZG p)/\n<=16777216/\Zxw)/\∀a e,Zgy p s=(a,e)->K (.ret (.tuple [.d (.int .i64 a),.d (.int .i64 e)])) ⟨[],[],0⟩
 | _,_=>False
noncomputable def ZdP (n:Nat):Tbl:=[(15,We n),(18,UP),(19,ZdI)]
theorem Zrd {n:Nat} (ht:TO w0 nG (ZdP n)):PC w0 nG 10 (Zgz n):=by
 refine Zd Zc mixed (tbl:=ZdP n) ht Tryz.func10 rfl kR kR ?_;intro args σ K h
 unfold Zgz at h
 split at h
 ·obtain ⟨pl,p,rfl,⟨hc,hn,az⟩,h⟩:=h;refine ⟨Zb [],0,false,sM,Ta rfl,wN ?_⟩;refine ⟨pl,ZG p,rfl,⟨hc,hn,rfl⟩,fun g=>?_,fun g a e g2=>?_,fun g g2=>?_⟩
  ·have he:Zna p=(Zas (prU (ZG p))).2:=Zlu _ _ g;(conv=>whnf);refine ZDe (fun _=>wN ?_) (fun g3=>absurd (by have g3:((Zas (prU (ZG p))).2:Int)=0:=g3;omega) g)
   (repeat (refine ⟨rfl,?_⟩;conv=>whnf))
   exact h _ _ (by rw [Zgy,Tj (by rw [he];omega),he])
  ·have he:Zna p=e:=Zlv _ g g2;have ao:=Zgw g2;(conv=>whnf);refine ZDe (fun _=>wN ?_) (fun g3=>absurd (by have g3:(e:Int)=0:=g3;omega) ao)
   (repeat (refine ⟨rfl,?_⟩;conv=>whnf))
   exact h _ _ (by rw [Zgy,Tj (by rw [he];omega),he])
  have he:Zna p=0:=Zrc _ g g2;(conv=>whnf);refine ⟨pl,ZG p,rfl,hc.2,fun b hb=>?_⟩
  cases b with
  | false =>
   conv=>whnf
   exact h _ _ (by rw [Zgy,Tg (by rw [he];simp),Tj hb])
  | true =>
  conv=>whnf
  refine ⟨pl,ZG p,rfl,hc.2,az _ g2,fun m hm=>wN ?_⟩;exact h _ _ (by rw [Zgy,Tg (by rw [he];simp),Tg (by rw [hb];simp),hm])
 exact h.elim
noncomputable def Zch:Zo:=fun args σ K=>match args,σ with
 | [.agg c,.d (.str a),.d (.str b)],⟨[],[],0⟩=>∃pl p,c=(Ut pl p).map .d/\BP p/\∀x,WS p a b=x->K (.ret (.d (.bool x))) ⟨[],[],0⟩
 | _,_=>False
noncomputable def Zih:Tbl:=[(16,Zaq),(17,ZjK)]
theorem Zre (ht:TO w0 nG Zih):PC w0 nG 9 Zch:=by
 refine Zd Zc mixed (tbl:=Zih) ht Tryz.func9 rfl kR kR ?_;intro args σ K h
 unfold Zch at h
 split at h
 ·obtain ⟨pl,p,rfl,hp,h⟩:=h;refine ⟨Zb [],0,false,sM,Ta rfl,wN ?_⟩;refine ⟨pl,p,rfl,hp,wN ?_⟩;refine ⟨pl,p,rfl,hp,fun x hx=>wN ?_⟩;exact h _ hx
 exact h.elim
def ZbY (p:Pr) (t:Ty):List (List D):=if t.kind=2 then [[.int .u8 3,.sl (VZ (Yi p t.fields)),.sl []]] else if t.kind=3 then [[.int .u8 4,.sl [],.sl (t.cases.map fun c=>[.sl (VZ (Yi p c.fields))])]] else []
def Xf (p:Pr) (l:List Ty):List (List D):=[[.int .u8 1,.sl [],.sl []],[.int .u8 2,.sl [],.sl []]]++(l.map (ZbY p)).flatten
theorem Zrf (p : Pr) (t : Ty) : (ZbY p t).length <= 1 :=by
 unfold ZbY
 split
 · simp
 · split<;>simp
theorem Zii (p:Pr):∀l:List Ty,(Xf p l).length<=2+l.length
 | []=>by simp [Xf]
 | t::l=>by
  have ih:=Zii p l;have h1:=Zrf p t;simp only [Xf,TC,List.flatten_cons,Tb,Tc] at ih |-;omega
theorem Zm1 (p:Pr) (l:List Ty) (t:Ty):Xf p (l++[t])=Xf p l++ZbY p t:=by simp [Xf]
noncomputable def ZdQ (n:Nat):Zo:=fun args σ K=>match args,σ with
 | [.agg c],⟨[],[],0⟩=>∃pl p,c=(Ut pl p).map .d/\(Zm0 n (ZG p)/\n<=16777216/\Zxw)/\(Zna p≠0->K (.ret (.tuple [.d (.sl []),.d (.int .i64 (Zna p))])) ⟨[],[],0⟩)/\(Zna p=0->K (.ret (.tuple [.d (.sl (Xf (ZG p) p.types)),.d (.int .i64 0)])) ⟨[],[],0⟩)
 | _,_=>False
noncomputable def Zbf (n:Nat):Tbl:=[(15,We n),(20,ZdK)]
abbrev sBx (pl:Pl) (p:Pr):List Box:=.cells 26 (ZjQ pl p)::.cells 26 (ZjQ pl (ZG p))::.cells 58 [.d (.int .i64 0),.d (.int .i64 0)]::(ZuB pl (ZG p) 3++[.cells 58 [.d (.int .i64 0),.d (.int .i64 0)]])
theorem Zm2 {n:Nat} (ht:TO w0 nG (Zbf n)):PC w0 nG 11 (ZdQ n):=by
 refine ZfN Zc mixed (tbl:=Zbf n) ht Tryz.func11 rfl kR kR ?_;intro args σ K h
 unfold ZdQ at h
 split at h
 ·obtain ⟨pl,p,rfl,⟨hc,hn,az⟩,h1,h2⟩:=h;have aa:p.types.length<=1073741824:=hc.2.len.1;have hl:(p.types.map (Zu pl)).length=p.types.length:=Tf ..;refine ⟨Zb [(6,⟨[6,30],[4,28,29],fun vs σ=>∃j:Nat,vs=[.sl 0 68 (Xf (ZG p) (p.types.take j)),.d (.int .i64 j)]/\σ=⟨sBx pl p,[0],1⟩/\j<=p.types.length,
    fun vs _=>match vs with | [_,.d (.int _ j)]=>((p.types.length:Int) - j).toNat | _=>0⟩),
   (14,⟨[6,52],[4,9,28,29,30,50,51],fun vs σ=>∃(j k:Nat) (t:Ty),vs=[.ptr 6 0,.ptr 11 0,.d (.sl (p.types.map (Zu pl))),.d (.int .i64 (p.types.map (Zu pl)).length),.d (.int .i64 j),.d (.sl (t.cases.map Zn)),.d (.int .i64 (t.cases.map Zn).length),.sl 0 68 (Xf (ZG p) (p.types.take j)),.d (.int .i64 k)] /\
     σ=⟨sBx pl p++[.cells 48 ((Zu pl t).map .d),.cells 68 [.d (.int .u8 4),.sl 1 3 [],.sl 2 65 ((t.cases.take k).map fun c=>[.sl (VZ (Yi (ZG p) c.fields))])]],[2,1,0],3⟩/\k<=t.cases.length/\p.types[j]?=some t,
    fun vs _=>match vs with | [_,_,_,_,_,_,.d (.int _ n),_,.d (.int _ k)]=>(n - k).toNat | _=>0⟩)],VV [],Xj [14],Xj [26],Xj [],0,false,sM,Ta rfl,?_⟩
  conv=>whnf
  refine ⟨pl,ZG p,rfl,⟨hc,hn,rfl⟩,fun g=>?_,fun g a e g2=>?_,fun g g2=>?_⟩
  ·have he:Zna p=(Zas (prU (ZG p))).2:=Zlu _ _ g;(conv=>whnf);refine ZDe (fun _=>wN ?_) (fun g3=>absurd (by have g3:((Zas (prU (ZG p))).2:Int)=0:=g3;omega) g)
   (repeat (refine ⟨rfl,?_⟩;conv=>whnf))
   rw [he] at h1;exact h1 oM
  ·have he:Zna p=e:=Zlv _ g g2;have ao:=Zgw g2;(conv=>whnf);refine ZDe (fun _=>wN ?_) (fun g3=>absurd (by have g3:(e:Int)=0:=g3;omega) ao)
   (repeat (refine ⟨rfl,?_⟩;conv=>whnf))
   rw [he] at h1;exact h1 oM
  have he:Zna p=0:=Zrc _ g g2;have h2:=h2 he;have dy:=az _ g2;(conv=>whnf);refine ⟨⟨0,rfl,rfl,oM⟩,?_⟩
  rintro vs σ1 ⟨j,rfl,rfl,hj⟩
  conv=>whnf
  refine ZDc (fun cy=>?_) (fun cy=>?_);rotate_left
  ·conv=>whnf
   rw [List.take_of_length_le oM];exact h2
  have ai:j<p.types.length:=oM;have bw:p.types.take (j+1)=p.types.take j++[p.types[j]]:=by rw [List.take_add_one,Te ai];rfl
  have ep:Xf (ZG p) (p.types.take (j+1))=Xf (ZG p) (p.types.take j)++ZbY (ZG p) p.types[j]:=by rw [bw,Zm1]
  have lb:(Xf (ZG p) (p.types.take j)).length<=2+j:=by have:=Zii (ZG p) (p.types.take j);rw [List.length_take,Nat.min_eq_left oM] at this;exact this
  have ht:p.types[j]?=some p.types[j]:=Te ai;have oh:=hc.2.ty (p:=ZG p) (TB ai);have hr:(p.types.map (Zu pl))[(j:Int).toNat]?=some (Zu pl p.types[j]):=by rw [Tw,To,ht];rfl
  generalize p.types[j]=t at ep ht hr oh;obtain ⟨t1,t2,t3,t4,t5,t6⟩:=t;simp only at oh;have uk:(t5.map Zn).length=t5.length:=Tf ..;have hμ:((p.types.length:Int) - ((j:Int)+1)).toNat<((p.types.length:Int) - (j:Int)).toNat:=oM;(conv=>whnf);refine ⟨_,oM,hr,wN ?_⟩;refine ZDc (fun bj=>wN ?_) (fun bj=>wN ?_)
  ·have bj:t1=2:=by have bj:(t1:Int)=2:=bj;omega
   have ep:Xf (ZG p) (p.types.take (j+1))=Xf (ZG p) (p.types.take j)++[[.int .u8 3,.sl (VZ (Yi (ZG p) t4)),.sl []]]:=by rw [ep,ZbY,Tj bj]
   refine ⟨pl,ZG p,rfl,hc.2,t4,rfl,⟨dy,oh.1⟩,wN ?_⟩;refine ⟨fun r hr=>by simp at hr;subst hr;rfl,?_,?_,?_⟩
   ·show ((Xf (ZG p) (p.types.take j)).length+1) * 56<=2 ^ 47;omega
   ·show (Xf (ZG p) (p.types.take j)).length+1<=2 ^ 47;omega
   conv=>whnf
   refine Or.inl ⟨InR.i64 oM oM,wN ?_⟩;exact ⟨⟨j+1,by rw [ep];rfl,rfl,oM⟩,hμ⟩
  refine ZDc (fun eh=>?_) (fun eh=>?_);rotate_left
  ·have ep:Xf (ZG p) (p.types.take (j+1))=Xf (ZG p) (p.types.take j):=by
    rw [ep,ZbY,Tg (fun g=>bj (by simp only [show t1=2 from g];rfl)),Tg (fun g=>eh (by simp only [show t1=3 from g];rfl)),TU]
   conv=>whnf
   refine Or.inl ⟨InR.i64 oM oM,wN ?_⟩;exact ⟨⟨j+1,by rw [ep];rfl,rfl,oM⟩,hμ⟩
  have eh:t1=3:=by have eh:(t1:Int)=3:=eh;omega
  have ep:Xf (ZG p) (p.types.take (j+1))=Xf (ZG p) (p.types.take j)++[[.int .u8 4,.sl [],.sl (t5.map fun c=>[.sl (VZ (Yi (ZG p) c.fields))])]]:=by rw [ep,ZbY,Tg (by simp [eh]),Tj eh]
  conv=>whnf
  refine ⟨⟨j,0,⟨t1,t2,t3,t4,t5,t6⟩,rfl,rfl,oM,ht⟩,?_⟩
  rintro vs σ2 ⟨j',k,t',bz,rfl,hk,ma⟩
  have ej:(some (PV.d (.int .i64 (j:Int))):Option PV)=some (.d (.int .i64 (j':Int))):=congrArg (fun l:List PV=>l[4]?) bz;obtain rfl:j=j':=by have ej:=Option.some.inj ej;injection ej with ej;injection ej with _ ej;omega
  obtain rfl:(⟨t1,t2,t3,t4,t5,t6⟩:Ty)=t':=Option.some.inj (ht.symm.trans ma);have bz:vs=[.sl 0 68 (Xf (ZG p) (p.types.take j)),.d (.int .i64 k)]:=congrArg (List.drop 7) bz;subst bz;(conv=>whnf);refine ZDc (fun cu=>?_) (fun cu=>?_)
  ·have gd:k<t5.length:=by have cu:(k:Int)<((t5.map Zn).length:Int):=cu;omega
   have zf:((t5.take k).map fun c:Ca=>[D.sl (VZ (Yi (ZG p) c.fields))]).length=k:=by rw [Tf,List.length_take];omega
   have j9:((t5.take (k+1)).map fun c:Ca=>[D.sl (VZ (Yi (ZG p) c.fields))])=((t5.take k).map fun c:Ca=>[D.sl (VZ (Yi (ZG p) c.fields))])++[[D.sl (VZ (Yi (ZG p) t5[k].fields))]]:=by
    rw [List.take_add_one,Te gd];show List.map _ (t5.take k++[t5[k]])=_;rw [Sp];rfl
   have hcf:=oh.2.2 _ (TB gd);have f5:(t5.map Zn)[(k:Int).toNat]?=some (Zn t5[k]):=by rw [Tw,To,Te gd];rfl
   generalize t5[k]=c at j9 f5 hcf;obtain ⟨c1,c2⟩:=c;(conv=>whnf);refine ⟨_,oM,f5,wN ?_⟩;refine ⟨pl,ZG p,rfl,hc.2,c2,rfl,⟨dy,hcf⟩,wN ?_⟩
   (repeat (refine ⟨rfl,?_⟩;conv=>whnf))
   refine ⟨fun r hr=>by simp at hr;subst hr;rfl,?_,?_,?_⟩
   ·show (((t5.take k).map fun c:Ca=>[D.sl (VZ (Yi (ZG p) c.fields))]).length+1) * 24<=2 ^ 47;omega
   ·show ((t5.take k).map fun c:Ca=>[D.sl (VZ (Yi (ZG p) c.fields))]).length+1<=2 ^ 47;omega
   conv=>whnf
   (repeat (refine ⟨rfl,?_⟩;conv=>whnf))
   refine Or.inl ⟨InR.i64 oM oM,wN ?_⟩;exact ⟨⟨j,k+1,⟨t1,t2,t3,t4,t5,t6⟩,rfl,by simp only [j9];rfl,by simp only;omega,ht⟩,by show (((t5.map Zn).length:Int) - ((k:Int)+1)).toNat<(((t5.map Zn).length:Int) - (k:Int)).toNat;omega⟩
  have ik:k=t5.length:=by have cu:¬(k:Int)<((t5.map Zn).length:Int):=cu;have hk:k<=t5.length:=hk;omega
  subst ik;(conv=>whnf);refine ⟨fun r hr=>by simp at hr;subst hr;rfl,?_,?_,?_⟩
  ·show ((Xf (ZG p) (p.types.take j)).length+1) * 56<=2 ^ 47;omega
  ·show (Xf (ZG p) (p.types.take j)).length+1<=2 ^ 47;omega
  conv=>whnf
  refine Or.inl ⟨InR.i64 oM oM,wN ?_⟩;exact ⟨⟨j+1,by rw [ep];simp only [T3];rfl,rfl,oM⟩,hμ⟩
 exact h.elim
theorem pig:∀(n:Nat) (f:Nat->Nat),(∀i,i<=n->f i<n)->∃i j,i<j/\j<=n/\f i=f j
 | 0,f,h=>absurd (h 0 (Tq _)) oM
 | n+1,f,h=>by
  by_cases hx:∃i,i<=n/\f i=f (n+1)
  ·obtain ⟨i,h1,h2⟩:=hx;exact ⟨i,n+1,oM,oM,h2⟩
  have ao:∀i,i<=n->f i≠f (n+1):=fun i hi g=>hx ⟨i,hi,g⟩
  have hv:=h (n+1) oM;obtain ⟨i,j,h1,h2,h3⟩:=pig n (fun i=>if f (n+1)<f i then f i - 1 else f i) (fun i hi=>by
   have h1:=h i oM;have h2:=ao i hi;show (if f (n+1)<f i then f i - 1 else f i)<n;split <;> omega)
  refine ⟨i,j,h1,oM,?_⟩;have h4:=ao i oM;have h5:=ao j h2
  change (if f (n+1)<f i then f i - 1 else f i)=(if f (n+1)<f j then f j - 1 else f j) at h3
  split at h3 <;> split at h3 <;> omega
def sN (p:Pr):Nat->Bs->Bs
 | 0,a=>a
 | n+1,a=>sN p n ((W4 p a).getD [])
theorem Zrg (p:Pr):∀(i k:Nat) (a:Bs),sN p (i+k) a=sN p k (sN p i a)
 | 0,k,a=>by rw [T5];rfl
 | i+1,k,a=>by rw [show i+1+k=(i+k)+1 by omega];exact Zrg p i k _
theorem Zlw {p:Pr}:∀{n:Nat} {a:Bs},Zan p n a=none->∀i,i<n->(W4 p (sN p i a)).isSome=true
 | 0,_,_,i,hi=>oM
 | n+1,a,h,i,hi=>by
  simp only [Zan] at h;split at h
  ·cases h
  rename_i c hc
  cases i with
  | zero=>simp only [sN,hc];rfl
  | succ i=>simp only [sN,hc];exact Zlw h i oM
theorem Zrh {p:Pr} {s:Bs}:∀{k n:Nat} {a:Bs},(∀i,i<=k->(W4 p (sN p i a)).isSome=true)->sN p (k+1) a=s->k<n->ZdO p s n a=true
 | k,0,_,_,_,h=>oM
 | 0,n+1,a,h,hs,_=>by
  obtain ⟨c,hc⟩:=T7.1 (h 0 oM);simp only [sN] at hc hs;rw [hc] at hs;simp only [Sm] at hs;simp only [ZdO,hc];rw [Tj hs]
 | k+1,n+1,a,h,hs,hk=>by
  obtain ⟨c,hc⟩:=T7.1 (h 0 oM);simp only [sN] at hc;simp only [ZdO,hc];split
  ·rfl
  refine Zrh (k:=k) (fun i hi=>?_) ?_ oM
  ·have:=h (i+1) oM;simpa only [sN,hc,Sm] using this
  rw [<- hs];simp only [sN,hc];rfl
theorem Zfm {p:Pr}:∀{l:List Ty},ZbX p l=none->∀t∈l,ZjS p t=false
 | [],_,_,h=>by cases h
 | x::l,h,t,ht=>by
  simp only [ZbX] at h;split at h
  ·cases h
  rename_i hx
  rcases Tr.1 ht with rfl | ht
  ·simpa using hx
  exact Zfm h t ht
theorem Zri {p:Pr} {a b:Bs} (h:W4 p a=some b):∃(k:Nat) (t:Ty),lkM a (Zth p)=some (k:Int)/\p.types[k]?=some t/\t.name=a/\t.kind=1/\t.base=b:=by
 unfold W4 at h
 split at h
 ·cases h
 rename_i i hi
 obtain ⟨k,t,rfl,ht,hn⟩:=Zq1 hi;split at h
 ·cases h
 rw [Tw,ht] at h;simp only at h;split at h
 ·rename_i hc;cases h;exact ⟨k,t,hi,ht,hn,hc.1,rfl⟩
 cases h
theorem Zxx {p:Pr} (h:ZbX p p.types=none):Zxs p:=fun s=>by
 cases he:Zq2 p s with
 | some r=>rfl
 | none =>
 exfalso;have hs:=Zlw he;have w7:∀i,i<=p.types.length->∃(k:Nat) (t:Ty),lkM (sN p i s) (Zth p)=some (k:Int)/\p.types[k]?=some t/\t.name=sN p i s:=fun i hi=>by
  obtain ⟨b,hb⟩:=T7.1 (hs i oM);obtain ⟨k,t,h1,h2,h3,_⟩:=Zri hb;exact ⟨k,t,h1,h2,h3⟩
 obtain ⟨i,j,h1,h2,h3⟩:=pig p.types.length (fun i=>((lkM (sN p i s) (Zth p)).getD 0).toNat) (fun i hi=>by
  obtain ⟨k,t,g1,g2,_⟩:=w7 i hi;simp only [g1,Sm,Tw];exact (Th.1 g2).1)
 obtain ⟨k1,t1,g1,g2,g3⟩:=w7 i oM;obtain ⟨k2,t2,q1,q2,q3⟩:=w7 j h2;simp only [g1,q1,Sm,Tw] at h3;subst h3;rw [g2] at q2
 cases q2
 have bu:sN p j s=sN p i s:=q3.symm.trans g3;have hr:=Zfm h t1 (Sb g2);have:ZjS p t1=true:=by
  unfold ZjS
  rw [g3];refine Zrh (k:=j - i - 1) (fun m hm=>?_) ?_ oM
  ·rw [<- Zrg];exact hs _ oM
  rw [<- Zrg,show i+(j - i - 1+1)=j by omega];exact bu
 rw [this] at hr
 cases hr
theorem Zlx {p:Pr} (h:Zfk p=none):Zar p.types Zfj []=none/\ZdN p p.types=none/\ZbX p p.types=none:=by
 unfold Zfk at h
 split at h
 ·cases h
 rename_i h1
 split at h
 ·cases h
 rename_i h2
 split at h
 ·cases h
 rename_i h3;exact ⟨h1,h2,h3⟩
theorem Xe:Zxw:=fun p h=>Zxx (Zlx h).2.2
inductive On (p:Pr):Bs->Bs->Prop
 | refl (a:Bs):On p a a
 | step {a c b:Bs} (h:W4 p a=some c) (k:On p c b):On p a b
theorem On.trans {p:Pr} {a b c:Bs} (h:On p a b) (k:On p b c):On p a c:=by
 induction h with
 | refl=>exact k
 | step h _ ih=>exact .step h (ih k)
theorem ZzT {p:Pr} {b:Bs}:∀{n:Nat} {a:Bs},VO p b n a=true->On p a b
 | 0,_,h=>by cases h
 | n+1,a,h=>by
  simp only [VO] at h;split at h
  ·rename_i e;subst e;exact .refl _
  split at h
  ·cases h
  rename_i c hc;exact .step hc (ZzT h)
theorem Ztr {p:Pr} {a b:Bs} (h:On p a b):∀{n:Nat} {r:Bs},Zan p n a=some r->VO p b n a=true:=by
 induction h with
 | refl a=>intro n r hr;cases n with | zero=>cases hr | succ n=>simp [VO]
 | step hb _ ih =>
 intro n r hr
 obtain ⟨m,rfl,hm⟩:=Zlj hb hr;simp only [VO,hb];split
 ·rfl
 exact ih hm
theorem WC {p:Pr} (he:Zxs p) (a b:Bs):WS p a b=true↔On p a b:=by
 obtain ⟨r,hr⟩:=T7.1 (he a);exact ⟨ZzT,fun h=>Ztr h hr⟩
theorem ZzU {p:Pr} (he:Zxs p) {a b:Bs} (h:On p a b):a=b\/Vr p (p.types.length+1) b<Vr p (p.types.length+1) a:=by
 induction h with
 | refl=>exact .inl rfl
 | step hb _ ih =>
 obtain ⟨r,hr⟩:=T7.1 (he _);have:=Zgt hr hb _ (Tq _);rcases ih with rfl | h
 ·exact .inr this
 exact .inr oM
theorem ZzV {p:Pr} (he:Zxs p) {a b:Bs} (h:On p a b):Zq2 p a=Zq2 p b:=by
 induction h with
 | refl=>rfl
 | step hb _ ih =>
 obtain ⟨r,hr⟩:=T7.1 (he _);rw [<- ih,hr,Zlk hb hr]
theorem Zfn {p:Pr}:∀{l:List Ty},ZdN p l=none->∀t∈l,Zec p t=false
 | [],_,_,h=>by cases h
 | x::l,h,t,ht=>by
  simp only [ZdN] at h;split at h
  ·cases h
  rename_i hx
  rcases Tr.1 ht with rfl | ht
  ·simpa using hx
  exact Zfn h t ht
theorem on_named {p:Pr} (hd:Zfk p=none) {a b:Bs} (h:On p a b):a=b\/(XR p a=true/\XR p b=true):=by
 induction h with
 | refl=>exact .inl rfl
 | step hb hk ih =>
 obtain ⟨k,t,h1,h2,h3,h4,h5⟩:=Zri hb;refine .inr ⟨by simp [XR,h1],?_⟩;rcases ih with rfl | ⟨_,h⟩
 ·have:=Zfn (Zlx hd).2.1 t (Sb h2);unfold Zec at this
  simp only [Sc,Bool.and_eq_false_iff,h4,h5] at this;rcases this.2.2 with g | g
  ·simp at g
  simpa using g
 exact h
theorem Zij {s:Bs} {n:Int}:∀(l:List Ty) (m:List (Bs×Int)),(∀s n,lkM s m=some n->0<=n/\n<m.length)->lkM s (Yr l m)=some n->0<=n/\n<(Yr l m).length
 | [],m,hm,h=>hm s n h
 | t::l,m,hm,h=>by
  simp only [Yr] at h |-;refine Zij l _ (fun s n hs=>?_) h;split at hs
  ·rename_i hc
   have nw:lkM t.name m=none:=by cases hx:lkM t.name m with | none=>rfl | some v=>rw [hx] at hc;exact absurd hc.2 sM
   rw [Tj hc,Zgs nw];rw [ZjG] at hs;split at hs
   ·cases hs;omega
   have:=hm s n hs;omega
  rename_i hc;rw [Tg hc];exact hm s n hs
theorem Zik:∀(l:List Ty) (m:List (Bs×Int)),(Yr l m).length<=m.length+(l.filter fun t=>decide (t.kind≠1)).length
 | [],m=>by simp [Yr]
 | t::l,m=>by
  simp only [Yr];have ih:=Zik l (if t.kind≠1/\(lkM t.name m).isNone=true then Uv t.name (m.length:Int) m else m);split at ih
  ·rename_i hc
   have nw:lkM t.name m=none:=by cases hx:lkM t.name m with | none=>rfl | some v=>rw [hx] at hc;exact absurd hc.2 sM
   rw [Zgs nw] at ih;rw [Tj hc,List.filter_cons_of_pos (by simpa using hc.1),Tc];omega
  rename_i hc
  rw [Tg hc];have:(l.filter fun t=>decide (t.kind≠1)).length<=((t::l).filter fun t=>decide (t.kind≠1)).length:=by
   rw [List.filter_cons];split <;> simp
  omega
theorem Zly (p:Pr):∀l:List Ty,(∀t∈l,t.kind=1\/t.kind=2\/t.kind=3)->2+(l.filter fun t=>decide (t.kind≠1)).length<=(Xf p l).length
 | [],_=>by simp [Xf]
 | t::l,h=>by
  have ih:=Zly p l (fun x hx=>h x (Tu _ hx));have hl:(Xf p (t::l)).length=(Xf p l).length+(ZbY p t).length:=by simp [Xf];omega
  rw [hl,List.filter_cons];split
  ·rename_i hc
   have:(ZbY p t).length=1:=by
    rcases h t (List.mem_cons_self ..) with g | g | g
    ·simp [g] at hc
    ·simp [ZbY,g]
    simp [ZbY,g]
   rw [Tc];omega
  omega
theorem Zts {p:Pr} (hk:∀t∈p.types,t.kind=1\/t.kind=2\/t.kind=3) (s:Bs):0<=YV p s/\YV p s<(Xf p p.types).length:=by
 have h1:=Zly p p.types hk;unfold YV
 cases h:lkM ((Zq2 p s).getD []) (Zbd p) with
 | none=>simp;omega
 | some n =>
 have h2:=Zij p.types [(Zrz,0),(ZxS,1)] (fun s n hs=>by
  simp only [lkM] at hs;split at hs
  ·cases hs;simp
  split at hs
  ·cases hs;simp
  cases hs) h
 have h3:=Zik p.types [(Zrz,0),(ZxS,1)];simp only [Sm];simp only [Tc,Td] at h3;exact ⟨h2.1,by have:=h2.2;omega⟩
theorem Zrj {p:Pr} (h:ZdA (prU p)=true):∀t∈p.types,t.kind=1\/t.kind=2\/t.kind=3:=fun t ht=>by
 have h1:p.types.all Ya=true:=by unfold prU ZdA at h;simp only [Tl] at h;exact h.1
 have h2:=Tm.1 h1 t ht;unfold Ya Za6 at h2
 simp only [Tl] at h2;have h3:=h2.1;split at h3
 ·exact .inl (by assumption)
 split at h3
 ·exact .inr (.inl (by assumption))
 split at h3
 ·exact .inr (.inr (by assumption))
 cases h3
theorem ZzW {p:Pr} (h:(Zas (prU p)).2=0):ZdA (prU p)=true:=by
 cases hm:ZdA (prU p) with
 | true=>rfl
 | false=>rw [Zas,hm] at h;simp at h
noncomputable def Zci:Zo:=fun args σ K=>match args,σ with
 | [],⟨[],[],0⟩=>K (.ret (.d (.bool true))) ⟨[],[],0⟩
 | _,_=>False
noncomputable def ZdR (n:Nat):Zo:=fun args σ K=>match args,σ with
 | [.agg c1,.d (.str a),.d (.str b),.d (.str c)],⟨[],[],0⟩=>(∃pl p,c1=(Ut pl p).map .d/\(Zis p<=1073741824/\Zm0 n (ZG p))/\n<=16777216)/\K (.ret (.d (.bool true))) ⟨[],[],0⟩
 | _,_=>False
noncomputable def Zfo (n:Nat):Tbl:=[(5,Zq0 Ut Zis bd5 6000),(6,Zci),(7,Zgx n),(9,Zch),(10,Zgz n),(11,ZdQ n)]
theorem Zrk {pl:Pl} {p:Pr} (h:(Zig pl p).2=0):(Zas (prU p)).2=0/\Zfk p=none:=by
 unfold Zig at h
 split at h
 ·rename_i g;simp only at h;omega
 rename_i g
 cases hd:Zfk p with
 | none=>exact ⟨oM,rfl⟩
 | some ae =>
 obtain ⟨a,e⟩:=ae;rw [hd] at h;have:=Zgw hd;simp only at h;omega
theorem Zm3 {n:Nat} (ht:TO w0 nG (Zfo n)):PC w0 nG 4 (ZdR n):=by
 refine Zd Zc mixed (tbl:=Zfo n) ht Tryz.func4 rfl kR kR ?_;intro args σ K h
 unfold ZdR at h
 split at h
 ·rename_i a b c
  obtain ⟨⟨pl,p,rfl,⟨hz,hc⟩,hn⟩,h⟩:=h;refine ⟨Zb [],0,false,sM,Ta rfl,wN ?_⟩;refine ⟨pl,p,1073741824,rfl,⟨⟨dM,dM⟩,dM,hz,dM⟩,fun r kl bi=>wN ?_⟩;refine ZDc (fun hcr=>wN ?_) (fun hcr=>wN ?_)
  ·exact h
  refine ⟨pl,ZG p,rfl,⟨hc,hn,rfl⟩,fun at' e hae=>wN ?_⟩;refine ZDe (fun uo=>wN ?_) (fun uo=>wN ?_)
  ·exact h
  have uo:(Zig pl (ZG p)).2=0:=by rw [hae];exact uo
  obtain ⟨ho,hd⟩:=Zrk uo;have ny:Zna p=0:=(Zxv _ _ _).trans uo;have dy:=Xe _ hd;have hAA:WS (ZG p) a a=true:=(WC dy a a).2 (.refl a);have hT:WS (ZG p) a b=true->WS (ZG p) b c=true->WS (ZG p) a c=true:=fun g1 g2=>(WC dy _ _).2 (((WC dy _ _).1 g1).trans ((WC dy _ _).1 g2))
  have hS:WS (ZG p) a b=true->WS (ZG p) b a=true->a=b:=fun g1 g2=>by
   rcases ZzU dy ((WC dy _ _).1 g1) with h1 | h1
   ·exact h1
   rcases ZzU dy ((WC dy _ _).1 g2) with h2 | h2
   ·exact h2.symm
   omega
  have hN:WS (ZG p) a b=true->a≠b->Zgy p a=(YV (ZG p) a,0)/\Zgy p b=(YV (ZG p) a,0):=fun g1 g2=>by
   have h1:=(WC dy _ _).1 g1;rcases on_named hd h1 with h2 | ⟨h2,h3⟩
   ·exact absurd h2 g2
   have h4:=ZzV dy h1;have h5:YV (ZG p) b=YV (ZG p) a:=by unfold YV;rw [h4]
   exact ⟨by rw [Zgy,Tg (by rw [ny];simp),Tg (by rw [h2];simp)],by rw [Zgy,Tg (by rw [ny];simp),Tg (by rw [h3];simp),h5]⟩
  have ep:∀v e,Zgy p a=(v,e)->e=0->0<=v/\v<(Xf (ZG p) p.types).length:=fun v e g1 g2=>by
   subst g2;have:=Zts (p:=ZG p) (Zrj (ZzW ho)) a;rw [Zgy,Tg (by rw [ny];simp)] at g1;split at g1
   ·cases g1
   cases g1;exact this
  have hB:=hc.2
  clear uo hae ho
  refine ⟨pl,ZG p,rfl,hB,fun x hx=>?_⟩;obtain rfl:x=true:=hx.symm.trans hAA;(conv=>whnf);refine ⟨pl,ZG p,rfl,hB,fun ab mg=>?_⟩;have again:∀x,WS (ZG p) a b=x->x=ab:=fun x g=>g.symm.trans mg
  cases ab with
  | false =>
   conv=>whnf
   refine ⟨pl,ZG p,rfl,hB,fun x hx=>?_⟩;obtain rfl:=again _ hx;(conv=>whnf);refine ⟨pl,ZG p,rfl,⟨hc,hn,Xe⟩,fun v1 e1 h1=>wN ?_⟩;refine ⟨pl,ZG p,rfl,⟨hc,hn,Xe⟩,fun v2 e2 h2=>wN ?_⟩;refine ⟨pl,ZG p,rfl,hB,fun x hx=>?_⟩;obtain rfl:=again _ hx;(conv=>whnf);exact m155
  | true =>
  conv=>whnf
  refine ⟨pl,ZG p,rfl,hB,fun bc hbc=>?_⟩;have gAC:∀x,bc=true->WS (ZG p) a c=x->x=true:=fun x g1 g2=>g2.symm.trans (hT mg (hbc.trans g1))
  have gBA:∀x,WS (ZG p) b a=x->x=true->a=b:=fun x g1 g2=>hS mg (g1.trans g2)
  cases bc with
  | false =>
   exact m153
  | true =>
  conv=>whnf
  refine ⟨pl,ZG p,rfl,hB,fun ac hac=>?_⟩;obtain rfl:=gAC _ rfl hac;exact m153
 exact h.elim
theorem Zlz {s:Bs} {r:PV} (h:runK 14 [.d (.str s)]=some (.ret r,⟨[],[],0⟩)):PC w0 nG 14 fun a σ K=>a=[.d (.str s)]/\σ=⟨[],[],0⟩/\K (.ret r) ⟨[],[],0⟩ :=
 ZeW Zc mixed (fun g r h=>by cases h) h
def idP:Pl:=fun n=>(n:Int)
def xK (a:Nat):Ex:=.mk 1 [120] 0 [] a
def pK (h b:UInt8):Pr:=⟨[⟨1,[78],Zrz,[],[],5⟩],[⟨[112],[⟨[120],[78]⟩],false,false,false,22⟩,⟨[113],[⟨[120],Zrz⟩],false,false,false,35⟩],[⟨[h],[xK 50],[.mk 1 [b] [xK 58] [] 56],48⟩]⟩
def ZCS (h b:UInt8):PV:=.agg ((Xb idP (prU (pK h b))).map .d)
theorem ZCT:(Zas (prU (pK 113 112))).2=0:=kR
theorem ZCU:(Zas (prU (pK 112 113))).2=0:=kR
theorem ZBx:Zib 1000 (prU (pK 113 112)):=⟨kR,Ta kR,Ta kR⟩
theorem ZBy:Zib 1000 (prU (pK 112 113)):=⟨kR,Ta kR,Ta kR⟩
def rPU (h b:UInt8):List PV->St->Option (PEnd×St):=fun args σ=>match σ with
 | ⟨[],[],0⟩=>match Zd0 args [ZCS h b] with
  | true=>some (.ret (.tuple [.d (.str (Zas (prU (pK h b))).1),.d (.int .i64 0)]),⟨[],[],0⟩)
  | false=>none
 | _=>none
theorem ZuC {h b:UInt8} (ho:(Zas (prU (pK h b))).2=0) (hc:Zib 1000 (prU (pK h b))) (hP:PC w0 nG 24 (ZmV Xb Zib Zas 1000)):PC w0 nG 24 (Zd2 (rPU h b)):=hP.weaken1 fun args σ K hs=>by
 obtain ⟨pe,σ',h1,h2⟩:=hs;unfold rPU at h1
 split at h1
 ·split at h1
  ·rename_i hb
   rw [UH hb]
   cases h1
   unfold ZmV
   refine ⟨idP,_,rfl,⟨hc,dM⟩,fun s k he=>?_⟩;rw [he] at ho h2;simp only at ho h2;subst ho;exact h2
  cases h1
 cases h1
noncomputable def ZzX (h b:UInt8) (g:Nat):Option RFn:=match Nat.beq g 24 with | true=>some (rPU h b) | false=>none
noncomputable def Zxy (h b:UInt8):RInf:=⟨ZB5,fun _ _=>false,ZzX h b⟩
noncomputable def ZBz (h b:UInt8):Option (PEnd×St):=fnR Tryz.prog (ZaR Tryz.prog Zbv (Zxy h b) 100000 200) Zbv (Zxy h b) 100000 7 [ZtX h b] ⟨[],[],0⟩
theorem ZzY:ZBz 113 112=some (.ret (.tuple [.d (.int .i64 0),.d (.int .i64 0)]),⟨[],[],0⟩):=Zf2 kR
theorem ZzZ:ZBz 112 113=some (.ret (.tuple [.d (.int .i64 50),.d (.int .i64 183)]),⟨[],[],0⟩):=Zf2 kR
theorem Zil {h b:UInt8} {r:PV} (hr:ZBz h b=some (.ret r,⟨[],[],0⟩)) (hP:PC w0 nG 24 (Zd2 (rPU h b))):PC w0 nG 7 fun a σ K=>a=[ZtX h b]/\σ=⟨[],[],0⟩/\K (.ret r) ⟨[],[],0⟩ :=
 ZeW Zc mixed (fun g r h=>by
  unfold Zxy ZzX at h
  simp only at h;split at h
  ·rename_i hg;cases Ti hg;cases h;exact hP
  cases h) hr
theorem PCalls.or {G:GE} {g:FuncId} {a b:Zo} (ha:PCalls G g a) (hb:PCalls G g b):PCalls G g fun args σ K=>a args σ K\/b args σ K:=⟨ha.enters,fun args σ K hs n e w vs hS hA=>hs.elim (fun h=>ha.calls args σ K h n e w vs hS hA) (fun h=>hb.calls args σ K h n e w vs hS hA)⟩
noncomputable def Zz0 (x y:List PV) (r s:PV):Zo:=fun a σ K=>(a=x/\σ=⟨[],[],0⟩/\K (.ret r) ⟨[],[],0⟩)\/(a=y/\σ=⟨[],[],0⟩/\K (.ret s) ⟨[],[],0⟩)
noncomputable def ZlA:Tbl:=[(14,Zz0 [.d (.str txA)] [.d (.str txB)] (ZtX 113 112) (ZtX 112 113)),
 (7,Zz0 [ZtX 113 112] [ZtX 112 113] (.tuple [.d (.int .i64 0),.d (.int .i64 0)]) (.tuple [.d (.int .i64 50),.d (.int .i64 183)]))]
theorem Zm4 (ht:TO w0 nG ZlA):PC w0 nG 6 Zci:=by
 refine Zd Zc mixed (tbl:=ZlA) ht Tryz.func6 rfl kR kR ?_;intro args σ K h
 unfold Zci at h
 split at h
 ·refine ⟨Zb [],0,false,sM,Ta rfl,wN ?_⟩;refine Or.inl ⟨rfl,rfl,wN ?_⟩;refine Or.inl ⟨rfl,rfl,wN ?_⟩;refine Or.inr ⟨rfl,rfl,wN ?_⟩;refine Or.inr ⟨rfl,rfl,wN ?_⟩;exact h
 exact h.elim
theorem Ztt (hP:PC w0 nG 24 (ZmV Xb Zib Zas 1000)):PC w0 nG 6 Zci :=
 Zm4 ⟨PCalls.or (Zlz ZCy) (Zlz ZCz),PCalls.or (Zil ZzY (ZuC ZCT ZBx hP)) (Zil ZzZ (ZuC ZCU ZBy hP)),trivial⟩
end Go.PM.Lex
end

section
namespace Go.PM
mutual
inductive PlainD (P:Program):TypeId->List D->Nat->Prop
 | int {t:TypeId} {k:IntKind} {n:Int} (h:P.underlying t=some (.int k)) (hw:(Lit.int k n).wf=true):PlainD P t [.int k n] 1
 | str {t:TypeId} {s:List UInt8} (h:P.underlying t=some .string):PlainD P t [.str s] (s.length+1)
 | bool {t:TypeId} {b:Bool} (h:P.underlying t=some .bool):PlainD P t [.bool b] 1
 | st {t:TypeId} {fs:Array Field} {ds:List D} {b:Nat} (h:P.underlying t=some (.struct fs)) (hf:PlainFs P (fs.toList.map (·.type)) ds b):PlainD P t ds (b+1)
 | sl {t e:TypeId} {rows:List (List D)} {b:Nat} (h:P.underlying t=some (.slice e)) (hr:PlainRs P e rows b):PlainD P t [.sl rows] (b+1)
inductive PlainFs (P:Program):List TypeId->List D->Nat->Prop
 | nil:PlainFs P [] [] 0
 | cons {f:TypeId} {l:List TypeId} {r ds:List D} {b c:Nat} (h1:PlainD P f r b) (h2:PlainFs P l ds c):PlainFs P (f::l) (r++ds) (b+c)
inductive PlainRs (P:Program):TypeId->List (List D)->Nat->Prop
 | nil {e:TypeId}:PlainRs P e [] 0
 | cons {e:TypeId} {r:List D} {rows:List (List D)} {b c:Nat} (h1:PlainD P e r b) (h2:PlainRs P e rows c):PlainRs P e (r::rows) (b+c)
end
structure CR (ok:Nat->Nat->Prop) (w:World) (ds:List D) (cs:List Value):Prop where
 len:ds.length=cs.length
 rel:∀(i:Nat) (x:D) (u:Value),ds[i]?=some x->cs[i]?=some u->DRel ok w x u
 one:∀u∈cs,u.oneCell'=true
theorem CR.nil {ok:Nat->Nat->Prop} {w:World}:CR ok w [] []:=⟨rfl,fun i x u h=>by simp at h,fun u h=>by cases h⟩
theorem CR.one1 {ok:Nat->Nat->Prop} {w:World} {x:D} {u:Value} (h:DRel ok w x u) (h1:u.oneCell'=true):CR ok w [x] [u]:=⟨rfl,fun i y v hy hv=>by
 match i,hy,hv with
 | 0,hy,hv=>cases hy;cases hv;exact h
 | i+1,hy,hv=>simp at hy,fun v hv=>by rw [List.mem_singleton.1 hv];exact h1⟩
theorem CR.app {ok:Nat->Nat->Prop} {w:World} {d1 d2:List D} {c1 c2:List Value} (h1:CR ok w d1 c1) (h2:CR ok w d2 c2):CR ok w (d1++d2) (c1++c2):=by
 refine ⟨by rw [Tb,Tb,h1.len,h2.len],fun i x u hx hu=>?_,fun u hu=>?_⟩
 ·by_cases hi:i<d1.length
  ·rw [TG hi] at hx;rw [TG (by rw [<- h1.len];exact hi)] at hu;exact h1.rel i x u hx hu
  rw [TS oM] at hx;rw [TS (by rw [<- h1.len];omega),<- h1.len] at hu;exact h2.rel _ x u hx hu
 rcases TN.1 hu with h | h
 ·exact h1.one u h
 exact h2.one u h
def Ztu (P:Program):List Field->Nat->Option Nat
 | [],a=>some a
 | f::l,a=>if f.offset=a then Ztu P l (a+P.cellsOf f.type) else none
def ZlB (P:Program) (S:List TypeId) (t:TypeId):Bool:=match P.underlying t with
 | some (.int _) | some .string | some .bool=>true
 | some (.struct fs)=>fs.toList.all (fun f=>S.contains f.type) && decide (Ztu P fs.toList 0=some (P.cellsOf t))
 | some (.slice e)=>S.contains e && decide (0<P.cellsOf e)
 | _=>false
section
variable {H:Type} {enc:TypeId×Value->H} {P:Program} {w:World} {ok:Nat->Nat->Prop}
theorem Zbg {S:List TypeId} (hS:S.all (ZlB P S)=true) (az:∀b off,ok b off) (bulk:DataW H->Nat) (bulks:List (DataW H)->Nat)
  (k1:∀k n,1<=bulk (.lit (.int k n))) (k2:∀s,s.length+1<=bulk (.lit (.string s))) (k3:∀b,1<=bulk (.lit (.bool b))) (k4:∀l,bulks l+1<=bulk (.agg l)) (k5:∀l m,bulks l+1<=bulk (.slice l m)) (k6:1<=bulk .nil) (k7:∀d l,bulk d+bulks l<=bulks (d::l)) :
  ∀(fuel:Nat) (t:TypeId) (cs:List Value) (x:DataW H×List MemPlace),t∈S->DataW.trod enc P w 0 (fun _=>true) true fuel t cs=some x->∃ds b,PlainD P t ds b/\CR ok w ds cs/\b<=bulk x.1
 | 0,t,cs,x,ht,h=>by simp [DataW.trod] at h
 | fuel+1,t,cs,x,ht,h=>by
  have hp:=Tm.1 hS t ht;unfold ZlB at hp
  split at hp
  ·rename_i k hu
   obtain ⟨n,rfl,rfl,hw⟩:=DataW.trod_int hu h;exact ⟨_,1,.int hu hw,.one1 (.int _ _) rfl,k1 _ _⟩
  ·rename_i hu
   obtain ⟨s,rfl,rfl,hw⟩:=DataW.trod_string hu h;exact ⟨[.str s.data.toList],_,.str hu,.one1 (.str _) rfl,k2 _⟩
  ·rename_i hu
   obtain ⟨b,rfl,rfl⟩:=DataW.trod_bool hu h;exact ⟨_,1,.bool hu,.one1 (.bool _) rfl,k3 _⟩
  ·rename_i fs hu
   rw [Tl,TM,Tm] at hp;obtain ⟨oi,uf⟩:=hp;obtain ⟨xs,n,hn,rfl,aa,hxl,hf⟩:=DataW.trod_struct hu h;obtain rfl:fuel=n:=oM;have key:∀(l:List Field) (k a:Nat),fs.toList.drop k=l->Ztu P l a=some (P.cellsOf t)->∃ds b,PlainFs P (l.map (·.type)) ds b/\CR ok w ds (cs.drop a)/\b<=bulks ((xs.drop k).map (·.1)):=by
    intro l
    induction l with
    | nil =>
     intro k a hk ha
     cases ha
     exact ⟨[],0,.nil,by rw [TJ oM];exact .nil,T6 _⟩
    | cons f l ih =>
    intro k a hk ha
    rw [Ztu] at ha;split at ha
    ·rename_i iv
     have zf:k<fs.size:=by
      have:=congrArg List.length hk;simp at this;omega
     have hfk:fs[k]?=some f:=by
      have:(fs.toList.drop k)[0]?=some f:=by rw [hk];rfl
      simpa using this
     have hd:fs.toList.drop (k+1)=l:=by rw [<- TF,hk];rfl
     obtain ⟨ds,b,g1,g2,g3⟩:=ih (k+1) _ hd ha;have hx:=hf k f hfk;rw [Te oM] at hx;have hfS:f.type∈S:=by
      have:=oi f (by have:=Sb (l:=fs.toList) (i:=k) (a:=f) (by simpa using hfk);exact this);simpa using this
     obtain ⟨dr,br,q1,q2,q3⟩:=Zbg hS az bulk bulks k1 k2 k3 k4 k5 k6 k7 fuel _ _ _ hfS hx;rw [iv] at q2;refine ⟨dr++ds,br+b,.cons q1 g1,?_,?_⟩
     ·have e:cs.drop a=(cs.drop a).take (P.cellsOf f.type)++cs.drop (a+P.cellsOf f.type):=by rw [<- TF,List.take_append_drop]
      rw [e];exact q2.app g2
     have e:xs.drop k=xs[k]::xs.drop (k+1):=TH oM;rw [e,TC];exact T1 (Nat.add_le_add q3 g3) (k7 _ _)
    cases ha
   obtain ⟨ds,b,g1,g2,g3⟩:=key fs.toList 0 0 rfl uf;rw [SE] at g2 g3;exact ⟨ds,b+1,.st hu g1,g2,T1 (Nat.add_le_add_right g3 1) (k4 _)⟩
  ·rename_i e hu
   rw [Tl,TM] at hp;obtain ⟨hp,ay⟩:=hp;have heS:e∈S:=by simpa using hp
   rcases DataW.trod_slice hu h with ⟨rfl,rfl⟩ | ⟨a,len,cap,elems,rest,n,hn,rfl,rfl,hb,hl,hm,aa,zg,vz,hns⟩
   ·exact ⟨[.sl []],1,.sl hu .nil,.one1 .slnil rfl,k6⟩
   obtain rfl:fuel=n:=oM;obtain ⟨l6,ew⟩:=vz rfl
   by_cases ii:cap=0
   ·subst ii;obtain rfl:len=0:=oM;exact ⟨[.sl []],1,.sl hu .nil,.one1 (.slz a) rfl,T1 oM (k5 _ _)⟩
   have w8:a.spot=none:=by
    have h0:∃cs',w.cells? 0 (a.add (0 * P.cellsOf e)) (P.cellsOf e)=some cs':=by
     by_cases mj:0<len
     ·have:=zg 0 mj;rw [Te oM] at this;obtain ⟨cs',h1,_⟩:=Option.bind_eq_some_iff.1 this;exact ⟨cs',h1⟩
     have:=ew 0 oM;rw [Te oM] at this;obtain ⟨cs',h1,_⟩:=Option.bind_eq_some_iff.1 this;exact ⟨cs',by rw [show len+0=0 by omega] at h1;exact h1⟩
    obtain ⟨cs',h1⟩:=h0;obtain ⟨_,h2,h3⟩:=World.cells?_some h1;have h4:=h3 0 ay;rw [Te oM] at h4;have ea:(a.add (0 * P.cellsOf e)).add 0=a:=by simp [Addr.add]
    rw [ea] at h4
    cases vz:a.spot with
    | none=>rfl
    | some q =>
    unfold World.cell? at h4
    split at h4
    ·rw [vz] at h4;simp at h4
    cases h4
   obtain ⟨blk,off,sp⟩:=a;obtain rfl:sp=none:=w8;have key:∀(m k:Nat),k+m=len->∃rows b,PlainRs P e rows b/\rows.length=m/\b<=bulks ((elems.drop k).map (·.1))/\∀(i:Nat) (r:List D),rows[i]?=some r->∃cs,cs.length=P.cellsOf e/\CR ok w r cs/\∀j,j<P.cellsOf e->w.cell? ⟨blk,off+(k+i) * P.cellsOf e+j,none⟩=cs[j]?:=by
    intro m
    induction m with
    | zero=>intro k hk;exact ⟨[],0,.nil,rfl,T6 _,fun i r h=>by simp at h⟩
    | succ m ih =>
    intro k hk
    obtain ⟨rows,b,g1,g2,g3,g4⟩:=ih (k+1) oM;have hx:=zg k oM;rw [Te oM] at hx;obtain ⟨cs',h1,h2⟩:=Option.bind_eq_some_iff.1 hx;obtain ⟨_,h3,h4⟩:=World.cells?_some h1;obtain ⟨dr,br,q1,q2,q3⟩:=Zbg hS az bulk bulks k1 k2 k3 k4 k5 k6 k7 fuel _ _ _ heS h2;refine ⟨dr::rows,br+b,.cons q1 g1,by rw [Tc,g2],?_,fun i r hr=>?_⟩
    ·rw [TH (show k<elems.length by omega),TC];exact T1 (Nat.add_le_add q3 g3) (k7 _ _)
    cases i with
    | zero =>
     cases hr
     refine ⟨cs',h3,q2,fun j hj=>?_⟩;have:=h4 j hj;rw [ZR,ZR] at this;rw [SC];exact this
    | succ i =>
    rw [TQ] at hr;obtain ⟨cs,e1,e2,e3⟩:=g4 i r hr;exact ⟨cs,e1,e2,fun j hj=>by rw [show k+(i+1)=k+1+i by omega];exact e3 j hj⟩
   obtain ⟨rows,b,g1,g2,g3,g4⟩:=key len 0 oM;rw [SE] at g3;refine ⟨[.sl rows],b+1,.sl hu g1,.one1 ?_ rfl,T1 (Nat.add_le_add_right g3 1) (k5 _ _)⟩;subst g2;refine .sl rows blk off cap (P.cellsOf e) (fun i j=>(w.cell? ⟨blk,off+i * P.cellsOf e+j,none⟩).getD default) hl (fun r hr=>?_) (fun i j hi hj=>?_) (fun i j _ _=>az _ _) (fun i j x hx=>?_)
   ·obtain ⟨i,hi,rfl⟩:=Se hr;obtain ⟨cs,e1,e2,_⟩:=g4 i _ (Te hi);rw [e2.len,e1]
   ·obtain ⟨cs,e1,e2,e3⟩:=g4 i _ (Te hi);have:=e3 j hj;rw [T5,Te oM] at this;simp only [this,Sm]
   obtain ⟨r,hr,hx⟩:=Option.bind_eq_some_iff.1 hx;obtain ⟨cs,e1,e2,e3⟩:=g4 i r hr;have hjr:=(Th.1 hx).1;have hj:j<P.cellsOf e:=by rw [<- e1,<- e2.len];exact hjr
   have:=e3 j hj;rw [T5,Te oM] at this;simp only [this,Sm];exact e2.rel j x _ hx (Te oM)
  cases hp
end
end Go.PM
end

section
namespace Go.PM
def stB (P:Program) (t:TypeId) (tys:List TypeId):Bool:=match P.underlying t with | some (.struct fs)=>decide (fs.toList.map (·.type)=tys) | _=>false
def slB (P:Program) (t e:TypeId):Bool:=match P.underlying t with | some (.slice u)=>decide (u=e) | _=>false
def Zz1 (P:Program) (t:TypeId) (k:IntKind):Bool:=match P.underlying t with | some (.int u)=>decide (u=k) | _=>false
def ZBA (P:Program) (t:TypeId):Bool:=match P.underlying t with | some .string=>true | _=>false
def Zxz (P:Program) (t:TypeId):Bool:=match P.underlying t with | some .bool=>true | _=>false
section
variable {P:Program} {t e:TypeId} {ds:List D} {b:Nat}
theorem PlainD.inv_st {tys:List TypeId} (h:PlainD P t ds b) (hu:stB P t tys=true):∃c,b=c+1/\PlainFs P tys ds c:=by
 unfold stB at hu
 cases h with
 | st h hf=>rw [h] at hu;simp only [TM] at hu;exact ⟨_,rfl,hu ▸ hf⟩
 | int h _=>rw [h] at hu;cases hu
 | str h=>rw [h] at hu;cases hu
 | bool h=>rw [h] at hu;cases hu
 | sl h _=>rw [h] at hu;cases hu
theorem PlainD.inv_sl (h:PlainD P t ds b) (hu:slB P t e=true):∃rows c,ds=[.sl rows]/\b=c+1/\PlainRs P e rows c:=by
 unfold slB at hu
 cases h with
 | sl h hr=>rw [h] at hu;simp only [TM] at hu;exact ⟨_,_,rfl,rfl,hu ▸ hr⟩
 | int h _=>rw [h] at hu;cases hu
 | str h=>rw [h] at hu;cases hu
 | bool h=>rw [h] at hu;cases hu
 | st h _=>rw [h] at hu;cases hu
theorem PlainD.inv_int {k:IntKind} (h:PlainD P t ds b) (hu:Zz1 P t k=true):∃n,ds=[.int k n]/\b=1/\(Lit.int k n).wf=true:=by
 unfold Zz1 at hu
 cases h with
 | int h hw=>rw [h] at hu;simp only [TM] at hu;subst hu;exact ⟨_,rfl,rfl,hw⟩
 | sl h _=>rw [h] at hu;cases hu
 | str h=>rw [h] at hu;cases hu
 | bool h=>rw [h] at hu;cases hu
 | st h _=>rw [h] at hu;cases hu
theorem PlainD.inv_str (h:PlainD P t ds b) (hu:ZBA P t=true):∃s,ds=[.str s]/\b=s.length+1:=by
 unfold ZBA at hu
 cases h with
 | str h=>exact ⟨_,rfl,rfl⟩
 | sl h _=>rw [h] at hu;cases hu
 | int h _=>rw [h] at hu;cases hu
 | bool h=>rw [h] at hu;cases hu
 | st h _=>rw [h] at hu;cases hu
theorem PlainD.inv_bool (h:PlainD P t ds b) (hu:Zxz P t=true):∃q,ds=[.bool q]/\b=1:=by
 unfold Zxz at hu
 cases h with
 | bool h=>exact ⟨_,rfl,rfl⟩
 | sl h _=>rw [h] at hu;cases hu
 | int h _=>rw [h] at hu;cases hu
 | str h=>rw [h] at hu;cases hu
 | st h _=>rw [h] at hu;cases hu
theorem PlainFs.inv {f:TypeId} {l:List TypeId} (h:PlainFs P (f::l) ds b):∃r ds' b1 c,ds=r++ds'/\b=b1+c/\PlainD P f r b1/\PlainFs P l ds' c:=by
 cases h with
 | cons h1 h2=>exact ⟨_,_,_,_,rfl,rfl,h1,h2⟩
theorem PlainFs.inv0 (h:PlainFs P [] ds b):ds=[]/\b=0:=by cases h;exact ⟨rfl,rfl⟩
end
end Go.PM
namespace Go.PM.Lex
open Go.Proofs
def plZ:Pl:=fun n=>if n % 2=0 then (n / 2:Nat) else -((n / 2:Nat):Int) - 1
def zc (z:Int):Nat:=if 0<=z then 2 * z.toNat else 2 * (-z - 1).toNat+1
theorem ZdS (z:Int):plZ (zc z)=z:=by
 unfold plZ zc
 by_cases h:0<=z
 ·rw [Tj h,Tj oM];omega
 rw [Tg h,Tg oM];omega
theorem Zbh {α:Type} {P:Program} {e:TypeId} {enc:α->List D} {sz w:α->Nat} {p:α->Bool}:∀{rows:List (List D)} {b:Nat},PlainRs P e rows b->(∀r c,c<=b->PlainD P e r c->∃x,r=enc x/\sz x+1<=2 * c/\w x+1<=2 * c/\p x=true)->∃xs,rows=xs.map enc/\szS sz xs<=2 * b/\szS w xs<=2 * b/\xs.all p=true
 | [],b,h,hd=>⟨[],rfl,by simp [szS],by simp [szS],rfl⟩
 | r::rows,b,h,hd=>by
  cases h with
  | cons h1 h2 =>
  rename_i b1 c
  obtain ⟨x,rfl,g1,g2,g5⟩:=hd r b1 oM h1;obtain ⟨xs,rfl,g3,g4,g6⟩:=Zbh h2 fun r c' hc=>hd r c' oM
  exact ⟨x::xs,rfl,by simp only [szS];omega,by simp only [szS];omega,by rw [List.all_cons,g5,g6];rfl⟩
theorem ZxA {n:Int} (h:(Lit.int .u8 n).wf=true):∃k:Nat,n=k:=by
 have:0<=n/\n<=255:=by simpa [Lit.wf,IntKind.min,IntKind.max,IntKind.signed,IntKind.bits] using h
 exact ⟨n.toNat,oM⟩
theorem Zz2 {n:Int} (h:(Lit.int .i64 n).wf=true):ZAw n=true:=by
 have:-9223372036854775808<=n/\n<=9223372036854775807:=by simpa [Lit.wf,IntKind.min,IntKind.max,IntKind.signed,IntKind.bits] using h
 simp only [ZAw,Tl,TM];omega
theorem stE:stB Tryz.prog 74 [5,9,2,34,3]=true:=kR
theorem stL:stB Tryz.prog 102 [5,9,34,35,3]=true:=kR
theorem ZCV:stB Tryz.prog 37 [9,34,35,3]=true:=kR
theorem ZCW:stB Tryz.prog 71 [9,9]=true:=kR
theorem ZCX:stB Tryz.prog 51 [9,45]=true:=kR
theorem ZCY:stB Tryz.prog 48 [5,9,9,45,46,3]=true:=kR
theorem ZCZ:stB Tryz.prog 53 [9,45,4,4,4,3]=true:=kR
theorem slE:slB Tryz.prog 34 74=true:=kR
theorem slL:slB Tryz.prog 35 102=true:=kR
theorem ZBB:slB Tryz.prog 45 71=true:=kR
theorem ZC0:slB Tryz.prog 46 51=true:=kR
theorem ZC1:slB Tryz.prog 22 48=true:=kR
theorem ZC2:slB Tryz.prog 23 53=true:=kR
theorem ZC3:slB Tryz.prog 24 37=true:=kR
theorem Ztv:ZBA Tryz.prog 9=true:=kR
theorem Zz3:Zz1 Tryz.prog 3 .i64=true:=kR
theorem ZC4:Zz1 Tryz.prog 2 .i64=true:=kR
theorem bU8:Zz1 Tryz.prog 5 .u8=true:=kR
theorem ZxB:Zxz Tryz.prog 4=true:=kR
theorem ZCt:∀(n:Nat) (ds:List D) (b:Nat),b<=n->PlainD Tryz.prog 74 ds b->∃x,ds=YP plZ x/\szE x+1<=2 * b/\wE x+1<=2 * b/\Zh9 x=true
 | n,ds,b,hb,h=>by
  obtain ⟨c,rfl,hf⟩:=h.inv_st stE
  cases n with
  | zero=>omega
  | succ n =>
  obtain ⟨_,_,b1,c1,rfl,rfl,h1,hf⟩:=hf.inv;obtain ⟨_,_,b2,c2,rfl,rfl,h2,hf⟩:=hf.inv;obtain ⟨_,_,b3,c3,rfl,rfl,h3,hf⟩:=hf.inv;obtain ⟨_,_,b4,c4,rfl,rfl,h4,hf⟩:=hf.inv;obtain ⟨_,_,b5,c5,rfl,rfl,h5,hf⟩:=hf.inv;obtain ⟨rfl,rfl⟩:=hf.inv0;obtain ⟨q1,rfl,rfl,w1⟩:=h1.inv_int bU8;obtain ⟨q1,rfl⟩:=ZxA w1;obtain ⟨q2,rfl,rfl⟩:=h2.inv_str Ztv;obtain ⟨q3,rfl,rfl,w3⟩:=h3.inv_int ZC4;have p3:=Zz2 w3;obtain ⟨rows4,d4,rfl,rfl,w9⟩:=h4.inv_sl slE;obtain ⟨q4,rfl,g4,e4,p4⟩:=Zbh (enc:=YP plZ) (sz:=szE) (w:=wE) (p:=Zh9) w9 fun r c hc hd=>ZCt n r c oM hd
  obtain ⟨q5,rfl,rfl,-⟩:=h5.inv_int Zz3;refine ⟨.mk q1 q2 q3 q4 (zc q5),?_,?_,?_,?_⟩
  ·simp only [YP,Zh,Zp,YH,ZdS];rfl
  ·simp only [szE,Uq,W1,WQ];omega
  ·simp only [wE,Jb,Ur,W3];omega
  simp only [Zh9,VN,UO,Zal,p3,p4];rfl
theorem Zz4 {b:Nat} {ds:List D} (h:PlainD Tryz.prog 74 ds b):∃x,ds=YP plZ x/\szE x+1<=2 * b/\wE x+1<=2 * b/\Zh9 x=true:=ZCt b ds b (Tq _) h
theorem ZCu:∀(n:Nat) (ds:List D) (b:Nat),b<=n->PlainD Tryz.prog 102 ds b->∃x,ds=XD plZ x/\szL x+1<=2 * b/\wL x+1<=2 * b/\ZmO x=true
 | n,ds,b,hb,h=>by
  obtain ⟨c,rfl,hf⟩:=h.inv_st stL
  cases n with
  | zero=>omega
  | succ n =>
  obtain ⟨_,_,b1,c1,rfl,rfl,h1,hf⟩:=hf.inv;obtain ⟨_,_,b2,c2,rfl,rfl,h2,hf⟩:=hf.inv;obtain ⟨_,_,b3,c3,rfl,rfl,h3,hf⟩:=hf.inv;obtain ⟨_,_,b4,c4,rfl,rfl,h4,hf⟩:=hf.inv;obtain ⟨_,_,b5,c5,rfl,rfl,h5,hf⟩:=hf.inv;obtain ⟨rfl,rfl⟩:=hf.inv0;obtain ⟨q1,rfl,rfl,w1⟩:=h1.inv_int bU8;obtain ⟨q1,rfl⟩:=ZxA w1;obtain ⟨q2,rfl,rfl⟩:=h2.inv_str Ztv;obtain ⟨rows3,d3,rfl,rfl,sr⟩:=h3.inv_sl slE;obtain ⟨q3,rfl,g3,e3,p3⟩:=Zbh (enc:=YP plZ) (sz:=szE) (w:=wE) (p:=Zh9) sr fun r c hc hd=>Zz4 hd
  obtain ⟨rows4,d4,rfl,rfl,w9⟩:=h4.inv_sl slL;obtain ⟨q4,rfl,g4,e4,p4⟩:=Zbh (enc:=XD plZ) (sz:=szL) (w:=wL) (p:=ZmO) w9 fun r c hc hd=>ZCu n r c oM hd
  obtain ⟨q5,rfl,rfl,-⟩:=h5.inv_int Zz3;refine ⟨.mk q1 q2 q3 q4 (zc q5),?_,?_,?_,?_⟩
  ·simp only [XD,Zh,Zp,YH,ZdS];rfl
  ·simp only [szL,Uq,W1,WQ];omega
  ·simp only [wL,Jb,Ur,W3];omega
  simp only [ZmO,VN,UO,Zal,p3,p4];rfl
theorem ZBC {b:Nat} {ds:List D} (h:PlainD Tryz.prog 102 ds b):∃x,ds=XD plZ x/\szL x+1<=2 * b/\wL x+1<=2 * b/\ZmO x=true:=ZCu b ds b (Tq _) h
theorem ZBD:∀(n:Nat) (ds:List D) (b:Nat),b<=n->PlainD Tryz.prog 37 ds b->∃x,ds=Z8 plZ x/\ZmH x+1<=2 * b/\wRu x+1<=2 * b/\Zgp x=true
 | n,ds,b,hb,h=>by
  obtain ⟨c,rfl,hf⟩:=h.inv_st ZCV
  cases n with
  | zero=>omega
  | succ n =>
  obtain ⟨_,_,b1,c1,rfl,rfl,h1,hf⟩:=hf.inv;obtain ⟨_,_,b2,c2,rfl,rfl,h2,hf⟩:=hf.inv;obtain ⟨_,_,b3,c3,rfl,rfl,h3,hf⟩:=hf.inv;obtain ⟨_,_,b4,c4,rfl,rfl,h4,hf⟩:=hf.inv;obtain ⟨rfl,rfl⟩:=hf.inv0;obtain ⟨q1,rfl,rfl⟩:=h1.inv_str Ztv;obtain ⟨rows2,d2,rfl,rfl,f5⟩:=h2.inv_sl slE;obtain ⟨q2,rfl,g2,e2,p2⟩:=Zbh (enc:=YP plZ) (sz:=szE) (w:=wE) (p:=Zh9) f5 fun r c hc hd=>Zz4 hd
  obtain ⟨rows3,d3,rfl,rfl,sr⟩:=h3.inv_sl slL;obtain ⟨q3,rfl,g3,e3,p3⟩:=Zbh (enc:=XD plZ) (sz:=szL) (w:=wL) (p:=ZmO) sr fun r c hc hd=>ZBC hd
  obtain ⟨q4,rfl,rfl,-⟩:=h4.inv_int Zz3;refine ⟨.mk q1 q2 q3 (zc q4),?_,?_,?_,?_⟩
  ·simp only [Z8,Zh,Zp,YH,ZdS];rfl
  ·simp only [ZmH,Uq,W1,WQ];omega
  ·simp only [wRu,Jb,Ur,W3];omega
  simp only [Zgp,VN,UO,Zal,p2,p3];rfl
theorem Zz5 {b:Nat} {ds:List D} (h:PlainD Tryz.prog 37 ds b):∃x,ds=Z8 plZ x/\ZmH x+1<=2 * b/\wRu x+1<=2 * b/\Zgp x=true:=ZBD b ds b (Tq _) h
theorem ZBE:∀(n:Nat) (ds:List D) (b:Nat),b<=n->PlainD Tryz.prog 71 ds b->∃x,ds=Zw x/\sz0 x+1<=2 * b/\wFi x+1<=2 * b/\(fun _=>true) x=true
 | n,ds,b,hb,h=>by
  obtain ⟨c,rfl,hf⟩:=h.inv_st ZCW
  cases n with
  | zero=>omega
  | succ n =>
  obtain ⟨_,_,b1,c1,rfl,rfl,h1,hf⟩:=hf.inv;obtain ⟨_,_,b2,c2,rfl,rfl,h2,hf⟩:=hf.inv;obtain ⟨rfl,rfl⟩:=hf.inv0;obtain ⟨q1,rfl,rfl⟩:=h1.inv_str Ztv;obtain ⟨q2,rfl,rfl⟩:=h2.inv_str Ztv;refine ⟨.mk q1 q2,?_,?_,?_,?_⟩
  ·simp only [Zw,Zh,Zp,YH,ZdS];rfl
  ·simp only [sz0,Uq,W1,WQ];omega
  ·simp only [wFi,Jb,Ur,W3];omega
  rfl
theorem Zrl {b:Nat} {ds:List D} (h:PlainD Tryz.prog 71 ds b):∃x,ds=Zw x/\sz0 x+1<=2 * b/\wFi x+1<=2 * b/\(fun _=>true) x=true:=ZBE b ds b (Tq _) h
theorem ZBF:∀(n:Nat) (ds:List D) (b:Nat),b<=n->PlainD Tryz.prog 51 ds b->∃x,ds=Zn x/\Zio x+1<=2 * b/\wCa x+1<=2 * b/\(fun _=>true) x=true
 | n,ds,b,hb,h=>by
  obtain ⟨c,rfl,hf⟩:=h.inv_st ZCX
  cases n with
  | zero=>omega
  | succ n =>
  obtain ⟨_,_,b1,c1,rfl,rfl,h1,hf⟩:=hf.inv;obtain ⟨_,_,b2,c2,rfl,rfl,h2,hf⟩:=hf.inv;obtain ⟨rfl,rfl⟩:=hf.inv0;obtain ⟨q1,rfl,rfl⟩:=h1.inv_str Ztv;obtain ⟨rows2,d2,rfl,rfl,f5⟩:=h2.inv_sl ZBB;obtain ⟨q2,rfl,g2,e2,p2⟩:=Zbh (enc:=Zw) (sz:=sz0) (w:=wFi) (p:=fun _=>true) f5 fun r c hc hd=>Zrl hd
  refine ⟨.mk q1 q2,?_,?_,?_,?_⟩
  ·simp only [Zn,Zh,Zp,YH,ZdS];rfl
  ·simp only [Zio,Uq,W1,WQ];omega
  ·simp only [wCa,Jb,Ur,W3];omega
  rfl
theorem Zz6 {b:Nat} {ds:List D} (h:PlainD Tryz.prog 51 ds b):∃x,ds=Zn x/\Zio x+1<=2 * b/\wCa x+1<=2 * b/\(fun _=>true) x=true:=ZBF b ds b (Tq _) h
theorem ZBG:∀(n:Nat) (ds:List D) (b:Nat),b<=n->PlainD Tryz.prog 48 ds b->∃x,ds=Zu plZ x/\ZmI x+1<=2 * b/\wTy x+1<=2 * b/\(fun _=>true) x=true
 | n,ds,b,hb,h=>by
  obtain ⟨c,rfl,hf⟩:=h.inv_st ZCY
  cases n with
  | zero=>omega
  | succ n =>
  obtain ⟨_,_,b1,c1,rfl,rfl,h1,hf⟩:=hf.inv;obtain ⟨_,_,b2,c2,rfl,rfl,h2,hf⟩:=hf.inv;obtain ⟨_,_,b3,c3,rfl,rfl,h3,hf⟩:=hf.inv;obtain ⟨_,_,b4,c4,rfl,rfl,h4,hf⟩:=hf.inv;obtain ⟨_,_,b5,c5,rfl,rfl,h5,hf⟩:=hf.inv;obtain ⟨_,_,b6,c6,rfl,rfl,h6,hf⟩:=hf.inv;obtain ⟨rfl,rfl⟩:=hf.inv0;obtain ⟨q1,rfl,rfl,w1⟩:=h1.inv_int bU8;obtain ⟨q1,rfl⟩:=ZxA w1;obtain ⟨q2,rfl,rfl⟩:=h2.inv_str Ztv;obtain ⟨q3,rfl,rfl⟩:=h3.inv_str Ztv;obtain ⟨rows4,d4,rfl,rfl,w9⟩:=h4.inv_sl ZBB;obtain ⟨q4,rfl,g4,e4,p4⟩:=Zbh (enc:=Zw) (sz:=sz0) (w:=wFi) (p:=fun _=>true) w9 fun r c hc hd=>Zrl hd
  obtain ⟨rows5,d5,rfl,rfl,hr5⟩:=h5.inv_sl ZC0;obtain ⟨q5,rfl,g5,e5,p5⟩:=Zbh (enc:=Zn) (sz:=Zio) (w:=wCa) (p:=fun _=>true) hr5 fun r c hc hd=>Zz6 hd
  obtain ⟨q6,rfl,rfl,-⟩:=h6.inv_int Zz3;refine ⟨.mk q1 q2 q3 q4 q5 (zc q6),?_,?_,?_,?_⟩
  ·simp only [Zu,Zh,Zp,YH,ZdS];rfl
  ·simp only [ZmI,Uq,W1,WQ];omega
  ·simp only [wTy,Jb,Ur,W3];omega
  rfl
theorem Zz7 {b:Nat} {ds:List D} (h:PlainD Tryz.prog 48 ds b):∃x,ds=Zu plZ x/\ZmI x+1<=2 * b/\wTy x+1<=2 * b/\(fun _=>true) x=true:=ZBG b ds b (Tq _) h
theorem ZBH:∀(n:Nat) (ds:List D) (b:Nat),b<=n->PlainD Tryz.prog 53 ds b->∃x,ds=ZN plZ x/\Zju x+1<=2 * b/\wRe x+1<=2 * b/\(fun _=>true) x=true
 | n,ds,b,hb,h=>by
  obtain ⟨c,rfl,hf⟩:=h.inv_st ZCZ
  cases n with
  | zero=>omega
  | succ n =>
  obtain ⟨_,_,b1,c1,rfl,rfl,h1,hf⟩:=hf.inv;obtain ⟨_,_,b2,c2,rfl,rfl,h2,hf⟩:=hf.inv;obtain ⟨_,_,b3,c3,rfl,rfl,h3,hf⟩:=hf.inv;obtain ⟨_,_,b4,c4,rfl,rfl,h4,hf⟩:=hf.inv;obtain ⟨_,_,b5,c5,rfl,rfl,h5,hf⟩:=hf.inv;obtain ⟨_,_,b6,c6,rfl,rfl,h6,hf⟩:=hf.inv;obtain ⟨rfl,rfl⟩:=hf.inv0;obtain ⟨q1,rfl,rfl⟩:=h1.inv_str Ztv;obtain ⟨rows2,d2,rfl,rfl,f5⟩:=h2.inv_sl ZBB;obtain ⟨q2,rfl,g2,e2,p2⟩:=Zbh (enc:=Zw) (sz:=sz0) (w:=wFi) (p:=fun _=>true) f5 fun r c hc hd=>Zrl hd
  obtain ⟨q3,rfl,rfl⟩:=h3.inv_bool ZxB;obtain ⟨q4,rfl,rfl⟩:=h4.inv_bool ZxB;obtain ⟨q5,rfl,rfl⟩:=h5.inv_bool ZxB;obtain ⟨q6,rfl,rfl,-⟩:=h6.inv_int Zz3;refine ⟨.mk q1 q2 q3 q4 q5 (zc q6),?_,?_,?_,?_⟩
  ·simp only [ZN,Zh,Zp,YH,ZdS];rfl
  ·simp only [Zju,Uq,W1,WQ];omega
  ·simp only [wRe,Jb,Ur,W3];omega
  rfl
theorem Zz8 {b:Nat} {ds:List D} (h:PlainD Tryz.prog 53 ds b):∃x,ds=ZN plZ x/\Zju x+1<=2 * b/\wRe x+1<=2 * b/\(fun _=>true) x=true:=ZBH b ds b (Tq _) h
end Go.PM.Lex
end

section
namespace Go
variable {H:Type} {enc:TypeId×Value->H}
end Go
namespace Go.PM.Lex
open Go.Proofs Go.Proofs.YtipdifmlclblhaaGreatDoor Go.ChangeShapes Go.WideShapes Go.ChangeAt Go.RowKit
theorem ZBI:ownKnob Tryz.prog.godebug=none:=kR
theorem ZuD : "*" ++ "errors.errorString" = "*errors.errorString" := by decide
theorem Ztw (u : TypeId) (h : Tryz.prog.typeName? 3 u = some "*errors.errorString") : u = 353 :=
 typeName_ptr_named (nm := "errors.errorString") (by rw [ZuD]; kernel_rfl) kR dM u (by rw [ZuD]; exact h)
theorem Zrm {W:World} {n:String} {text:List UInt8} {g:Nat} (hg:Tryz.prog.globalNamed n=some g) (ht:(Tryz.prog.globals[g]?).map (·.type)=some 194)
  (h : laidMet Tryz.prog [(n, .iface "*errors.errorString" (.ptr (.agg [.lit (.string text)])))] W) : ∃ ev, W.cell? ⟨g, 0, none⟩ = some ev /\ (ev = .nilIface \/ ∃ te pe, ev = .iface te pe) := by
 obtain ⟨a1,s1,lp,_⟩:=laid_sentinel h hg ht Tryz.underlying194 Ztw Tryz.underlying353 Tryz.underlying355 rfl rfl Tryz.underlying9 kR kR;refine ⟨.iface 353 (.pointer (some a1)),?_,.inr ⟨_,_,rfl⟩⟩;simpa using World.var?_cell hg lp 0
theorem Zz9 {W:World} (h:laidMetH Tryz.prog Rows.typesLessRow.laid W) (ep:W.ShapedOpen Tryz.prog):GlobOK W 8:=by
 rw [MakeChecks.laidMetH_plain _ _ _ kR] at h;have h1 := laidMet.filter (fun x => x.1 == "strconv.ErrSyntax") h;have h2 := laidMet.filter (fun x => x.1 == "strconv.ErrRange") h;exact ⟨oM,Tryz.laysM143.s1_3 W ep,Zrm kR kR h1,Zrm kR kR h2⟩
theorem ZAa {e e':Env} {W W':World} {σ':St} {may:MemPlace->Prop} (h:Later e ⟨[],[],0⟩ W e' σ' W'):W.keptBut W' may:=by
 refine ⟨h.os,h.output,fun i hi=>?_⟩;have:=h.blocks i hi (fun j hj=>by simp at hj) (fun t ht=>by cases ht);rw [this]
 cases hh:W.heap[i]? with
 | none=>rfl
 | some o=>cases o <;> simp
def Zm5:Env:=⟨fun _=>0,fun _=>none,fun _ _=>False⟩
theorem ZxC {W:World} (h:8<=W.heap.size):SRel (GG W 8) Zm5 ⟨[],[],0⟩ W where
 inj:=fun i j hi=>by simp at hi
 box:=fun i x hx=>by simp at hx
 low:=fun i hi=>by simp at hi
 tkn:=fun t ht=>by cases ht
 own:=fun t ht=>by cases ht
 dis:=fun t t' ht=>by cases ht
 xlt:=fun b off hx=>hx.elim
 xown:=fun t ht=>by cases ht
 glob:=fun b hb=>rfl
 big:=h
end Go.PM.Lex
end

section
namespace Go.PM.Lex
open Go.Proofs Go.Proofs.YtipdifmlclblhaaGreatDoor
theorem Ztx:∀b off,okc Zm5 ⟨[],[],0⟩ b off:=fun b off=>⟨fun h=>h,fun i hi=>by simp at hi,fun t ht=>by cases ht⟩
section
variable {H:Type} {enc:TypeId×Value->H} {W:World} {nG:Nat}
theorem Zm6 {S:List TypeId} (hS:S.all (ZlB Tryz.prog S)=true) {t:TypeId} {cs:Array Value} {d:DataW H} {ps:List MemPlace} (ht:t∈S) (h:DataW.Trod enc Tryz.prog W 0 (fun _=>true) true t (.agg cs) d ps) :
  ∃ds b,PlainD Tryz.prog t ds b/\VRel (GG W nG) Zm5 ⟨[],[],0⟩ W (.agg (ds.map .d)) (.agg cs)/\b<=Rows.uptoBulk d:=by
 obtain ⟨fuel,hf⟩:=h;obtain ⟨ds,b,h1,h2,h3⟩:=Zbg hS Ztx Rows.uptoBulk Rows.uptoBulkAll (fun _ _=>Tq _) (fun _=>Tq _) (fun _=>Tq _) (fun _=>Tq _) (fun l m=>by simp only [Rows.uptoBulk];omega) (Tq _) (fun _ _=>Tq _) fuel t _ _ ht hf;have hc:(Value.agg cs).cells.toList=cs.toList:=rfl;rw [hc] at h2;refine ⟨ds,b,h1,.agg _ _ (by rw [Tf,h2.len,T4]) (fun i x u hx hu=>?_) (fun u hu=>h2.one u (by simpa using hu)),h3⟩;rw [To] at hx;obtain ⟨y,hy,rfl⟩:=TW.1 hx;exact .d _ _ (h2.rel i y u hy (by simpa using hu))
end
end Go.PM.Lex
end

section
namespace Go.PM.Lex
open Go.Proofs Go.Proofs.YtipdifmlclblhaaGreatDoor
def plainP:List TypeId:=[26,22,23,24,48,53,37,71,45,51,46,74,34,102,35,9,3,5,2,4]
theorem Zrn:plainP.all (ZlB Tryz.prog plainP)=true:=kR
theorem ZC5:stB Tryz.prog 26 [22,23,24]=true:=kR
theorem ZBJ {b:Nat} {ds:List D} (h:PlainD Tryz.prog 26 ds b):∃x:Pr,ds=Ut plZ x/\Zis x+1<=2 * b/\wUn (prU x)+1<=2 * b/\ZmQ (prU x)=true:=by
 obtain ⟨c,rfl,hf⟩:=h.inv_st ZC5;obtain ⟨_,_,b1,c1,rfl,rfl,h1,hf⟩:=hf.inv;obtain ⟨_,_,b2,c2,rfl,rfl,h2,hf⟩:=hf.inv;obtain ⟨_,_,b3,c3,rfl,rfl,h3,hf⟩:=hf.inv;obtain ⟨rfl,rfl⟩:=hf.inv0;obtain ⟨rows1,d1,rfl,rfl,bi⟩:=h1.inv_sl ZC1;obtain ⟨q1,rfl,g1,e1,p1⟩:=Zbh (enc:=Zu plZ) (sz:=ZmI) (w:=wTy) (p:=fun _=>true) bi fun r c hc hd=>Zz7 hd
 obtain ⟨rows2,d2,rfl,rfl,f5⟩:=h2.inv_sl ZC2;obtain ⟨q2,rfl,g2,e2,p2⟩:=Zbh (enc:=ZN plZ) (sz:=Zju) (w:=wRe) (p:=fun _=>true) f5 fun r c hc hd=>Zz8 hd
 obtain ⟨rows3,d3,rfl,rfl,sr⟩:=h3.inv_sl ZC3;obtain ⟨q3,rfl,g3,e3,p3⟩:=Zbh (enc:=Z8 plZ) (sz:=ZmH) (w:=wRu) (p:=Zgp) sr fun r c hc hd=>Zz5 hd
 refine ⟨⟨q1,q2,q3⟩,rfl,?_,?_,?_⟩
 ·show 1+szS ZmI q1+szS Zju q2+szS ZmH q3+1<=_;omega
 ·simp only [prU,wUn,ZsS,szS];omega
 simp [prU,ZmQ,ZbN,p3]
theorem ZBK {n:Nat} {x:Pr} (hz:Zis x<=2097152) (hw:wUn (prU x)<=n) (hn:n<=2097152):Zm0 n (ZG x):=by
 have hr:ZmQ (prU (ZG x))=true:=by simp [prU,ZG,ZmQ,ZbN]
 have h1:wUn (prU (ZG x))<=wUn (prU x):=by simp only [prU,ZG,wUn,ZsS,szS];omega
 have h2:=ZjF _ hr;refine ⟨⟨hr,oM,oM⟩,?_⟩;have h3:Zis (ZG x)<=Zis x:=by simp only [ZG,Zis,szS];omega
 exact T1 h3 oM
section
variable {H:Type} {enc:TypeId×Value->H} {W:World} {nG:Nat}
theorem Zty {cs:Array Value} {d:DataW H} {ps:List MemPlace} (h:DataW.Trod enc Tryz.prog W 0 (fun _=>true) true 26 (.agg cs) d ps) :
  ∃x,VRel (GG W nG) Zm5 ⟨[],[],0⟩ W (.agg ((Ut plZ x).map .d)) (.agg cs)/\Zis x+1<=2 * Rows.uptoBulk d/\wUn (prU x)+1<=2 * Rows.uptoBulk d/\ZmQ (prU x)=true:=by
 obtain ⟨ds,b,h1,h2,h3⟩:=Zm6 (nG:=nG) Zrn dM h;obtain ⟨x,rfl,g1,g2,g3⟩:=ZBJ h1;exact ⟨x,h2,oM,oM,g3⟩
end
end Go.PM.Lex
namespace Go.Proofs.YtipdifmlclblhaaGreatDoor
open Go.ChangeShapes
variable {P:Program} {H:Type} {enc:TypeId×Value->H} {w:World} {base:Nat} {spare:Nat->Bool} {ij:Bool}
theorem Zim {t0 t1 t2 t3:TypeId} {args:Array Value} {ds:List (DataW H)} {ps:List MemPlace} (h:DataW.TrodAll enc P w base spare ij [t0,t1,t2,t3] args.toList ds ps) :
  ∃v0 v1 v2 v3 d0 d1 d2 d3 p0 p1 p2 p3,args=#[v0,v1,v2,v3]/\ds=[d0,d1,d2,d3]/\ps=p0++(p1++(p2++p3))/\DataW.Trod enc P w base spare ij t0 v0 d0 p0/\DataW.Trod enc P w base spare ij t1 v1 d1 p1/\DataW.Trod enc P w base spare ij t2 v2 d2 p2/\DataW.Trod enc P w base spare ij t3 v3 d3 p3:=by
 obtain ⟨v,vs,d,ds1,p,q,am,rfl,rfl,hd,an⟩:=trodAll_cons h;obtain ⟨v1,vs1,d1,ds2,p1,q1,rfl,rfl,rfl,dq,s9⟩:=trodAll_cons an;obtain ⟨v2,vs2,d2,ds3,p2,q2,rfl,rfl,rfl,ca,ta⟩:=trodAll_cons s9;obtain ⟨v3,vs3,d3,ds4,p3,q3,rfl,rfl,rfl,ou,tc⟩:=trodAll_cons ta;obtain ⟨rfl,rfl,rfl⟩:=trodAll_nil tc;exact ⟨v,v1,v2,v3,d,d1,d2,d3,p,p1,p2,p3,by cases args;simp_all,rfl,by simp,hd,dq,ca,ou⟩
theorem ZjU {t0 t1 t2 t3:TypeId} {v0 v1 v2 v3:Value} {d0 d1 d2 d3:DataW H} {p0 p1 p2 p3:List MemPlace} (h0:DataW.Trod enc P w base spare ij t0 v0 d0 p0) (h1:DataW.Trod enc P w base spare ij t1 v1 d1 p1)
  (h2:DataW.Trod enc P w base spare ij t2 v2 d2 p2) (h3:DataW.Trod enc P w base spare ij t3 v3 d3 p3):DataW.TrodAll enc P w base spare ij [t0,t1,t2,t3] [v0,v1,v2,v3] [d0,d1,d2,d3] (p0++(p1++(p2++p3))) :=
 ⟨p0,_,h0,trodAll_mk3 h1 h2 h3,rfl⟩
end Go.Proofs.YtipdifmlclblhaaGreatDoor
end

section
namespace Go.PM.Lex
open Go.Proofs
variable {w0:World} {nG:Nat}
end Go.PM.Lex
end

section
namespace Go.PM.Lex
open Go.Proofs Go.Proofs.YtipdifmlclblhaaGreatDoor
theorem ZxD:Rows.laid_unicode_utf8_first=Lib.firstData:=kR
theorem Ztz:(Rows.laid_unicode_utf8_acceptRanges:DataW Unit)=Lib.acceptData:=kR
theorem ZAb {W:World} (h:laidMetH Tryz.prog Rows.typesLessRow.laid W):Lib.Utf8Tabs 0 1 W:=by
 rw [MakeChecks.laidMetH_plain _ _ _ kR] at h;have h1:=Lib.laidMet.reads (d:=Rows.laid_unicode_utf8_first) h (.tail _ (.tail _ (.tail _ (.tail _ (.tail _ (.tail _ (.head _)))))));have h2:=Lib.laidMet.reads (d:=Rows.laid_unicode_utf8_acceptRanges) h (.tail _ (.tail _ (.tail _ (.head _))));rw [ZxD] at h1;rw [Ztz] at h2;exact utf8Tabs_of_readsT (U8Types.of196 Tryz.laysValid) ⟨kR,kR,kR,kR,kR,kR,kR⟩ h1 h2
variable {w0:World} {nG:Nat}
theorem ZBL (hb:1<nG) (hT:Lib.Utf8Tabs 0 1 w0):LexC w0 nG where
 name:=ZBg ⟨Zpc,J8,ZyA,trivial⟩
 quote:=ZsN ⟨ZsJ hb hT,ZbD,Ze1,ZbE,ZhA,trivial⟩
end Go.PM.Lex
end

section
namespace Go.PM.Lex
open Go.Proofs Go.Proofs.YtipdifmlclblhaaGreatDoor
def ZtA:DataW Unit->List Int
 | .agg xs=>xs.map fun | .lit (.int _ z)=>z | _=>0
 | _=>[]
theorem ZxE:(Rows.laid_internal_strconv_uint64pow10:DataW Unit)=Lib.tabData .u64 Lib.pow10Tab:=kR
theorem ZBM:(Rows.laid_math_bits_deBruijn64tab:DataW Unit)=Lib.tabData .u8 (ZtA Rows.laid_math_bits_deBruijn64tab):=kR
theorem ZxF:(ZtA Rows.laid_math_bits_deBruijn64tab).getD 15 0=4:=kR
theorem ZAc:(ZtA Rows.laid_math_bits_deBruijn64tab).length=64:=kR
theorem ZBN {W:World} (h:laidMetH Tryz.prog Rows.typesLessRow.laid W):NumOK W 8:=by
 rw [MakeChecks.laidMetH_plain _ _ _ kR] at h;have h1 := laidMet.filter (fun x => x.1 == "internal/strconv.uint64pow10") h;have h2 := laidMet.filter (fun x => x.1 == "math/bits.deBruijn64tab") h;have k1 : laidMet Tryz.prog [("internal/strconv.uint64pow10", Lib.tabData .u64 Lib.pow10Tab)] W := by rw [<- ZxE]; exact h1
 have k2 : laidMet Tryz.prog [("math/bits.deBruijn64tab", Lib.tabData .u8 (ZtA Rows.laid_math_bits_deBruijn64tab))] W := by rw [<- ZBM]; exact h2
 refine ⟨dM,Lib.tabIs_of_head (g:=3) (t:=330) kR kR Tryz.underlying330 kR kR kR k1,?_⟩;have k3:=Lib.tabIs_of_head (g:=5) (t:=348) kR kR Tryz.underlying348 kR kR kR k2;have k4:=k3.cell (g:=5) kR 15 (by rw [ZAc];decide);rw [ZxF] at k4;exact k4
end Go.PM.Lex
end

section
namespace Go.PM.Lex
open Go.Proofs Go.Proofs.YtipdifmlclblhaaGreatDoor
theorem Z0 {a b:Bool} (h1:a=true) (h2:b=true):(a && b)=true:=by rw [h1,h2];rfl
theorem Zro {P:Program} {f:FuncId} {fn:Func} {s:ChangeSpec} {c:OpenClaim}
  (p1:laidOutB P=true) (p2:mapsRowed P=true) (p3:(P.stops == [])=true) (p4:(P.stopKnobs == [])=true) (p5:(c.plainKeys == P.plainKeys)=true) (p6:P.stopsHeard=true) (p7:P.mayEnter=true) (p8:(c.lifted == P.liftsFinal)=true) (p9:(P.make == some c.make)=true)
  (k1:c.wf (OpenSpec.ofChange s)=true) (k2:fn.params.all (P.readableRec ·)=true) (k3:namedTie P c.named s.vars=true) (k4:(c.stops == [])=true) (k5:(c.knobs == [])=true)
  (k6:(c.inPlace == P.inPlace f)=true) (k7:(c.unfollowed == P.unfollowed f)=true) (k8:(c.recurses == P.recurses f)=true) (k9:(c.named == P.varsNamed f)=true)
  (k10:(c.maps == (fn.params.toList++s.plain.varTypes P).any (P.mapsRec ·))=true) (k11:(c.ifaces == (fn.params.toList++s.plain.varTypes P).any (P.ifacesRec ·))=true) (k12:(c.mapsOut == P.mapsAmong fn.resultTypes.toList)=true)
  (k13:(c.loops == (fn.params.toList++s.plain.varTypes P).any (P.loopsFrom ·))=true) (k14:(c.wideKeys == (fn.params.toList++s.plain.varTypes P++fn.resultTypes.toList).any (P.wideKeysFrom ·))=true)
  (k15:s.vars.all (P.varReadable ·)=true) (k16:fn.resultTypes.all (fun t=>P.readableRec t && decide (t<P.types.size))=true) (k17:(c.ifacesOut == fn.resultTypes.toList.any (P.ifacesRec ·))=true) (k18:(c.loopsOut == fn.resultTypes.toList.any (P.loopsFrom ·))=true)
  (k19:c.shortTexts.isNone=true) (k20:(c.kinds == (if c.domain.isEmpty then [] else fn.params.toList.map fun t=>match P.underlying t with | some (.int k)=>some k | _=>none))=true) (k21:(c.pinned == c.pinnedBy)=true)
  (k22:(c.veiled == (fn.params.toList++s.plain.varTypes P++fn.resultTypes.toList).any (P.veiledRec ·))=true) (k23:c.veiledFits P fn.params.toList (fn.params.toList++s.plain.varTypes P++fn.resultTypes.toList)=true):joinedFacts P f fn s c=true:=by
 unfold joinedFacts
 exact (Z0 (Z0 (Z0 (Z0 (Z0 (Z0 (Z0 (Z0 (Z0 (Z0 (Z0 (Z0 (Z0 (Z0 (Z0 (Z0 (Z0 (Z0 (Z0 (Z0 (Z0 (Z0 (Z0 (Z0 (Z0 (Z0 (Z0 (Z0 (Z0 (Z0 (Z0 k1 p1) p2) k2) k3) k4) p3) k5) p4) k6) k7) k8) k9) k10) k11) k12) k13) k14) k15) k16) k17) k18) p5) k19) p6) p7) p8) p9) k20) k21) k22) k23)
theorem jp1:laidOutB Tryz.checked.prog=true:=kR
theorem jp2:mapsRowed Tryz.checked.prog=true:=kR
theorem jp3:(Tryz.checked.prog.stops == [])=true:=kR
theorem jp4:(Tryz.checked.prog.stopKnobs == [])=true:=kR
theorem jp5:(Rows.typesLessRow.plainKeys == Tryz.checked.prog.plainKeys)=true:=kR
theorem jp6:Tryz.checked.prog.stopsHeard=true:=kR
theorem jp7:Tryz.checked.prog.mayEnter=true:=kR
theorem jp8:(Rows.typesLessRow.lifted == Tryz.checked.prog.liftsFinal)=true:=kR
theorem jp9:(Tryz.checked.prog.make == some Rows.typesLessRow.make)=true:=kR
theorem jp10:Tryz.checked.prog.mainIs=some (Rows.typesLessCard.stood.harness.1,Rows.typesLessCard.stood.harness.2.toList):=kR
theorem jp11:Rows.typesLessCard.stood.looks=Tryz.checked.prog.looks []:=kR
end Go.PM.Lex
end
