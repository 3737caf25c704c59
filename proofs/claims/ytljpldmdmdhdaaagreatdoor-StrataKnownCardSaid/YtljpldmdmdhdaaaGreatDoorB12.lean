/- A part of the proof: plain logic, contracts and laws over the given program. -/
import Derived.Test.YtljpldmdmdhdaaaGreatDoorRows
import Derived.Test.YtljpldmdmdhdaaaGreatDoorTie
import Derived.Test.YtljpldmdmdhdaaaGreatDoorCards
import Derived.ProofKit
import Derived.OpenShut
import Derived.LaidMore
import Derived.Lay
import Derived.LaidSub
import Derived.SevenTiedAt
import Derived.Stop.Joined
import Derived.Stop.LaidErr
import Derived.Lib.LaidU8T
import Derived.Lib.LaidTab
import Derived.JoinedOf
import Derived.Test.YtljpldmdmdhdaaaGreatDoorB11
set_option linter.unusedVariables false
set_option linter.unusedSimpArgs false
set_option linter.all false
set_option maxRecDepth 100000
set_option maxHeartbeats 16000000
noncomputable section
section
namespace Go.PM.Lex
open Go.Proofs
variable {w0:World} {nG:Nat}
def ZAx {n:Nat} (hg:PC w0 nG 209 (Zng n)):PC w0 nG 153 (Znf n):=by
 refine Zkn Zr mixed (tbl:=[(64,JY),(38,XI),(58,UQ),(208,Zlt n),(152,Vz (n+1) 6),(209,Zng n)]) ⟨ZaJ,Xt,ZaK,Zvx n,ZDo _,hg,trivial⟩ Tryz.func153 rfl kR kR ?_;intro args σ K h
 unfold Znf iR iSp at h
 split at h
 ·rename_i rest t rows a en dp w q
  obtain ⟨L,d,ts,⟨rfl,rfl,rfl⟩,ho,h⟩:=h;split at h
  ·obtain ⟨gj,x,t1,hx,h⟩:=h
   change ZDp d (ZsM d) ts=.ok x t1 at hx
   unfold ZDp at hx
   by_cases hA:isW ts [[33]]=true
   ·rw [Ti hA] at hx;obtain ⟨eo,es,ea,eb,ep⟩:=x;refine ⟨Zg [],ZV [],ZC [],ZC [],ZC [209],ZC [],1,false,sM,Tb rfl,wN ?_⟩;refine ⟨L,_,_,⟨rfl,rfl,rfl⟩,ho,?_⟩;intro a1 dp1 cf ah
    conv=>whnf
    refine ⟨L,_,_,⟨rfl,rfl,rfl⟩,ah,0,⟨rfl,oM⟩,fun b hb=>?_⟩;obtain rfl:b=true:=hb.symm.trans hA;intro a2 dp2 dg ac
    have hn:=ac.tl (Yy hA);(conv=>whnf);refine Or.inl ⟨hn.inr,wN ?_⟩;refine ⟨L,_,_,⟨rfl,rfl,rfl⟩,hn,2,ts.length,⟨rfl,rfl,gj⟩,_,_,hx,?_⟩;intro a3 dp3 ct am
    conv=>whnf
    exact h _ _ oM am
   rw [Te hA] at hx;have hA:isW ts [[33]]=false:=by simpa using hA
   by_cases hB:ZF ts=true/\isW ts.tail [[40]]=true
   ·rw [Ti hB] at hx;obtain ⟨eo,es,ea,eb,ep⟩:=x;refine ⟨Zg [],ZV [],ZC [],ZC [],ZC [209],ZC [],1,false,sM,Tb rfl,wN ?_⟩;refine ⟨L,_,_,⟨rfl,rfl,rfl⟩,ho,?_⟩;intro a1 dp1 cf ah
    conv=>whnf
    refine ⟨L,_,_,⟨rfl,rfl,rfl⟩,ah,0,⟨rfl,oM⟩,fun b hb=>?_⟩;obtain rfl:b=false:=hb.symm.trans hA;intro a2 dp2 dg ac
    conv=>whnf
    refine ⟨L,_,_,⟨rfl,rfl,rfl⟩,ac,rfl,fun b hb=>?_⟩;obtain rfl:b=true:=hb.symm.trans hB.1;intro a3 dp3 ct am
    conv=>whnf
    refine ⟨L,_,_,⟨rfl,rfl,rfl⟩,am,1,⟨rfl,oM⟩,fun b hb=>?_⟩;rw [List.drop_one] at hb;obtain rfl:b=true:=hb.symm.trans hB.2;intro a4 dp4 fc bz
    conv=>whnf
    refine ⟨L,_,_,⟨rfl,rfl,rfl⟩,bz,1,ts.length,⟨rfl,rfl,gj⟩,_,_,hx,?_⟩;intro a5 dp5 jn cn
    conv=>whnf
    exact h _ _ oM cn
   rw [Te hB] at hx;obtain ⟨⟨eo,es,em,er,ep⟩,ts1,g1,hx⟩:=ZGC hx;split at hx
   ·cases hx
   rename_i dx
   refine ⟨Zg [(11,⟨[7],[0,2,4,5,6],fun vs σ=>∃(i:Nat) (a' dp':Int),vs=[.d (.int .i64 i)] /\
     σ=⟨[UZ t L a' en dp',.cells 65 [.d (.int .u8 0),.d (.str []),.sl 0 67 [],.sl 1 65 [],.d (.int .i64 0)],
      .cells 65 [.d (.int .u8 (Ze2 ts1 i)),.d (.str []),.sl 2 67 [],.sl 3 65 [],.d (.int .i64 (Zb L en ts.length))],
      .cells 67 [.d (.int .u8 eo),.d (.str es),.d (.int .i64 em),.d (.sl (Ze (Zb L en) er)),.d (.int .i64 (Zb L en ep))]],[3,2,1,0],4⟩/\i<=6/\a<=a'/\IK L a' dp' d ts1,
     fun vs _=>match vs with | [.d (.int _ i)]=>(6 - i).toNat | _=>0⟩),
    (22,⟨[9],[0,2,4,8],fun vs σ=>∃(i:Nat) (a' dp':Int),vs=[.d (.int .i64 i)] /\
     σ=⟨[UZ t L a' en dp',.cells 65 [.d (.int .u8 0),.d (.str []),.sl 0 67 [],.sl 1 65 [],.d (.int .i64 0)],
      .cells 65 [.d (.int .u8 (Ze2 ts1 6)),.d (.str []),.sl 2 67 [ZD (Zb L en) (.mk eo es em er ep)],.sl 3 65 [],.d (.int .i64 (Zb L en ts.length))],
      .cells 67 [.d (.int .u8 eo),.d (.str es),.d (.int .i64 em),.d (.sl (Ze (Zb L en) er)),.d (.int .i64 (Zb L en ep))]],[3,2,1,0],4⟩/\i<=4/\a<=a'/\IK L a' dp' d ts1.tail/\(Ze2 ts1 6=3->ZsH ts1.tail i=0),
     fun vs _=>match vs with | [.d (.int _ i)]=>(4 - i).toNat | _=>0⟩)],ZV [],ZC [],ZC [],ZC [209],ZC [],1,false,sM,Tb rfl,?_⟩
   conv=>whnf
   refine ⟨L,_,_,⟨rfl,rfl,rfl⟩,ho,?_⟩;intro a1 dp1 cf ah
   conv=>whnf
   refine ⟨L,_,_,⟨rfl,rfl,rfl⟩,ah,0,⟨rfl,oM⟩,fun b hb=>?_⟩;obtain rfl:b=false:=hb.symm.trans hA;intro a2 dp2 dg ac
   conv=>whnf
   refine ⟨L,_,_,⟨rfl,rfl,rfl⟩,ac,rfl,fun b1 bq=>?_⟩;intro a3 dp3 ct am
   cases b1
   case' true =>
    conv=>whnf
    refine ⟨L,_,_,⟨rfl,rfl,rfl⟩,am,1,⟨rfl,oM⟩,fun b2 dj=>?_⟩;rw [List.drop_one] at dj;obtain rfl:b2=false:=by cases b2 with | false=>rfl | true=>exact absurd ⟨bq,dj⟩ hB
    intro a4 dp4 fc bz
    have ct:=Int.le_trans ct fc;have am:=bz
   all_goals
    conv=>whnf
    refine ⟨L,_,_,⟨rfl,rfl,rfl⟩,am,0,⟨rfl,oM,.inl gj⟩,_,_,g1,?_⟩;intro a5 dp5 jn cn
    conv=>whnf
    refine ⟨⟨0,a5,dp5,rfl,rfl,oM,oM,cn⟩,?_⟩;intro vs σ hI
    obtain ⟨i,a6,dp6,rfl,rfl,hi,n7,eh⟩:=hI;(conv=>whnf);refine ZGr (fun af=>wN ?_) (fun af=>?_)
    ·have af:i<6:=by have af:(i:Int)<6:=af;omega
     obtain ⟨u,hu⟩:∃u,relWords[i]?=some u:=⟨_,Ta (show i<relWords.length from af)⟩
     have cq:(relWords.map fun w=>[D.str w])[((i:Nat):Int).toNat]?=some [D.str u]:=by simp [hu]
     refine ⟨_,oM,cq,wN ?_⟩;refine ⟨L,_,_,⟨rfl,rfl,rfl⟩,eh,0,⟨rfl,oM⟩,fun b hb=>?_⟩;have hrel:Ze2 ts1 (i+1)=if b=true then 3+i else Ze2 ts1 i:=by rw [Ze2,hu,<- hb];rfl
     intro a7 dp7 yj im
     cases b with
     | true =>
      conv=>whnf
      refine WU ?_;refine WU ?_;exact mq122
     | false =>
     conv=>whnf
     exact mq122
    obtain rfl:i=6:=by have af:¬(i:Int)<6:=af;omega
    have aw:=ZsI ts1 6;have hn:=eh.tl (ZsJ 6 dx);(conv=>whnf);refine ZGr (fun g=>absurd (show Ze2 ts1 6=0 by have g:(Ze2 ts1 6:Int)=0:=g;omega) dx) (fun _=>wN ?_);refine Or.inl ⟨hn.inr,wN ?_⟩;refine ⟨Tq.2 rfl,(show (0+1) * 64<=2 ^ 47 by omega),(show 0+1<=2 ^ 47 by omega),wN ?_⟩;refine ⟨⟨0,_,_,rfl,rfl,oM,oM,hn,fun _=>rfl⟩,?_⟩
    clear cf ah dg ac ct am jn cn n7 eh hn
    intro vs σ hI
    obtain ⟨i,a6,dp6,rfl,rfl,hi,n7,eh,hag⟩:=hI;(conv=>whnf);refine ZGr (fun af=>wN ?_) (fun af=>?_)
    ·have af:i<4:=by have af:(i:Int)<4:=af;omega
     obtain ⟨u,hu⟩:∃u,aggWords[i]?=some u:=⟨_,Ta (show i<aggWords.length from af)⟩
     have cq:(aggWords.map fun w=>[D.str w])[((i:Nat):Int).toNat]?=some [D.str u]:=by simp [hu]
     refine ZGr (fun h3=>wN ?_) (fun h3=>wN ?_)
     ·have h3:Ze2 ts1 6=3:=by have h3:(Ze2 ts1 6:Int)=3:=h3;omega
      have hag:=hag h3;refine ⟨_,oM,cq,wN ?_⟩;refine ⟨L,_,_,⟨rfl,rfl,rfl⟩,eh,0,⟨rfl,oM⟩,fun b hb=>?_⟩;have hb:isW ts1.tail [u]=b:=hb;have aa3:ZsH ts1.tail (i+1)=if b=true then 9+i else 0:=by rw [ZsH,Te (by rw [hag];simp),hu,<- hb];rfl
      intro a7 dp7 yj im
      cases b with
      | true =>
       have hj:=Zgk aa3 hag (3 - i);rw [show i+1+(3 - i)=4 by omega] at hj;rw [Ti ⟨h3,by rw [hj];omega⟩,hj] at hx;obtain ⟨xo,xs,xa,xb,xp⟩:=x;(conv=>whnf);refine WU ?_;refine WU ?_;refine ⟨L,_,_,[.mk eo es em er ep],ts.length,9+i,⟨⟨rfl,rfl,rfl⟩,⟨rfl,rfl,rfl,rfl⟩,rfl,rfl,oM⟩,im,⟨Yy hb,gj,sM⟩,_,_,hx,?_⟩;intro a8 dp8 yk iz
       conv=>whnf
       exact h _ _ oM iz
      | false =>
      conv=>whnf
      refine Zk ?_;refine ⟨⟨i+1,_,_,rfl,rfl,oM,oM,im,fun _=>aa3⟩,?_⟩;show (4 - ((i:Int)+1)).toNat<(4 - (i:Int)).toNat;omega
     have h3:¬Ze2 ts1 6=3:=by have h3:¬(Ze2 ts1 6:Int)=3:=h3;omega
     refine Zk ?_;refine ⟨⟨i+1,_,_,rfl,rfl,oM,oM,eh,fun g=>absurd g h3⟩,?_⟩;show (4 - ((i:Int)+1)).toNat<(4 - (i:Int)).toNat;omega
    obtain rfl:i=4:=by have af:¬(i:Int)<4:=af;omega
    rw [Te (fun g=>g.2 (hag g.1))] at hx;obtain ⟨⟨go,gs,gm,gr,gp⟩,t3,g3,hx⟩:=ZGC hx
    cases hx
    conv=>whnf
    refine ⟨L,_,_,⟨rfl,rfl,rfl⟩,eh,0,⟨rfl,oM,.inl gj⟩,_,_,g3,?_⟩;intro a8 dp8 yk iz
    conv=>whnf
    refine ⟨Tq.2 rfl,(show (1+1) * 64<=2 ^ 47 by omega),(show 1+1<=2 ^ 47 by omega),wN ?_⟩;exact h _ _ oM iz
  exact h.elim
 exact h.elim
def ZvC:PC w0 nG 105 (VA 0):=by
 refine pwe Tryz.func105 fun args σ K h=>?_
 unfold VA iR iSp at h
 split at h
 ·obtain ⟨L,d,ts,_,ho,h⟩:=h;split at h
  ·exact absurd h.1 (Nat.not_lt_zero _)
  exact h.elim
 exact h.elim
def ZwH:∀n,PC w0 nG 105 (VA n)
 | 0=>ZvC
 | n+1=>ZvB (ZAx (ZAv (ZwH n)))
def ZDr (n:Nat):PC w0 nG 66 (ZhU n):=Zvz (ZwH (n+1))
structure U3 where
 tys:List Ty
 rels:List Re
 rules:List Ru
def ZvD (d:Nat) (u:U3) (ts:Ts):R U3 :=
 if (hd ts).kind≠1 then .err 0 150
 else if (hd ts).text=[116,121,112,101] then (if u.tys.length<256 then (ZsC ts.tail).bind fun x ts=>.ok ⟨u.tys++[x],u.rels,u.rules⟩ ts else .err 0 3)
 else if (hd ts).text=[100,101,99,108] then (if u.rels.length<256 then (ZAp ts.tail).bind fun x ts=>.ok ⟨u.tys,u.rels++[x],u.rules⟩ ts else .err 0 3)
 else if ZF ts=true then (if u.rules.length<1024 then (ZDq d ts).bind fun x t1=>if t1.length<ts.length then .ok ⟨u.tys,u.rels,u.rules++[x]⟩ t1 else .err 0 150 else .err 0 3)
 else .err 0 150
def ZsN (d:Nat):Nat->U3->Ts->R U3
 | 0,_,_=>.err 0 150
 | f+1,u,ts=>match ts with
  | []=>.ok u []
  | t::ts=>(ZvD d u (t::ts)).bind fun u ts=>ZsN d f u ts
def ZsO (s:Bs):Option (Pl×U3):=match ZDS s with
 | none=>none
 | some l=>if s.length<=65536/\l.length<=1048576/\(l.all fun t=>decide (1<=t.kind) && decide (t.kind<=4))=true then
   (match ZsN 64 (l.length+1) ⟨[],[],[]⟩ (l.map Tok.t0) with
    | .ok u []=>some (Zb l s.length,u)
    | _=>none) else none
abbrev ZDU (pl:Pl) (u:U3):PV:=.agg [.sl 0 122 (u.tys.map (Z6 pl)),.sl 1 53 (u.rels.map (Zu pl)),.sl 2 46 (u.rules.map (Zs pl)),.sl 3 126 [],.sl 4 129 [],.sl 5 133 []]
def Zlu (n:Nat):Zh:=fun args σ K=>match args,σ with
 | [.ptr 0 0,.agg [.sl 0 e0 r0,.sl 1 e1 r1,.sl 2 e2 r2,.sl 3 e3 r3,.sl 4 e4 r4,.sl 5 e5 r5]],⟨[.cells t [.d (.sl rows),.d (.int .i64 a),.d (.int .i64 en),.d (.int .i64 dp),.d (.int .i64 w),.d (.int .i64 q)]],[5,4,3,2,1,0],6⟩ =>
   ∃(L:List Tok) (d:Nat) (ts:Ts) (u:U3),((rows=ZB L/\w=0/\q=0)/\((e0=122/\r0=u.tys.map (Z6 (Zb L en)))/\(e1=53/\r1=u.rels.map (Zu (Zb L en)))/\(e2=46/\r2=u.rules.map (Zs (Zb L en))))/\(e3=126/\r3=[])/\(e4=129/\r4=[])/\e5=133/\r5=[])/\IK L a dp d ts/\(ts≠[]/\d<n+1) /\
    ∃x t1,ZvD d u ts=.ok x t1/\∀a' dp',a<a'->IK L a' dp' d t1->K (.ret (ZDU (Zb L en) x)) ⟨[UZ t L a' en dp'],[5,4,3,2,1,0],6⟩
 | _,_=>False
def Zlv {ts:Ts} (h:ZF ts=true) {w:Bs} (hw:Za8 w=true):¬(hd ts).text=w:=by
 rintro rfl
 simp only [ZF,Tl] at h;rw [hw] at h;exact absurd h.2.2 dM
def ZvF (n:Nat):PC w0 nG 39 (Zlu n):=by
 refine Zkn Zr mixed (tbl:=[(58,UQ),(59,Zby),(60,ZhS),(61,Zlq),(66,ZhU n)]) ⟨ZaK,ZcP,ZsE,Zvl,ZDr n,trivial⟩ Tryz.func39 rfl kR kR ?_;intro args σ K h
 unfold Zlu at h
 split at h
 ·rename_i e0 r0 e1 r1 e2 r2 e3 r3 e4 r4 e5 r5 t rows a en dp w q
  obtain ⟨L,d,ts,u,⟨⟨rfl,rfl,rfl⟩,⟨⟨rfl,rfl⟩,⟨rfl,rfl⟩,rfl,rfl⟩,⟨rfl,rfl⟩,⟨rfl,rfl⟩,rfl,rfl⟩,ho,⟨ai,gj⟩,x,t1,hx,h⟩:=h;obtain ⟨h0,y,hy,fe,_,kb,eg⟩:=ho.at0 (ho.lt ai);unfold ZvD at hx
  have hnw:∀{w:Bs},ZF ts=true->Za8 w=true->¬y.text=w:=fun h hw g=>Zlv h hw (by rw [fe];exact g)
  rw [fe] at hx;have jk:y.t0.kind=y.kind:=rfl;have yc:y.t0.text=y.text:=rfl;rw [jk,yc] at hx;split at hx
  ·cases hx
  rename_i hk
  have aa:=ho.lt ai;refine ⟨Zg [],ZV [],ZC [],ZC [],ZC [],ZC [],1,true,sM,Tb rfl,wN ?_⟩;refine ZGr (fun hc=>wN ?_) (fun hc=>absurd aa hc);refine ⟨_,h0,hy,wN ?_⟩;refine ZGr (fun dv=>?_) (fun dv=>absurd (show (y.kind:Int)=1 by omega) dv);(conv=>whnf);refine ⟨_,h0,hy,wN ?_⟩
  by_cases t0:y.text=[116,121,112,101]
  ·rw [Ti t0] at hx;split at hx
   case isFalse=>cases hx
   rename_i hlen
   obtain ⟨⟨vk,vn,vb,vf,vc,vp⟩,t2,g2,hx⟩:=ZGC hx
   cases hx
   have oq:(u.tys.map (Z6 (Zb L en))).length<256:=by rw [Td];omega
   simp only [ZDU,TM,Tx,TN] at h;refine ZGr (fun _=>wN ?_) (fun g=>absurd t0 g);refine ⟨L,_,_,⟨rfl,rfl,rfl⟩,ho,(show ((u.tys.map (Z6 (Zb L en))).length:Int)<256 by omega),?_⟩;intro a1 dp1 cf ah
   have hn:=ah.tl ai;(conv=>whnf);refine Or.inl ⟨hn.inr,wN ?_⟩;refine ZGr (fun _=>wN ?_) (fun g=>absurd t0 g);refine ⟨L,_,_,⟨rfl,rfl,rfl⟩,hn,trivial,_,_,g2,?_⟩;intro a3 dp3 ct am
   conv=>whnf
   (repeat (refine ⟨rfl,?_⟩;conv=>whnf))
   refine ⟨Tq.2 rfl,(show ((u.tys.map (Z6 (Zb L en))).length+1) * 96<=2 ^ 47 by omega),(show (u.tys.map (Z6 (Zb L en))).length+1<=2 ^ 47 by omega),wN ?_⟩;exact mq142
  rw [Te t0] at hx
  by_cases t1:y.text=[100,101,99,108]
  ·rw [Ti t1] at hx;split at hx
   case isFalse=>cases hx
   rename_i hlen
   obtain ⟨⟨vn,vf,vi,vo,vl,vp⟩,t2,g2,hx⟩:=ZGC hx
   cases hx
   have oq:(u.rels.map (Zu (Zb L en))).length<256:=by rw [Td];omega
   simp only [ZDU,TM,Tx,TN] at h;refine ZGr (fun g=>absurd g t0) (fun _=>wN ?_);refine ZGr (fun _=>wN ?_) (fun g=>absurd t1 g);refine ⟨L,_,_,⟨rfl,rfl,rfl⟩,ho,(show ((u.rels.map (Zu (Zb L en))).length:Int)<256 by omega),?_⟩;intro a1 dp1 cf ah
   have hn:=ah.tl ai;(conv=>whnf);refine Or.inl ⟨hn.inr,wN ?_⟩;refine ZGr (fun g=>absurd g t0) (fun _=>wN ?_);refine ZGr (fun _=>wN ?_) (fun g=>absurd t1 g);refine ⟨L,_,_,⟨rfl,rfl,rfl⟩,hn,trivial,_,_,g2,?_⟩;intro a3 dp3 ct am
   conv=>whnf
   (repeat (refine ⟨rfl,?_⟩;conv=>whnf))
   refine ⟨Tq.2 rfl,(show ((u.rels.map (Zu (Zb L en))).length+1) * 56<=2 ^ 47 by omega),(show (u.rels.map (Zu (Zb L en))).length+1<=2 ^ 47 by omega),wN ?_⟩;exact mq142
  rw [Te t1] at hx;split at hx
  case isFalse=>cases hx
  rename_i hnm
  split at hx
  case isFalse=>cases hx
  rename_i hlen
  obtain ⟨⟨vh,va,vb,vp⟩,t2,g2,hx⟩:=ZGC hx;split at hx
  case isFalse=>cases hx
  rename_i jm
  cases hx
  have t2:¬y.text=[99,111,109,112]:=hnw hnm dM;have t3:¬y.text=[105,110,105,116]:=hnw hnm dM;have t4:¬y.text=[111,118,101,114,114,105,100,101]:=hnw hnm dM;have oq:(u.rules.map (Zs (Zb L en))).length<1024:=by rw [Td];omega
  simp only [ZDU,TM,Tx,TN] at h;refine ZGr (fun g=>absurd g t0) (fun _=>wN ?_);refine ZGr (fun g=>absurd g t1) (fun _=>wN ?_);refine ZGr (fun g=>absurd g t2) (fun _=>wN ?_);refine ZGr (fun g=>absurd g t3) (fun _=>wN ?_);refine ZGr (fun g=>absurd g t4) (fun _=>wN ?_);refine ⟨L,_,_,⟨rfl,rfl,rfl⟩,ho,rfl,fun b hb=>?_⟩;obtain rfl:b=true:=hb.symm.trans hnm;intro a1 dp1 cf ah
  conv=>whnf
  refine ⟨L,_,_,⟨rfl,rfl,rfl⟩,ah,(show ((u.rules.map (Zs (Zb L en))).length:Int)<1024 by omega),?_⟩;intro a2 dp2 dg ac
  have hn:=ac.tl ai;(conv=>whnf);refine Or.inl ⟨hn.inr,wN ?_⟩;refine ZGr (fun g=>absurd g t0) (fun _=>wN ?_);refine ZGr (fun g=>absurd g t1) (fun _=>wN ?_);refine ZGr (fun g=>absurd g t2) (fun _=>wN ?_);refine ZGr (fun g=>absurd g t3) (fun _=>wN ?_);refine ZGr (fun g=>absurd g t4) (fun _=>wN ?_);refine ⟨L,_,_,⟨rfl,rfl,rfl⟩,(⟨ho.toROK,ac.dpe,ho.d64,ho.kinds⟩:IK L a dp2 d ts),gj,_,_,g2,?_⟩;intro a3 dp3 ct am
  have ui:=ho.len;have nh:=am.len;(conv=>whnf)
  (repeat (refine ⟨rfl,?_⟩;conv=>whnf))
  refine ⟨Tq.2 rfl,(show ((u.rules.map (Zs (Zb L en))).length+1) * 72<=2 ^ 47 by omega),(show (u.rules.map (Zs (Zb L en))).length+1<=2 ^ 47 by omega),wN ?_⟩;exact mq142
 exact h.elim
abbrev ZDs (pl:Pl) (u:U3):PV:=.agg [.d (.sl (u.tys.map (Z6 pl))),.d (.sl (u.rels.map (Zu pl))),.d (.sl (u.rules.map (Zs pl))),.d (.sl []),.d (.sl []),.d (.sl [])]
def Zlw (n:Nat):Zh:=iSp fun rest pl d ts K=>match rest with
 | [.d (.bool b)]=>(b=false/\d<n+1)/\∃f x t1,ZsN d f ⟨[],[],[]⟩ ts=.ok x t1/\K (ZDs pl x) d t1
 | _=>False
def ZvH (n:Nat):PC w0 nG 27 (Zlw n):=by
 refine Zkn Zr mixed (tbl:=[(39,Zlu n)]) ⟨ZvF n,trivial⟩ Tryz.func27 rfl kR kR ?_;intro args σ K h
 unfold Zlw iSp at h
 split at h
 ·rename_i rest t rows a en dp w q
  obtain ⟨L,d,ts,⟨rfl,rfl,rfl⟩,ho,h⟩:=h;split at h
  ·obtain ⟨⟨rfl,gj⟩,f,x,t1,hx,h⟩:=h;refine ⟨Zg [(2,⟨[],[0,1,4,5],fun vs σ=>∃(f:Nat) (u:U3) (a' dp':Int) (ts':Ts),vs=[] /\
     σ=⟨[UZ t L a' en dp',.cells 60 [.sl 0 122 [],.sl 1 53 [],.sl 2 46 [],.sl 3 126 [],.sl 4 129 [],.sl 5 133 []],
      .cells 60 [.sl 6 122 (u.tys.map (Z6 (Zb L en))),.sl 7 53 (u.rels.map (Zu (Zb L en))),.sl 8 46 (u.rules.map (Zs (Zb L en))),.sl 9 126 [],.sl 10 129 [],.sl 11 133 []]],[11,10,9,8,7,6,5,4,3,2,1,0],12⟩/\a<=a'/\IK L a' dp' d ts'/\ZsN d f u ts'=.ok x t1,ZAV L⟩)],ZV [],ZC [],ZC [],ZC [39],ZC [],1,false,sM,Tb rfl,?_⟩
   conv=>whnf
   refine ⟨⟨f,⟨[],[],[]⟩,a,dp,_,rfl,rfl,oM,ho,hx⟩,?_⟩;intro vs σ hI
   obtain ⟨f,u,a3,dp3,ts3,rfl,rfl,ct,am,hx⟩:=hI
   cases f with
   | zero=>cases hx
   | succ f =>
   conv=>whnf
   refine ZGr (fun hc=>?_) (fun hc=>?_)
   ·have ai:ts3≠[]:=by
     rintro rfl
     have:=am.len;have hc:a3<((ZB L).length:Int):=hc;rw [ZS] at hc;simp only [Tj] at this;omega
    obtain ⟨y,ys,rfl⟩:∃y ys,ts3=y::ys:=by cases ts3 with | nil=>exact absurd rfl ai | cons y ys=>exact ⟨y,ys,rfl⟩
    change (ZvD d u (y::ys)).bind (fun u ts=>ZsN d f u ts)=.ok x t1 at hx
    obtain ⟨u2,t4,g4,hx⟩:=ZGC hx;(conv=>whnf);refine ⟨L,d,_,u,⟨⟨rfl,rfl,rfl⟩,⟨⟨rfl,rfl⟩,⟨rfl,rfl⟩,rfl,rfl⟩,⟨rfl,rfl⟩,⟨rfl,rfl⟩,rfl,rfl⟩,am,⟨ai,gj⟩,_,_,g4,?_⟩;intro a4 dp4 fc bz
    have hh:=bz.hi;(conv=>whnf);refine ⟨⟨f,u2,_,_,_,rfl,rfl,oM,bz,hx⟩,?_⟩;show ((L.length:Int) - a4).toNat<((L.length:Int) - a3).toNat;omega
   obtain rfl:=am.nil hc
   change R.ok u []=.ok x t1 at hx
   cases hx
   conv=>whnf
   exact h _ _ oM am
  exact h.elim
 exact h.elim
def Zlx:Zh:=iSp fun rest pl d ts K=>match rest with
 | []=>ts=[]/\K (.tuple [.d (.int .i64 0),.d (.int .i64 0)]) d ts
 | _=>False
def ZvI:PC w0 nG 28 Zlx:=by
 refine pwe Tryz.func28 fun args σ K h=>?_
 unfold Zlx iSp at h
 split at h
 ·rename_i rest t rows a en dp w q
  obtain ⟨L,d,ts,⟨rfl,rfl,rfl⟩,ho,h⟩:=h;split at h
  ·obtain ⟨rfl,h⟩:=h;refine pwv [] 1 false ?_;refine ZGr (fun hc=>?_) (fun hc=>wN ?_)
   ·have hc:a<((ZB L).length:Int):=hc;have:=ho.none;rw [ZS] at hc;omega
   exact h _ _ oM ho
  exact h.elim
 exact h.elim
def ZhV:Zh:=fun args σ K=>match args,σ with
 | [.d (.str s),.d (.int .i64 b),.d (.int .i64 m)],⟨[],[],0⟩=>(s.length<=65536/\b=65536/\m=16384)/\∃l,ZDS s=some l /\
   K (.ret (.tuple [.ptr 0 0,.d (.int .i64 0),.d (.int .i64 0)])) ⟨[UZ 96 l 0 s.length 0],[],0⟩
 | _,_=>False
def ZsP:Tbl:=[(37,Zgh)]
def ZsQ:PC w0 nG 26 ZhV:=by
 refine pwt (tbl:=ZsP) ⟨ZAo,trivial⟩ Tryz.func26 fun args σ K h=>?_
 unfold ZhV at h
 split at h
 ·rename_i s b m
  obtain ⟨⟨hs,rfl,rfl⟩,l,hq,h⟩:=h;refine pwv [] 1 false ?_;refine ZGr (fun hc=>absurd (show (s.length:Int)>65536 from hc) oM) (fun hc=>wN ?_);refine ⟨l,hq,rfl,wN ?_⟩;exact h
 exact h.elim
def ZAy:Zh:=fun args σ K=>match args,σ with
 | [.d (.str s)],⟨[],[],0⟩=>∃pl u,ZsO s=some (pl,u)/\K (.ret (.tuple [ZDs pl u,.d (.int .i64 0),.d (.int .i64 0)])) ⟨[],[],0⟩
 | _,_=>False
def ZDt:Tbl:=[(26,ZhV),(27,Zlw 64),(28,Zlx)]
def ZGl:PC w0 nG 17 ZAy:=by
 refine pwt (tbl:=ZDt) ⟨ZsQ,ZvH 64,ZvI,trivial⟩ Tryz.func17 fun args σ K h=>?_
 unfold ZAy at h
 split at h
 ·rename_i s
  obtain ⟨pl,u,hr,h⟩:=h;unfold ZsO at hr
  split at hr
  case h_1=>cases hr
  rename_i l hq
  split at hr
  case isFalse=>cases hr
  rename_i et
  obtain ⟨hs,hl,hk⟩:=et;split at hr
  case h_2=>cases hr
  rename_i u1 hu
  cases hr
  have ho:IK l 0 0 64 (l.map Tok.t0):=⟨⟨oM,oM,hl,by simp [tz]⟩,oM,oM,fun x hx=>by have:=Tn.1 hk x hx;simpa using this⟩
  refine pwv [] 0 false ?_;refine ⟨⟨hs,rfl,rfl⟩,l,hq,wN ?_⟩;refine ⟨l,_,_,⟨rfl,rfl,rfl⟩,ho,⟨rfl,oM⟩,_,_,_,hu,?_⟩;intro a1 dp1 cf ah
  conv=>whnf
  refine ⟨l,_,_,⟨rfl,rfl,rfl⟩,ah,rfl,?_⟩;intro a2 dp2 dg ac
  exact mq35
 exact h.elim
def Znh (k:Bs) (n:Int):∀v:Vs,(Z2 k n v).map (·.1)=if k∈v.map (·.1) then v.map (·.1) else v.map (·.1)++[k]
 | []=>rfl
 | (x,u)::v=>by
  have ih:=Znh k n v;exact mq125
def Qv (P:Bs->Prop) (v:Vs):Prop:=(v.map (·.1)).Nodup/\∀t∈v.map (·.1),P t
def Qv.set {P:Bs->Prop} {t:Bs} {n:Int} {s:VS} (h:Qv P s.1) (ht:P t):Qv P (ZuD t n s).1:=by
 unfold ZuD
 split
 ·unfold Qv
  simp only [Znh];exact mq74
 exact h
mutual
def Qv.gvE {P:Bs->Prop} {p:Pr}:∀{e:Ex} {n:Int} {s:VS},Qv P s.1->(∀t∈nvE e,P t)->Qv P (gvE p e n s).1
 | .mk op text num args a,n,s,h,ht=>by
  simp only [nvE] at ht;simp only [Lex.gvE]
  by_cases g:op=1
  ·rw [Ti g] at ht |-;exact h.set (ht _ sM)
  rw [Te g] at ht |-;exact Qv.gvEs h ht
def Qv.gvEs {P:Bs->Prop} {p:Pr}:∀{l:List Ex} {ns:List Int} {s:VS},Qv P s.1->(∀t∈Zhr l,P t)->Qv P (gvEs p l ns s).1
 | [],_,_,h,_=>h
 | e::l,[],_,h,_=>h
 | e::l,n::ns,s,h,ht=>by
  simp only [Zhr,Tw] at ht;simp only [Lex.gvEs];exact Qv.gvEs (Qv.gvE h fun t g=>ht t (.inl g)) fun t g=>ht t (.inr g)
end
mutual
def Qv.gvL {P:Bs->Prop} {p:Pr}:∀{x:Li} {s:VS},Qv P s.1->(∀t∈nvL x,P t)->Qv P (gvL p x s).1
 | .mk op rel args body a,s,h,ht=>by
  simp only [nvL,Tw] at ht;simp only [Lex.gvL];have h1:∀ns,Qv P (Lex.gvEs p args ns s).1:=fun ns=>Qv.gvEs h fun t g=>ht t (.inl g)
  split
  ·exact h1 _
  split
  ·exact h1 _
  exact Qv.gvLs (h1 _) fun t g=>ht t (.inr g)
def Qv.gvLs {P:Bs->Prop} {p:Pr}:∀{l:List Li} {s:VS},Qv P s.1->(∀t∈Vb l,P t)->Qv P (gvLs p l s).1
 | [],_,h,_=>h
 | x::l,s,h,ht=>by
  simp only [Vb,Tw] at ht;simp only [Lex.gvLs];exact Qv.gvLs (Qv.gvL h fun t g=>ht t (.inl g)) fun t g=>ht t (.inr g)
end
def ZGG {P:Bs->Prop} {p:Pr} {r:Ru} (ht:∀t∈nvR r,P t):∀{n:Nat} {v w:Vs},Qv P v->WD p r n v=some w->Qv P w
 | 0,_,_,_,h=>by cases h
 | n+1,v,w,hv,h=>by
  simp only [nvR,Tw] at ht;have h1:Qv P (Um p r v).1:=Qv.gvLs (Qv.gvEs hv fun t g=>ht t (.inl g)) fun t g=>ht t (.inr g)
  simp only [WD] at h;split at h
  ·exact ZGG (by simpa only [nvR,Tw] using ht) h1 h
  cases h;exact h1
def Qv.vars {P:Bs->Prop} {p:Pr} {r:Ru} (ht:∀t∈nvR r,P t):Qv P (Zcb p r):=by
 have h0:Qv P []:=⟨.nil,fun _ h=>nomatch h⟩
 unfold Zcb
 cases h:WD p r ((nvR r).length+1) [] with
 | none=>exact h0
 | some w=>exact ZGG ht h0 h
def prK (u:U3):Pr:=⟨u.tys,u.rels,u.rules⟩
def ZFd (p:Pr):Bool:=Zv6 (prU p) && (decide (wUn (prU p)<=100000) && (decide ((unT (prU p)).length<1073741824) && (decide (Zd3 p<=2097152) && (p.types.isEmpty && p.rels.all fun d=>!d.inn && (!d.out && !d.inl)))))
def ZAz {p:Pr} (h:ZFd p=true):Zd2 100000 (prU p)/\Zd3 p<=2097152:=by
 simp only [ZFd,Tl,TH,List.isEmpty_iff,Tn,TV] at h;exact ⟨⟨h.1,h.2.1,h.2.2.1,rfl,rfl,rfl,h.2.2.2.2.1,h.2.2.2.2.2⟩,h.2.2.2.1⟩
def Zly:Zh:=fun args σ K=>match args,σ with
 | [.d (.sl x),.d (.sl y)],⟨[],[],0⟩=>∃l:List Bs,x=VQ l/\y=VQ l/\l.length<=1000/\K (.ret (.d (.bool true))) ⟨[],[],0⟩
 | _,_=>False
def ZvJ:PC w0 nG 18 Zly:=by
 refine pwe Tryz.func18 fun args σ K h=>?_
 unfold Zly at h
 split at h
 ·obtain ⟨l,rfl,rfl,hl,h⟩:=h;have hlen:(VQ l).length=l.length:=Td ..;refine pwv [(4,⟨[5],[0,1],fun vs σ=>∃i:Nat,vs=[.d (.int .i64 i)]/\σ=⟨[],[],0⟩/\i<=l.length,mu1 l.length⟩)] 0 false ?_;refine ZGu (fun g=>absurd rfl g) (fun _=>wN ?_);refine ⟨⟨0,rfl,rfl,oM⟩,?_⟩
  rintro vs σ1 ⟨i,rfl,rfl,hi⟩
  conv=>whnf
  refine ZGr (fun hq=>?_) (fun hq=>wN ?_)
  ·have aa:i<l.length:=by have hq:(i:Int)<((VQ l).length:Nat):=hq;omega
   have hr:(VQ l)[(i:Int).toNat]?=some [.str l[i]]:=by rw [Tg];simp [aa]
   generalize l[i]=x at hr;(conv=>whnf);refine ⟨_,oM,hr,wN ?_⟩;refine ⟨_,oM,hr,wN ?_⟩
   (repeat (refine ⟨rfl,?_⟩;conv=>whnf))
   refine ZGu (fun g=>absurd rfl g) (fun _=>wN ?_);refine Zk ?_;refine ⟨⟨i+1,rfl,rfl,oM⟩,?_⟩;exact lzM oM
  exact h
 exact h.elim
def ZsR:Bs:=[100,101,99,108,32,97,40,120,58,32,110,117,109,98,101,114,41,32,100,101,99,108,32,98,40,120,58,32,110,117,109,98,101,114,41,32,100,101,99,108,32,99,40,120,58,32,110,117,109,98,101,114,41,32]
def ZDu (p:Pr):Bool:=ZFd p && ((p.rules.all fun r=>Zbt r.body && Zzt r) && (ZrV p.rules && (decide (p.rels.map (·.name)=abcN) && okD (ZoE p.rules))))
def stK (s:Bs) (q:Option (List (List Bs)×Int×Int)->Option (Bool×Int)->Bool):Bool:=match ZsO (ZsR++s) with
 | some (pl,u)=>ZDu (prK u) && q (ofT pl (prK u)) (enT pl (prK u))
 | none=>false
def ZGm (p:Pr):Prop:=(Zd2 100000 (prU p)/\Zd3 p<=2097152)/\(∀r∈p.rules,Zbt r.body=true)/\(ZrV p.rules=true/\p.rels.map (·.name)=abcN)/\okD (ZoE p.rules)=true/\∀r∈p.rules,Zzt r=true
def ZjK {s:Bs} {q:Option (List (List Bs)×Int×Int)->Option (Bool×Int)->Bool} (h:stK s q=true):∃pl u,ZsO (ZsR++s)=some (pl,u)/\ZGm (prK u)/\q (ofT pl (prK u)) (enT pl (prK u))=true:=by
 unfold stK at h
 split at h
 ·rename_i pl u hr
  simp only [ZDu,Tl,TH,Tn] at h;exact ⟨pl,u,hr,⟨ZAz h.1.1,fun r hr=>(h.1.2.1 r hr).1,⟨h.1.2.2.1,h.1.2.2.2.1⟩,h.1.2.2.2.2,fun r hr=>(h.1.2.1 r hr).2⟩,h.2⟩
 cases h
def U0 (l:List (List Bs)):Bs:=(l.map fun s=>s.flatten++[47]).flatten
def Zlz (s w:Bs) (b:Bool):Bool:=stK s fun o n=>match o,n with
 | some (l,a,e),some (c,f)=>decide (U0 l=w) && (decide (a=0) && (decide (e=0) && (decide (c=b) && (decide (f=0) && (decide (l.length<=9) && l.all fun s=>decide (s.length<=9))))))
 | _,_=>false
def ZAW (s:Bs) (at':Int):Bool:=stK s fun o n=>decide (o=some ([],at'+54,200)) && decide (n=some (false,200))
def ZhW:Zh:=fun args σ K=>match args,σ with
 | [.d (.str s)],⟨[],[],0⟩=>∃pl u,ZsO (ZsR++s)=some (pl,u)/\s.length<1000/\K (.ret (.agg ((Zax pl (prK u)).map .d))) ⟨[],[],0⟩
 | _,_=>False
def ZvK:Tbl:=[(17,ZAy)]
def ZcQ:PC w0 nG 7 ZhW:=by
 refine pwt (tbl:=ZvK) ⟨ZGl,trivial⟩ Tryz.func7 fun args σ K h=>?_
 unfold ZhW at h
 split at h
 ·rename_i s
  obtain ⟨pl,u,hr,hs,h⟩:=h;refine pwv [] 0 false ?_;refine ⟨(show 54+s.length<2 ^ 62 by omega),wN ?_⟩;refine ⟨pl,u,hr,wN ?_⟩;exact h
 exact h.elim
def ZhX:Tbl:=[(7,ZhW),(6,ZoQ),(9,Zvd)]
def ZsS:Zh:=fun args σ K=>match args,σ with
 | [.d (.str s),.d (.int .i64 a)],⟨[],[],0⟩=>(ZAW s a=true/\(0<=a/\a<=100000)/\s.length<1000)/\K (.ret (.d (.bool true))) ⟨[],[],0⟩
 | _,_=>False
def ZAA:OKw w0 nG ZhX 5 ZsS:=by
 refine pwo Tryz.func5 fun args σ K h=>?_
 unfold ZsS at h
 split at h
 ·rename_i s a
  obtain ⟨⟨hc,⟨ha,hb⟩,hs⟩,h⟩:=h;obtain ⟨pl,u,hr,⟨p1,p2,p3,p4,p5⟩,hq⟩:=ZjK hc;simp only [Tl,TH] at hq;refine pwv [] 0 false ?_;refine ⟨pl,u,hr,hs,wN ?_⟩;refine ⟨pl,prK u,_,rfl,p1,p2,p3,rfl,p4,[],a+54,200,hq.1,wN ?_⟩;refine ⟨pl,u,hr,hs,wN ?_⟩;refine ⟨pl,prK u,_,rfl,p1,p2,p3,rfl,p4,p5,false,200,hq.2,wN ?_⟩;refine Zk ?_;refine ZGr (fun _=>wN ?_) (fun g=>absurd rfl g);exact h
 exact h.elim
def ZvL (l:List (List Bs)) (i:Nat):(U0 (l.take i)).length<=(U0 l).length:=by
 have:U0 l=U0 (l.take i)++U0 (l.drop i):=by
  rw [U0,U0,U0,<- So,<- TM,Sd]
 rw [this,Tc];omega
def ZoU {l:List (List Bs)} {i:Nat} (h:i<l.length):U0 (l.take (i+1))=U0 (l.take i)++(l[i].flatten++[47]):=by
 rw [List.take_add_one,Ta h,U0,U0,TM,So];simp
def ZoV {l:List Bs} {j:Nat} (h:j<l.length):(l.take (j+1)).flatten=(l.take j).flatten++l[j]:=by
 rw [List.take_add_one,Ta h,So];simp
def ZsT:Zh:=fun args σ K=>match args,σ with
 | [.d (.str s),.d (.str w),.d (.bool b)],⟨[],[],0⟩=>(Zlz s w b=true/\s.length<1000/\w.length<1000)/\K (.ret (.d (.bool true))) ⟨[],[],0⟩
 | _,_=>False
def ZAB (ht:TO w0 nG ZhX):PC w0 nG 4 ZsT:=by
 refine Yn Zr mixed (tbl:=ZhX) ht Tryz.func4 rfl kR kR ?_;intro args σ K h
 unfold ZsT at h
 split at h
 ·rename_i s w b
  obtain ⟨⟨hc,hs,hw⟩,h⟩:=h;obtain ⟨pl,u,hr,⟨p1,p2,p3,p4,p5⟩,hq⟩:=ZjK hc;split at hq;rotate_left
  ·cases hq
  rename_i o n l a e c f hO hN
  simp only [Tl,TH,Tn] at hq;obtain ⟨rfl,rfl,rfl,rfl,rfl,hl9,rz⟩:=hq;have hl:(WE l).length=l.length:=Td ..;refine ⟨Zg [
   (5,⟨[12,13],[1,2,7,8,9,10,11],fun vs σ=>∃i:Nat,vs=[.d (.str (U0 (l.take i))),.d (.int .i64 i)]/\σ=⟨[],[],0⟩/\i<=l.length,
    mu2 l.length⟩),
   (8,⟨[12,14],[1,2,7,8,9,10,11,13],fun vs σ=>∃(i j:Nat) (x:List Bs),vs=[.d (.str (U0 l)),.d (.bool c),.d (.sl (WE l)),.d (.int .i64 0),.d (.int .i64 0),.d (.bool c),.d (.int .i64 0),.d (.int .i64 i),.d (.str (U0 (l.take i)++(x.take j).flatten)),.d (.int .i64 j)]/\σ=⟨[],[],0⟩/\l[i]?=some x/\j<=x.length,
    fun vs _=>match vs with | [_,_,_,_,_,_,_,.d (.int _ i),_,.d (.int _ j)]=>(((l.getD i.toNat []).length:Int) - j).toNat | _=>0⟩)],ZV [],ZC [8],0,false,sM,Tb rfl,?_⟩
  conv=>whnf
  refine ⟨pl,u,hr,hs,wN ?_⟩;refine ⟨pl,prK u,_,rfl,p1,p2,p3,rfl,p4,l,0,0,hO,wN ?_⟩;refine ⟨pl,u,hr,hs,wN ?_⟩;refine ⟨pl,prK u,_,rfl,p1,p2,p3,rfl,p4,p5,c,0,hN,wN ?_⟩;refine ⟨⟨0,rfl,rfl,oM⟩,?_⟩
  rintro vs σ1 ⟨i,rfl,rfl,hi⟩
  conv=>whnf
  refine ZGr (fun hc=>?_) (fun hc=>?_);rotate_left
  ·have hc:¬(i:Int)<((WE l).length:Nat):=hc;rw [List.take_of_length_le oM];(conv=>whnf);refine ZGr (fun _=>?_) (fun g=>absurd rfl g)
   cases c
   all_goals
    conv=>whnf
    exact h
  have aa:i<l.length:=by have hc:(i:Int)<((WE l).length:Nat):=hc;omega
  have oj:l[i]?=some l[i]:=Ta aa;have hri:(WE l)[(i:Int).toNat]?=some [.sl (VQ l[i])]:=by rw [Tg,WE,Th,oj];rfl
  have aw:=ZvL l (i+1);have cd:=ZoU aa;rw [cd,Tc,Tc] at aw;have rz:=rz _ (TA aa);generalize l[i]=x at oj hri aw cd rz;have hx:(VQ x).length=x.length:=Td ..;(conv=>whnf);refine ⟨⟨i,0,x,by rw [Sb,List.flatten_nil,TU];rfl,rfl,oj,oM⟩,?_⟩
  rintro vs2 σ2 ⟨i',j,x',bh,rfl,aa4,hj⟩
  have ei:i=i':=by
   have e:=Option.some.inj (congrArg (fun t:List PV=>t[7]?) bh);exact mq52
  subst ei;obtain rfl:x=x':=Option.some.inj (oj.symm.trans aa4);have bh:vs2=_:=congrArg (List.drop 8) bh;subst bh
  clear aa4
  have dz:((x.take j).flatten).length<=x.flatten.length:=by
   have:x.flatten=(x.take j).flatten++(x.drop j).flatten:=by rw [<- So,Sd]
   rw [this,Tc];omega
  conv=>whnf
  refine ⟨_,oM,hri,wN ?_⟩;refine ZGr (fun hc=>?_) (fun hc=>?_)
  ·have jj:j<x.length:=by have hc:(j:Int)<((VQ x).length:Nat):=hc;omega
   have hrj:(VQ x)[(j:Int).toNat]?=some [.str x[j]]:=by rw [Tg,Th,Ta jj];rfl
   have htj:=ZoV jj;have hxl:(x[j]).length<=x.flatten.length:=by
    have:x.flatten=(x.take (j+1)).flatten++(x.drop (j+1)).flatten:=by rw [<- So,Sd]
    rw [this,htj,Tc,Tc];omega
   have hμj:((x.length:Int) - ((j:Int)+1)).toNat<((x.length:Int) - (j:Int)).toNat:=oM;generalize x[j]=s' at hrj htj hxl;(conv=>whnf);refine ⟨_,oM,hri,wN ?_⟩;refine ⟨_,oM,hrj,wN ?_⟩;refine ⟨by rw [Tc];omega,wN ?_⟩;refine Zk ?_;exact ⟨⟨i,j+1,x,by rw [htj,<- Tp];rfl,rfl,oj,oM⟩,by
    show (((l.getD (i:Int).toNat []).length:Int) - ((j:Int)+1)).toNat<(((l.getD (i:Int).toNat []).length:Int) - (j:Int)).toNat;rw [Tg,T8,oj];exact hμj⟩
  have hc:¬(j:Int)<((VQ x).length:Nat):=hc;obtain rfl:j=x.length:=oM;rw [Sn];(conv=>whnf);refine ⟨by rw [Tc];show _+1<_;omega,wN ?_⟩;refine Zk ?_;exact ⟨⟨i+1,by rw [cd,<- Tp];rfl,rfl,oM⟩,by show ((l.length:Int) - ((i:Int)+1)).toNat<((l.length:Int) - (i:Int)).toNat;omega⟩
 exact h.elim
def sk0:Zlz [] [97,47,98,47,99,47] true=true:=kR
def sk1:Zlz [97,40,120,41,32,58,45,32,98,40,120,41,46,32,98,40,120,41,32,58,45,32,97,40,120,41,46,32,99,40,120,41,32,58,45,32,97,40,120,41,46] [97,98,47,99,47] true=true:=kR
def sk2:Zlz [97,40,120,41,32,58,45,32,99,40,120,41,44,32,33,98,40,120,41,46] [98,47,99,47,97,47] true=true:=kR
def sk3:Zlz [97,40,120,41,32,58,45,32,97,40,121,41,44,32,120,32,61,32,121,32,43,32,49,46,32,97,40,48,41,46] [97,47,98,47,99,47] false=true:=kR
def sk4:Zlz [97,40,120,41,32,58,45,32,99,40,120,41,46,32,99,40,120,41,32,58,45,32,98,40,120,41,46] [98,47,99,47,97,47] true=true:=kR
def sk5:Zlz [97,40,120,41,32,58,45,32,98,40,120,41,46,32,98,40,120,41,32,58,45,32,99,40,120,41,46,32,99,40,120,41,32,58,45,32,97,40,120,41,46] [97,98,99,47] true=true:=kR
def sk6:Zlz [98,40,120,41,32,58,45,32,120,32,61,32,99,111,117,110,116,32,58,32,123,32,99,40,95,41,32,125,46,32,97,40,120,41,32,58,45,32,98,40,120,41,44,32,120,32,60,32,51,46] [99,47,98,47,97,47] true=true:=kR
def sk7:Zlz [97,40,49,41,32,58,45,32,97,40,95,41,46] [97,47,98,47,99,47] true=true:=kR
def sk8:Zlz [97,40,49,32,43,32,49,41,32,58,45,32,97,40,95,41,46] [97,47,98,47,99,47] false=true:=kR
def sk9:Zlz [97,40,120,41,32,58,45,32,97,40,95,41,44,32,120,32,61,32,49,46] [97,47,98,47,99,47] false=true:=kR
def ZGn:Zlz [97,40,120,41,32,58,45,32,98,40,121,41,44,32,120,32,61,32,121,32,43,32,49,46,32,98,40,120,41,32,58,45,32,99,40,120,41,46] [99,47,98,47,97,47] true=true:=kR
def ZGo:Zlz [97,40,120,41,32,58,45,32,98,40,120,41,46,32,98,40,120,32,43,32,49,41,32,58,45,32,97,40,120,41,46] [97,98,47,99,47] false=true:=kR
def ZGp:Zlz [97,40,120,41,32,58,45,32,98,40,120,41,44,32,99,40,121,41,44,32,97,40,121,41,46] [98,47,99,47,97,47] true=true:=kR
def ZGq:Zlz [97,40,45,120,41,32,58,45,32,99,40,120,41,44,32,120,32,61,32,99,111,117,110,116,32,58,32,123,32,98,40,95,41,32,125,46] [98,47,99,47,97,47] true=true:=kR
def sw0:ZAW [97,40,120,41,32,58,45,32,98,40,120,41,44,32,33,97,40,120,41,46] 0=true:=kR
def sw1:ZAW [97,40,120,41,32,58,45,32,98,40,120,41,46,32,98,40,120,41,32,58,45,32,120,32,61,32,99,111,117,110,116,32,58,32,123,32,97,40,95,41,32,125,46] 14=true:=kR
def sw2:ZAW [97,40,120,41,32,58,45,32,99,40,120,41,46,32,97,40,120,41,32,58,45,32,98,40,120,41,46,32,98,40,120,41,32,58,45,32,99,40,120,41,44,32,33,97,40,120,41,46] 28=true:=kR
def sw3:ZAW [97,40,120,41,32,58,45,32,120,32,61,32,115,117,109,32,121,32,58,32,123,32,98,40,121,41,44,32,121,32,61,32,99,111,117,110,116,32,58,32,123,32,97,40,95,41,32,125,32,125,46] 0=true:=kR
def sw4:ZAW [97,40,120,41,32,58,45,32,98,40,120,41,46,32,98,40,120,41,32,58,45,32,99,40,120,41,46,32,99,40,120,41,32,58,45,32,98,40,120,41,44,32,33,97,40,120,41,46] 28=true:=kR
def skA:(stK [97,40,120,41,32,58,45,32,98,40,120,41,46,32,98,40,120,41,32,58,45,32,97,40,120,41,46,32,99,40,120,41,32,58,45,32,97,40,120,41,46] fun o _=>decide (o=some ([[[97],[98]],[[99]]],0,0)))=true:=kR
def skB:(stK [97,40,120,41,32,58,45,32,97,40,121,41,44,32,120,32,61,32,121,32,43,32,49,46] fun _ n=>decide (n=some (false,0)))=true:=kR
def skC:(stK [97,40,120,41,32,58,45,32,33,98,40,120,41,46] fun o _=>decide (o=some ([],56,190)))=true:=kR
def ZDv:Tbl:=ZhX++[(18,Zly)]
def ZsU:OKw w0 nG ZDv 8 UP:=by
 refine pwo Tryz.func8 fun args σ K h=>?_
 unfold UP at h
 split at h
 ·obtain ⟨pl,u,hr,p,hq⟩:=ZjK skA;obtain ⟨pl2,u2,fd,p2,nh⟩:=ZjK skB;refine pwv [] 0 false ?_;refine ⟨pl,u,hr,dM,wN ?_⟩;refine ⟨pl,prK u,_,rfl,p.1,p.2.1,p.2.2.1,rfl,p.2.2.2.1,[[[97],[98]],[[99]]],0,0,SE hq,wN ?_⟩;refine ⟨pl2,u2,fd,dM,wN ?_⟩;refine ⟨pl2,prK u2,_,rfl,p2.1,p2.2.1,p2.2.2.1,rfl,p2.2.2.2.1,p2.2.2.2.2,false,0,SE nh,wN ?_⟩;refine ⟨_,dM,rfl,wN ?_⟩;refine ⟨[[97],[98]],rfl,rfl,dM,wN ?_⟩;refine ⟨_,dM,rfl,wN ?_⟩;refine ⟨[[99]],rfl,rfl,dM,wN ?_⟩;exact h
 exact h.elim
def ZoW:OKw w0 nG [(4,ZsT),(5,ZsS),(7,ZhW),(6,ZoQ),(8,UP)] 3 UP:=by
 refine pwo Tryz.func3 fun args σ K h=>?_
 unfold UP at h
 split at h
 ·obtain ⟨pl,u,hr,p,hq⟩:=ZjK skC;refine pwv [] 0 false ?_;refine ⟨⟨sk0,dM,dM⟩,wN ?_⟩;refine ⟨⟨sk1,dM,dM⟩,wN ?_⟩;refine ⟨⟨sk2,dM,dM⟩,wN ?_⟩;refine ⟨⟨sk3,dM,dM⟩,wN ?_⟩;refine ⟨⟨sk4,dM,dM⟩,wN ?_⟩;refine ⟨⟨sk5,dM,dM⟩,wN ?_⟩;refine ⟨⟨sk6,dM,dM⟩,wN ?_⟩;refine ⟨⟨sk7,dM,dM⟩,wN ?_⟩;refine ⟨⟨sk8,dM,dM⟩,wN ?_⟩;refine ⟨⟨sk9,dM,dM⟩,wN ?_⟩;refine ⟨⟨ZGn,dM,dM⟩,wN ?_⟩;refine ⟨⟨ZGo,dM,dM⟩,wN ?_⟩;refine ⟨⟨ZGp,dM,dM⟩,wN ?_⟩;refine ⟨⟨ZGq,dM,dM⟩,wN ?_⟩;refine ⟨⟨sw0,⟨dM,dM⟩,dM⟩,wN ?_⟩;refine ⟨⟨sw1,⟨dM,dM⟩,dM⟩,wN ?_⟩;refine ⟨⟨sw2,⟨dM,dM⟩,dM⟩,wN ?_⟩;refine ⟨⟨sw3,⟨dM,dM⟩,dM⟩,wN ?_⟩;refine ⟨⟨sw4,⟨dM,dM⟩,dM⟩,wN ?_⟩;refine ⟨pl,u,hr,dM,wN ?_⟩;refine ⟨pl,prK u,_,rfl,p.1,p.2.1,p.2.2.1,rfl,p.2.2.2.1,[],56,190,SE hq,wN ?_⟩;exact h
 exact h.elim
end Go.PM.Lex
end

section
namespace Go
variable {H:Type} {enc:TypeId×Value->H}
def WG {a:Assume} {C:Checked} {os:Os} {f:FuncId} {fn:Func} {s:ChangeSpec} {conds:List PathCond} {apart fresh m8 again:Bool} {X:World->Array Value->Prop}
  (hX:∀(w w':World) (args:Array Value),w.heap=w'.heap->X w args->X w' args)
  (own:ownKnob C.prog.godebug=none) (started:os.Started) (ZqS:C.prog.inits.idxOf? f=none) (hfn:C.prog.funcs[f]?=some fn)
  (witness:∃(w:World) (tape:Tape) (i:Input),w.os=os/\(w.forCall tape i).Shaped C.prog/\i.vars=[]/\Input.okWide C.prog (w.forCall tape i) .any w.heap.size f i /\
   ((s.pre enc C.prog fn conds apart (w.forCall tape i).memory i.args/\X (w.forCall tape i).memory i.args)/\sizedMet enc C.prog fn (OpenSpec.ofChange s) apart (w.forCall tape i).memory i.args)/\a.holds C.prog (lone (Frame.enter C.prog f i.args .normal) [] (w.forCall tape i)))
  (contract:∀(W:World) (base:Nat) (args:Array Value) (ds gs:List (DataW H)) (before:List MemPlace),
   (∀(j:Nat) t v,fn.params[j]?=some t->args[j]?=some v->Value.okWide C.prog W .any base t v) ->
   DataW.Whole enc C.prog fn.params.toList s.vars apart W args.toList ds gs before->X W args->W.ShapedOpen C.prog ->
   Calls C.prog f args W fun e W'=>∃v,e=.returned v/\s.post enc C.prog fn apart fresh m8 again W args v W') :
  ReturnsInHanded a C os f .any (fun w args=>(s.pre enc C.prog fn conds apart w args/\X w args)/\sizedMet enc C.prog fn (OpenSpec.ofChange s) apart w args) (s.post enc C.prog fn apart fresh m8 again):=by
 refine returnsInHanded_of_calls own started ZqS witness ?_;intro w tape i _ jm _ ak ae0 ae1
 obtain ⟨_,_,_,fn',ae2,_,_,_,_,wq⟩:=ak;have e:fn'=fn:=Option.some.inj (ae2.symm.trans hfn);subst e;obtain ⟨⟨⟨ds,gs,before,hw,hc⟩,hx⟩,hz⟩:=ae0;have hw':=DataW.Whole.of_heap (w':=w.forCall tape i) (by rfl) hw;refine (contract (w.forCall tape i) w.heap.size i.args ds gs before wq hw' (hX _ _ _ (by rfl) hx) jm).mono fun e W' ⟨v,he,hp⟩=>?_
 subst he;exact ChangeSpec.post_blind hp
end Go
namespace Go.PM.Lex
open Go.Proofs Go.Proofs.YtljpldmdmdhdaaaGreatDoor Go.ChangeShapes Go.WideShapes Go.ChangeAt Go.RowKit
def ZFe:ownKnob Tryz.prog.godebug=none:=kR
def ZwI : "*" ++ "errors.errorString" = "*errors.errorString" := by decide
def ZvM (u : TypeId) (h : Tryz.prog.typeName? 3 u = some "*errors.errorString") : u = 370 :=
 typeName_ptr_named (nm := "errors.errorString") (by rw [ZwI]; kernel_rfl) kR dM u (by rw [ZwI]; exact h)
def ZsV {W:World} {n:String} {text:List UInt8} {g:Nat} (hg:Tryz.prog.globalNamed n=some g) (ht:(Tryz.prog.globals[g]?).map (·.type)=some 232)
  (h : laidMet Tryz.prog [(n, .iface "*errors.errorString" (.ptr (.agg [.lit (.string text)])))] W) : ∃ ev, W.cell? ⟨g, 0, none⟩ = some ev /\ (ev = .nilIface \/ ∃ te pe, ev = .iface te pe) := by
 obtain ⟨a1,s1,m9,_⟩:=laid_sentinel h hg ht Tryz.underlying232 ZvM Tryz.underlying370 Tryz.underlying372 rfl rfl Tryz.underlying9 kR kR;refine ⟨.iface 370 (.pointer (some a1)),?_,.inr ⟨_,_,rfl⟩⟩;simpa using World.var?_cell hg m9 0
def ZDx {W:World} (h:laidMetH Tryz.prog Rows.strataKnownRow.laid W) (jm:W.ShapedOpen Tryz.prog):GlobOK W 8:=by
 rw [MakeChecks.laidMetH_plain _ _ _ kR] at h;have h1 := laidMet.filter (fun x => x.1 == "strconv.ErrSyntax") h;have h2 := laidMet.filter (fun x => x.1 == "strconv.ErrRange") h;exact ⟨oM,Tryz.laysM143.s1_3 W jm,ZsV kR kR h1,ZsV kR kR h2⟩
def ZAC:Env:=⟨fun _=>0,fun _=>none,fun _ _=>False,fun _=>none⟩
def ZDy {e':Env} {W W':World} {σ':St} {may:MemPlace->Prop} (h:Later ZAC ⟨[],[],0⟩ W e' σ' W'):W.keptBut W' may:=by
 refine ⟨h.os,h.output,fun i hi=>?_⟩;have:=h.blocks i hi (fun j hj=>by simp at hj) (fun t ht=>by cases ht) rfl;rw [this]
 cases hh:W.heap[i]? with
 | none=>rfl
 | some o=>cases o <;> simp
def ZAD {W:World} (h:8<=W.heap.size):SRel (GG W 8) ZAC ⟨[],[],0⟩ W where
 inj:=fun i j hi=>by simp at hi
 box:=fun i x hx=>by simp at hx
 low:=fun i hi=>by simp at hi
 tkn:=fun t ht=>by cases ht
 own:=fun t ht=>by cases ht
 dis:=fun t t' ht=>by cases ht
 xlt:=fun b off hx=>hx.elim
 xown:=fun t ht=>by cases ht
 hid:=fun b q hq=>by cases hq
 glob:=fun b hb=>rfl
 big:=h
end Go.PM.Lex
end

section
namespace Go.PM.Lex
open Go.Proofs Go.Proofs.YtljpldmdmdhdaaaGreatDoor
def ZAE:Rows.laid_unicode_utf8_first=Lib.firstData:=kR
def ZvN:(Rows.laid_unicode_utf8_acceptRanges:DataW Unit)=Lib.acceptData:=kR
def ZDz {W:World} (h:laidMetH Tryz.prog Rows.strataKnownRow.laid W):Lib.Utf8Tabs 0 1 W:=by
 rw [MakeChecks.laidMetH_plain _ _ _ kR] at h;have h1:=Lib.laidMet.reads (d:=Rows.laid_unicode_utf8_first) h (.tail _ (.tail _ (.tail _ (.tail _ (.tail _ (.tail _ (.head _)))))));have h2:=Lib.laidMet.reads (d:=Rows.laid_unicode_utf8_acceptRanges) h (.tail _ (.tail _ (.tail _ (.head _))));rw [ZAE] at h1;rw [ZvN] at h2;exact utf8Tabs_of_readsT (U8Types.of196 Tryz.laysValid) ⟨kR,kR,kR,kR,kR,kR,kR⟩ h1 h2
variable {w0:World} {nG:Nat}
def ZFf (hb:1<nG) (hT:Lib.Utf8Tabs 0 1 w0):LexC w0 nG where
 name:=ZEs ⟨Zp6,Zaf,ZBf,trivial⟩
 quote:=ZtY ⟨ZtU hb hT,ZbQ,ZfH,ZbR,ZiA,trivial⟩
end Go.PM.Lex
end

section
namespace Go.PM.Lex
open Go.Proofs Go.Proofs.YtljpldmdmdhdaaaGreatDoor
def ZvO:DataW Unit->List Int
 | .agg xs=>xs.map fun | .lit (.int _ z)=>z | _=>0
 | _=>[]
def ZAF:(Rows.laid_internal_strconv_uint64pow10:DataW Unit)=Lib.tabData .u64 Lib.pow10Tab:=kR
def ZFg:(Rows.laid_math_bits_deBruijn64tab:DataW Unit)=Lib.tabData .u8 (ZvO Rows.laid_math_bits_deBruijn64tab):=kR
def ZAG:(ZvO Rows.laid_math_bits_deBruijn64tab).getD 15 0=4:=kR
def ZDA:(ZvO Rows.laid_math_bits_deBruijn64tab).length=64:=kR
def ZFh {W:World} (h:laidMetH Tryz.prog Rows.strataKnownRow.laid W):NumOK W 8:=by
 rw [MakeChecks.laidMetH_plain _ _ _ kR] at h;have h1 := laidMet.filter (fun x => x.1 == "internal/strconv.uint64pow10") h;have h2 := laidMet.filter (fun x => x.1 == "math/bits.deBruijn64tab") h;have k1 : laidMet Tryz.prog [("internal/strconv.uint64pow10", Lib.tabData .u64 Lib.pow10Tab)] W := by rw [<- ZAF]; exact h1
 have k2 : laidMet Tryz.prog [("math/bits.deBruijn64tab", Lib.tabData .u8 (ZvO Rows.laid_math_bits_deBruijn64tab))] W := by rw [<- ZFg]; exact h2
 refine ⟨dM,Lib.tabIs_of_head (g:=3) (t:=347) kR kR Tryz.underlying347 kR kR kR k1,?_⟩;have k3:=Lib.tabIs_of_head (g:=5) (t:=365) kR kR Tryz.underlying365 kR kR kR k2;have k4:=k3.cell (g:=5) kR 15 (by rw [ZDA];decide);rw [ZAG] at k4;exact k4
end Go.PM.Lex
end

section
namespace Go.PM.Lex
open Go.Proofs Go.Proofs.YtljpldmdmdhdaaaGreatDoor
def Z4 {a b:Bool} (h1:a=true) (h2:b=true):(a && b)=true:=by rw [h1,h2];rfl
def ZsW {P:Program} {f:FuncId} {fn:Func} {s:ChangeSpec} {c:OpenClaim}
  (p1:laidOutB P=true) (p2:mapsRowed P=true) (p3:(P.stops == [])=true) (p4:(P.stopKnobs == [])=true) (p5:(c.plainKeys == P.plainKeys)=true) (p6:P.stopsHeard=true) (p7:P.mayEnter=true) (p8:(c.lifted == P.liftsFinal)=true) (p9:(P.make == some c.make)=true)
  (k1:c.wf (OpenSpec.ofChange s)=true) (k2:fn.params.all (P.readableRec ·)=true) (k3:namedTie P c.named s.vars=true) (k4:(c.stops == [])=true) (k5:(c.knobs == [])=true)
  (k6:(c.inPlace == P.inPlace f)=true) (k7:(c.unfollowed == P.unfollowed f)=true) (k8:(c.recurses == P.recurses f)=true) (k9:(c.named == P.varsNamed f)=true)
  (k10:(c.maps == (fn.params.toList++s.plain.varTypes P).any (P.mapsRec ·))=true) (k11:(c.ifaces == (fn.params.toList++s.plain.varTypes P).any (P.ifacesRec ·))=true) (k12:(c.mapsOut == P.mapsAmong fn.resultTypes.toList)=true)
  (k13:(c.loops == (fn.params.toList++s.plain.varTypes P).any (P.loopsFrom ·))=true) (k14:(c.wideKeys == (fn.params.toList++s.plain.varTypes P++fn.resultTypes.toList).any (P.wideKeysFrom ·))=true)
  (k15:s.vars.all (P.varReadable ·)=true) (k16:fn.resultTypes.all (fun t=>P.readableRec t && decide (t<P.types.size))=true) (k17:(c.ifacesOut == fn.resultTypes.toList.any (P.ifacesRec ·))=true) (k18:(c.loopsOut == fn.resultTypes.toList.any (P.loopsFrom ·))=true)
  (k19:c.shortTexts.isNone=true) (k20:(c.kinds == (if c.domain.isEmpty then [] else fn.params.toList.map fun t=>match P.underlying t with | some (.int k)=>some k | _=>none))=true) (k21:(c.pinned == c.pinnedBy)=true)
  (k22:(c.veiled == (fn.params.toList++s.plain.varTypes P++fn.resultTypes.toList).any (P.veiledRec ·))=true) (k23:c.veiledFits P fn.params.toList (fn.params.toList++s.plain.varTypes P++fn.resultTypes.toList)=true):joinedFacts P f fn s c=true:=by
 unfold joinedFacts
 exact (Z4 (Z4 (Z4 (Z4 (Z4 (Z4 (Z4 (Z4 (Z4 (Z4 (Z4 (Z4 (Z4 (Z4 (Z4 (Z4 (Z4 (Z4 (Z4 (Z4 (Z4 (Z4 (Z4 (Z4 (Z4 (Z4 (Z4 (Z4 (Z4 (Z4 (Z4 k1 p1) p2) k2) k3) k4) p3) k5) p4) k6) k7) k8) k9) k10) k11) k12) k13) k14) k15) k16) k17) k18) p5) k19) p6) p7) p8) p9) k20) k21) k22) k23)
def jp1:laidOutB Tryz.checked.prog=true:=kR
def jp2:mapsRowed Tryz.checked.prog=true:=kR
def jp3:(Tryz.checked.prog.stops == [])=true:=kR
def jp4:(Tryz.checked.prog.stopKnobs == [])=true:=kR
def jp5:(Rows.strataKnownRow.plainKeys == Tryz.checked.prog.plainKeys)=true:=kR
def jp6:Tryz.checked.prog.stopsHeard=true:=kR
def jp7:Tryz.checked.prog.mayEnter=true:=kR
def jp8:(Rows.strataKnownRow.lifted == Tryz.checked.prog.liftsFinal)=true:=kR
def jp9:(Tryz.checked.prog.make == some Rows.strataKnownRow.make)=true:=kR
def jp10:Tryz.checked.prog.mainIs=some (Rows.strataKnownCard.stood.harness.1,Rows.strataKnownCard.stood.harness.2.toList):=kR
def jp11:Rows.strataKnownCard.stood.looks=Tryz.checked.prog.looks []:=kR
end Go.PM.Lex
end
