/- A part of the proof: plain logic, contracts and laws over the given program. -/
import Derived.Test.YtcifacgjebbdbaaGreatDoorMore
import Derived.Lib.AppendIntMem
import Derived.WalkKit
import Derived.Test.YtcifacgjebbdbaaGreatDoorB08
set_option linter.unusedVariables false
set_option linter.unusedSimpArgs false
set_option linter.all false
set_option maxRecDepth 100000
set_option maxHeartbeats 16000000
noncomputable section
section
namespace Go.PM.Lex
open Go.Proofs
variable {w0:World} {nG:Nat}
abbrev Zwo (d:Nat):Zm:=ZiW (fun L en (v:Li)=>Uv (Xp (Zb L en) v)) (ZmK d (Zew d)) 0 d
abbrev Zik (d:Nat):Zm:=ZiW (fun L en (v:List Li)=>.d (.sl (v.map (Xp (Zb L en))))) (ZmL d) 0 d
abbrev ZgN (d:Nat):Zm:=Zv9 (fun L en (v:List Li)=>.d (.sl (v.map (Xp (Zb L en))))) (Zew d) 0 d
def Zs1 (d:Nat):ZmL d=XX [44] 32 Yf (ZmK d (Zew d)):=by cases d <;> rfl
def Zls (d:Nat):Zm:=Xq fun rest L en dp a ts K=>match rest with
 | [.d (.bool b)]=>(dp=64 - (d:Int)/\0<=dp)/\∀x,ZoY d b ts=x->RKk (fun (v:Ru)=>Uv (ZS (Zb L en) v)) L en dp (a+1) x K
 | _=>False
def JR {ts:Ts}:∀{ws:List Bs} {i k:Nat},ZbY ts i ws=some k->i<=k/\k<i+ws.length
 | [],i,k,h=>by simp [ZbY] at h
 | w::ws,i,k,h=>by
  rw [ZbY] at h;split at h
  ·cases h;simp
  have:=JR h;simp only [Td];omega
def Zbw {ts:Ts} (h:ZbY ts 0 relWords=none):Zdw ts=.err ts.length 150:=by rw [Zdw,h]
def ZdR {ts:Ts} {j:Nat} (h:ZbY ts 0 relWords=some 0) (h2:ZbY ts.tail 0 aggWords=some j):Zdw ts=.ok (9+j) ts.tail.tail:=by rw [Zdw,h];simp only [h2]
def ZgO {ts:Ts} (h:ZbY ts 0 relWords=some 0) (h2:ZbY ts.tail 0 aggWords=none):Zdw ts=.ok 3 ts.tail:=by rw [Zdw,h];simp only [h2]
def ZdS {ts:Ts} {k:Nat} (h:ZbY ts 0 relWords=some (k+1)):Zdw ts=.ok (3+(k+1)) ts.tail:=by rw [Zdw,h];rfl
def Zs3:OKw w0 nG [(249,(JM ZU)),(154,Zie)] 252 (Zlb Yf):=by
 refine pwo Tryz.func252 fun args σ K h=>?_
 unfold Zlb Zpn at h
 split at h
 ·rename_i rest t0 t rows a en dp
  obtain ⟨L,ts,rfl,ho,h⟩:=h;split at h
  ·skip
   refine pwv [] 2 false ?_;refine ⟨L,ts,rfl,ho,fun b hb=>?_⟩
   cases b with
   | true =>
    conv=>whnf
    exact h _ (by rw [Yf,hb];rfl)
   | false =>
   conv=>whnf
   refine ⟨L,ts,rfl,ho,[[33]],rfl,sM,fun b hw=>wN ?_⟩;exact h _ (by rw [Yf,hb,hw];rfl)
  exact h.elim
 exact h.elim
def Zwq {d:Nat}:OKw w0 nG [(251,ZgH d)] 217 (Zik d):=by
 refine pwo Tryz.func217 fun args σ K h=>?_
 unfold Zik ZiW Xq at h
 split at h
 ·rename_i rest t rows a en dp
  obtain ⟨L,ts,rfl,ho,h⟩:=h;split at h
  ·obtain ⟨fu,h⟩:=h;have h0:=ho.lo;have h1:=ho.hi;have h2:=ho.big;refine pwv [] 1 false ?_;have h:=h _ rfl;rw [Zs1] at h;refine ⟨⟨rfl,rfl,rfl,rfl,fu⟩,L,ts,rfl,ho,fun x dv=>?_⟩;rcases x with ⟨v1,ts1⟩ | ⟨r1,e1⟩
   rotate_left
   ·rw [dv] at h;intro a9 d9;(conv=>whnf);exact h _ _
   rw [dv] at h;intro a1 ew ak
   have bu:=ak.hi;(conv=>whnf);exact h _ oM ak
  exact h.elim
 exact h.elim
def ZpM (d:Nat):Tbl:=[(217,ZgN d)]
def ZpN (d:Nat):Tbl:=[(154,Zie),(161,Xt),(153,YS),(280,Zld Tryz.f280 (ZpM d))]
def Zuu (d:Nat):Tbl:=[(159,WK),(209,X5),(207,Zau),(163,JM ZG),(160,XB),(216,ZdP d),(250,Zfv d),(166,ZsJ),(153,YS),(161,Xt),(213,Zld Tryz.f213 (ZpN d))]
def ZzR {d:Nat} (ht:TO w0 nG (Zuu d)):PC w0 nG 253 (Zwo d):=by
 refine Zbc ZC mixed (tbl:=Zuu d) ht Tryz.func253 rfl kR kR ?_;intro args σ K h
 unfold Zwo ZiW Xq at h
 split at h
 ·rename_i rest t rows a en dp
  obtain ⟨L,ts,rfl,ho,h⟩:=h;split at h
  ·obtain ⟨fu,h⟩:=h;have h0:=ho.lo;have h1:=ho.hi;have h2:=ho.big;refine ⟨Zk [],Ye [],ZB [],ZB [50],ZB [],1,false,sM,Tc rfl,wN ?_⟩;have h:=h _ rfl;rw [ZmK] at h;refine ⟨L,ts,rfl,ho,wN ?_⟩;refine ⟨L,ts,rfl,ho,[[33]],rfl,sM,fun dm ak=>wN ?_,fun dm=>wN ?_⟩
   ·rw [Th dm] at h;have bu:=ak.hi;refine ⟨L,ts.tail,rfl,ak,fun fin=>Or.inr ⟨rfl,wN ?_⟩⟩;rw [Zdx] at h;refine ⟨L,ts.tail,rfl,ak,fun x ku=>?_⟩;exact mq43
   rw [Tf (by rw [dm];simp)] at h;refine ⟨L,ts,rfl,ho,fun fin=>Or.inr ⟨rfl,wN ?_⟩⟩;refine ⟨L,ts,rfl,ho,fun b hn=>?_⟩
   cases b with
   | false =>
    rw [Tf (by rw [hn];simp)] at h;(conv=>whnf);exact mq0
   | true =>
   conv=>whnf
   refine ZEw (fun hc=>wN ?_) (fun hc=>wN ?_)
   ·refine ZEw (fun bj=>wN ?_) (fun bj=>wN ?_)
    ·rw [Th ⟨hn,oM,bj⟩] at h;rw [Zdx] at h;refine ⟨L,ts,rfl,ho,fun x ku=>?_⟩;exact mq43
    rw [Tf (fun g=>bj g.2.2)] at h;exact mq0
   rw [Tf (fun g=>hc (by have:=g.2.1;omega))] at h;exact mq0
  exact h.elim
 exact h.elim
def Zws {d:Nat}:OKw w0 nG [(159,WK),(160,XB),(216,ZdP d),(209,X5),(217,Zik d),(161,Xt)] 164 (Zls d):=by
 refine pwo Tryz.func164 fun args σ K h=>?_
 unfold Zls Xq at h
 split at h
 ·rename_i rest t rows a en dp
  obtain ⟨L,ts,rfl,ho,h⟩:=h;split at h
  ·rename_i bodies
   obtain ⟨fu,h⟩:=h;have h0:=ho.lo;have h1:=ho.hi;have h2:=ho.big;refine pwv [] 1 false ?_;have h:=h _ rfl;rw [ZoY] at h;refine ⟨L,ts,rfl,ho,wN ?_⟩;refine ⟨L,ts,rfl,ho,fun x dv=>?_⟩;rcases x with ⟨v1,ts1⟩ | ⟨r1,e1⟩
   rotate_left
   ·exact mq48
   rw [dv,R.bind_ok] at h;intro a1 ew ak
   have bu:=ak.hi;(conv=>whnf);refine ⟨L,ts1,rfl,ak,⟨fu,sM⟩,fun x ca=>?_⟩;have aht:=fu;rcases x with ⟨v2,ts2⟩ | ⟨r2,e2⟩
   rotate_left
   ·exact mq41
   rw [ca,R.bind_ok] at h;intro a2 gl ah
   have dw:=ah.hi;(conv=>whnf)
   cases bodies with
   | false =>
    rw [Tf sM] at h;(conv=>whnf);refine ⟨L,ts2,rfl,ah,fun x fi=>?_⟩;rcases x with ⟨v3,ts3⟩ | ⟨r3,e3⟩
    rotate_left
    ·exact mq17
    exact mq153
   | true =>
   conv=>whnf
   refine ⟨L,ts2,rfl,ah,[[58,45]],rfl,sM,fun nw am=>wN ?_,fun nw=>wN ?_⟩
   ·rw [Th ⟨rfl,nw⟩] at h;have gt:=am.hi;refine ⟨L,ts2.tail,rfl,am,fu,fun x nd=>?_⟩;rcases x with ⟨v4,ts4⟩ | ⟨r4,e4⟩
    rotate_left
    ·exact mq101
    rw [nd,R.bind_ok] at h;intro a4 nz cf
    have sy:=cf.hi;(conv=>whnf);refine ⟨L,ts4,rfl,cf,fun x kr=>?_⟩;rcases x with ⟨v5,ts5⟩ | ⟨r5,e5⟩
    rotate_left
    ·exact mq40
    rw [kr,R.bind_ok] at h;intro a5 mn cq
    have vz:=cq.hi;(conv=>whnf);rw [<- Ze,<- ZD];exact h _ oM cq
   rw [Tf (by rw [nw];simp)] at h;refine ⟨L,ts2,rfl,ah,fun x nd=>?_⟩;rcases x with ⟨v4,ts4⟩ | ⟨r4,e4⟩
   rotate_left
   ·exact mq101
   rw [nd,R.bind_ok] at h;intro a4 nz cf
   have sy:=cf.hi;(conv=>whnf);rw [<- Ze];exact h _ oM cf
  exact h.elim
 exact h.elim
def Zm0:Nat->Ts->R Un
 | 0=>fun _=>.err 0 150
 | d+1=>Zo2 d
def Zs4 (d:Nat):Zo2 d=ZmM true d (Zm0 d):=by cases d <;> rfl
def Zwt (b:Bool) (d:Nat) (ts:Ts):R Un:=ZmM b d (Zm0 d) ts
def ZdT (d:Nat):Zm:=Xq fun rest L en dp a ts K=>match rest with
 | [.d (.bool b)]=>(dp=64 - (d:Int)/\0<=dp)/\∀x,Zwt b d ts=x->RKk (fun (v:Un)=>Uv (XY (Zb L en) v)) L en dp a x K
 | _=>False
def Uz (d:Nat):Zm:=Xq fun rest L en dp a ts K=>match rest with
 | [.d (.bool b)]=>(0<d/\dp=65 - (d:Int)/\0<=dp/\b=true)/\∀x,Zm0 d ts=x->RKk (fun (v:Un)=>Uv (XY (Zb L en) v)) L en dp a x K
 | _=>False
abbrev Zlt (d:Nat):Zm:=ZiW (fun L en (v:Co)=>Uv (XU (Zb L en) v)) (ZoZ d (Zm0 d)) 0 d
def Zlu (d:Nat):Tbl:=[(89,Uz d)]
def Zlv (d:Nat):Tbl:=[(154,Zie),(161,Xt),(153,YS),(214,Zld Tryz.f214 (Zlu d))]
def Zwv {d:Nat}:OKw w0 nG [(159,WK),(160,XB),(162,ZdL),(209,X5),(213,Zld Tryz.f213 (Zlv d))] 158 (Zlt d):=by
 refine pwo Tryz.func158 fun args σ K h=>?_
 unfold Zlt ZiW Xq at h
 split at h
 ·rename_i rest t rows a en dp
  obtain ⟨L,ts,rfl,ho,h⟩:=h;split at h
  ·obtain ⟨fu,h⟩:=h;have h0:=ho.lo;have h1:=ho.hi;have h2:=ho.big;refine pwv [] 1 false ?_;have h:=h _ rfl;rw [ZoZ] at h;refine ⟨L,ts,rfl,ho,wN ?_⟩;refine ⟨L,ts,rfl,ho,fun x dv=>?_⟩;rcases x with ⟨v1,ts1⟩ | ⟨r1,e1⟩
   rotate_left
   ·exact mq48
   rw [dv,R.bind_ok] at h;intro a1 ew ak
   have bu:=ak.hi;(conv=>whnf);refine ⟨L,ts1,rfl,ak,fun x ca=>?_⟩;rcases x with ⟨v2,ts2⟩ | ⟨r2,e2⟩
   rotate_left
   ·exact mq41
   rw [ca,R.bind_ok] at h;intro a2 gl ah
   have dw:=ah.hi;(conv=>whnf);refine ⟨L,ts2,rfl,ah,[[58]],rfl,sM,fun nw am=>wN ?_,fun nw=>wN ?_⟩
   ·rw [Th nw] at h;have gt:=am.hi;refine ⟨L,ts2.tail,rfl,am,fun x nd=>?_⟩;rcases x with ⟨v4,ts4⟩ | ⟨r4,e4⟩
    rotate_left
    ·exact mq101
    rw [nd,R.bind_ok] at h;intro a4 nz cf
    have sy:=cf.hi;(conv=>whnf);refine ⟨L,ts4,rfl,cf,fun x kr=>?_⟩;rcases x with ⟨v5,ts5⟩ | ⟨r5,e5⟩
    rotate_left
    ·exact mq40
    rw [kr,R.bind_ok] at h;intro a5 mn cq
    have vz:=cq.hi;(conv=>whnf);refine ⟨_,fun _ _ h=>h,Tc rfl,wN ?_⟩;refine ⟨L,ts5,rfl,cq,[[123]],rfl,sM,fun b nf=>?_⟩
    cases b with
    | false =>
     rw [Zo,Tf (by rw [nf];simp),R.bind_err] at h;(conv=>whnf);refine ⟨L,ts5,rfl,cq,fun x hx=>?_⟩;rw [ZR,Tf (by rw [nf];simp)] at hx;exact mq181
    | true =>
    rw [Zo,Th nf] at h;(conv=>whnf);refine ZEw (fun hc=>wN ?_) (fun hc=>wN ?_)
    ·rw [Th oM,R.bind_err] at h;refine ⟨L,ts5,rfl,cq,wN ?_⟩;exact h _ _
    rw [Tf oM] at h;refine ⟨L,ts5,rfl,cq,fun x hx=>?_⟩;rw [ZR,Th nf] at hx;subst hx;intro a7 aaf iz
    have hb7:=iz.hi;(conv=>whnf);refine Zj ?_;refine ⟨_,fun _ _ h=>h,Tc rfl,wN ?_⟩;refine ⟨L,ts5.tail,rfl,iz,⟨oM,oM,oM,rfl⟩,fun x xu=>?_⟩;exact mq38
   rw [Tf (by rw [nw];simp)] at h;refine ⟨_,fun _ _ h=>h,Tc rfl,wN ?_⟩;refine ⟨L,ts2,rfl,ah,[[123]],rfl,sM,fun b nf=>?_⟩
   cases b with
   | false =>
    rw [Zo,Tf (by rw [nf];simp),R.bind_err] at h;(conv=>whnf);refine ⟨L,ts2,rfl,ah,fun x hx=>?_⟩;rw [ZR,Tf (by rw [nf];simp)] at hx;exact mq181
   | true =>
   rw [Zo,Th nf] at h;(conv=>whnf);refine ZEw (fun hc=>wN ?_) (fun hc=>wN ?_)
   ·rw [Th oM,R.bind_err] at h;refine ⟨L,ts2,rfl,ah,wN ?_⟩;exact h _ _
   rw [Tf oM] at h;refine ⟨L,ts2,rfl,ah,fun x hx=>?_⟩;rw [ZR,Th nf] at hx;subst hx;intro a7 aaf iz
   have hb7:=iz.hi;(conv=>whnf);refine Zj ?_;refine ⟨_,fun _ _ h=>h,Tc rfl,wN ?_⟩;refine ⟨L,ts2.tail,rfl,iz,⟨oM,oM,oM,rfl⟩,fun x xu=>?_⟩;exact mq38
  exact h.elim
 exact h.elim
def Zil (inside:Bool) (d:Nat) (un:Ts->R Un) (f:Nat) (tys:List Ty) (rels:List Re) (rules:List Ru) (comps:List Co) (inits:List Ini) (overs:List Ov) (ts:Ts):X4 inside d un (f+1) (.mk tys rels rules comps inits overs) ts =
  if ts=[]\/(inside=true/\isW ts [[125]]=true) then .ok (.mk tys rels rules comps inits overs) ts
  else if isW ts [[116,121,112,101]]=true then (if tys.length=256 then .err ts.length 3 else (Zh6 ts.tail).bind fun x ts=>X4 inside d un f (.mk (tys++[x]) rels rules comps inits overs) ts)
  else if isW ts [[100,101,99,108]]=true then (if rels.length=256 then .err ts.length 3 else (ZoX ts.tail).bind fun x ts=>X4 inside d un f (.mk tys (rels++[x]) rules comps inits overs) ts)
  else if isW ts [[99,111,109,112]]=true then (if comps.length=64 then .err ts.length 3 else (ZoZ d un ts.tail).bind fun x ts=>X4 inside d un f (.mk tys rels rules (comps++[x]) inits overs) ts)
  else if isW ts [[105,110,105,116]]=true then (if inits.length=256 then .err ts.length 3 else (Zo0 ts.tail).bind fun x ts=>X4 inside d un f (.mk tys rels rules comps (inits++[x]) overs) ts)
  else if isW ts [[111,118,101,114,114,105,100,101]]=true then (if overs.length=256 then .err ts.length 3 else (Zo1 ts.tail).bind fun x ts=>X4 inside d un f (.mk tys rels rules comps inits (overs++[x])) ts)
  else if ZG ts=true then (if rules.length=1024 then .err ts.length 3 else (ZoY d true ts).bind fun x ts=>X4 inside d un f (.mk tys rels (rules++[x]) comps inits overs) ts)
  else .err ts.length 150:=rfl
def Zwx {d:Nat}:OKw w0 nG [(154,Zie),(155,Zla),(156,ZgJ),(157,Zlc),(158,Zlt d),(159,WK),(160,XB),(161,Xt),(162,ZdL),(163,JM ZG),(164,Zls d),(153,YS)] 89 (ZdT d):=by
 refine pwo Tryz.func89 fun args σ K h=>?_
 unfold ZdT Xq at h
 split at h
 ·rename_i rest t rows a en dp
  obtain ⟨L,ts,rfl,ho,h⟩:=h;split at h
  ·rename_i inside
   obtain ⟨fu,h⟩:=h;have h0:=ho.lo;have h1:=ho.hi;have h2:=ho.big;refine pwv [(1,⟨[],[0,1,4],fun vs σ=>∃(tys:List Ty) (rels:List Re) (rules:List Ru) (comps:List Co) (inits:List Ini) (overs:List Ov) (a':Int) (ts':Ts) (f:Nat),vs=[]/\σ=⟨[.cells t [.d (.sl (Zz L)),.d (.int .i64 a'),.d (.int .i64 en),.d (.int .i64 dp)],.cells 64 [.sl 0 56 (tys.map (Zq (Zb L en))),.sl 1 109 (rels.map (ZN (Zb L en))),.sl 2 74 (rules.map (ZS (Zb L en))),.sl 3 158 (comps.map (XU (Zb L en))),.sl 4 163 (inits.map (We (Zb L en))),.sl 5 167 (overs.map (Wf (Zb L en)))]],[5,4,3,2,1,0],6⟩/\ROK L a' ts'/\a<=a'/\ts'.length<f/\(tys.length<=256/\rels.length<=256/\rules.length<=1024/\comps.length<=64/\inits.length<=256/\overs.length<=256)/\RKk (fun (v:Un)=>Uv (XY (Zb L en) v)) L en dp a (X4 inside d (Zm0 d) f (.mk tys rels rules comps inits overs) ts') (fun pe a' dp'=>K pe ⟨[.cells t [.d (.sl (Zz L)),.d (.int .i64 a'),.d (.int .i64 en),.d (.int .i64 dp')]],[],0⟩),fun _ σ=>match σ with | ⟨.cells _ [_,.d (.int _ i),_,_]::_,_,_⟩=>((L.length:Int) - i).toNat | _=>0⟩)] 1 false ?_;have h:=h _ rfl;rw [Zwt,ZmM] at h;refine ⟨⟨[],[],[],[],[],[],a,ts,ts.length+1,rfl,rfl,ho,oM,oM,sM,h⟩,?_⟩
   clear h
   intro vs σ hI
   obtain ⟨tys,rels,rules,comps,inits,overs,a',ts',f,rfl,rfl,dj,ad1,hf,ahu,h⟩:=hI;obtain ⟨f,rfl⟩:∃g,f=g+1:=⟨f - 1,oM⟩
   rw [Zil] at h;have qh:=dj.hi;have s8:=dj.len;have x9:=dj.lo;(conv=>whnf);refine ZEw (fun hc=>wN ?_) (fun hc=>wN ?_)
   ·have ai:ts'≠[]:=by rintro rfl;have hc:a'<((Zz L).length:Int):=hc;rw [ZV] at hc;simp at s8;omega
    cases inside with
    | false =>
     rw [Tf (by simp [ai])] at h;exact mq1
    | true =>
    conv=>whnf
    refine ⟨L,ts',rfl,dj,[[125]],rfl,sM,fun b hw=>?_⟩
    cases b with
    | true =>
     rw [Th (.inr ⟨rfl,hw⟩)] at h;(conv=>whnf)
     repeat (refine ⟨rfl,?_⟩;conv=>whnf)
     have h:=h _ oM dj;simp only [Uv,XY,ZdC,TD,TM] at h;exact h
    | false =>
    rw [Tf (by simp [ai,hw])] at h;exact mq1
   have d8:ts'=[]:=by have hc:¬a'<((Zz L).length:Int):=hc;rw [ZV] at hc;exact TY oM
   rw [Th (.inl d8)] at h;have h:=h _ oM dj;simp only [Uv,XY,ZdC,TD,TM] at h;exact h
  exact h.elim
 exact h.elim
def Zb2:PC w0 nG 159 WK:=Zsx ⟨JP,trivial⟩
def cIs:PC w0 nG 154 Zie:=ZCi ⟨JP,ZjO,trivial⟩
def Zfx:PC w0 nG 163 (JM ZG):=Zsz ⟨JP,ZjN,trivial⟩
def Ua:PC w0 nG 153 YS:=Zv0 ⟨Zb2,trivial⟩
def ZaB:PC w0 nG 209 X5:=Zv2 ⟨cIs,trivial⟩
def JS:PC w0 nG 161 Xt:=Zv4 ⟨ZaB,Ua,trivial⟩
def ZCj:PC w0 nG 155 Zla:=Zv6 ⟨Ua,trivial⟩
def Js:PC w0 nG 160 XB:=ZsB ⟨Zfx,Ua,trivial⟩
def ZjY:PC w0 nG 249 (JM ZU):=Zpl ⟨JP,cIs,ZjN,Zbt,trivial⟩
def ZpO:PC w0 nG 296 ZsC:=Zpm ⟨JP,trivial⟩
def Zwy:PC w0 nG 246 ZgI:=Zpt ⟨Js,JS,trivial⟩
def ZjZ:PC w0 nG 210 U0:=Zpv ⟨cIs,Zih ⟨Zfx,Ua,Zwy,ZaB,trivial⟩,trivial⟩
def Zuv:PC w0 nG 162 ZdL:=ZsE ⟨ZaB,ZmU ⟨Zfx,Ua,Js,ZaB,trivial⟩,JS,trivial⟩
def ZzS:PC w0 nG 212 ZjR:=ZsG ⟨Js,JS,ZjZ,trivial⟩
def ZzT:PC w0 nG 156 ZgJ:=ZsI ⟨Zb2,Js,ZaB,JS,ZjZ,ZjQ ⟨Zfx,Ua,ZzS,ZaB,trivial⟩,trivial⟩
def ZCk:PC w0 nG 157 Zlc:=Zv8 ⟨Zb2,Js,ZaB,JS,ZjZ,trivial⟩
def ZDH:PC w0 nG 166 ZsJ:=ZzK ⟨Zpx ⟨ZaB,trivial⟩,Zpy ⟨ZaB,trivial⟩,trivial⟩
def Zim (h:Wr (GG w0 nG).P 248):PC w0 nG 248 (Vr 0):=⟨h,fun args σ K hs=>by
 exfalso;unfold Vr at hs
 split at hs
 ·exact absurd hs.1.2.2.2.2.1 oM
 exact hs⟩
def Zin {d:Nat} (h:PC w0 nG 248 (Zaz d)):PC w0 nG 248 (Vr (d+1)):=h.weaken1 fun args σ K hs=>by
 unfold Vr at hs
 unfold Zaz
 split at hs
 ·obtain ⟨⟨h1,h2,h3,h4,h5,h6,h7⟩,hs⟩:=hs;exact ⟨⟨h1,h2,h3,h4,oM,h7⟩,hs⟩
 exact hs.elim
def Zm1 (d:Nat) (h:Wr (GG w0 nG).P 277):PC w0 nG 277 (ZdQ d 0):=⟨h,fun args σ K hs=>by
 exfalso;unfold ZdQ Xq at hs
 split at hs
 ·obtain ⟨L,ts,_,_,hs⟩:=hs;split at hs
  ·exact absurd hs.1.2.1 oM
  exact hs
 exact hs⟩
def Zm2 {d j:Nat} (h:PC w0 nG 277 (Zfw d j)):PC w0 nG 277 (ZdQ d (j+1)):=h.weaken1 fun args σ K hs=>by
 unfold ZdQ Xq at hs
 unfold Zfw Xq
 split at hs
 ·obtain ⟨L,ts,h1,h2,hs⟩:=hs;refine ⟨L,ts,h1,h2,?_⟩;split at hs
  ·exact ⟨⟨hs.1.1,hs.1.2.2.1,hs.1.2.2.2.1,by have:=hs.1.2.2.2.2;omega⟩,hs.2⟩
  exact hs.elim
 exact hs
structure Deep (w0:World) (nG d:Nat):Prop where
 sg:PC w0 nG 295 (Zii d)
 ex:PC w0 nG 250 (ZjX d)
 many:PC w0 nG 248 (Vr d)
def Zlw {d:Nat} (D:Deep w0 nG d):PC w0 nG 216 (ZdP d):=Zwh ⟨(Zch (tb:=Zlk d) ⟨cIs,JS,Ua,(Zch (tb:=Zlj d) ⟨cIs,D.many,trivial⟩ Tryz.func247 rfl kR kR),trivial⟩ Tryz.func213 rfl kR kR),trivial⟩
def Zs5 {d:Nat} (D:Deep w0 nG d):PC w0 nG 322 (Zli d):=Zwj ⟨(Zch (tb:=Zlm d) ⟨cIs,JS,Ua,(ZzJ (tb:=Zll d) ⟨JS,D.ex,trivial⟩ Tryz.func326 rfl kR kR),trivial⟩ Tryz.func213 rfl kR kR),trivial⟩
def Zj0 {d:Nat} (D:Deep w0 nG d):PC w0 nG 310 (ZaA d):=ZmY ⟨ZjY,Ua,JP,(Zch (tb:=Zlo d) ⟨cIs,JS,Ua,(Zch (tb:=Zln d) ⟨D.ex,trivial⟩ Tryz.func321 rfl kR kR),trivial⟩ Tryz.func213 rfl kR kR),Zlw D,Js,cIs,Zbt,Zs5 D,trivial⟩
def Zbx {d:Nat} (D:Deep w0 nG d):PC w0 nG 295 (ZcC d):=ZpJ ⟨Zb2,cIs,(Zch (tb:=Zlq d) ⟨cIs,JS,Ua,(Zch (tb:=Zlp d) ⟨D.sg,trivial⟩ Tryz.func309 rfl kR kR),trivial⟩ Tryz.func213 rfl kR kR),Zj0 D,trivial⟩
def Zlx {d:Nat} (D:Deep w0 nG d):∀j,PC w0 nG 277 (Zfw d j)
 | 0=>ZpL ⟨Zbx D,ZpO,Zm1 d (Zl Tryz.func277 kR rfl),trivial⟩
 | j+1=>ZpL ⟨Zbx D,ZpO,Zm2 (Zlx D j),trivial⟩
def ZgP {d:Nat} (D:Deep w0 nG d):PC w0 nG 250 (Zfv d):=Zwn ⟨Zlx D 6,trivial⟩
def ZpP {d:Nat} (h:PC w0 nG 250 (Zfv d)):PC w0 nG 248 (Zaz d):=Zpp d ⟨ZjY,Ua,h,ZaB,trivial⟩
def ZzU:∀d,Deep w0 nG d
 | 0=>⟨ZdM (Zl Tryz.func295 kR rfl),ZdM (Zl Tryz.func250 kR rfl),Zim (Zl Tryz.func248 kR rfl)⟩
 | d+1=>⟨ZdN (Zbx (ZzU d)),ZdN (ZgP (ZzU d)),Zin (ZpP (ZgP (ZzU d)))⟩
def ZzV (d:Nat):PC w0 nG 216 (ZdP d):=Zlw (ZzU d)
def ZCl (d:Nat):PC w0 nG 250 (Zfv d):=ZgP (ZzU d)
def ZzW:PC w0 nG 252 (Zlb Yf):=Zs3 ⟨ZjY,cIs,trivial⟩
def Zwz {d:Nat} (h:PC w0 nG 217 (ZgN d)):PC w0 nG 253 (Zwo d):=ZzR ⟨Zb2,ZaB,JP,Zfx,Js,ZzV d,ZCl d,ZDH,Ua,JS,(Zch (tb:=ZpN d) ⟨cIs,JS,Ua,(Zch (tb:=ZpM d) ⟨h,trivial⟩ Tryz.func280 rfl kR kR),trivial⟩ Tryz.func213 rfl kR kR),trivial⟩
def Zly {d:Nat} (h:PC w0 nG 217 (ZgN d)):PC w0 nG 217 (Zik d):=Zwq ⟨Zpr d ⟨ZzW,Ua,Zwz h,ZaB,trivial⟩,trivial⟩
def Zuw:∀d,PC w0 nG 217 (ZgN d)
 | 0=>ZdM (Zl Tryz.func217 kR rfl)
 | d+1=>ZdN (Zly (Zuw d))
def ZCm (d:Nat):PC w0 nG 217 (Zik d):=Zly (Zuw d)
def ZCn (d:Nat):PC w0 nG 164 (Zls d):=Zws ⟨Zb2,Js,ZzV d,ZaB,ZCm d,JS,trivial⟩
def Zm3 (h:Wr (GG w0 nG).P 89):PC w0 nG 89 (Uz 0):=⟨h,fun args σ K hs=>by
 exfalso;unfold Uz Xq at hs
 split at hs
 ·obtain ⟨L,ts,_,_,hs⟩:=hs;split at hs
  ·exact absurd hs.1.1 oM
  exact hs
 exact hs⟩
def Zm4 {d:Nat} (h:PC w0 nG 89 (ZdT d)):PC w0 nG 89 (Uz (d+1)):=h.weaken1 fun args σ K hs=>by
 unfold Uz Xq at hs
 unfold ZdT Xq
 split at hs
 ·obtain ⟨L,ts,h1,h2,hs⟩:=hs;refine ⟨L,ts,h1,h2,?_⟩;split at hs
  ·obtain ⟨⟨g1,g2,g3,rfl⟩,hs⟩:=hs;refine ⟨oM,?_⟩;rw [Zm0,Zs4] at hs;exact hs
  exact hs.elim
 exact hs
def Zs6 {d:Nat} (h:PC w0 nG 89 (Uz d)):PC w0 nG 158 (Zlt d):=Zwv ⟨Zb2,Js,Zuv,ZaB,(Zch (tb:=Zlv d) ⟨cIs,JS,Ua,(Zch (tb:=Zlu d) ⟨h,trivial⟩ Tryz.func214 rfl kR kR),trivial⟩ Tryz.func213 rfl kR kR),trivial⟩
def Zlz {d:Nat} (h:PC w0 nG 89 (Uz d)):PC w0 nG 89 (ZdT d):=Zwx ⟨cIs,ZCj,ZzT,ZCk,Zs6 h,Zb2,Js,JS,Zuv,Zfx,ZCn d,Ua,trivial⟩
def Zux:∀d,PC w0 nG 89 (Uz d)
 | 0=>Zm3 (Zl Tryz.func89 kR rfl)
 | d+1=>Zm4 (Zlz (Zux d))
def ZCo (d:Nat):PC w0 nG 89 (ZdT d):=Zlz (Zux d)
def R.good {α:Type} (x:R α):Prop:=match x with | .ok _ _=>True | .err _ e=>e≠0
def ZEx {α β:Type} {x:R α} {f:α->Ts->R β} (h:x.good) (hf:∀a ts,(f a ts).good):(x.bind f).good:=by
 cases x with
 | ok a ts=>exact hf a ts
 | err r e=>exact h
def ZEO {α:Type} (a:α) (ts:Ts):(R.ok a ts:R α).good:=trivial
def ZEA {α:Type} {c:Prop} [Decidable c] {x y:R α} (h1:x.good) (h2:y.good):(if c then x else y).good:=by split;exact h1;exact h2
def ZEB {α:Type} {r e:Nat} (h:e≠0):(R.err r e:R α).good:=h
def Yg (w:Bs) (ts:Ts):(ZR w ts).good:=ZEA trivial (ZEB dM)
def ZX (ts:Ts):(YO ts).good:=ZEA trivial (ZEB dM)
def YH {α:Type} {d:Nat} {fr tw:Bs} {read:Ts->R α} (h:∀ts,(read ts).good) (ts:Ts):(Zo d fr tw read ts).good :=
 ZEA (ZEA (ZEB dM) (ZEx (h _) fun _ _=>ZEA trivial (ZEx (Yg _ _) fun _ _=>trivial))) (ZEB dM)
def ZdU {α:Type} {sign:Bs} {cm:Nat} {st:Ts->Bool} {one:Ts->R α} (h:∀ts,(one ts).good):∀f l ts,(WE sign cm st one f l ts).good
 | 0,_,_=>ZEB dM
 | f+1,l,ts=>ZEA (ZEB dM) (ZEx (h _) fun _ _=>ZEA (ZdU h f _ _) trivial)
def Vu {α:Type} {sign:Bs} {cm:Nat} {st:Ts->Bool} {one:Ts->R α} (h:∀ts,(one ts).good) (ts:Ts):(XX sign cm st one ts).good:=ZdU h _ _ _
def Zm5 (ts:Ts):(Vo ts).good:=ZEx (ZX _) fun _ _=>ZEx (Yg _ _) fun _ _=>ZEx (ZX _) fun _ _=>trivial
def JT (w:Bs) (ts:Ts):(Zbl w ts).good:=ZEA trivial (Vu Zm5 _)
def Zby (ts:Ts):(Zfo ts).good:=ZEA (ZEx (Vu ZX _) fun _ _=>ZEx (Yg _ _) fun _ _=>trivial) trivial
def ZpQ (ts:Ts):(Zdt ts).good:=ZEx (ZX _) fun _ _=>ZEx (Yg _ _) fun _ _=>ZEx (JT _ _) fun _ _=>ZEx (Yg _ _) fun _ _=>trivial
def Zm6 (ts:Ts):(Zh6 ts).good:=ZEx (ZX _) fun _ _=>ZEA (ZEx (ZX _) fun _ _=>trivial) (ZEx (Yg _ _) fun _ _ =>
 ZEA (ZEx (JT _ _) fun _ _=>ZEx (Yg _ _) fun _ _=>trivial) (ZEx (Vu ZpQ _) fun _ _=>trivial))
def ZpR (ts:Ts):(ZoX ts).good:=ZEx (ZX _) fun _ _=>ZEx (Yg _ _) fun _ _=>ZEx (JT _ _) fun _ _=>ZEx (Yg _ _) fun _ _=>trivial
def ZaC {d:Nat} {ex:Ts->R Ex} (h:∀ts,(ex ts).good) (fr tw:Bs) (ts:Ts):(Zh7 d ex fr tw ts).good:=by
 unfold Zh7
 exact YH (fun ts=>ZEA (ZEO _ _) (Vu h _)) ts
def ZdV {ex:Ts->R Ex} (h:∀ts,(ex ts).good):∀k l ts,(Zaq ex k l ts).good
 | 0,_,_=>trivial
 | k+1,l,ts=>ZEx (ZEA trivial (Yg _ _)) fun _ _=>ZEx (h _) fun _ _=>ZdV h k _ _
def Zio {d:Nat} {ex:Ts->R Ex} (h:∀ts,(ex ts).good) (ts:Ts):(Zar d ex ts).good :=
 ZEA (ZEB dM) <| ZEA trivial <| ZEA trivial <| ZEA (YH h _) <| ZEA (ZEx (ZaC h _ _ _) fun _ _=>trivial) <|
 ZEA (ZEx (ZX _) fun _ _=>ZEA (ZEx (ZaC h _ _ _) fun _ _=>trivial) trivial) <|
 ZEA (ZEx (YH (ZdV h _ _) _) fun _ _=>trivial) <| ZEA trivial <| ZEA trivial trivial
def ZdW {sub:Nat->Ts->R Ex} (h:∀n ts,(sub n ts).good) (least:Nat):∀f e ts,(Zas sub least f e ts).good
 | 0,_,_=>ZEB dM
 | f+1,e,ts=>ZEA trivial (ZEx (h _ _) fun _ _=>ZdW h least f _ _)
def Zbz {sg:Ts->R Ex} (h:∀ts,(sg ts).good):∀k least ts,(JI sg k least ts).good
 | 0,_,_=>h _
 | k+1,least,ts=>ZEx (h _) fun _ _=>ZdW (fun n ts=>Zbz h k n ts) _ _ _ _
def Zb3 {d:Nat} {sg:Ts->R Ex} (h:∀ts,(sg ts).good) (ts:Ts):(Zdu d sg ts).good :=
 ZEA (ZEx (YH h _) fun _ _=>trivial) <| ZEA (ZEx (YH h _) fun _ _=>trivial) (Zio (fun ts=>Zbz h _ _ _) _)
def ZdX:∀d ts,(XA d ts).good
 | 0,ts=>Zb3 (fun _=>(ZEB dM)) ts
 | d+1,ts=>Zb3 (ZdX d) ts
def ZdY (d:Nat) (ts:Ts):(Zbm d ts).good:=Zbz (ZdX d) _ _ _
def Zfy:∀d ts,(Zdv d ts).good
 | 0,_=>(ZEB dM)
 | d+1,ts=>ZdY d ts
def Zm7 (ts:Ts):(Zdw ts).good:=by
 unfold Zdw
 split
 ·exact ZEB dM
 ·split <;> trivial
 trivial
def Zb4 (d op a:Nat) (ts:Ts):(Zdx d op a ts).good:=ZEx (ZX _) fun _ _=>ZEx (ZaC (Zfy d) _ _ _) fun _ _=>trivial
def ZdZ {d:Nat} {bd:Ts->R (List Li)} (h:∀ts,(bd ts).good) (a op:Nat) (l:List Ex) (ts:Ts):(WH d bd a op l ts).good :=
 ZEA (ZEx (Yg _ _) fun _ _=>ZEx (YH h _) fun _ _=>trivial) trivial
def ZlA {d:Nat} {bd:Ts->R (List Li)} (h:∀ts,(bd ts).good) (ts:Ts):(ZmK d bd ts).good :=
 ZEA (Zb4 _ _ _ _) <| ZEA (Zb4 _ _ _ _) <| ZEx (ZdY _ _) fun _ _=>ZEx (Zm7 _) fun _ _=>ZEA (ZdZ h _ _ _ _) (ZEx (ZdY _ _) fun _ _=>ZdZ h _ _ _ _)
def Zip:∀d ts,(ZmL d ts).good
 | 0,ts=>Vu (ZlA fun _=>(ZEB dM)) ts
 | d+1,ts=>Vu (ZlA (Zip d)) ts
def ZpS (d:Nat) (b:Bool) (ts:Ts):(ZoY d b ts).good:=ZEx (ZX _) fun _ _=>ZEx (ZaC (Zfy d) _ _ _) fun _ _ =>
 ZEA (ZEx (Zip _ _) fun _ _=>ZEx (Yg _ _) fun _ _=>trivial) (ZEx (Yg _ _) fun _ _=>trivial)
def ZpT {d:Nat} {un:Ts->R Un} (h:∀ts,(un ts).good) (ts:Ts):(ZoZ d un ts).good:=ZEx (ZX _) fun _ _=>ZEx (Zby _) fun _ _ =>
 ZEA (ZEx (ZX _) fun _ _=>ZEx (Zby _) fun _ _=>ZEx (YH h _) fun _ _=>trivial) (ZEx (YH h _) fun _ _=>trivial)
def ZpU (ts:Ts):(Zo0 ts).good:=ZEx (ZX _) fun _ _=>ZEx (Yg _ _) fun _ _=>ZEx (ZX _) fun _ _=>ZEx (Zby _) fun _ _=>trivial
def ZpV (ts:Ts):(Zo1 ts).good:=ZEx (ZX _) fun _ _=>trivial
def Yu {b:Bool} {d:Nat} {un:Ts->R Un} (h:∀ts,(un ts).good):∀f u ts,(X4 b d un f u ts).good
 | 0,_,_=>ZEB dM
 | f+1,.mk tys rels rules comps inits overs,ts=>by
  rw [Zil];exact ZEA trivial <| ZEA (ZEA (ZEB dM) (ZEx (Zm6 _) fun _ _=>Yu h f _ _)) <| ZEA (ZEA (ZEB dM) (ZEx (ZpR _) fun _ _=>Yu h f _ _)) <|
   ZEA (ZEA (ZEB dM) (ZEx (ZpT h _) fun _ _=>Yu h f _ _)) <| ZEA (ZEA (ZEB dM) (ZEx (ZpU _) fun _ _=>Yu h f _ _)) <|
   ZEA (ZEA (ZEB dM) (ZEx (ZpV _) fun _ _=>Yu h f _ _)) <| ZEA (ZEA (ZEB dM) (ZEx (ZpS _ _ _) fun _ _=>Yu h f _ _)) (ZEB dM)
def Zfz:∀d ts,(Zo2 d ts).good
 | 0,ts=>Yu (fun _=>(ZEB dM)) _ _ _
 | d+1,ts=>Yu (Zfz d) _ _ _
def Ziq (ts:Ts):(Zbn ts).good:=Yu (Zfz 63) _ _ _
def Zm8 {a:Nat} {r:Bs} {room:Bool} {t:Tok} (h:Xd a r room=.tok t):room=true:=by
 cases room with
 | true=>rfl
 | false =>
 unfold Xd at h
 simp only at h;split at h
 ·cases h
 simp at h
def ZlB:∀(f:Nat) (m:Int) (a:Nat) (r:Bs),(XP f m a r).1.length<=m.toNat
 | 0,m,a,r=>by simp [XP]
 | f+1,m,a,r=>by
  unfold XP
  split
  ·simp
  simp only;split
  ·simp
  split
  ·simp
  rename_i t ht
  have hr:=Zm8 ht;rw [TQ] at hr;have:=ZlB f (m - 1) t.fin ((r.drop (Zr r).2).drop (t.fin - (a+(Zr r).2)));simp only [Td];omega
def ZwA (s:Bs) (m:Int):(J2 s m).1.length<=m.toNat:=ZlB _ _ _ _
inductive Top (α:Type) where
 | ok (v:α) (L:List Tok) | err (p:Int) (e:Nat)
def JU {α:Type} (bytes cm:Nat) (P:Ts->R α) (s:Bs):Top α :=
 if bytes<s.length then .err 0 3
 else if (J2 s cm).2.2≠0 then .err (J2 s cm).2.1 (J2 s cm).2.2
 else match P ((J2 s cm).1.map Tok.t0) with
  | .ok v []=>.ok v (J2 s cm).1
  | .ok v (_::ts)=>.err (Zb (J2 s cm).1 s.length (ts.length+1)) 150
  | .err r e=>.err (Zb (J2 s cm).1 s.length r) e
def Zj1 {α:Type} {bytes cm:Nat} {P:Ts->R α} (hP:∀ts,(P ts).good) {s:Bs} {p:Int} {e:Nat} (h:JU bytes cm P s=.err p e):e≠0:=by
 unfold JU at h
 split at h
 ·cases h;decide
 split at h
 ·rename_i hn;cases h;exact hn
 split at h
 ·cases h
 ·cases h;decide
 rename_i r e' he
 cases h
 have:=hP ((J2 s cm).1.map Tok.t0);rw [he] at this;exact this
def ZfA:Zm:=fun args σ K=>match args,σ with
 | [.d (.str s),.d (.int .i64 m)],⟨[],[],0⟩=>s.length<4294967281 /\
   ∀l p c,J2 s m=(l,(p,c))->(c=0->K (.ret (.tuple [.d (.sl (Zz l)),.d (.int .i64 p),.d (.int .i64 0)])) ⟨[],[],0⟩) /\
    (c≠0->K (.ret (.tuple [.d (.sl []),.d (.int .i64 p),.d (.int .i64 c)])) ⟨[],[],0⟩)
 | _,_=>False
def Zj2:ZL ZfA:=fun args σ K K' hK h=>by
 unfold ZfA at h |-
 split at h
 ·exact ⟨h.1,fun l p c hx=>⟨fun g=>hK _ _ ((h.2 l p c hx).1 g),fun g=>hK _ _ ((h.2 l p c hx).2 g)⟩⟩
 exact h.elim
def ZwB (h:PC w0 nG 151 Zam):PC w0 nG 151 ZfA:=h.weaken1 fun args σ K hs=>by
 unfold ZfA at hs
 unfold Zam
 split at hs
 ·rename_i s m
  obtain ⟨h1,hs⟩:=hs;refine ⟨h1,?_⟩;have hs:=hs (J2 s m).1 (J2 s m).2.1 (J2 s m).2.2 rfl
  by_cases hc:(J2 s m).2.2=0
  ·rw [Th hc,hc];exact hs.1 hc
  rw [Tf hc];exact hs.2 hc
 exact hs.elim
def recOf:Nat×Nat×Code:=match Zzz (Xs Tryz.f152) with | some x=>x | none=>(0,0,.skip)
def ZzX:List PV->St->(St->Prop)->Prop:=fun args σ K=>args.length<=Tryz.f152.ntmps/\W (ctx Zaf [] (Zk [])) recOf.2.2 (ZvR Zaf Tryz.f152 σ.bx.length K) (Uc (Uc (Zeo 0 args) recOf.1 (.d .nili)) recOf.2.1 (.d .nili)) σ
def ZzY:PV->List PV->St->(St->Prop)->Prop:=fun pv args σ K=>args.length<=Tryz.f152.ntmps/\W (ctx Zaf [] (Zk [])) recOf.2.2 (ZvR Zaf Tryz.f152 σ.bx.length K) (Uc (Uc (Zeo 0 args) recOf.1 pv) recOf.2.1 pv) σ
def ZzZ:PDef (GG w0 nG) 152 ZzX ZzY :=
 Zpa (a:=recOf.1) (b:=recOf.2.1) (rest:=recOf.2.2) ZC mixed Tryz.func152 rfl kR rfl kR (fun args σ K h=>⟨ZrN Zaf [] (Zk []) (fun _=>0) (fun _=>false),σ.bx.length,CxG.of (tbl:=[]) ZC trivial trivial _ _ _,Tz _,h.1,h.2⟩) (fun pv args σ K h=>⟨ZrN Zaf [] (Zk []) (fun _=>0) (fun _=>false),σ.bx.length,CxG.of (tbl:=[]) ZC trivial trivial _ _ _,Tz _,h.1,h.2⟩)
def WhK {α:Type} (tU:TypeId) (enc:List Tok->Int->α->List PV) (bad:List PV->Prop) (n:Int) (x:Top α) (K:PEnd->St->Prop):Prop:=match x with
 | .ok v L=>K (.ret (.tuple [.d (.int .i64 0),.d (.int .i64 0)])) ⟨[.cells tU (enc L n v)],[],0⟩
 | .err p e=>∀cs,bad cs->K (.ret (.tuple [.d (.int .i64 p),.d (.int .i64 e)])) ⟨[.cells tU cs],[],0⟩
def ZpW {l:List Tok} (h:l.length<=1048576):ROK l 0 (l.map Tok.t0):=⟨oM,oM,h,by simp [tz]⟩
def ZDI (cs:List PV):Prop:=∃a b c d e f:List (List D),cs=[.d (.sl a),.d (.sl b),.d (.sl c),.d (.sl d),.d (.sl e),.d (.sl f)]
def ZlC:Tbl:=[(89,ZdT 64)]
def ZwC:Zm:=fun args σ K=>match args,σ with
 | [.d (.str s),.d (.int .i64 by'),.d (.int .i64 cm),.func g [] [.ptr 0 0]],⟨[.cells tU c0],tk,n⟩=>(g=88/\by'=65536/\cm=16384/\c0=[.sl 0 56 [],.sl 1 109 [],.sl 2 74 [],.sl 3 158 [],.sl 4 163 [],.sl 5 167 []]/\tk=[5,4,3,2,1,0]/\n=6)/\s.length<4294967281 /\
   ∀x,JU 65536 16384 Zbn s=x->WhK tU (fun L n (v:Un)=>(XY (Zb L n) v).map .d) ZDI s.length x K
 | _,_=>False
def Zuy:Tbl:=[(151,ZfA),(88,Zld Tryz.f88 ZlC),(153,YS)]
def ZpX (ht:TO w0 nG Zuy):PC w0 nG 87 ZwC:=by
 refine ZgC ZC mixed Tryz.func87 rfl kR kR ZzZ ?_;intro args σ K h
 unfold ZwC at h
 split at h
 ·obtain ⟨⟨rfl,rfl,rfl,rfl,rfl,rfl⟩,hs,h⟩:=h
  rename_i s tU
  have h:=h _ rfl;refine ⟨ZrN Zaf Zuy (Zk []) (Ye []) (ZB []),1,false,CxG.of ZC ht ⟨Zj2,Zpw _ _,ZjJ,trivial⟩ _ _ _,sM,Tc rfl,wN ?_⟩;unfold JU at h
  refine ZEw (fun hc=>wN ?_) (fun hc=>wN ?_)
  ·rw [Th oM] at h;exact h _ ⟨_,_,_,_,_,_,rfl⟩
  rw [Tf oM] at h;refine ⟨hs,fun l p c hx=>?_⟩;have aa:=ZwA s 16384;rw [show ((16384:Nat):Int)=16384 from rfl,hx] at h;rw [hx] at aa;refine ⟨fun h0=>?_,fun h0=>wN ?_⟩
  ·subst h0;rw [Tf sM] at h;simp only at h aa;have ho:=ZpW (l:=l) (by simp at aa;omega)
   clear hx aa
   generalize ym:l.map Tok.t0=ts at h ho;(conv=>whnf);refine ⟨_,fun _ _ h=>h,Tc rfl,wN ?_⟩;refine ⟨l,ts,rfl,ho,oM,fun x hx=>?_⟩;rw [show Zbn ts=Zwt false 64 ts from rfl,hx] at h;rcases x with ⟨⟨v1,v2,v3,v4,v5,v6⟩,ts2⟩ | ⟨r,e⟩
   rotate_left
   ·intro a9 d9;(conv=>whnf);refine ⟨Tc rfl,?_⟩;(conv=>whnf);(repeat (refine ⟨rfl,?_⟩;conv=>whnf));exact h _ ⟨_,_,_,_,_,_,rfl⟩
   intro a2 gl ah
   conv=>whnf
   have dl:=ah.len
   (repeat (refine ⟨rfl,?_⟩;conv=>whnf))
   refine ZEw (fun kq=>?_) (fun kq=>?_)
   ·have kq:a2<l.length:=by have kq:a2<((Zz l).length:Int):=kq;rw [ZV] at kq;exact kq
    cases ts2 with
    | nil=>simp at dl;omega
    | cons t0 ts3 =>
    conv=>whnf
    refine ⟨l,_,rfl,ah,wN ?_⟩;refine ⟨Tc rfl,wN ?_⟩
    (repeat (refine ⟨rfl,?_⟩;conv=>whnf))
    exact h _ ⟨_,_,_,_,_,_,rfl⟩
   have kq:¬a2<l.length:=by have kq:¬a2<((Zz l).length:Int):=kq;rw [ZV] at kq;exact kq
   obtain rfl:ts2=[]:=TY oM;(conv=>whnf);refine ⟨Tc rfl,wN ?_⟩;exact h
  rw [Th h0] at h;refine ZEy (fun bj=>?_) (fun bj=>absurd (show c=0 by omega) h0);(conv=>whnf)
  (repeat (refine ⟨rfl,?_⟩;conv=>whnf))
  exact h _ ⟨_,_,_,_,_,_,rfl⟩
 exact h.elim
def ZC9 {α:Type} (enc:List Tok->α->PV) (zero:PV) (x:Top α) (K:PEnd->St->Prop):Prop:=match x with
 | .ok v L=>K (.ret (.tuple [enc L v,.d (.int .i64 0),.d (.int .i64 0)])) ⟨[],[],0⟩
 | .err p e=>K (.ret (.tuple [zero,.d (.int .i64 p),.d (.int .i64 e)])) ⟨[],[],0⟩
def ZlD:Zm:=fun args σ K=>match args,σ with
 | [.d (.str s)],⟨[],[],0⟩=>s.length<4294967281/\∀x,JU 65536 16384 Zbn s=x->ZC9 (fun L (v:Un)=>Uv (XY (Zb L s.length) v)) (Uv (XY (fun _=>0) .nil)) x K
 | _,_=>False
def ZwE:OKw w0 nG [(87,ZwC)] 46 ZlD:=by
 refine pwo Tryz.func46 fun args σ K h=>?_
 unfold ZlD at h
 split at h
 ·rename_i s
  obtain ⟨hs,h⟩:=h;refine pwv [] 0 false ?_;refine ⟨⟨rfl,rfl,rfl,rfl,rfl,rfl⟩,hs,fun x hx=>?_⟩;have h:=h x hx
  cases x with
  | ok v L =>
   obtain ⟨v1,v2,v3,v4,v5,v6⟩:=v;exact mq51
  | err p e =>
  have he:=Zj1 Ziq hx;intro cs dk
  obtain ⟨b1,b2,b3,b4,b5,b6,rfl⟩:=dk;(conv=>whnf);refine ZEy (fun hc=>?_) (fun hc=>absurd (show e=0 by omega) he);exact mq51
 exact h.elim
def Zm9 (hg:GlobOK w0 nG):PC w0 nG 151 ZfA:=ZwB (ZvO hg)
def ZCp (hg:GlobOK w0 nG):PC w0 nG 46 ZlD:=ZwE ⟨ZpX ⟨Zm9 hg,Zch (tb:=ZlC) ⟨ZCo 64,trivial⟩ Tryz.func88 rfl kR kR,Ua,trivial⟩,trivial⟩
mutual
def szE:Ex->Nat
 | .mk _ _ _ l _=>1+Zy6 l
def Zy6:List Ex->Nat
 | []=>0
 | x::l=>1+szE x+Zy6 l
end
def Li.op:Li->Nat | .mk o _ _ _ _=>o
def szS {α:Type} (f:α->Nat):List α->Nat
 | []=>0
 | x::l=>1+f x+szS f l
def ZA {α:Type} (f:α->Nat):∀(l:List α),l.length<=szS f l
 | []=>Tz _
 | x::l=>by have:=ZA f l;simp only [Td,szS];omega
def ZE {α:Type} (f:α->Nat):∀(l:List α) (i:Nat) (h:i<l.length),f l[i]<szS f l
 | x::l,0,h=>by simp only [List.getElem_cons_zero,szS];omega
 | x::l,i+1,h=>by have:=ZE f l i (by simpa using h);simp only [List.getElem_cons_succ,szS];omega
def UA:∀(l:List Ex),Zy6 l=szS szE l
 | []=>rfl
 | x::l=>by rw [Zy6,szS,UA l]
def eqB (a b:Bs):Bool:=decide (a=b)
mutual
def szL:Li->Nat
 | .mk _ _ a b _=>1+szS szE a+Zz0 b
def Zz0:List Li->Nat
 | []=>0
 | x::l=>1+szL x+Zz0 l
end
def ZgQ:∀(l:List Li),Zz0 l=szS szL l
 | []=>by rw [Zz0,szS]
 | x::l=>by rw [Zz0,szS,ZgQ l]
def ZlE (r:Ru):Nat:=1+szS szE r.args+szS szL r.body
def sz0 {α:Type} (_:α):Nat:=0
def Zz1 (c:Ca):Nat:=1+szS sz0 c.fields
def ZBC (a:Ty):Nat:=1+szS sz0 a.fields+szS Zz1 a.cases
def ZBD (a:Re):Nat:=1+szS sz0 a.fields
def spB (sp:Nat->Zm) (n:Nat):Zm:=fun args σ K=>0<n/\sp (n - 1) args σ K
def ZlF {sp:Nat->Zm} (h:∀n,ZL (sp n)) (n:Nat):ZL (spB sp n):=fun args σ K K' hK g=>⟨g.1,h _ _ _ _ _ hK g.2⟩
def Z0 {g:FuncId} {sp:Nat->Zm} (h:Wr (GG w0 nG).P g):PC w0 nG g (spB sp 0):=⟨h,fun args σ K hs=>absurd hs.1 oM⟩
def Z1 {g:FuncId} {sp:Nat->Zm} {n:Nat} (h:PC w0 nG g (sp n)):PC w0 nG g (spB sp (n+1)):=h.weaken1 fun args σ K hs=>hs.2
mutual
def wE:Ex->Nat
 | .mk _ t _ args _=>1+t.length+wEs args
def wEs:List Ex->Nat
 | []=>0
 | x::l=>1+wE x+wEs l
end
def Zir:∀(l:List Ex),wEs l=szS wE l
 | []=>by rw [wEs,szS]
 | x::l=>by rw [wEs,szS,Zir l]
mutual
def wL:Li->Nat
 | .mk _ r a b _=>1+r.length+szS wE a+wLs b
def wLs:List Li->Nat
 | []=>0
 | x::l=>1+wL x+wLs l
end
def Zis:∀(l:List Li),wLs l=szS wL l
 | []=>by rw [wLs,szS]
 | x::l=>by rw [wLs,szS,Zis l]
def wRu (r:Ru):Nat:=1+r.head.length+szS wE r.args+szS wL r.body
def wFi (f:Fi):Nat:=1+f.name.length+f.typ.length
def wCa (c:Ca):Nat:=1+c.name.length+szS wFi c.fields
def wTy (t:Ty):Nat:=1+t.name.length+t.base.length+szS wFi t.fields+szS wCa t.cases
def wRe (d:Re):Nat:=1+d.name.length+szS wFi d.fields
def wBs (s:Bs):Nat:=1+s.length
def wIn (i:Ini):Nat:=1+i.name.length+i.comp.length+szS wBs i.types
def wOv (o:Ov):Nat:=1+o.rel.length
mutual
def wUn:Un->Nat
 | .mk a1 a2 a3 a4 a5 a6=>1+szS wTy a1+szS wRe a2+szS wRu a3+Zuz a4+szS wIn a5+szS wOv a6
def wCo:Co->Nat
 | .mk n p b t u _=>1+n.length+szS wBs p+b.length+szS wBs t+wUn u
def Zuz:List Co->Nat
 | []=>0
 | x::l=>1+wCo x+Zuz l
end
def ZpY:∀(l:List Co),Zuz l=szS wCo l
 | []=>by rw [Zuz,szS]
 | x::l=>by rw [Zuz,szS,ZpY l]
abbrev YI {α:Type} (enc:Pl->α->List D):Pl->α->PV:=fun pl x=>.agg ((enc pl x).map .d)
abbrev ZiX:Pl->Bs->PV:=fun _ s=>.d (.str s)
def YT {α:Type} (val:Pl->α->PV) (p:α->Bool) (w:α->Nat) (n:Nat):Zm:=fun args σ K=>match args,σ with
 | [v],⟨[],[],0⟩=>∃pl x,v=val pl x/\(w x<=n/\n<=1073741824)/\∀b,p x=b->K (.ret (.d (.bool b))) ⟨[],[],0⟩
 | _,_=>False
def Ja {α:Type} (h0:FuncId) (val:Pl->α->PV) (p:α->Bool) (w:α->Nat) (n:Nat):Zm:=fun args σ K=>match args,σ with
 | [v,.ptr 0 0],⟨[.cells t [.func h' [] []]],[],0⟩=>∃pl x,v=val pl x/\(h'=h0/\w x<=n/\n<=1073741824)/\∀b,(!p x)=b->K (.ret (.d (.bool b))) ⟨[.cells t [.func h' [] []]],[],0⟩
 | _,_=>False
def Jb {α:Type} (g0 h0:FuncId) (enc:Pl->α->List D) (p:α->Bool) (w:α->Nat) (n:Nat):Zm:=fun args σ K=>match args,σ with
 | [.d (.sl r),.func g' [] [.ptr 0 0]],⟨[.cells t [.func h' [] []]],[],0⟩=>∃pl l,r=l.map (enc pl)/\(g'=g0/\h'=h0/\szS w l<=n/\n<=1073741824)/\∀r:Int,(r<0↔l.all p=true)->K (.ret (.d (.int .i64 r))) ⟨[.cells t [.func h' [] []]],[],0⟩
 | _,_=>False
def Jc {α:Type} (g0 h0:FuncId) (enc:Pl->α->List D) (p:α->Bool) (w:α->Nat) (n:Nat):Zm:=fun args σ K=>match args,σ with
 | [.d (.sl r),.func g' [] [.ptr 0 0]],⟨[.cells t [.func h' [] []]],[],0⟩=>∃pl l,r=l.map (enc pl)/\(g'=g0/\h'=h0/\szS w l<=n/\n<=1073741824)/\∀b,(!l.all p)=b->K (.ret (.d (.bool b))) ⟨[.cells t [.func h' [] []]],[],0⟩
 | _,_=>False
def XC {α:Type} (h0:FuncId) (enc:Pl->α->List D) (p:α->Bool) (w:α->Nat) (n:Nat):Zm:=fun args σ K=>match args,σ with
 | [.d (.sl r),.func h' [] []],⟨[],[],0⟩=>∃pl l,r=l.map (enc pl)/\(h'=h0/\szS w l<=n/\n<=1073741824)/\∀b,l.all p=b->K (.ret (.d (.bool b))) ⟨[],[],0⟩
 | _,_=>False
def Xl {α:Type} (p:α->Bool) {l:List α} {i:Nat} (h:i<l.length):(l.drop i).all p=(p l[i] && (l.drop (i+1)).all p):=by rw [Tl h,List.all_cons]
def WM {α:Type} (p:α->Bool) {l:List α} {i:Nat} (h:l.length<=i):(l.drop i).all p=true:=by rw [Tr h];rfl
def Zz3 {n:Nat}:OKw w0 nG [(134,YT (YI ZW) Yj wE n)] 193 (Ja 134 (YI ZW) Yj wE n):=by
 refine pwo Tryz.func193 fun args σ K h=>?_
 exact mq82
def Zz5 {n:Nat}:OKw w0 nG [(193,Ja 134 (YI ZW) Yj wE n)] 231 (Jb 193 134 ZW Yj wE n):=by
 refine pwo Tryz.func231 fun args σ K h=>?_
 unfold Jb at h
 split at h
 ·obtain ⟨pl,l,rfl,⟨rfl,rfl,hz,hn⟩,h⟩:=h
  rename_i t
  have aa:(l.map (ZW pl)).length=l.length:=Te ..;have hsz:=ZA wE l;refine pwv [(2,⟨[8],[0,1,7],fun vs σ=>∃i:Nat,vs=[.d (.int .i64 i)]/\σ=⟨[.cells t [.func 134 [] []]],[],0⟩/\i<=l.length/\l.all Yj=(l.drop i).all Yj,mu1 l.length⟩)] 1 false ?_;refine ⟨⟨0,rfl,rfl,oM,rfl⟩,?_⟩;intro vs σ hI
  obtain ⟨i,rfl,rfl,hi,hs⟩:=hI;(conv=>whnf);refine ZEw (fun ac=>wN ?_) (fun ac=>wN ?_)
  ·have ac:i<l.length:=lzI aa ac;have hg:=ZE wE l i ac;rw [Xl _ ac] at hs;obtain ⟨eA,hA⟩:∃e,l[i]=e:=⟨_,rfl⟩
   obtain ⟨a1,a2,a3,a4,a5⟩:=eA;have cn:(l.map (ZW pl))[((i:Nat):Int).toNat]?=some (ZW pl (.mk a1 a2 a3 a4 a5)):=by simp [ac,hA]
   rw [hA] at hs hg;refine ⟨_,oM,cn,wN ?_⟩;refine ⟨pl,(.mk a1 a2 a3 a4 a5),rfl,⟨rfl,oM,oM⟩,fun b hb=>?_⟩
   cases b with
   | true =>
    have hp:Yj (.mk a1 a2 a3 a4 a5)=false:=by simpa using hb
    exact mq39
   | false =>
   have hp:Yj (.mk a1 a2 a3 a4 a5)=true:=by simpa using hb
   exact mq22
  exact mq26
 exact h.elim
def Zz7 {n:Nat}:OKw w0 nG [(231,Jb 193 134 ZW Yj wE n)] 192 (Jc 193 134 ZW Yj wE n):=by
 refine pwo Tryz.func192 fun args σ K h=>?_
 unfold Jc at h
 split at h
 ·obtain ⟨pl,l,rfl,⟨rfl,rfl,hz,hn⟩,h⟩:=h;refine pwv [] 1 false ?_;refine ⟨pl,l,rfl,⟨rfl,rfl,hz,hn⟩,fun r hr=>wN ?_⟩;refine h _ ?_
  cases hb:l.all Yj with
  | true=>rw [hb] at hr;have:=hr.2 rfl;simp;omega
  | false=>rw [hb] at hr;have:¬r<0:=fun g=>(by have:=hr.1 g;cases this);simp;omega
 exact h.elim
def Zz9 {n:Nat}:OKw w0 nG [(192,Jc 193 134 ZW Yj wE n)] 133 (XC 134 ZW Yj wE n):=by
 refine pwo Tryz.func133 fun args σ K h=>?_
 exact mq7
def ZBE {n:Nat} (h:PC w0 nG 134 (YT (YI ZW) Yj wE n)):PC w0 nG 133 (XC 134 ZW Yj wE n) :=
 Zz9 ⟨Zz7 ⟨Zz5 ⟨Zz3 ⟨h,trivial⟩,trivial⟩,trivial⟩,trivial⟩
def ZAb {n:Nat}:OKw w0 nG [(136,YT (YI Xp) YJ wL n)] 197 (Ja 136 (YI Xp) YJ wL n):=by
 refine pwo Tryz.func197 fun args σ K h=>?_
 exact mq82
def ZAd {n:Nat}:OKw w0 nG [(197,Ja 136 (YI Xp) YJ wL n)] 236 (Jb 197 136 Xp YJ wL n):=by
 refine pwo Tryz.func236 fun args σ K h=>?_
 unfold Jb at h
 split at h
 ·obtain ⟨pl,l,rfl,⟨rfl,rfl,hz,hn⟩,h⟩:=h
  rename_i t
  have aa:(l.map (Xp pl)).length=l.length:=Te ..;have hsz:=ZA wL l;refine pwv [(2,⟨[8],[0,1,7],fun vs σ=>∃i:Nat,vs=[.d (.int .i64 i)]/\σ=⟨[.cells t [.func 136 [] []]],[],0⟩/\i<=l.length/\l.all YJ=(l.drop i).all YJ,mu1 l.length⟩)] 1 false ?_;refine ⟨⟨0,rfl,rfl,oM,rfl⟩,?_⟩;intro vs σ hI
  obtain ⟨i,rfl,rfl,hi,hs⟩:=hI;(conv=>whnf);refine ZEw (fun ac=>wN ?_) (fun ac=>wN ?_)
  ·have ac:i<l.length:=lzI aa ac;have hg:=ZE wL l i ac;rw [Xl _ ac] at hs;obtain ⟨eA,hA⟩:∃e,l[i]=e:=⟨_,rfl⟩
   obtain ⟨a1,a2,a3,a4,a5⟩:=eA;have cn:(l.map (Xp pl))[((i:Nat):Int).toNat]?=some (Xp pl (.mk a1 a2 a3 a4 a5)):=by simp [ac,hA]
   rw [hA] at hs hg;refine ⟨_,oM,cn,wN ?_⟩;refine ⟨pl,(.mk a1 a2 a3 a4 a5),rfl,⟨rfl,oM,oM⟩,fun b hb=>?_⟩
   cases b with
   | true =>
    have hp:YJ (.mk a1 a2 a3 a4 a5)=false:=by simpa using hb
    exact mq39
   | false =>
   have hp:YJ (.mk a1 a2 a3 a4 a5)=true:=by simpa using hb
   exact mq22
  exact mq26
 exact h.elim
def ZAf {n:Nat}:OKw w0 nG [(236,Jb 197 136 Xp YJ wL n)] 196 (Jc 197 136 Xp YJ wL n):=by
 refine pwo Tryz.func196 fun args σ K h=>?_
 unfold Jc at h
 split at h
 ·obtain ⟨pl,l,rfl,⟨rfl,rfl,hz,hn⟩,h⟩:=h;refine pwv [] 1 false ?_;refine ⟨pl,l,rfl,⟨rfl,rfl,hz,hn⟩,fun r hr=>wN ?_⟩;refine h _ ?_
  cases hb:l.all YJ with
  | true=>rw [hb] at hr;have:=hr.2 rfl;simp;omega
  | false=>rw [hb] at hr;have:¬r<0:=fun g=>(by have:=hr.1 g;cases this);simp;omega
 exact h.elim
def ZAh {n:Nat}:OKw w0 nG [(196,Jc 197 136 Xp YJ wL n)] 135 (XC 136 Xp YJ wL n):=by
 refine pwo Tryz.func135 fun args σ K h=>?_
 exact mq7
def ZDa {n:Nat} (h:PC w0 nG 136 (YT (YI Xp) YJ wL n)):PC w0 nG 135 (XC 136 Xp YJ wL n) :=
 ZAh ⟨ZAf ⟨ZAd ⟨ZAb ⟨h,trivial⟩,trivial⟩,trivial⟩,trivial⟩
def ZwG {n:Nat}:OKw w0 nG [(73,YT (YI ZS) XT wRu n)] 132 (Ja 73 (YI ZS) XT wRu n):=by
 refine pwo Tryz.func132 fun args σ K h=>?_
 exact mq87
def ZwI {n:Nat}:OKw w0 nG [(132,Ja 73 (YI ZS) XT wRu n)] 191 (Jb 132 73 ZS XT wRu n):=by
 refine pwo Tryz.func191 fun args σ K h=>?_
 unfold Jb at h
 split at h
 ·obtain ⟨pl,l,rfl,⟨rfl,rfl,hz,hn⟩,h⟩:=h
  rename_i t
  have aa:(l.map (ZS pl)).length=l.length:=Te ..;have hsz:=ZA wRu l;refine pwv [(2,⟨[8],[0,1,7],fun vs σ=>∃i:Nat,vs=[.d (.int .i64 i)]/\σ=⟨[.cells t [.func 73 [] []]],[],0⟩/\i<=l.length/\l.all XT=(l.drop i).all XT,mu1 l.length⟩)] 1 false ?_;refine ⟨⟨0,rfl,rfl,oM,rfl⟩,?_⟩;intro vs σ hI
  obtain ⟨i,rfl,rfl,hi,hs⟩:=hI;(conv=>whnf);refine ZEw (fun ac=>wN ?_) (fun ac=>wN ?_)
  ·have ac:i<l.length:=lzI aa ac;have hg:=ZE wRu l i ac;rw [Xl _ ac] at hs;obtain ⟨eA,hA⟩:∃e,l[i]=e:=⟨_,rfl⟩
   obtain ⟨a1,a2,a3,a4⟩:=eA;have cn:(l.map (ZS pl))[((i:Nat):Int).toNat]?=some (ZS pl ⟨a1,a2,a3,a4⟩):=by simp [ac,hA]
   rw [hA] at hs hg;refine ⟨_,oM,cn,wN ?_⟩;refine ⟨pl,⟨a1,a2,a3,a4⟩,rfl,⟨rfl,oM,oM⟩,fun b hb=>?_⟩
   cases b with
   | true =>
    have hp:XT ⟨a1,a2,a3,a4⟩=false:=by simpa using hb
    exact mq39
   | false =>
   have hp:XT ⟨a1,a2,a3,a4⟩=true:=by simpa using hb
   exact mq22
  exact mq26
 exact h.elim
def ZwK {n:Nat}:OKw w0 nG [(191,Jb 132 73 ZS XT wRu n)] 131 (Jc 132 73 ZS XT wRu n):=by
 refine pwo Tryz.func131 fun args σ K h=>?_
 unfold Jc at h
 split at h
 ·obtain ⟨pl,l,rfl,⟨rfl,rfl,hz,hn⟩,h⟩:=h;refine pwv [] 1 false ?_;refine ⟨pl,l,rfl,⟨rfl,rfl,hz,hn⟩,fun r hr=>wN ?_⟩;refine h _ ?_
  cases hb:l.all XT with
  | true=>rw [hb] at hr;have:=hr.2 rfl;simp;omega
  | false=>rw [hb] at hr;have:¬r<0:=fun g=>(by have:=hr.1 g;cases this);simp;omega
 exact h.elim
def ZwM {n:Nat}:OKw w0 nG [(131,Jc 132 73 ZS XT wRu n)] 72 (XC 73 ZS XT wRu n):=by
 refine pwo Tryz.func72 fun args σ K h=>?_
 exact mq7
def ZAi {n:Nat} (h:PC w0 nG 73 (YT (YI ZS) XT wRu n)):PC w0 nG 72 (XC 73 ZS XT wRu n) :=
 ZwM ⟨ZwK ⟨ZwI ⟨ZwG ⟨h,trivial⟩,trivial⟩,trivial⟩,trivial⟩
def ZwO {n:Nat}:OKw w0 nG [(71,YT (YI (fun _=>Zn)) YP wFi n)] 130 (Ja 71 (YI (fun _=>Zn)) YP wFi n):=by
 refine pwo Tryz.func130 fun args σ K h=>?_
 exact mq47
def ZwQ {n:Nat}:OKw w0 nG [(130,Ja 71 (YI (fun _=>Zn)) YP wFi n)] 165 (Jb 130 71 (fun _=>Zn) YP wFi n):=by
 refine pwo Tryz.func165 fun args σ K h=>?_
 unfold Jb at h
 split at h
 ·obtain ⟨pl,l,rfl,⟨rfl,rfl,hz,hn⟩,h⟩:=h
  rename_i t
  have aa:(l.map ((fun _=>Zn) pl)).length=l.length:=Te ..;have hsz:=ZA wFi l;refine pwv [(2,⟨[8],[0,1,7],fun vs σ=>∃i:Nat,vs=[.d (.int .i64 i)]/\σ=⟨[.cells t [.func 71 [] []]],[],0⟩/\i<=l.length/\l.all YP=(l.drop i).all YP,mu1 l.length⟩)] 1 false ?_;refine ⟨⟨0,rfl,rfl,oM,rfl⟩,?_⟩;intro vs σ hI
  obtain ⟨i,rfl,rfl,hi,hs⟩:=hI;(conv=>whnf);refine ZEw (fun ac=>wN ?_) (fun ac=>wN ?_)
  ·have ac:i<l.length:=lzI aa ac;have hg:=ZE wFi l i ac;rw [Xl _ ac] at hs;obtain ⟨eA,hA⟩:∃e,l[i]=e:=⟨_,rfl⟩
   obtain ⟨a1,a2⟩:=eA;have cn:(l.map ((fun _=>Zn) pl))[((i:Nat):Int).toNat]?=some ((fun _=>Zn) pl ⟨a1,a2⟩):=by simp [ac,hA]
   rw [hA] at hs hg;refine ⟨_,oM,cn,wN ?_⟩;refine ⟨pl,⟨a1,a2⟩,rfl,⟨rfl,oM,oM⟩,fun b hb=>?_⟩
   cases b with
   | true =>
    have hp:YP ⟨a1,a2⟩=false:=by simpa using hb
    exact mq39
   | false =>
   have hp:YP ⟨a1,a2⟩=true:=by simpa using hb
   exact mq22
  exact mq26
 exact h.elim
def ZwS {n:Nat}:OKw w0 nG [(165,Jb 130 71 (fun _=>Zn) YP wFi n)] 91 (Jc 130 71 (fun _=>Zn) YP wFi n):=by
 refine pwo Tryz.func91 fun args σ K h=>?_
 unfold Jc at h
 split at h
 ·obtain ⟨pl,l,rfl,⟨rfl,rfl,hz,hn⟩,h⟩:=h;refine pwv [] 1 false ?_;refine ⟨pl,l,rfl,⟨rfl,rfl,hz,hn⟩,fun r hr=>wN ?_⟩;refine h _ ?_
  cases hb:l.all YP with
  | true=>rw [hb] at hr;have:=hr.2 rfl;simp;omega
  | false=>rw [hb] at hr;have:¬r<0:=fun g=>(by have:=hr.1 g;cases this);simp;omega
 exact h.elim
def ZwU {n:Nat}:OKw w0 nG [(91,Jc 130 71 (fun _=>Zn) YP wFi n)] 70 (XC 71 (fun _=>Zn) YP wFi n):=by
 refine pwo Tryz.func70 fun args σ K h=>?_
 exact mq7
def ZCq {n:Nat} (h:PC w0 nG 71 (YT (YI (fun _=>Zn)) YP wFi n)):PC w0 nG 70 (XC 71 (fun _=>Zn) YP wFi n) :=
 ZwU ⟨ZwS ⟨ZwQ ⟨ZwO ⟨h,trivial⟩,trivial⟩,trivial⟩,trivial⟩
def ZwW {n:Nat}:OKw w0 nG [(125,YT (YI (fun _=>Zt)) Xo wCa n)] 185 (Ja 125 (YI (fun _=>Zt)) Xo wCa n):=by
 refine pwo Tryz.func185 fun args σ K h=>?_
 exact mq47
def ZwY {n:Nat}:OKw w0 nG [(185,Ja 125 (YI (fun _=>Zt)) Xo wCa n)] 90 (Jb 185 125 (fun _=>Zt) Xo wCa n):=by
 refine pwo Tryz.func90 fun args σ K h=>?_
 unfold Jb at h
 split at h
 ·obtain ⟨pl,l,rfl,⟨rfl,rfl,hz,hn⟩,h⟩:=h
  rename_i t
  have aa:(l.map ((fun _=>Zt) pl)).length=l.length:=Te ..;have hsz:=ZA wCa l;refine pwv [(2,⟨[8],[0,1,7],fun vs σ=>∃i:Nat,vs=[.d (.int .i64 i)]/\σ=⟨[.cells t [.func 125 [] []]],[],0⟩/\i<=l.length/\l.all Xo=(l.drop i).all Xo,mu1 l.length⟩)] 1 false ?_;refine ⟨⟨0,rfl,rfl,oM,rfl⟩,?_⟩;intro vs σ hI
  obtain ⟨i,rfl,rfl,hi,hs⟩:=hI;(conv=>whnf);refine ZEw (fun ac=>wN ?_) (fun ac=>wN ?_)
  ·have ac:i<l.length:=lzI aa ac;have hg:=ZE wCa l i ac;rw [Xl _ ac] at hs;obtain ⟨eA,hA⟩:∃e,l[i]=e:=⟨_,rfl⟩
   obtain ⟨a1,a2⟩:=eA;have cn:(l.map ((fun _=>Zt) pl))[((i:Nat):Int).toNat]?=some ((fun _=>Zt) pl ⟨a1,a2⟩):=by simp [ac,hA]
   rw [hA] at hs hg;refine ⟨_,oM,cn,wN ?_⟩;refine ⟨pl,⟨a1,a2⟩,rfl,⟨rfl,oM,oM⟩,fun b hb=>?_⟩
   cases b with
   | true =>
    have hp:Xo ⟨a1,a2⟩=false:=by simpa using hb
    exact mq39
   | false =>
   have hp:Xo ⟨a1,a2⟩=true:=by simpa using hb
   exact mq22
  exact mq26
 exact h.elim
def Zw0 {n:Nat}:OKw w0 nG [(90,Jb 185 125 (fun _=>Zt) Xo wCa n)] 49 (Jc 185 125 (fun _=>Zt) Xo wCa n):=by
 refine pwo Tryz.func49 fun args σ K h=>?_
 unfold Jc at h
 split at h
 ·obtain ⟨pl,l,rfl,⟨rfl,rfl,hz,hn⟩,h⟩:=h;refine pwv [] 1 false ?_;refine ⟨pl,l,rfl,⟨rfl,rfl,hz,hn⟩,fun r hr=>wN ?_⟩;refine h _ ?_
  cases hb:l.all Xo with
  | true=>rw [hb] at hr;have:=hr.2 rfl;simp;omega
  | false=>rw [hb] at hr;have:¬r<0:=fun g=>(by have:=hr.1 g;cases this);simp;omega
 exact h.elim
def Zw2 {n:Nat}:OKw w0 nG [(49,Jc 185 125 (fun _=>Zt) Xo wCa n)] 124 (XC 125 (fun _=>Zt) Xo wCa n):=by
 refine pwo Tryz.func124 fun args σ K h=>?_
 exact mq7
def ZCr {n:Nat} (h:PC w0 nG 125 (YT (YI (fun _=>Zt)) Xo wCa n)):PC w0 nG 124 (XC 125 (fun _=>Zt) Xo wCa n) :=
 Zw2 ⟨Zw0 ⟨ZwY ⟨ZwW ⟨h,trivial⟩,trivial⟩,trivial⟩,trivial⟩
def Zw4 {n:Nat}:OKw w0 nG [(66,YT (YI Zq) Yq wTy n)] 123 (Ja 66 (YI Zq) Yq wTy n):=by
 refine pwo Tryz.func123 fun args σ K h=>?_
 exact mq79
def Zw6 {n:Nat}:OKw w0 nG [(123,Ja 66 (YI Zq) Yq wTy n)] 184 (Jb 123 66 Zq Yq wTy n):=by
 refine pwo Tryz.func184 fun args σ K h=>?_
 unfold Jb at h
 split at h
 ·obtain ⟨pl,l,rfl,⟨rfl,rfl,hz,hn⟩,h⟩:=h
  rename_i t
  have aa:(l.map (Zq pl)).length=l.length:=Te ..;have hsz:=ZA wTy l;refine pwv [(2,⟨[8],[0,1,7],fun vs σ=>∃i:Nat,vs=[.d (.int .i64 i)]/\σ=⟨[.cells t [.func 66 [] []]],[],0⟩/\i<=l.length/\l.all Yq=(l.drop i).all Yq,mu1 l.length⟩)] 1 false ?_;refine ⟨⟨0,rfl,rfl,oM,rfl⟩,?_⟩;intro vs σ hI
  obtain ⟨i,rfl,rfl,hi,hs⟩:=hI;(conv=>whnf);refine ZEw (fun ac=>wN ?_) (fun ac=>wN ?_)
  ·have ac:i<l.length:=lzI aa ac;have hg:=ZE wTy l i ac;rw [Xl _ ac] at hs;obtain ⟨eA,hA⟩:∃e,l[i]=e:=⟨_,rfl⟩
   obtain ⟨a1,a2,a3,a4,a5,a6⟩:=eA;have cn:(l.map (Zq pl))[((i:Nat):Int).toNat]?=some (Zq pl ⟨a1,a2,a3,a4,a5,a6⟩):=by simp [ac,hA]
   rw [hA] at hs hg;refine ⟨_,oM,cn,wN ?_⟩;refine ⟨pl,⟨a1,a2,a3,a4,a5,a6⟩,rfl,⟨rfl,oM,oM⟩,fun b hb=>?_⟩
   cases b with
   | true =>
    have hp:Yq ⟨a1,a2,a3,a4,a5,a6⟩=false:=by simpa using hb
    exact mq39
   | false =>
   have hp:Yq ⟨a1,a2,a3,a4,a5,a6⟩=true:=by simpa using hb
   exact mq22
  exact mq26
 exact h.elim
def Zw8 {n:Nat}:OKw w0 nG [(184,Jb 123 66 Zq Yq wTy n)] 122 (Jc 123 66 Zq Yq wTy n):=by
 refine pwo Tryz.func122 fun args σ K h=>?_
 unfold Jc at h
 split at h
 ·obtain ⟨pl,l,rfl,⟨rfl,rfl,hz,hn⟩,h⟩:=h;refine pwv [] 1 false ?_;refine ⟨pl,l,rfl,⟨rfl,rfl,hz,hn⟩,fun r hr=>wN ?_⟩;refine h _ ?_
  cases hb:l.all Yq with
  | true=>rw [hb] at hr;have:=hr.2 rfl;simp;omega
  | false=>rw [hb] at hr;have:¬r<0:=fun g=>(by have:=hr.1 g;cases this);simp;omega
 exact h.elim
def Zxa {n:Nat}:OKw w0 nG [(122,Jc 123 66 Zq Yq wTy n)] 65 (XC 66 Zq Yq wTy n):=by
 refine pwo Tryz.func65 fun args σ K h=>?_
 exact mq7
def ZAj {n:Nat} (h:PC w0 nG 66 (YT (YI Zq) Yq wTy n)):PC w0 nG 65 (XC 66 Zq Yq wTy n) :=
 Zxa ⟨Zw8 ⟨Zw6 ⟨Zw4 ⟨h,trivial⟩,trivial⟩,trivial⟩,trivial⟩
def Zxc {n:Nat}:OKw w0 nG [(68,YT (YI ZN) Wd wRe n)] 127 (Ja 68 (YI ZN) Wd wRe n):=by
 refine pwo Tryz.func127 fun args σ K h=>?_
 exact mq79
def Zxe {n:Nat}:OKw w0 nG [(127,Ja 68 (YI ZN) Wd wRe n)] 186 (Jb 127 68 ZN Wd wRe n):=by
 refine pwo Tryz.func186 fun args σ K h=>?_
 unfold Jb at h
 split at h
 ·obtain ⟨pl,l,rfl,⟨rfl,rfl,hz,hn⟩,h⟩:=h
  rename_i t
  have aa:(l.map (ZN pl)).length=l.length:=Te ..;have hsz:=ZA wRe l;refine pwv [(2,⟨[8],[0,1,7],fun vs σ=>∃i:Nat,vs=[.d (.int .i64 i)]/\σ=⟨[.cells t [.func 68 [] []]],[],0⟩/\i<=l.length/\l.all Wd=(l.drop i).all Wd,mu1 l.length⟩)] 1 false ?_;refine ⟨⟨0,rfl,rfl,oM,rfl⟩,?_⟩;intro vs σ hI
  obtain ⟨i,rfl,rfl,hi,hs⟩:=hI;(conv=>whnf);refine ZEw (fun ac=>wN ?_) (fun ac=>wN ?_)
  ·have ac:i<l.length:=lzI aa ac;have hg:=ZE wRe l i ac;rw [Xl _ ac] at hs;obtain ⟨eA,hA⟩:∃e,l[i]=e:=⟨_,rfl⟩
   obtain ⟨a1,a2,a3,a4,a5,a6⟩:=eA;have cn:(l.map (ZN pl))[((i:Nat):Int).toNat]?=some (ZN pl ⟨a1,a2,a3,a4,a5,a6⟩):=by simp [ac,hA]
   rw [hA] at hs hg;refine ⟨_,oM,cn,wN ?_⟩;refine ⟨pl,⟨a1,a2,a3,a4,a5,a6⟩,rfl,⟨rfl,oM,oM⟩,fun b hb=>?_⟩
   cases b with
   | true =>
    have hp:Wd ⟨a1,a2,a3,a4,a5,a6⟩=false:=by simpa using hb
    exact mq39
   | false =>
   have hp:Wd ⟨a1,a2,a3,a4,a5,a6⟩=true:=by simpa using hb
   exact mq22
  exact mq26
 exact h.elim
def Zxg {n:Nat}:OKw w0 nG [(186,Jb 127 68 ZN Wd wRe n)] 126 (Jc 127 68 ZN Wd wRe n):=by
 refine pwo Tryz.func126 fun args σ K h=>?_
 unfold Jc at h
 split at h
 ·obtain ⟨pl,l,rfl,⟨rfl,rfl,hz,hn⟩,h⟩:=h;refine pwv [] 1 false ?_;refine ⟨pl,l,rfl,⟨rfl,rfl,hz,hn⟩,fun r hr=>wN ?_⟩;refine h _ ?_
  cases hb:l.all Wd with
  | true=>rw [hb] at hr;have:=hr.2 rfl;simp;omega
  | false=>rw [hb] at hr;have:¬r<0:=fun g=>(by have:=hr.1 g;cases this);simp;omega
 exact h.elim
def Zxi {n:Nat}:OKw w0 nG [(126,Jc 127 68 ZN Wd wRe n)] 67 (XC 68 ZN Wd wRe n):=by
 refine pwo Tryz.func67 fun args σ K h=>?_
 exact mq7
def ZAk {n:Nat} (h:PC w0 nG 68 (YT (YI ZN) Wd wRe n)):PC w0 nG 67 (XC 68 ZN Wd wRe n) :=
 Zxi ⟨Zxg ⟨Zxe ⟨Zxc ⟨h,trivial⟩,trivial⟩,trivial⟩,trivial⟩
def Zxk {n:Nat}:OKw w0 nG [(75,YT (YI XU) Yl wCo n)] 138 (Ja 75 (YI XU) Yl wCo n):=by
 refine pwo Tryz.func138 fun args σ K h=>?_
 unfold Ja at h
 split at h
 ·obtain ⟨pl,⟨a1,a2,a3,a4,⟨u1,u2,u3,u4,u5,u6⟩,a6⟩,rfl,⟨rfl,hz,hn⟩,h⟩:=h;refine pwv [] 1 false ?_;refine ⟨pl,(.mk a1 a2 a3 a4 (.mk u1 u2 u3 u4 u5 u6) a6),rfl,⟨hz,hn⟩,fun b hb=>wN ?_⟩;exact h _ (by rw [hb])
 exact h.elim
def Zxm {n:Nat}:OKw w0 nG [(138,Ja 75 (YI XU) Yl wCo n)] 198 (Jb 138 75 XU Yl wCo n):=by
 refine pwo Tryz.func198 fun args σ K h=>?_
 unfold Jb at h
 split at h
 ·obtain ⟨pl,l,rfl,⟨rfl,rfl,hz,hn⟩,h⟩:=h
  rename_i t
  have aa:(l.map (XU pl)).length=l.length:=Te ..;have hsz:=ZA wCo l;refine pwv [(2,⟨[8],[0,1,7],fun vs σ=>∃i:Nat,vs=[.d (.int .i64 i)]/\σ=⟨[.cells t [.func 75 [] []]],[],0⟩/\i<=l.length/\l.all Yl=(l.drop i).all Yl,mu1 l.length⟩)] 1 false ?_;refine ⟨⟨0,rfl,rfl,oM,rfl⟩,?_⟩;intro vs σ hI
  obtain ⟨i,rfl,rfl,hi,hs⟩:=hI;(conv=>whnf);refine ZEw (fun ac=>?_) (fun ac=>wN ?_)
  ·have ac:i<l.length:=lzI aa ac;have hg:=ZE wCo l i ac;rw [Xl _ ac] at hs;obtain ⟨eA,hA⟩:∃e,l[i]=e:=⟨_,rfl⟩
   obtain ⟨a1,a2,a3,a4,⟨u1,u2,u3,u4,u5,u6⟩,a6⟩:=eA;have cn:(l.map (XU pl))[((i:Nat):Int).toNat]?=some (XU pl (.mk a1 a2 a3 a4 (.mk u1 u2 u3 u4 u5 u6) a6)):=by simp [ac,hA]
   rw [hA] at hs hg;(conv=>whnf);refine ⟨_,oM,cn,wN ?_⟩;refine ⟨pl,(.mk a1 a2 a3 a4 (.mk u1 u2 u3 u4 u5 u6) a6),rfl,⟨rfl,oM,oM⟩,fun b hb=>?_⟩
   cases b with
   | true =>
    have hp:Yl (.mk a1 a2 a3 a4 (.mk u1 u2 u3 u4 u5 u6) a6)=false:=by simpa using hb
    exact mq39
   | false =>
   have hp:Yl (.mk a1 a2 a3 a4 (.mk u1 u2 u3 u4 u5 u6) a6)=true:=by simpa using hb
   exact mq22
  exact mq26
 exact h.elim
def Zxo {n:Nat}:OKw w0 nG [(198,Jb 138 75 XU Yl wCo n)] 137 (Jc 138 75 XU Yl wCo n):=by
 refine pwo Tryz.func137 fun args σ K h=>?_
 unfold Jc at h
 split at h
 ·obtain ⟨pl,l,rfl,⟨rfl,rfl,hz,hn⟩,h⟩:=h;refine pwv [] 1 false ?_;refine ⟨pl,l,rfl,⟨rfl,rfl,hz,hn⟩,fun r hr=>wN ?_⟩;refine h _ ?_
  cases hb:l.all Yl with
  | true=>rw [hb] at hr;have:=hr.2 rfl;simp;omega
  | false=>rw [hb] at hr;have:¬r<0:=fun g=>(by have:=hr.1 g;cases this);simp;omega
 exact h.elim
def Zxq {n:Nat}:OKw w0 nG [(137,Jc 138 75 XU Yl wCo n)] 74 (XC 75 XU Yl wCo n):=by
 refine pwo Tryz.func74 fun args σ K h=>?_
 exact mq7
def ZCs {n:Nat} (h:PC w0 nG 75 (YT (YI XU) Yl wCo n)):PC w0 nG 74 (XC 75 XU Yl wCo n) :=
 Zxq ⟨Zxo ⟨Zxm ⟨Zxk ⟨h,trivial⟩,trivial⟩,trivial⟩,trivial⟩
def Zxs {n:Nat}:OKw w0 nG [(78,YT (YI We) WI wIn n)] 141 (Ja 78 (YI We) WI wIn n):=by
 refine pwo Tryz.func141 fun args σ K h=>?_
 exact mq87
def Zxu {n:Nat}:OKw w0 nG [(141,Ja 78 (YI We) WI wIn n)] 199 (Jb 141 78 We WI wIn n):=by
 refine pwo Tryz.func199 fun args σ K h=>?_
 unfold Jb at h
 split at h
 ·obtain ⟨pl,l,rfl,⟨rfl,rfl,hz,hn⟩,h⟩:=h
  rename_i t
  have aa:(l.map (We pl)).length=l.length:=Te ..;have hsz:=ZA wIn l;refine pwv [(2,⟨[8],[0,1,7],fun vs σ=>∃i:Nat,vs=[.d (.int .i64 i)]/\σ=⟨[.cells t [.func 78 [] []]],[],0⟩/\i<=l.length/\l.all WI=(l.drop i).all WI,mu1 l.length⟩)] 1 false ?_;refine ⟨⟨0,rfl,rfl,oM,rfl⟩,?_⟩;intro vs σ hI
  obtain ⟨i,rfl,rfl,hi,hs⟩:=hI;(conv=>whnf);refine ZEw (fun ac=>wN ?_) (fun ac=>wN ?_)
  ·have ac:i<l.length:=lzI aa ac;have hg:=ZE wIn l i ac;rw [Xl _ ac] at hs;obtain ⟨eA,hA⟩:∃e,l[i]=e:=⟨_,rfl⟩
   obtain ⟨a1,a2,a3,a4⟩:=eA;have cn:(l.map (We pl))[((i:Nat):Int).toNat]?=some (We pl ⟨a1,a2,a3,a4⟩):=by simp [ac,hA]
   rw [hA] at hs hg;refine ⟨_,oM,cn,wN ?_⟩;refine ⟨pl,⟨a1,a2,a3,a4⟩,rfl,⟨rfl,oM,oM⟩,fun b hb=>?_⟩
   cases b with
   | true =>
    have hp:WI ⟨a1,a2,a3,a4⟩=false:=by simpa using hb
    exact mq39
   | false =>
   have hp:WI ⟨a1,a2,a3,a4⟩=true:=by simpa using hb
   exact mq22
  exact mq26
 exact h.elim
def Zxw {n:Nat}:OKw w0 nG [(199,Jb 141 78 We WI wIn n)] 140 (Jc 141 78 We WI wIn n):=by
 refine pwo Tryz.func140 fun args σ K h=>?_
 unfold Jc at h
 split at h
 ·obtain ⟨pl,l,rfl,⟨rfl,rfl,hz,hn⟩,h⟩:=h;refine pwv [] 1 false ?_;refine ⟨pl,l,rfl,⟨rfl,rfl,hz,hn⟩,fun r hr=>wN ?_⟩;refine h _ ?_
  cases hb:l.all WI with
  | true=>rw [hb] at hr;have:=hr.2 rfl;simp;omega
  | false=>rw [hb] at hr;have:¬r<0:=fun g=>(by have:=hr.1 g;cases this);simp;omega
 exact h.elim
def Zxy {n:Nat}:OKw w0 nG [(140,Jc 141 78 We WI wIn n)] 77 (XC 78 We WI wIn n):=by
 refine pwo Tryz.func77 fun args σ K h=>?_
 exact mq7
def ZAl {n:Nat} (h:PC w0 nG 78 (YT (YI We) WI wIn n)):PC w0 nG 77 (XC 78 We WI wIn n) :=
 Zxy ⟨Zxw ⟨Zxu ⟨Zxs ⟨h,trivial⟩,trivial⟩,trivial⟩,trivial⟩
def ZxA {n:Nat}:OKw w0 nG [(80,YT (YI Wf) W9 wOv n)] 143 (Ja 80 (YI Wf) W9 wOv n):=by
 refine pwo Tryz.func143 fun args σ K h=>?_
 exact mq47
def ZxC {n:Nat}:OKw w0 nG [(143,Ja 80 (YI Wf) W9 wOv n)] 200 (Jb 143 80 Wf W9 wOv n):=by
 refine pwo Tryz.func200 fun args σ K h=>?_
 unfold Jb at h
 split at h
 ·obtain ⟨pl,l,rfl,⟨rfl,rfl,hz,hn⟩,h⟩:=h
  rename_i t
  have aa:(l.map (Wf pl)).length=l.length:=Te ..;have hsz:=ZA wOv l;refine pwv [(2,⟨[8],[0,1,7],fun vs σ=>∃i:Nat,vs=[.d (.int .i64 i)]/\σ=⟨[.cells t [.func 80 [] []]],[],0⟩/\i<=l.length/\l.all W9=(l.drop i).all W9,mu1 l.length⟩)] 1 false ?_;refine ⟨⟨0,rfl,rfl,oM,rfl⟩,?_⟩;intro vs σ hI
  obtain ⟨i,rfl,rfl,hi,hs⟩:=hI;(conv=>whnf);refine ZEw (fun ac=>wN ?_) (fun ac=>wN ?_)
  ·have ac:i<l.length:=lzI aa ac;have hg:=ZE wOv l i ac;rw [Xl _ ac] at hs;obtain ⟨eA,hA⟩:∃e,l[i]=e:=⟨_,rfl⟩
   obtain ⟨a1,a2⟩:=eA;have cn:(l.map (Wf pl))[((i:Nat):Int).toNat]?=some (Wf pl ⟨a1,a2⟩):=by simp [ac,hA]
   rw [hA] at hs hg;refine ⟨_,oM,cn,wN ?_⟩;refine ⟨pl,⟨a1,a2⟩,rfl,⟨rfl,oM,oM⟩,fun b hb=>?_⟩
   cases b with
   | true =>
    have hp:W9 ⟨a1,a2⟩=false:=by simpa using hb
    exact mq39
   | false =>
   have hp:W9 ⟨a1,a2⟩=true:=by simpa using hb
   exact mq22
  exact mq26
 exact h.elim
def ZxE {n:Nat}:OKw w0 nG [(200,Jb 143 80 Wf W9 wOv n)] 142 (Jc 143 80 Wf W9 wOv n):=by
 refine pwo Tryz.func142 fun args σ K h=>?_
 unfold Jc at h
 split at h
 ·obtain ⟨pl,l,rfl,⟨rfl,rfl,hz,hn⟩,h⟩:=h;refine pwv [] 1 false ?_;refine ⟨pl,l,rfl,⟨rfl,rfl,hz,hn⟩,fun r hr=>wN ?_⟩;refine h _ ?_
  cases hb:l.all W9 with
  | true=>rw [hb] at hr;have:=hr.2 rfl;simp;omega
  | false=>rw [hb] at hr;have:¬r<0:=fun g=>(by have:=hr.1 g;cases this);simp;omega
 exact h.elim
def ZxG {n:Nat}:OKw w0 nG [(142,Jc 143 80 Wf W9 wOv n)] 79 (XC 80 Wf W9 wOv n):=by
 refine pwo Tryz.func79 fun args σ K h=>?_
 exact mq7
def ZAm {n:Nat} (h:PC w0 nG 80 (YT (YI Wf) W9 wOv n)):PC w0 nG 79 (XC 80 Wf W9 wOv n) :=
 ZxG ⟨ZxE ⟨ZxC ⟨ZxA ⟨h,trivial⟩,trivial⟩,trivial⟩,trivial⟩
def ZxI {n:Nat}:OKw w0 nG [(69,YT ZiX Xi wBs n)] 139 (Ja 69 ZiX Xi wBs n):=by
 refine pwo Tryz.func139 fun args σ K h=>?_
 unfold Ja at h
 split at h
 ·obtain ⟨pl,x,rfl,⟨rfl,hz,hn⟩,h⟩:=h;refine pwv [] 1 false ?_;refine ⟨pl,x,rfl,⟨hz,hn⟩,fun b hb=>wN ?_⟩;exact h _ (by rw [hb])
 exact h.elim
def ZxK {n:Nat}:OKw w0 nG [(139,Ja 69 ZiX Xi wBs n)] 166 (Jb 139 69 (fun _=>Ym) Xi wBs n):=by
 refine pwo Tryz.func166 fun args σ K h=>?_
 unfold Jb at h
 split at h
 ·obtain ⟨pl,l,rfl,⟨rfl,rfl,hz,hn⟩,h⟩:=h
  rename_i t
  have aa:(l.map ((fun _=>Ym) pl)).length=l.length:=Te ..;have hsz:=ZA wBs l;refine pwv [(2,⟨[8],[0,1,7],fun vs σ=>∃i:Nat,vs=[.d (.int .i64 i)]/\σ=⟨[.cells t [.func 69 [] []]],[],0⟩/\i<=l.length/\l.all Xi=(l.drop i).all Xi,mu1 l.length⟩)] 1 false ?_;refine ⟨⟨0,rfl,rfl,oM,rfl⟩,?_⟩;intro vs σ hI
  obtain ⟨i,rfl,rfl,hi,hs⟩:=hI;(conv=>whnf);refine ZEw (fun ac=>wN ?_) (fun ac=>wN ?_)
  ·have ac:i<l.length:=lzI aa ac;have hg:=ZE wBs l i ac;rw [Xl _ ac] at hs;obtain ⟨eA,hA⟩:∃e,l[i]=e:=⟨_,rfl⟩
   have cn:(l.map ((fun _=>Ym) pl))[((i:Nat):Int).toNat]?=some ((fun _=>Ym) pl eA):=by simp [ac,hA]
   rw [hA] at hs hg;refine ⟨_,oM,cn,wN ?_⟩;refine ⟨pl,eA,rfl,⟨rfl,oM,oM⟩,fun b hb=>?_⟩
   cases b with
   | true =>
    have hp:Xi eA=false:=by simpa using hb
    exact mq39
   | false =>
   have hp:Xi eA=true:=by simpa using hb
   exact mq22
  exact mq26
 exact h.elim
def ZxM {n:Nat}:OKw w0 nG [(166,Jb 139 69 (fun _=>Ym) Xi wBs n)] 97 (Jc 139 69 (fun _=>Ym) Xi wBs n):=by
 refine pwo Tryz.func97 fun args σ K h=>?_
 unfold Jc at h
 split at h
 ·obtain ⟨pl,l,rfl,⟨rfl,rfl,hz,hn⟩,h⟩:=h;refine pwv [] 1 false ?_;refine ⟨pl,l,rfl,⟨rfl,rfl,hz,hn⟩,fun r hr=>wN ?_⟩;refine h _ ?_
  cases hb:l.all Xi with
  | true=>rw [hb] at hr;have:=hr.2 rfl;simp;omega
  | false=>rw [hb] at hr;have:¬r<0:=fun g=>(by have:=hr.1 g;cases this);simp;omega
 exact h.elim
def ZxO {n:Nat}:OKw w0 nG [(97,Jc 139 69 (fun _=>Ym) Xi wBs n)] 76 (XC 69 (fun _=>Ym) Xi wBs n):=by
 refine pwo Tryz.func76 fun args σ K h=>?_
 exact mq7
def ZCt {n:Nat} (h:PC w0 nG 69 (YT ZiX Xi wBs n)):PC w0 nG 76 (XC 69 (fun _=>Ym) Xi wBs n) :=
 ZxO ⟨ZxM ⟨ZxK ⟨ZxI ⟨h,trivial⟩,trivial⟩,trivial⟩,trivial⟩
def Zy7:Zm:=fun args σ K=>match args,σ with
 | [.d (.int .u8 op)],⟨[],[],0⟩=>∃o:Nat,op=o/\∀l w a,(ZY o:Int)=l->VR o=w->V8 o=a->K (.ret (.agg [.d (.int .i64 l),.d (.str w),.d (.int .i64 a)])) ⟨[],[],0⟩
 | _,_=>False
def ZpZ:ZL Zy7:=fun args σ K K' hK h=>by
 unfold Zy7 at h |-
 split at h
 ·obtain ⟨o,h1,h2⟩:=h;exact ⟨o,h1,fun l w a e1 e2 e3=>hK _ _ (h2 l w a e1 e2 e3)⟩
 exact h.elim
def Zs7:PC w0 nG 194 Zy7:=by
 refine pwe Tryz.func194 fun args σ K h=>?_
 unfold Zy7 at h
 split at h
 ·obtain ⟨o,rfl,h⟩:=h;refine pwu [] 0 false ?_
  repeat' ((conv=>whnf);refine ZEw (fun hc=>?_) (fun hc=>?_))
  all_goals (conv=>whnf)
  all_goals first
  | (have e : o = 16 := by omega
     subst e;exact h _ _ _ rfl rfl rfl)
  | (have e : o = 17 := by omega
     subst e;exact h _ _ _ rfl rfl rfl)
  | (have e : o = 15 := by omega
     subst e;exact h _ _ _ rfl rfl rfl)
  | (have e : o = 18 := by omega
     subst e;exact h _ _ _ rfl rfl rfl)
  | (have e : o = 19 := by omega
     subst e;exact h _ _ _ rfl rfl rfl)
  | (have e : o = 10 := by omega
     subst e;exact h _ _ _ rfl rfl rfl)
  | (have e : o = 11 := by omega
     subst e;exact h _ _ _ rfl rfl rfl)
  | (have e : o = 12 := by omega
     subst e;exact h _ _ _ rfl rfl rfl)
  | (have e : o = 13 := by omega
     subst e;exact h _ _ _ rfl rfl rfl)
  | (have e : o = 14 := by omega
     subst e;exact h _ _ _ rfl rfl rfl)
  | (have e : o = 8 := by omega
     subst e;exact h _ _ _ rfl rfl rfl)
  | (have e : o = 9 := by omega
     subst e;exact h _ _ _ rfl rfl rfl)
  | (have e : o = 20 := by omega
     subst e;exact h _ _ _ rfl rfl rfl)
  | (have e : o = 21 := by omega
     subst e;exact h _ _ _ rfl rfl rfl)
  | (have e : o = 22 := by omega
     subst e;exact h _ _ _ rfl rfl rfl)
  | (have e : o = 23 := by omega
     subst e;exact h _ _ _ rfl rfl rfl)
  | (have e : o = 24 := by omega
     subst e;exact h _ _ _ rfl rfl rfl)
  | (have e : o = 25 := by omega
     subst e;exact h _ _ _ rfl rfl rfl)
  | (have e : o = 6 := by omega
     subst e;exact h _ _ _ rfl rfl rfl)
  | (have e : o = 7 := by omega
     subst e;exact h _ _ _ rfl rfl rfl)
  | (have e : o = 1 := by omega
     subst e;exact h _ _ _ rfl rfl rfl)
  | (have e : o = 2 := by omega
     subst e;exact h _ _ _ rfl rfl rfl)
  | (have e : o = 3 := by omega
     subst e;exact h _ _ _ rfl rfl rfl)
  | (have e : o = 4 := by omega
     subst e;exact h _ _ _ rfl rfl rfl)
  | (have e : o = 5 := by omega
     subst e;exact h _ _ _ rfl rfl rfl)
  | (refine h _ _ _ ?_ ?_ ?_
     ·unfold ZY;(repeat rw [Tf oM]);rfl
     ·unfold VR;(repeat rw [Tf oM])
     unfold V8;(repeat rw [Tf oM]))
 exact h.elim
def ZAo {n:Nat}:OKw w0 nG [(128,ZgB),(129,Zid)] 69 (YT ZiX Xi wBs n):=by
 refine pwo Tryz.func69 fun args σ K h=>?_
 unfold YT at h
 split at h
 ·obtain ⟨pl,s,rfl,⟨hz,hn⟩,h⟩:=h;unfold wBs at hz
  refine pwv [] 0 false ?_;refine ⟨oM,wN ?_⟩;refine ZEz (fun iv=>?_) (fun iv=>?_);rotate_left
  ·(conv=>whnf);exact h _ (by simp [Xi,iv])
  conv=>whnf
  refine ZEy (fun dh=>?_) (fun dh=>?_);rotate_left
  ·(conv=>whnf);exact h _ (by simp only [Xi,iv,dh];decide)
  conv=>whnf
  refine fun b hb=>wN ?_
  exact h _ (by rw [Xi,iv,hb,decide_eq_false dh];simp)
 exact h.elim
def ZAq {n:Nat}:OKw w0 nG [(69,YT ZiX Xi wBs n)] 71 (YT (YI (fun _=>Zn)) YP wFi n):=by
 refine pwo Tryz.func71 fun args σ K h=>?_
 unfold YT at h
 split at h
 ·obtain ⟨pl,⟨a1,a2⟩,rfl,⟨hz,hn⟩,h⟩:=h;simp only [wFi] at hz;refine pwv [] 0 false ?_;refine ⟨fun _=>0,a1,rfl,⟨by simp only [wBs];omega,oM⟩,fun b ek=>?_⟩
  cases b with
  | false =>
   conv=>whnf
   exact h _ (by simp [YP,ek])
  | true =>
  conv=>whnf
  refine ⟨fun _=>0,a2,rfl,⟨by simp only [wBs];omega,oM⟩,fun b jf=>wN ?_⟩;exact h _ (by simp [YP,ek,jf])
 exact h.elim
def ZAs {n:Nat}:OKw w0 nG [(69,YT ZiX Xi wBs n),(70,XC 71 (fun _=>Zn) YP wFi n)] 125 (YT (YI (fun _=>Zt)) Xo wCa n):=by
 refine pwo Tryz.func125 fun args σ K h=>?_
 unfold YT at h
 split at h
 ·obtain ⟨pl,⟨a1,a2⟩,rfl,⟨hz,hn⟩,h⟩:=h;simp only [wCa] at hz;refine pwv [] 0 false ?_;refine ⟨fun _=>0,a1,rfl,⟨by simp only [wBs];omega,oM⟩,fun b ek=>?_⟩
  cases b with
  | false =>
   conv=>whnf
   exact h _ (by simp [Xo,ek])
  | true =>
  conv=>whnf
  refine ⟨pl,a2,rfl,⟨rfl,oM,oM⟩,fun b iu=>wN ?_⟩;exact h _ (by simp [Xo,ek,iu])
 exact h.elim
def ZAu {n:Nat}:OKw w0 nG [(69,YT ZiX Xi wBs n),(70,XC 71 (fun _=>Zn) YP wFi n)] 68 (YT (YI ZN) Wd wRe n):=by
 refine pwo Tryz.func68 fun args σ K h=>?_
 unfold YT at h
 split at h
 ·obtain ⟨pl,⟨a1,a2,a3,a4,a5,a6⟩,rfl,⟨hz,hn⟩,h⟩:=h;simp only [wRe] at hz;refine pwv [] 0 false ?_;refine ⟨fun _=>0,a1,rfl,⟨by simp only [wBs];omega,oM⟩,fun b ek=>?_⟩
  cases b with
  | false =>
   conv=>whnf
   exact h _ (by simp [Wd,ek])
  | true =>
  conv=>whnf
  refine ⟨pl,a2,rfl,⟨rfl,oM,oM⟩,fun b iu=>wN ?_⟩;exact h _ (by simp [Wd,ek,iu])
 exact h.elim
def ZAw {n:Nat}:OKw w0 nG [(69,YT ZiX Xi wBs n),(76,XC 69 (fun _=>Ym) Xi wBs n)] 78 (YT (YI We) WI wIn n):=by
 refine pwo Tryz.func78 fun args σ K h=>?_
 unfold YT at h
 split at h
 ·obtain ⟨pl,⟨a1,a2,a3,a4⟩,rfl,⟨hz,hn⟩,h⟩:=h;simp only [wIn] at hz;refine pwv [] 0 false ?_;refine ⟨fun _=>0,a1,rfl,⟨by simp only [wBs];omega,oM⟩,fun b ek=>?_⟩
  cases b with
  | false =>
   conv=>whnf
   exact h _ (by simp [WI,ek])
  | true =>
  conv=>whnf
  refine ⟨fun _=>0,a2,rfl,⟨by simp only [wBs];omega,oM⟩,fun b jf=>?_⟩
  cases b with
  | false =>
   conv=>whnf
   exact h _ (by simp [WI,ek,jf])
  | true =>
  conv=>whnf
  refine ⟨pl,a3,rfl,⟨rfl,oM,oM⟩,fun b iq=>wN ?_⟩;exact h _ (by simp [WI,ek,jf,iq])
 exact h.elim
def ZAy {n:Nat}:OKw w0 nG [(69,YT ZiX Xi wBs n)] 80 (YT (YI Wf) W9 wOv n):=by
 refine pwo Tryz.func80 fun args σ K h=>?_
 unfold YT at h
 split at h
 ·obtain ⟨pl,⟨a1,a2⟩,rfl,⟨hz,hn⟩,h⟩:=h;simp only [wOv] at hz;refine pwv [] 0 false ?_;refine ⟨fun _=>0,a1,rfl,⟨by simp only [wBs];omega,oM⟩,fun b ek=>wN ?_⟩;exact h _ (by simp [W9,ek])
 exact h.elim
def ZAA {n:Nat}:OKw w0 nG [(69,YT ZiX Xi wBs n),(133,XC 134 ZW Yj wE n),(135,XC 136 Xp YJ wL n)] 73 (YT (YI ZS) XT wRu n):=by
 refine pwo Tryz.func73 fun args σ K h=>?_
 unfold YT at h
 split at h
 ·obtain ⟨pl,⟨a1,a2,a3,a4⟩,rfl,⟨hz,hn⟩,h⟩:=h;simp only [wRu] at hz;refine pwv [] 0 false ?_;refine ⟨fun _=>0,a1,rfl,⟨by simp only [wBs];omega,oM⟩,fun b ek=>?_⟩
  cases b with
  | false =>
   conv=>whnf
   exact h _ (by simp [XT,ek])
  | true =>
  conv=>whnf
  refine ⟨pl,a2,Ze _ _,⟨rfl,oM,oM⟩,fun b iu=>?_⟩
  cases b with
  | false =>
   conv=>whnf
   exact h _ (by simp [XT,ek,iu])
  | true =>
  conv=>whnf
  refine ⟨pl,a3,ZD _ _,⟨rfl,oM,oM⟩,fun b iq=>wN ?_⟩;exact h _ (by simp [XT,ek,iu,iq])
 exact h.elim
def ZAB {n:Nat}:OKw w0 nG [(194,Zy7),(69,YT ZiX Xi wBs n),(195,JJ),(133,spB (XC 134 ZW Yj wE) n)] 134 (YT (YI ZW) Yj wE n):=by
 refine pwo Tryz.func134 fun args σ K h=>?_
 unfold YT at h
 split at h
 ·obtain ⟨pl,⟨a1,a2,a3,a4,a5⟩,rfl,⟨hz,hn⟩,h⟩:=h;simp only [wE,Zir] at hz;refine pwv [] 0 false ?_;have eu:(Zp pl a4).length=a4.length:=by rw [Ze,Te]
  refine ⟨a1,rfl,fun l w a hl hw ha=>wN ?_⟩;refine ZEw (fun fg=>wN ?_) (fun fg=>wN ?_)
  ·have wa:=fg;have fg:a1=1:=oM;refine ZEw (fun _=>wN ?_) (fun hx=>absurd wa hx);exact mq174
  refine ZEw (fun wb=>wN ?_) (fun wb=>wN ?_)
  ·have fg:a1=7:=by omega
   exact mq174
  have fg:¬a1=1:=oM;have wb:¬a1=7:=oM;refine ZEw (fun n5=>wN ?_) (fun n5=>wN ?_)
  ·have n5:a1=4:=by omega
   refine ⟨oM,fun hq=>wN ?_,fun q hq=>wN ?_⟩
   ·have mo:V9 a1 a2=false:=by simp [V9,n5,hq]
    exact mq6
   have mo:V9 a1 a2=true:=by simp [V9,n5,hq]
   exact mq4
  have n5:¬a1=4:=oM;have mo:V9 a1 a2=decide (a2=[]):=by simp [V9,fg,wb,n5]
  refine ZEw (fun h1=>?_) (fun h1=>?_);rotate_left
  ·exact mq204
  conv=>whnf
  refine ZEw (fun h2=>wN ?_) (fun h2=>wN ?_)
  ·refine ZEw (fun h3=>wN ?_) (fun h3=>wN ?_)
   ·refine ZEw (fun h4=>?_) (fun h4=>?_);rotate_left
    ·exact mq163
    rw [TL h4] at mo;(conv=>whnf);exact mq201
   refine ZEw (fun h5=>?_) (fun h5=>?_);rotate_left
   ·exact mq172
   have h5:a1=3:=oM;have ic:(decide (a3=0) || decide (a1=3))=true:=by simp [h5]
   conv=>whnf
   refine ZEw (fun h4=>?_) (fun h4=>?_);rotate_left
   ·exact mq163
   rw [TL h4] at mo;exact mq196
  refine ZEw (fun h6=>?_) (fun h6=>?_);rotate_left
  ·exact mq176
  have h6:(a4.length:Int)=a:=by rw [<- eu];exact h6
  conv=>whnf
  refine ZEw (fun h3=>wN ?_) (fun h3=>wN ?_)
  ·refine ZEw (fun h4=>?_) (fun h4=>?_);rotate_left
   ·exact mq163
   rw [TL h4] at mo;(conv=>whnf);exact mq200
  refine ZEw (fun h5=>?_) (fun h5=>?_);rotate_left
  ·exact mq172
  have h5:a1=3:=oM;have ic:(decide (a3=0) || decide (a1=3))=true:=by simp [h5]
  conv=>whnf
  refine ZEw (fun h4=>?_) (fun h4=>?_);rotate_left
  ·exact mq163
  rw [TL h4] at mo;exact mq195
 exact h.elim
def ZAC {n:Nat}:OKw w0 nG [(69,YT ZiX Xi wBs n),(133,XC 134 ZW Yj wE n),(135,spB (XC 136 Xp YJ wL) n)] 136 (YT (YI Xp) YJ wL n):=by
 refine pwo Tryz.func136 fun args σ K h=>?_
 unfold YT at h
 split at h
 ·obtain ⟨pl,⟨a1,a2,a3,a4,a5⟩,rfl,⟨hz,hn⟩,h⟩:=h;simp only [wL,Zis] at hz;refine pwv [] 0 false ?_;have dx:(Zp pl a3).length=a3.length:=by rw [Ze,Te]
  have eu:(Y6 pl a4).length=a4.length:=by rw [ZD,Te]
  have s9:((0:Int)<((Y6 pl a4).length:Int))↔0<a4.length:=by rw [eu];omega
  refine ZEw (fun fg=>wN ?_) (fun fg=>wN ?_)
  ·have wa:=fg;have fg:a1=1:=oM;refine ZEw (fun _=>wN ?_) (fun hx=>absurd wa hx);exact mq168
  refine ZEw (fun v7=>wN ?_) (fun v7=>wN ?_)
  ·have fg:a1=2:=by omega
   exact mq168
  have kw:¬(a1=1\/a1=2):=oM;refine ZEw (fun ad2=>wN ?_) (fun ad2=>wN ?_)
  ·refine ZEw (fun ad3=>wN ?_) (fun ad3=>wN ?_)
   ·have h38:3<=a1/\a1<=8:=by omega
    refine ZEw (fun hr=>?_) (fun hr=>?_);rotate_left
    ·have lc:YV a1 a2 a3.length a4.length=false:=by simp [YV,kw,h38,hr]
     conv=>whnf
     exact mq54
    conv=>whnf
    refine ZEw (fun hA=>?_) (fun hA=>?_);rotate_left
    ·have hA:¬a3.length=2:=fun g=>hA (by show ((Zp pl a3).length:Int)=2;rw [dx,g];rfl)
     have lc:YV a1 a2 a3.length a4.length=false:=by simp [YV,kw,h38,hA]
     conv=>whnf
     exact mq54
    have hA:a3.length=2:=by have hA:((Zp pl a3).length:Int)=2:=hA;rw [dx] at hA;omega
    conv=>whnf
    refine ZEy (fun hB=>wN ?_) (fun hB=>wN ?_)
    ·have hB:¬0<a4.length:=fun g=>hB (s9.2 g)
     have lc:YV a1 a2 a3.length a4.length=true:=by simp only [YV,kw,h38,hr,hA,decide_eq_false hB];simp
     exact mq8
    have hB:=s9.1 hB;have lc:YV a1 a2 a3.length a4.length=false:=by simp [YV,kw,h38,hr,hA,hB]
    exact mq54
   exact mq3
  exact mq3
 exact h.elim
end Go.PM.Lex
end

section
namespace Go.PM.Lex
open Go.Proofs
variable {w0:World} {nG:Nat}
def ZAE {n:Nat}:OKw w0 nG [(69,YT ZiX Xi wBs n),(70,XC 71 (fun _=>Zn) YP wFi n),(124,XC 125 (fun _=>Zt) Xo wCa n)] 66 (YT (YI Zq) Yq wTy n):=by
 refine pwo Tryz.func66 fun args σ K h=>?_
 unfold YT at h
 split at h
 ·obtain ⟨pl,⟨a1,a2,a3,a4,a5,a6⟩,rfl,⟨hz,hn⟩,h⟩:=h;simp only [wTy] at hz;refine pwv [] 0 false ?_;have eu:(a4.map Zn).length=a4.length:=Te ..;have jg:(a5.map Zt).length=a5.length:=Te ..;have nr:(((a4.map Zn).length:Int)=0)↔a4.length=0:=by rw [eu];omega
  have xv:(((a5.map Zt).length:Int)=0)↔a5.length=0:=by rw [jg];omega
  refine ZEw (fun hk=>?_) (fun hk=>wN ?_)
  ·(try dsimp only at hk)
   have hk:a1=1:=oM;(conv=>whnf);refine ⟨fun _=>0,a3,rfl,⟨by simp only [wBs];omega,oM⟩,fun b d0=>?_⟩
   cases b with
   | false =>
    conv=>whnf
    have mq:Zb1 (⟨a1,a2,a3,a4,a5,a6⟩:Ty)=false:=by simp [Zb1,hk,d0]
    conv=>whnf
    exact mq124
   | true =>
   conv=>whnf
   refine ZEw (fun h4=>wN ?_) (fun h4=>wN ?_)
   ·have h4:=nr.1 h4;refine ZEw (fun h5=>wN ?_) (fun h5=>wN ?_)
    ·have h5:=xv.1 h5;have mq:Zb1 (⟨a1,a2,a3,a4,a5,a6⟩:Ty)=true:=by simp [Zb1,hk,d0,h4,h5]
     exact mq21
    have h5:¬a5.length=0:=fun g=>h5 (xv.2 g)
    have mq:Zb1 (⟨a1,a2,a3,a4,a5,a6⟩:Ty)=false:=by simp [Zb1,hk,d0,h4,h5]
    exact mq124
   have h4:¬a4.length=0:=fun g=>h4 (nr.2 g)
   have mq:Zb1 (⟨a1,a2,a3,a4,a5,a6⟩:Ty)=false:=by simp [Zb1,hk,d0,h4]
   exact mq124
  refine ZEw (fun be=>?_) (fun be=>wN ?_)
  ·(try dsimp only at be)
   have be:a1=2:=oM;(conv=>whnf);refine ZEw (fun d0=>?_) (fun d0=>?_);rotate_left
   ·have mq:Zb1 (⟨a1,a2,a3,a4,a5,a6⟩:Ty)=false:=by simp [Zb1,be,d0]
    conv=>whnf
    exact mq124
   (try dsimp only at d0)
   conv=>whnf
   refine ZEw (fun h5=>wN ?_) (fun h5=>wN ?_)
   ·have h5:=xv.1 h5;have mq:Zb1 (⟨a1,a2,a3,a4,a5,a6⟩:Ty)=true:=by simp [Zb1,be,d0,h5]
    exact mq21
   have h5:¬a5.length=0:=fun g=>h5 (xv.2 g)
   have mq:Zb1 (⟨a1,a2,a3,a4,a5,a6⟩:Ty)=false:=by simp [Zb1,be,d0,h5]
   exact mq124
  refine ZEw (fun fc=>?_) (fun fc=>?_)
  ·(try dsimp only at fc)
   have fc:a1=3:=oM;(conv=>whnf);refine ZEw (fun d0=>?_) (fun d0=>?_);rotate_left
   ·have mq:Zb1 (⟨a1,a2,a3,a4,a5,a6⟩:Ty)=false:=by simp [Zb1,fc,d0]
    conv=>whnf
    exact mq124
   (try dsimp only at d0)
   conv=>whnf
   refine ZEw (fun h4=>wN ?_) (fun h4=>wN ?_)
   ·have h4:=nr.1 h4;refine ZEy (fun h5=>wN ?_) (fun h5=>wN ?_)
    ·have h5:¬a5.length=0:=fun g=>h5 (xv.2 g)
     have mq:Zb1 (⟨a1,a2,a3,a4,a5,a6⟩:Ty)=true:=by simp [Zb1,fc,d0,h4,h5]
     exact mq21
    have h5:=xv.1 h5;have mq:Zb1 (⟨a1,a2,a3,a4,a5,a6⟩:Ty)=false:=by simp [Zb1,fc,d0,h4,h5]
    exact mq124
   have h4:¬a4.length=0:=fun g=>h4 (nr.2 g)
   have mq:Zb1 (⟨a1,a2,a3,a4,a5,a6⟩:Ty)=false:=by simp [Zb1,fc,d0,h4]
   exact mq124
  (try dsimp only at hk be fc)
  have hk:¬a1=1:=oM;have be:¬a1=2:=oM;have fc:¬a1=3:=oM;have mq:Zb1 (⟨a1,a2,a3,a4,a5,a6⟩:Ty)=false:=by simp [Zb1,hk,be,fc]
  conv=>whnf
  exact mq124
 exact h.elim
def ZAG {n:Nat}:OKw w0 nG [(69,YT ZiX Xi wBs n),(76,XC 69 (fun _=>Ym) Xi wBs n),(44,YT (YI XY) Zey wUn n)] 75 (YT (YI XU) Yl wCo n):=by
 refine pwo Tryz.func75 fun args σ K h=>?_
 unfold YT at h
 split at h
 ·obtain ⟨pl,⟨a1,a2,a3,a4,⟨u1,u2,u3,u4,u5,u6⟩,a6⟩,rfl,⟨hz,hn⟩,h⟩:=h;simp only [wCo] at hz;refine pwv [] 0 false ?_;have eu:(a4.map Ym).length=a4.length:=Te ..;have nr:(((a4.map Ym).length:Int)=0)↔a4.length=0:=by rw [eu];omega
  refine ZEw (fun hb=>wN ?_) (fun hb=>wN ?_)
  ·refine ZEw (fun h4=>wN ?_) (fun h4=>wN ?_)
   ·have h4:=nr.1 h4;have ma:((decide (a3=[]) && decide (a4.length=0)) || Xi a3)=true:=by simp [hb,h4]
    exact mq12
   have h4:¬a4.length=0:=fun g=>h4 (nr.2 g)
   refine ⟨fun _=>0,a3,rfl,⟨by simp only [wBs];omega,oM⟩,fun b d0=>?_⟩
   cases b with
   | false =>
    have ma:((decide (a3=[]) && decide (a4.length=0)) || Xi a3)=false:=by simp [h4,d0]
    exact mq36
   | true =>
   have ma:((decide (a3=[]) && decide (a4.length=0)) || Xi a3)=true:=by simp [h4,d0]
   conv=>whnf
   exact mq12
  refine ⟨fun _=>0,a3,rfl,⟨by simp only [wBs];omega,oM⟩,fun b d0=>?_⟩
  cases b with
  | false =>
   have ma:((decide (a3=[]) && decide (a4.length=0)) || Xi a3)=false:=by simp [hb,d0]
   exact mq36
  | true =>
  have ma:((decide (a3=[]) && decide (a4.length=0)) || Xi a3)=true:=by simp [hb,d0]
  conv=>whnf
  exact mq12
 exact h.elim
def ZuA {n:Nat}:OKw w0 nG [(65,XC 66 Zq Yq wTy n),(67,XC 68 ZN Wd wRe n),(72,XC 73 ZS XT wRu n),(74,spB (XC 75 XU Yl wCo) n),(77,XC 78 We WI wIn n),(79,XC 80 Wf W9 wOv n)] 44 (YT (YI XY) Zey wUn n):=by
 refine pwo Tryz.func44 fun args σ K h=>?_
 unfold YT at h
 split at h
 ·obtain ⟨pl,⟨a1,a2,a3,a4,a5,a6⟩,rfl,⟨hz,hn⟩,h⟩:=h;simp only [wUn,ZpY] at hz;refine pwv [] 0 false ?_;refine ⟨pl,a1,rfl,⟨rfl,oM,oM⟩,fun b l7=>?_⟩
  cases b with
  | false =>
   conv=>whnf
   exact h _ (by simp [Zey,WJ,l7])
  | true =>
  conv=>whnf
  refine ⟨pl,a2,rfl,⟨rfl,oM,oM⟩,fun b iu=>?_⟩
  cases b with
  | false =>
   conv=>whnf
   exact h _ (by simp [Zey,WJ,l7,iu])
  | true =>
  conv=>whnf
  refine ⟨pl,a3,rfl,⟨rfl,oM,oM⟩,fun b iq=>?_⟩
  cases b with
  | false =>
   conv=>whnf
   exact h _ (by simp [Zey,WJ,l7,iu,iq])
  | true =>
  conv=>whnf
  refine ⟨oM,pl,a4,ZdC _ _,⟨rfl,oM,oM⟩,fun b ha3=>?_⟩
  cases b with
  | false =>
   conv=>whnf
   exact h _ (by simp [Zey,WJ,l7,iu,iq,ha3])
  | true =>
  conv=>whnf
  refine ⟨pl,a5,rfl,⟨rfl,oM,oM⟩,fun b ha4=>?_⟩
  cases b with
  | false =>
   conv=>whnf
   exact h _ (by simp [Zey,WJ,l7,iu,iq,ha3,ha4])
  | true =>
  conv=>whnf
  refine ⟨pl,a6,rfl,⟨rfl,oM,oM⟩,fun b ha5=>wN ?_⟩;exact h _ (by simp [Zey,WJ,l7,iu,iq,ha3,ha4,ha5])
 exact h.elim
structure LexC (w0:World) (nG:Nat):Prop where
 name:PC w0 nG 128 ZgB
 quote:PC w0 nG 195 JJ
variable (hL:LexC w0 nG)
include hL
def Zna (n:Nat):PC w0 nG 69 (YT ZiX Xi wBs n):=ZAo ⟨hL.name,ZjN,trivial⟩
def cHE:∀n,PC w0 nG 134 (YT (YI ZW) Yj wE n)
 | 0=>ZAB ⟨Zs7,Zna hL _,hL.quote,Z0 (Zl Tryz.func133 kR rfl),trivial⟩
 | n+1=>ZAB ⟨Zs7,Zna hL _,hL.quote,Z1 (sp:=XC 134 ZW Yj wE) (ZBE (cHE n)),trivial⟩
def cHL:∀n,PC w0 nG 136 (YT (YI Xp) YJ wL n)
 | 0=>ZAC ⟨Zna hL _,ZBE (cHE hL 0),Z0 (Zl Tryz.func135 kR rfl),trivial⟩
 | n+1=>ZAC ⟨Zna hL _,ZBE (cHE hL _),Z1 (sp:=XC 136 Xp YJ wL) (ZDa (cHL n)),trivial⟩
def ZDb (n:Nat):PC w0 nG 73 (YT (YI ZS) XT wRu n):=ZAA ⟨Zna hL _,ZBE (cHE hL _),ZDa (cHL hL _),trivial⟩
def ZCw (n:Nat):PC w0 nG 70 (XC 71 (fun _=>Zn) YP wFi n):=ZCq (ZAq ⟨Zna hL _,trivial⟩)
def ZDc (n:Nat):PC w0 nG 66 (YT (YI Zq) Yq wTy n):=ZAE ⟨Zna hL _,ZCw hL n,ZCr (ZAs ⟨Zna hL _,ZCw hL n,trivial⟩),trivial⟩
def ZDd (n:Nat):PC w0 nG 68 (YT (YI ZN) Wd wRe n):=ZAu ⟨Zna hL _,ZCw hL n,trivial⟩
def ZDe (n:Nat):PC w0 nG 76 (XC 69 (fun _=>Ym) Xi wBs n):=ZCt (Zna hL n)
def ZDf (n:Nat):PC w0 nG 78 (YT (YI We) WI wIn n):=ZAw ⟨Zna hL _,ZDe hL n,trivial⟩
def ZDg (n:Nat):PC w0 nG 80 (YT (YI Wf) W9 wOv n):=ZAy ⟨Zna hL _,trivial⟩
def ZDh:∀n,PC w0 nG 44 (YT (YI XY) Zey wUn n)
 | 0=>ZuA ⟨ZAj (ZDc hL _),ZAk (ZDd hL _),ZAi (ZDb hL _),Z0 (Zl Tryz.func74 kR rfl),ZAl (ZDf hL _),ZAm (ZDg hL _),trivial⟩
 | n+1=>ZuA ⟨ZAj (ZDc hL _),ZAk (ZDd hL _),ZAi (ZDb hL _),Z1 (sp:=XC 75 XU Yl wCo) (ZCs (ZAG ⟨Zna hL _,ZDe hL _,ZDh n,trivial⟩)),ZAl (ZDf hL _),ZAm (ZDg hL _),trivial⟩
end Go.PM.Lex
end

section
namespace Go.PM.Lex
open Go.Proofs Go.Shelf Go.RowKit
variable {w0:World} {nG:Nat}
def ZCx:liesAt Tryz.prog Tryz.prog.depth 119 (2 / Tryz.prog.cellsOf 119) 0 117 1=true:=kR
def Zj3 (b:Nat) (w:World) (h0:w.cell? ⟨b,0,none⟩=some (.pointer none)) (ez:w.shape? b=some (119,2)) (kx:w.frozen? ⟨b,0,none⟩=false) :
  Calls Tryz.prog 201 #[.pointer (some ⟨b,0,none⟩)] w fun e w'=>e=.returned (.tuple #[])/\w'=w.setCell ⟨b,0,none⟩ (.pointer (some ⟨b,0,none⟩)):=by
 obtain ⟨j,hj,ua⟩:=i53
 go_enter Tryz.func201,Tryz.ntmps201
 go_wp2
 rw [Go.Lib.run_to_unsafe w ⟨b,0,none⟩ u50 u95 hj (by rw [ua];decide) ez (Nat.zero_lt_succ 1)];simp only [Result.andThen];rw [Oper.upon_value]
 go_wp2
 rw [run_callFunc_extern Tryz.func237 kR kR kR (e:=Extern.AbiNoEscape.same) kR];rw [Go.Lib.run_noEscape];simp only [Result.andThen];rw [Oper.upon_value]
 go_wp2
 rw [Go.Lib.run_from_unsafe w ⟨b,0,none⟩ u95 u50 hj ez ZCx];simp only [Result.andThen];rw [Oper.upon_value]
 go_wp2
 go_end0
 exact ⟨rfl,rfl⟩
def UB:Zm:=fun args σ K=>match args,σ with
 | [.ptr 0 0],⟨[.cells t [p,q]],tk,nx⟩=>((p=.d .nilp\/p=.ptr 0 0)/\t=119)/\K (.ret (.tuple [])) ⟨[.cells t [.ptr 0 0,q]],tk,nx⟩
 | _,_=>False
def ZgR:PC w0 nG 201 UB:=VM (Zl Tryz.func201 kR rfl) fun args σ K h e w vs hS ha=>by
 unfold UB at h
 split at h
 ·rename_i t p q tk nx
  obtain ⟨⟨hp,rfl⟩,hK⟩:=h;obtain ⟨u,rfl,hu⟩:=Zgy ha;obtain ⟨cv,dh,bj,kq⟩:=hS.box 0 _ rfl;have dk:cv.size=2:=bj;obtain ⟨x0,ky⟩:∃x,cv[0]?=some x:=⟨cv[0]'oM,by simp [dk]⟩
  have lr:=(kq 0 p x0 rfl ky).1
  cases hu with
  | ptr b off hb =>
  refine ⟨_,_,.tuple #[],hK,?_⟩;rcases hp with rfl | rfl
  ·cases lr with
   | d _ _ hd =>
   cases hd
   refine Calls.mono (Zj3 (e.β 0) w ?_ ?_ ?_) fun en w' ⟨h1,h2⟩=>?_
   ·simp [World.cell?,dh,ky]
   ·simp only [World.shape?,dh,dk]
   ·simp [World.frozen?,dh]
   have hst:=Zdp (G:=GG w0 nG) (T:=Zaf) ZC hS (t:=115) (b:=0) (off:=0) (x:=.ptr 0 0) (v:=.pointer (some ⟨e.β 0,0,none⟩)) (l:=[.ptr 0 0]) (cs:=[.d .nilp,q]) (ty:=119) rfl (.ptr 0 0 hb) rfl rfl sM (by intro h;cases h);rw [h2];exact ⟨h1,.tuple [] #[] rfl (fun i x u hx=>by simp at hx),hst.2,hst.1.toLater⟩
  exact mq88
 exact h.elim
def Znb {ty:TypeId} {P:Program} {ρ:Ren} (L:Lays.n169 P ρ) (X:Builder.Extra P ρ) (b g cap:Nat) (p:Value) (cur:Array Value) (fz:Nat×Nat) (l:Bs) (w:World) (h0:l≠[])
  (qd:w.heap[b]?=some (.cells #[p,.slice (some ⟨g,0,none⟩) l.length cap] ty (0,0))) (hg:w.heap[g]?=some (.cells cur (ρ.t 5) fz)) (hn:l.length<=cur.size) (hcap:cap≠0) (dr:l.length<=9223372036854775807)
  (ay:∀j x,l[j]?=some x->w.cell? ⟨g,j,none⟩=some (.int .u8 x.toNat)) :
  Calls P (ρ.f 169) #[.pointer (some ⟨b,0,none⟩)] w fun e w'=>e=.returned (.string ⟨l.toArray⟩)/\w'=w.drew.freeze ⟨g,0,none⟩ l.length:=by
 have c1:w.drew.cell? ⟨b,1,none⟩=some (.slice (some ⟨g,0,none⟩) l.length cap):=by
  have:w.drew.heap[b]?=some (.cells #[p,.slice (some ⟨g,0,none⟩) l.length cap] ty (0,0)):=qd;rw [Go.Lib.cell_of_heap this];rfl
 have hSD:(Builtin.unsafeSliceData_ #[(ρ.t 37)] (ρ.t 127) #[.slice (some ⟨g,0,none⟩) l.length cap]).run P w.drew=.ok (.pointer (some ⟨g,0,none⟩)) w.drew :=
  Go.Lib.run_unsafeSliceData_row _ _ _ _ _ _ hcap
 have hUS:(Builtin.unsafeString_ #[(ρ.t 127),(ρ.t 3)] (ρ.t 9) #[.pointer (some ⟨g,0,none⟩),.int .i64 l.length]).run P w.drew=.ok (.string ⟨l.toArray⟩) (w.drew.freeze ⟨g,0,none⟩ l.length):=by
  exact mq68
 have mixed:=L.mixed;have t72:=L.t72;have a72:=L.a72;have z72:=L.z72;have v72:=L.v72;have u72:=run_underlying L.t72;have t70:=L.t70;have a70:=L.a70;have z70:=L.z70;have v70:=L.v70;have u70:=run_underlying L.t70;have t37:=L.t37;have a37:=L.a37;have z37:=L.z37;have v37:=L.v37;have u37:=run_underlying L.t37;have t127:=L.t127;have a127:=L.a127;have z127:=L.z127;have v127:=L.v127;have u127:=run_underlying L.t127;have t3:=L.t3;have a3:=L.a3;have z3:=L.z3;have v3:=L.v3;have u3:=run_underlying L.t3;have t9:=L.t9;have a9:=L.a9;have z9:=L.z9;have v9:=L.v9;have u9:=run_underlying L.t9;have t5:=X.t5;have a5:=X.a5;have z5:=X.z5;have v5:=X.v5;have u5:=run_underlying X.t5
 go_enter L.f169,Body.n169_ntmps ρ
 go_wp2
 go_region_o
 all_goals (go_wp2;go_ret;exact ⟨rfl,rfl⟩)
def Zs8 {ty:TypeId} {P:Program} {ρ:Ren} (L:Lays.n169 P ρ) (X:Builder.Extra P ρ) (B b:Nat) (p:Value) (w:World) (qd:w.heap[b]?=some (.cells #[p,.slice none 0 0] ty (0,0))) :
  Calls P (ρ.f 169) #[.pointer (some ⟨b,0,none⟩)] w fun e w'=>e=.returned (.string ⟨#[]⟩)/\Below B w w':=by
 have hUS:=Any.unsafeString_none L X;have c1:w.drew.cell? ⟨b,1,none⟩=some (.slice none 0 0):=by
  have:w.drew.heap[b]?=some (.cells #[p,.slice none 0 0] ty (0,0)):=qd;rw [Lib.cell_of_heap this];rfl
 have hSD:(Builtin.unsafeSliceData_ #[(ρ.t 37)] (ρ.t 127) #[.slice none 0 0]).run P w.drew=.ok (.pointer none) w.drew:=rfl;have mixed:=L.mixed;have t72:=L.t72;have a72:=L.a72;have z72:=L.z72;have v72:=L.v72;have u72:=run_underlying L.t72;have t70:=L.t70;have a70:=L.a70;have z70:=L.z70;have v70:=L.v70;have u70:=run_underlying L.t70;have t37:=L.t37;have a37:=L.a37;have z37:=L.z37;have v37:=L.v37;have u37:=run_underlying L.t37;have t127:=L.t127;have a127:=L.a127;have z127:=L.z127;have v127:=L.v127;have u127:=run_underlying L.t127;have t3:=L.t3;have a3:=L.a3;have z3:=L.z3;have v3:=L.v3;have u3:=run_underlying L.t3;have t9:=L.t9;have a9:=L.a9;have z9:=L.z9;have v9:=L.v9;have u9:=run_underlying L.t9;have t5:=X.t5;have a5:=X.a5;have z5:=X.z5;have v5:=X.v5;have u5:=run_underlying X.t5
 go_enter L.f169,Body.n169_ntmps ρ
 go_wp2
 go_region_o
 all_goals (go_wp2;go_ret;exact ⟨rfl,Below.drew (Below.refl B w)⟩)
def Zp0 {ty:TypeId} {P:Program} {ρ:Ren} (L:Lays.n169 P ρ) (X:Builder.Extra P ρ) (B b g cap:Nat) (p:Value) (w:World) (iv:cap≠0) (qd:w.heap[b]?=some (.cells #[p,.slice (some ⟨g,0,none⟩) 0 cap] ty (0,0))) :
  Calls P (ρ.f 169) #[.pointer (some ⟨b,0,none⟩)] w fun e w'=>e=.returned (.string ⟨#[]⟩)/\Below B w w':=by
 have hUS:=Any.unsafeString_none L X;have c1:w.drew.cell? ⟨b,1,none⟩=some (.slice (some ⟨g,0,none⟩) 0 cap):=by
  have:w.drew.heap[b]?=some (.cells #[p,.slice (some ⟨g,0,none⟩) 0 cap] ty (0,0)):=qd;rw [Lib.cell_of_heap this];rfl
 have hSD:(Builtin.unsafeSliceData_ #[(ρ.t 37)] (ρ.t 127) #[.slice (some ⟨g,0,none⟩) 0 cap]).run P w.drew=.ok (.pointer (some ⟨g,0,none⟩)) w.drew:=Go.Lib.run_unsafeSliceData_row _ _ _ _ _ _ iv
 clear iv
 have mixed:=L.mixed;have t72:=L.t72;have a72:=L.a72;have z72:=L.z72;have v72:=L.v72;have u72:=run_underlying L.t72;have t70:=L.t70;have a70:=L.a70;have z70:=L.z70;have v70:=L.v70;have u70:=run_underlying L.t70;have t37:=L.t37;have a37:=L.a37;have z37:=L.z37;have v37:=L.v37;have u37:=run_underlying L.t37;have t127:=L.t127;have a127:=L.a127;have z127:=L.z127;have v127:=L.v127;have u127:=run_underlying L.t127;have t3:=L.t3;have a3:=L.a3;have z3:=L.z3;have v3:=L.v3;have u3:=run_underlying L.t3;have t9:=L.t9;have a9:=L.a9;have z9:=L.z9;have v9:=L.v9;have u9:=run_underlying L.t9;have t5:=X.t5;have a5:=X.a5;have z5:=X.z5;have v5:=X.v5;have u5:=run_underlying X.t5
 go_enter L.f169,Body.n169_ntmps ρ
 go_wp2
 go_region_o
 all_goals (go_wp2;go_ret;exact ⟨rfl,Below.drew (Below.refl B w)⟩)
end Go.PM.Lex
end

section
namespace Go.PM.Lex
open Go.Proofs
variable {w0:World} {nG:Nat}
def wk {rows:List (List D)} {p:PV} {t t1 e e1:Nat} {B:Bs->Prop} {F:Bs->Bs->Prop} (l txt:Bs) (b:B txt) (k:F l txt) (h1:rows=Zg l:=by rfl) (h2:p=.d .nilp\/p=.ptr 0 0:=by first | exact .inl rfl | exact .inr rfl) (h3:t=t1:=by rfl) (h4:e=e1:=by rfl) (h5:l.length+txt.length<70368744177664:=by (try simp only [Ta,Td,Tg]);omega):∃l txt,rows=Zg l/\((p=.d .nilp\/p=.ptr 0 0)/\t=t1/\e=e1)/\B txt/\l.length+txt.length<70368744177664/\F l txt:=⟨l,txt,h1,⟨h2,h3,h4⟩,b,h5,k⟩
def ZiY (r:PV) (body:List PV->Bs->Prop):Zm:=fun args σ K=>match args,σ with
 | .ptr 0 0::rest,⟨[.cells t [p,.sl 0 e rows]],[0],1⟩=>∃l txt,rows=Zg l/\((p=.d .nilp\/p=.ptr 0 0)/\t=119/\e=5)/\body rest txt/\l.length+txt.length<70368744177664 /\
   K (.ret r) ⟨[.cells t [.ptr 0 0,.sl 0 e (Zg (l++txt))]],[0],1⟩
 | _,_=>False
def ZaD (r:PV) (body:List PV->Bs->Prop):ZL (ZiY r body):=fun args σ K K' hK h=>by
 unfold ZiY at h |-
 split at h
 ·obtain ⟨l,txt,h1,h2,h3,h4,h5⟩:=h;exact ⟨l,txt,h1,h2,h3,h4,hK _ _ h5⟩
 exact h.elim
def ZgS {α:Type} (val:Pl->α->PV) (may:α->Bool) (txt:α->Bs) (w:α->Nat) (n:Nat):Zm:=fun args σ K=>match args,σ with
 | [v,.ptr 0 0],⟨[.cells tp [.ptr 1 0],.cells t [.ptr 1 0,.sl 0 e rows]],[0],1⟩=>∃l pl x,rows=Zg l/\v=val pl x/\(t=119/\e=5)/\(may x=true/\w x<=n/\n<=1073741824)/\l.length+(txt x).length<70368744177664 /\
   K (.ret (.tuple [])) ⟨[.cells tp [.ptr 1 0],.cells t [.ptr 1 0,.sl 0 e (Zg (l++txt x))]],[0],1⟩
 | _,_=>False
def Zp1 {α:Type} (g0:FuncId) (enc:Pl->α->List D) (may:α->Bool) (txt:α->Bs) (w:α->Nat) (n:Nat):Zm:=fun args σ K=>match args,σ with
 | [.ptr 0 0,.d (.sl r),.d (.str bt),.func g [] [.ptr 1 0]],⟨[.cells t [.ptr 0 0,.sl 0 e rows],.cells tp [.ptr 0 0]],[0],1⟩=>∃l pl xs,rows=Zg l/\r=xs.map (enc pl)/\(t=119/\e=5/\g=g0)/\(xs.all may=true/\szS w xs<=n/\n<=1073741824)/\l.length+(Zi bt (xs.map txt)).length<70368744177664 /\
   K (.ret (.tuple [])) ⟨[.cells t [.ptr 0 0,.sl 0 e (Zg (l++Zi bt (xs.map txt)))],.cells tp [.ptr 0 0]],[0],1⟩
 | _,_=>False
def ZDi (s:Bs):Zm:=ZiY (.tuple [.d (.int .i64 s.length),.d .nili]) fun rest txt=>rest=[.d (.str s)]/\txt=s
def ZgT:Zm:=fun args σ K=>match args with
 | [.ptr 0 0,.d (.str s)]=>ZDi s args σ K
 | _=>False
def Znc:ZL ZgT:=fun args σ K K' hK h=>by
 unfold ZgT at h |-
 split at h
 ·exact ZaD _ _ _ _ _ _ hK h
 exact h.elim
def ZAI:Tbl:=[(201,UB)]
def Zp2:PC w0 nG 144 ZgT:=by
 refine pwt (tbl:=ZAI) ⟨ZgR,trivial⟩ Tryz.func144 fun args σ K h=>?_
 unfold ZgT at h
 split at h
 ·rename_i s
  unfold ZDi ZiY at h
  split at h
  ·rename_i rest t p e rows af
   obtain ⟨l,txt,rfl,⟨hp,rfl,rfl⟩,⟨au,rfl⟩,aa,h⟩:=h;simp only [List.cons.injEq,true_and] at af;have hb:∀x:Bs,(Zg x).length=x.length:=fun x=>by simp [Zg]
   rw [Wj] at h;refine pwu [] 1 true ?_;rcases hp with rfl | rfl
   all_goals
    conv=>whnf
    first | refine ⟨⟨.inl rfl,rfl⟩,?_⟩ | refine ⟨⟨.inr rfl,rfl⟩,?_⟩
    conv=>whnf
    refine ⟨fun r hr=>?_,?_,?_,?_⟩
    ·obtain ⟨b,_,rfl⟩:=Ss.1 hr;rfl
    ·show ((Zg l).length+(Zg txt).length) * 1<=2 ^ 47;rw [hb,hb];omega
    ·show (Zg l).length+(Zg txt).length<=2 ^ 47;rw [hb,hb];omega
    exact mq51
  exact h.elim
 exact h.elim
def ZeC:Zm:=ZiY (.tuple []) fun rest txt=>∃ps:List Bs,rest=[.d (.sl (ps.map Ym))]/\ps≠[]/\ps.length<=1073741824/\txt=ps.flatten
def Znd:ZL ZeC:=ZaD _ _
def Zp3:Tbl:=[(144,ZgT)]
def Zit:TO w0 nG Zp3:=⟨Zp2,trivial⟩
def ZaE:PC w0 nG 81 ZeC:=by
 refine pwt (tbl:=Zp3) Zit Tryz.func81 fun args σ K h=>?_
 unfold ZeC ZiY at h
 split at h
 ·rename_i rest t p e rows
  obtain ⟨l,txt,rfl,⟨hp,rfl,rfl⟩,⟨ps,rfl,ai,ff,rfl⟩,aa,h⟩:=h;have cg:(ps.map Ym).length=ps.length:=Te ..;refine pwu [(1,⟨[8],[0,6,7],fun vs σ=>∃(i:Nat) (P:PV),vs=[.d (.int .i64 i)]/\σ=⟨[.cells 119 [P,.sl 0 5 (Zg (l++(ps.take i).flatten))]],[0],1⟩/\(P=.d .nilp\/P=.ptr 0 0)/\(0<i->P=.ptr 0 0)/\i<=ps.length,mu1 ps.length⟩)] 1 true ?_;rcases hp with rfl | rfl
  all_goals
   conv=>whnf
   refine ⟨⟨0,_,rfl,(by simp only [T8,List.flatten_nil,T2];rfl),iM,fun g=>absurd g oM,oM⟩,?_⟩;intro vs σ hI
   obtain ⟨i,P,rfl,rfl,hP,hP0,hi⟩:=hI;(conv=>whnf);refine ZEw (fun ac=>?_) (fun ac=>?_)
   ·have ac:i<ps.length:=lzI cg ac;obtain ⟨s,hs⟩:∃s,ps[i]=s:=⟨_,rfl⟩
    have cn:(ps.map Ym)[((i:Nat):Int).toNat]?=some (Ym s):=by simp [ac,hs]
    have cu:(ps.take (i+1)).flatten=(ps.take i).flatten++s:=by rw [List.take_succ_eq_append_getElem ac,List.flatten_append,hs];simp
    have ar:(ps.take (i+1)).flatten.length<=ps.flatten.length:=by
     have e:ps.flatten=(ps.take (i+1)).flatten++(ps.drop (i+1)).flatten:=by rw [<- List.flatten_append,List.take_append_drop]
     rw [e,Ta];omega
    rw [cu,Ta] at ar;rcases hP with rfl | rfl
    all_goals
     conv=>whnf
     refine ⟨_,oM,cn,wN ?_⟩;refine ⟨l++(ps.take i).flatten,s,rfl,⟨iM,rfl,rfl⟩,⟨rfl,rfl⟩,by rw [Ta];omega,?_⟩;(conv=>whnf);refine Zj ?_;refine ⟨⟨i+1,_,rfl,(by rw [cu,Tn];rfl),.inr rfl,fun _=>rfl,oM⟩,?_⟩;exact lzM oM
   have ac:i=ps.length:=lzE cg oM ac;subst ac;obtain rfl:=hP0 (List.length_pos_iff.2 ai);rw [T6];exact mq51
 exact h.elim
def Zd0 (bt:Bs):∀(l:List Bs) (x:Bs),Zi bt (l++[x])=if l=[] then x else Zi bt l++(bt++x)
 | [],x=>rfl
 | [y],x=>by simp [Zi]
 | y::z::l,x=>by
  have ih:=Zd0 bt (z::l) x;simp only [Sb] at ih |-;rw [Zi,ih] <;> simp [Zi]
def VW {α:Type} (bt:Bs) (f:α->Bs) {xs:List α} {i:Nat} (h:i<xs.length):Zi bt ((xs.take (i+1)).map f)=if i=0 then f xs[i] else Zi bt ((xs.take i).map f)++(bt++f xs[i]):=by
 rw [List.take_succ_eq_append_getElem h,TP,TD,TM,Zd0];have e:((xs.take i).map f=[])↔i=0:=by
  rw [<- Sr,Te,Si];omega
 by_cases h0:i=0
 ·rw [Th (e.2 h0),Th h0]
 rw [Tf (fun g=>h0 (e.1 g)),Tf h0]
def ZaF (bt:Bs):∀(l m:List Bs),(Zi bt l).length<=(Zi bt (l++m)).length
 | [],m=>Se _
 | [x],[]=>Tz _
 | [x],y::m=>by simp only [Sb,Sh,Zi,Ta];omega
 | x::y::l,m=>by
  have ih:=ZaF bt (y::l) m;simp only [Sb,Zi,Ta] at ih |-;omega
def ZaG {α:Type} (bt:Bs) (f:α->Bs) (xs:List α) (i:Nat):(Zi bt ((xs.take i).map f)).length<=(Zi bt (xs.map f)).length:=by
 have h:=ZaF bt ((xs.take i).map f) ((xs.drop i).map f)
 rwa [<- TP,List.take_append_drop] at h
def ZxQ {n:Nat}:OKw w0 nG [(144,ZgT),(146,ZgS (YI (fun _=>Zn)) YP fiT wFi n)] 145 (Zp1 146 (fun _=>Zn) YP fiT wFi n):=by
 refine pwo Tryz.func145 fun args σ K h=>?_
 unfold Zp1 at h
 split at h
 ·rename_i r bt g t e rows tp
  obtain ⟨l,pl,xs,rfl,rfl,⟨rfl,rfl,rfl⟩,⟨bo,hz,hn⟩,aa,h⟩:=h;have cg:(xs.map ((fun _=>Zn) pl)).length=xs.length:=Te ..;have hsz:=ZA wFi xs;refine pwv [(1,⟨[12],[0,1,2,3,10,11],fun vs σ=>∃i:Nat,vs=[.d (.int .i64 i)]/\σ=⟨[.cells 119 [.ptr 0 0,.sl 0 5 (Zg (l++Zi bt ((xs.take i).map fiT)))],.cells tp [.ptr 0 0]],[0],1⟩/\i<=xs.length,mu1 xs.length⟩)] 2 true ?_;refine ⟨⟨0,rfl,(by simp only [T8,TM,Zi,T2];rfl),oM⟩,?_⟩;intro vs σ hI
  obtain ⟨i,rfl,rfl,hi⟩:=hI;(conv=>whnf);refine ZEw (fun ac=>wN ?_) (fun ac=>?_)
  ·have ac:i<xs.length:=lzI cg ac;have hg:=ZE wFi xs i ac;have ji:YP xs[i]=true:=Tq.1 bo _ (TE ac);have cu:=VW bt fiT ac;have ar:=ZaG bt fiT xs (i+1);obtain ⟨eA,hA⟩:∃x,xs[i]=x:=⟨_,rfl⟩
   obtain ⟨a1,a2⟩:=eA;rw [hA] at hg ji cu;have cn:(xs.map ((fun _=>Zn) pl))[((i:Nat):Int).toNat]?=some ((fun _=>Zn) pl ⟨a1,a2⟩):=by simp [ac,hA]
   refine ⟨_,oM,cn,wN ?_⟩;refine ZEw (fun h0=>wN ?_) (fun h0=>?_)
   ·have h0:0<i:=by omega
    rw [Tf oM] at cu;rw [cu] at ar;simp only [Ta] at ar;refine wk _ bt ⟨rfl,rfl⟩ (wN ?_);refine ⟨l++Zi bt ((xs.take i).map fiT)++bt,pl,⟨a1,a2⟩,rfl,rfl,⟨rfl,rfl⟩,⟨ji,oM,oM⟩,by simp only [Ta];omega,wN ?_⟩;exact mq71
   obtain rfl:i=0:=by omega
   rw [Th rfl] at cu;rw [cu] at ar;(conv=>whnf);refine ⟨l++Zi bt ((xs.take 0).map fiT),pl,⟨a1,a2⟩,rfl,rfl,⟨rfl,rfl⟩,⟨ji,oM,oM⟩,by simp only [T8,TM,Zi,Ta,Tg];omega,wN ?_⟩;exact mq66
  exact mq183
 exact h.elim
def ZxS {n:Nat}:OKw w0 nG [(144,ZgT),(84,ZgS (YI (fun _=>Zt)) Xo caT wCa n)] 83 (Zp1 84 (fun _=>Zt) Xo caT wCa n):=by
 refine pwo Tryz.func83 fun args σ K h=>?_
 unfold Zp1 at h
 split at h
 ·rename_i r bt g t e rows tp
  obtain ⟨l,pl,xs,rfl,rfl,⟨rfl,rfl,rfl⟩,⟨bo,hz,hn⟩,aa,h⟩:=h;have cg:(xs.map ((fun _=>Zt) pl)).length=xs.length:=Te ..;have hsz:=ZA wCa xs;refine pwv [(1,⟨[12],[0,1,2,3,10,11],fun vs σ=>∃i:Nat,vs=[.d (.int .i64 i)]/\σ=⟨[.cells 119 [.ptr 0 0,.sl 0 5 (Zg (l++Zi bt ((xs.take i).map caT)))],.cells tp [.ptr 0 0]],[0],1⟩/\i<=xs.length,mu1 xs.length⟩)] 2 true ?_;refine ⟨⟨0,rfl,(by simp only [T8,TM,Zi,T2];rfl),oM⟩,?_⟩;intro vs σ hI
  obtain ⟨i,rfl,rfl,hi⟩:=hI;(conv=>whnf);refine ZEw (fun ac=>wN ?_) (fun ac=>?_)
  ·have ac:i<xs.length:=lzI cg ac;have hg:=ZE wCa xs i ac;have ji:Xo xs[i]=true:=Tq.1 bo _ (TE ac);have cu:=VW bt caT ac;have ar:=ZaG bt caT xs (i+1);obtain ⟨eA,hA⟩:∃x,xs[i]=x:=⟨_,rfl⟩
   obtain ⟨a1,a2⟩:=eA;rw [hA] at hg ji cu;have cn:(xs.map ((fun _=>Zt) pl))[((i:Nat):Int).toNat]?=some ((fun _=>Zt) pl ⟨a1,a2⟩):=by simp [ac,hA]
   refine ⟨_,oM,cn,wN ?_⟩;refine ZEw (fun h0=>wN ?_) (fun h0=>?_)
   ·have h0:0<i:=by omega
    rw [Tf oM] at cu;rw [cu] at ar;simp only [Ta] at ar;refine wk _ bt ⟨rfl,rfl⟩ (wN ?_);refine ⟨l++Zi bt ((xs.take i).map caT)++bt,pl,⟨a1,a2⟩,rfl,rfl,⟨rfl,rfl⟩,⟨ji,oM,oM⟩,by simp only [Ta];omega,wN ?_⟩;exact mq71
   obtain rfl:i=0:=by omega
   rw [Th rfl] at cu;rw [cu] at ar;(conv=>whnf);refine ⟨l++Zi bt ((xs.take 0).map caT),pl,⟨a1,a2⟩,rfl,rfl,⟨rfl,rfl⟩,⟨ji,oM,oM⟩,by simp only [T8,TM,Zi,Ta,Tg];omega,wN ?_⟩;exact mq66
  exact mq183
 exact h.elim
def ZCy:Tab:=(.node (.node (.node (.node .leaf 3 ⟨1,8,.int .i64,[.d (.int .i64 (0))],true⟩ .leaf) 4 ⟨1,1,.bool,[.d (.bool false)],false⟩ .leaf) 5 ⟨1,1,.int .u8,[.d (.int .u8 (0))],true⟩ (.node .leaf 9 ⟨1,16,.string,[.d (.str [])],false⟩ .leaf)) 84 ⟨1,24,.slice 5,[.nils 5],false⟩ (.node (.node .leaf 147 ⟨1,8,.int .u64,[.d (.int .u64 (0))],true⟩ .leaf) 208 ⟨1,8,.int .u64,[.d (.int .u64 (0))],true⟩ (.node .leaf 352 ⟨65,65,.array 65 5,[.d (.int .u8 (0)),.d (.int .u8 (0)),.d (.int .u8 (0)),.d (.int .u8 (0)),.d (.int .u8 (0)),.d (.int .u8 (0)),.d (.int .u8 (0)),.d (.int .u8 (0)),.d (.int .u8 (0)),.d (.int .u8 (0)),.d (.int .u8 (0)),.d (.int .u8 (0)),.d (.int .u8 (0)),.d (.int .u8 (0)),.d (.int .u8 (0)),.d (.int .u8 (0)),.d (.int .u8 (0)),.d (.int .u8 (0)),.d (.int .u8 (0)),.d (.int .u8 (0)),.d (.int .u8 (0)),.d (.int .u8 (0)),.d (.int .u8 (0)),.d (.int .u8 (0)),.d (.int .u8 (0)),.d (.int .u8 (0)),.d (.int .u8 (0)),.d (.int .u8 (0)),.d (.int .u8 (0)),.d (.int .u8 (0)),.d (.int .u8 (0)),.d (.int .u8 (0)),.d (.int .u8 (0)),.d (.int .u8 (0)),.d (.int .u8 (0)),.d (.int .u8 (0)),.d (.int .u8 (0)),.d (.int .u8 (0)),.d (.int .u8 (0)),.d (.int .u8 (0)),.d (.int .u8 (0)),.d (.int .u8 (0)),.d (.int .u8 (0)),.d (.int .u8 (0)),.d (.int .u8 (0)),.d (.int .u8 (0)),.d (.int .u8 (0)),.d (.int .u8 (0)),.d (.int .u8 (0)),.d (.int .u8 (0)),.d (.int .u8 (0)),.d (.int .u8 (0)),.d (.int .u8 (0)),.d (.int .u8 (0)),.d (.int .u8 (0)),.d (.int .u8 (0)),.d (.int .u8 (0)),.d (.int .u8 (0)),.d (.int .u8 (0)),.d (.int .u8 (0)),.d (.int .u8 (0)),.d (.int .u8 (0)),.d (.int .u8 (0)),.d (.int .u8 (0)),.d (.int .u8 (0))],false⟩ .leaf)))
def Zs9:TabOK ZCy Tryz.prog:=by unfold TabOK;kernel_rfl
end Go.PM.Lex
end

section
namespace Go.PM.Lex
open Go.Proofs Go.Shelf Go.RowKit
variable {w0:World} {nG:Nat}
structure NumOK (w0:World) (nG:Nat):Prop where
 big:7<nG
 pow : Lib.TabIs Tryz.prog w0 "internal/strconv.uint64pow10" .u64 Lib.pow10Tab
 bru:w0.cell? ⟨5,15,none⟩=some (.int .u8 4)
def ZAJ:IntKind.u64.wrap (bits BinOp.and IntKind.u64 (16:Int) (IntKind.u64.wrap (-(16:Int))) * 285870213051353865) / 288230376151711744=(15:Int):=by decide +kernel
def ZxT (w:World) (ay:w.cell? ⟨5,15,none⟩=some (.int .u8 4)):Calls Tryz.prog 312 #[.int .u64 16] w fun e w'=>e=.returned (.int .i64 4)/\w'=w:=by
 go_enter Tryz.func312,Tryz.ntmps312
 go_wp2_with (simp only [ZAJ])
 go_ret
 exact ⟨rfl,rfl⟩
def Zb5:∀(f n:Nat),n<f->Lib.decDigits n=JL 10 f n
 | 0,n,h=>oM
 | f+1,n,h=>by
  rw [Lib.decDigits,JL]
  by_cases c:n<10
  ·rw [dif_pos c,Th c,ZiV,Th c]
  rw [dif_neg c,Tf c,Zb5 f (n / 10) oM,ZiV,Th oM]
def Zp4 {n:Int} (h:0<=n):Lib.itoa n=Zfq n:=by
 rw [Lib.itoa,Tf oM,Zfq,Tf oM,Vp];exact Zb5 _ _ oM
def Zta {e:Env} {σ:St} {w:World} {name:String} {k:IntKind} {zs:List Int} {g:Nat} (hS:SRel (GG w0 nG) e σ w) (h:Lib.TabIs Tryz.prog w0 name k zs) (hg:Tryz.prog.globalNamed name=some g) (ab:g<nG):Lib.TabIs Tryz.prog w name k zs:=by
 unfold Lib.TabIs World.var? at h |-
 rw [hg] at h |-;simp only [Option.bind_some] at h |-;rw [hS.glob g ab];exact h
def ZxU {e:Env} {σ:St} {w:World} {k i:Nat} {u:Value} (hS:SRel (GG w0 nG) e σ w) (hk:k<nG) (h:w0.cell? ⟨k,i,none⟩=some u):w.cell? ⟨k,i,none⟩=some u:=by
 have:=hS.glob k hk;simpa [World.cell?,this] using h
def Ziu:Zm:=fun args σ K=>match args,σ with
 | [.d (.int .i64 n),.d (.int .i64 b)],⟨[],[],0⟩=>(b=10/\0<=n/\n<9223372036854775808)/\K (.ret (.d (.str (Zfq n)))) ⟨[],[],0⟩
 | _,_=>False
def Zj4:ZL Ziu:=fun args σ K K' hK h=>by
 unfold Ziu at h |-;split at h <;> first | exact ⟨h.1,hK _ _ h.2⟩ | exact h.elim
def Zp5 (hN:NumOK w0 nG):PC w0 nG 240 Ziu:=YN (Zl Tryz.func240 kR rfl) fun args σ K h e w vs hS ha=>by
 unfold Ziu at h
 split at h
 ·rename_i n b
  obtain ⟨⟨rfl,h0,h1⟩,h⟩:=h;obtain ⟨u,v,rfl,hu,hv⟩:=ZjB ha
  cases hu.dint;cases hv.dint
  have ht:=Zta hS hN.pow (g:=3) kR (by have:=hN.big;omega);have hc:=Tryz.strconv_FormatInt_10 n oM oM w ht;rw [Zp4 h0] at hc;exact ⟨_,h,_,fun _ _=>.mkstr,hc.mono fun en w' ⟨h1,k,os,h2⟩=>⟨h1,ZEC (by rw [h2];exact Lib.below_grow w.heap.size w (Tz _) k os)⟩⟩
 exact h.elim
def Zy8:Zm:=fun args σ K=>match args,σ with
 | [.d (.int .u64 n)],⟨[],[],0⟩=>n=16/\K (.ret (.d (.int .i64 4))) ⟨[],[],0⟩
 | _,_=>False
def ZxV (hN:NumOK w0 nG):PC w0 nG 312 Zy8:=YN (Zl Tryz.func312 kR rfl) fun args σ K h e w vs hS ha=>by
 unfold Zy8 at h
 split at h
 ·rename_i n
  obtain ⟨rfl,h⟩:=h;obtain ⟨u,rfl,hu⟩:=Zgy ha
  cases hu.dint
  exact ⟨_,h,_,fun _ _=>.d _ _ (.int _ _),(ZxT w (ZxU hS (k:=5) (by have:=hN.big;omega) hN.bru)).mono fun en w' ⟨h1,h2⟩=>⟨h1,by rw [h2];exact Grows.refl _⟩⟩
 exact h.elim
def ZCz:Tbl:=[(312,Zy8)]
def ZCA (hN:NumOK w0 nG):PC w0 nG 302 Zy8:=by
 refine pwt (tbl:=ZCz) ⟨ZxV hN,trivial⟩ Tryz.func302 fun args σ K h=>?_
 unfold Zy8 at h
 split at h
 ·obtain ⟨rfl,h⟩:=h;refine pwv [] 0 false ?_;refine ⟨rfl,wN ?_⟩;exact h
 exact h.elim
def ZxW:Zm:=fun args σ K=>match args,σ with
 | [.d (.int .i64 n)],⟨[],[],0⟩=>n=16/\K (.ret (.d (.bool true))) ⟨[],[],0⟩
 | _,_=>False
def ZxX:Zh .and .i64 16 15=0:=by rw [Yb];decide +kernel
def ZAK:PC w0 nG 301 ZxW:=by
 refine pwe Tryz.func301 fun args σ K h=>?_
 unfold ZxW at h
 split at h
 ·obtain ⟨rfl,h⟩:=h;refine pwv [] 0 false ?_;refine Zj ?_;have e:(Zh .and .i64 16 (16 - 1))=0:=ZxX;rw [e];exact h
 exact h.elim
def Ztb {n:Nat} (h:16<=n):Vp 16 n=Vp 16 (n / 16)++[ZiV (n % 16)]:=by
 have key:∀(f g m:Nat),m<f->m<g->JL 16 f m=JL 16 g m:=by
  intro f
  induction f with
  | zero=>intro g m h;omega
  | succ f ih =>
  intro g m h1 h2
  obtain ⟨g,rfl⟩:∃k,g=k+1:=⟨g - 1,oM⟩
  rw [JL,JL];split
  ·rfl
  rw [ih g (m / 16) oM oM]
 rw [Vp,JL,Tf oM,Vp,key n (n / 16+1) (n / 16) oM oM]
def Ztc {n:Nat} (h:n<16):Vp 16 n=[ZiV n]:=by rw [Vp,JL,Th h]
def digs36:Bs:=[48,49,50,51,52,53,54,55,56,57,97,98,99,100,101,102,103,104,105,106,107,108,109,110,111,112,113,114,115,116,117,118,119,120,121,122]
def Zp6:∀d:Fin 16,digs36.getD d.val 0=ZiV d.val:=by decide +kernel
def ZxY {u:Nat} (h:u<18446744073709551616):Zh .and .u64 (u:Int) 15=((u % 16:Nat):Int):=by
 have e:Zh .and .u64 (u:Int) 15=bits .and .u64 (u:Int) ((15:Nat):Int):=by rw [Yb];rfl
 rw [e,bits_and_u64_nat u 15 h dM];have:u &&& 15=u % 16:=Nat.and_two_pow_sub_one_eq_mod u 4;rw [this]
def sh4 (n:Int):Int:=n.fdiv (2 ^ (min (Int.toNat 4) (IntKind.bits .u64)))
def ZxZ (u:Nat):sh4 (u:Int)=((u / 16:Nat):Int):=by
 show (u:Int).fdiv ((2:Int) ^ 4)=_;rw [show ((2:Int) ^ 4)=((16:Nat):Int) by decide,Int.fdiv_eq_ediv_of_nonneg _ dM];omega
def Ztd {u:Nat} (h:u<18446744073709551616):digs36.getD (Zh .and .u64 (u:Int) 15).toNat 0=ZiV (u % 16):=by
 rw [ZxY h,Ti];exact Zp6 ⟨u % 16,Nat.mod_lt _ dM⟩
def Zte {u:Nat} (h:u<16):digs36.getD (u:Int).toNat 0=ZiV u:=by
 rw [Ti];exact Zp6 ⟨u,h⟩
def Ztf {u:Nat} (h:u<18446744073709551616):0<=Zh .and .u64 (u:Int) 15:=by rw [ZxY h];omega
def Ztg {u:Nat} (h:u<18446744073709551616):Zh .and .u64 (u:Int) 15<36:=by rw [ZxY h];omega
def shN:Nat->Int->Int
 | 0,n=>n
 | j+1,n=>sh4 (shN j n)
def ZAL:Nat->Int->Bs
 | 0,_=>[]
 | j+1,n=>digs36.getD (Zh .and .u64 (shN j n) 15).toNat 0::ZAL j n
def ZbA (u:Nat):∀j,shN j (u:Int)=((u / 16 ^ j:Nat):Int)
 | 0=>by rw [shN,Nat.pow_zero,Nat.div_one]
 | j+1=>by rw [shN,ZbA u j,ZxZ,Nat.div_div_eq_div_mul,Nat.pow_succ]
def Zp7 {u:Nat} (hu:u<18446744073709551616) (j:Nat):u / 16 ^ j<18446744073709551616:=Nat.lt_of_le_of_lt (Nat.div_le_self _ _) hu
def ZDj {u:Nat} (hu:u<18446744073709551616):∀j,(∀k,k<j->16<=u / 16 ^ k)->Vp 16 u=Vp 16 (u / 16 ^ j)++ZAL j (u:Int)
 | 0,_=>by rw [ZAL,Nat.pow_zero,Nat.div_one,T2]
 | j+1,h=>by
  rw [ZDj hu j fun k hk=>h k oM,Ztb (h j oM),ZAL,ZbA,Ztd (Zp7 hu j),Tn,Nat.div_div_eq_div_mul,Nat.pow_succ];rfl
def ZDk {u j:Nat} (G:∀k,k<j->16<=u / 16 ^ k) (g:(16:Int)<=shN j (u:Int)):∀k,k<j+1->16<=u / 16 ^ k:=fun k hk=>by
 rw [ZbA] at g
 by_cases c:k=j
 ·subst c;omega
 exact G k oM
def ZDl {u j:Nat} (hu:u<18446744073709551616) (G:∀k,k<j->16<=u / 16 ^ k) (g:¬(16:Int)<=shN j (u:Int)):Vp 16 u=digs36.getD (shN j (u:Int)).toNat 0::ZAL j (u:Int):=by
 rw [ZbA] at g |-;rw [ZDj hu j G,Ztc oM,Zte oM];rfl
def ZDJ {u j:Nat} (hu:u<18446744073709551616) (G:∀k,k<j->16<=u / 16 ^ k):0<=Zh .and .u64 (shN j (u:Int)) 15/\Zh .and .u64 (shN j (u:Int)) 15<36:=by
 rw [ZbA];exact ⟨Ztf (Zp7 hu j),Ztg (Zp7 hu j)⟩
def ZDm {u j:Nat} (G:∀k,k<j->16<=u / 16 ^ k) (g:¬(16:Int)<=shN j (u:Int)):0<=shN j (u:Int)/\shN j (u:Int)<36:=by
 rw [ZbA] at g |-;generalize u / 16 ^ j=v at g |-;omega
def ZCB:Zm:=fun args σ K=>match args,σ with
 | [.sl 0 e [],.d (.int .u64 n),.d (.int .i64 b),.d (.bool ng),.d (.bool ap)],⟨[],[0],1⟩=>(b=16/\ng=false/\ap=false/\0<=n/\n<18446744073709551616)/\K (.ret (.tuple [.d (.sl []),.d (.str (Vp 16 n.toNat))])) ⟨[],[],0⟩
 | _,_=>False
def ZCC:Tbl:=[(301,ZxW),(302,Zy8)]
def ZCD (hN:NumOK w0 nG):PC w0 nG 288 ZCB:=by
 refine Zbc Zs9 mixed (tbl:=ZCC) ⟨ZAK,ZCA hN,trivial⟩ Tryz.func288 rfl kR kR ?_;intro args σ K h
 unfold ZCB at h
 split at h
 all_goals first | exact h.elim | skip
 all_goals
  obtain ⟨⟨rfl,rfl,rfl,h0,h1⟩,h⟩:=h
  rename_i e n
  obtain ⟨u0,rfl⟩:∃u:Nat,n=u:=⟨n.toNat,oM⟩
  rw [Ti] at h;have yx:u0<18446744073709551616:=oM;refine ⟨Zk [],Ye [(11,17)],ZB [],ZB [101],ZB [],0,false,sM,Tc rfl,wN ?_⟩;refine ⟨rfl,wN ?_⟩;refine J0 ?_;refine ⟨rfl,wN ?_⟩;refine J0 ?_;refine J0 ?_;refine J0 ?_;refine J0 ?_;have G:∀k,k<0->16<=u0 / 16 ^ k:=fun k hk=>oM
  iterate 15
   refine ZEw (fun g=>?_) (fun g=>?_);rotate_left
   ·have hb:=ZDl yx G g;have B:=ZDm G g;rw [hb] at h;(conv=>whnf);exact mq186
   have B:=ZDJ yx G;have G:=ZDk G g;(conv=>whnf);refine Vd ?_;refine ⟨B.1,B.2,wN ?_⟩;refine ⟨dM,dM,wN ?_⟩;refine ⟨dM,wN ?_⟩
  refine ZEw (fun g=>?_) (fun g=>wN ?_)
  ·exact absurd (ZDk G g 15 dM) oM
  have hb:=ZDl yx G g;have B:=ZDm G g;rw [hb] at h;exact mq186
def Zb6:Zm:=fun args σ K=>match args,σ with
 | [.d (.int .u64 n),.d (.int .i64 b)],⟨[],[],0⟩=>(b=16/\0<=n/\n<18446744073709551616)/\K (.ret (.d (.str (Vp 16 n.toNat)))) ⟨[],[],0⟩
 | _,_=>False
def Zj5:ZL Zb6:=fun args σ K K' hK h=>by
 unfold Zb6 at h |-;split at h <;> first | exact ⟨h.1,hK _ _ h.2⟩ | exact h.elim
def ZCE:Tbl:=[(288,ZCB)]
def ZCF (hN:NumOK w0 nG):PC w0 nG 270 Zb6:=by
 refine pwt (tbl:=ZCE) ⟨ZCD hN,trivial⟩ Tryz.func270 fun args σ K h=>?_
 unfold Zb6 at h
 split at h
 ·obtain ⟨⟨rfl,h0,h1⟩,h⟩:=h;refine pwv [] 0 false ?_;refine ⟨⟨rfl,rfl,rfl,h0,h1⟩,wN ?_⟩;exact h
 exact h.elim
def Zx0:Tbl:=[(270,Zb6)]
def Zp8 (hN:NumOK w0 nG):PC w0 nG 239 Zb6:=by
 refine pwt (tbl:=Zx0) ⟨ZCF hN,trivial⟩ Tryz.func239 fun args σ K h=>?_
 unfold Zb6 at h
 split at h
 ·rename_i n b
  obtain ⟨⟨rfl,h0,h1⟩,h⟩:=h;refine pwv [] 0 false ?_;refine ⟨⟨rfl,h0,h1⟩,?_⟩;generalize Vp 16 n.toNat=T at h |-;exact mq51
 exact h.elim
def ZlG {n:Int} (h:n<0) (h0:-9223372036854775808<=n):0<=IntKind.u64.wrap n/\IntKind.u64.wrap n<18446744073709551616/\Zfq n=[48,120]++Vp 16 (IntKind.u64.wrap n).toNat:=by
 have e:IntKind.u64.wrap n=n+18446744073709551616:=by
  unfold IntKind.wrap
  simp [IntKind.signed,IntKind.bits];omega
 refine ⟨oM,oM,?_⟩;rw [Zfq,Th h,e]
end Go.PM.Lex
end

section
namespace Go.PM.Lex
def ZDn (n:Int):Bool:=decide (-9223372036854775808<=n) && decide (n<9223372036854775808)
mutual
def Zp9:Ex->Bool
 | .mk _ _ n l _=>ZDn n && Zj6 l
def Zj6:List Ex->Bool
 | []=>true
 | x::l=>Zp9 x && Zj6 l
end
def ZcD (l:List Ex):Zj6 l=l.all Zp9:=by induction l with | nil=>rfl | cons x l ih=>simp [Zj6,ih]
def Zd1 {op:Nat} {t:Bs} {n:Int} {l:List Ex} {a:Nat} (h:Zp9 (.mk op t n l a)=true):(-9223372036854775808<=n/\n<9223372036854775808)/\∀x∈l,Zp9 x=true:=by
 simp only [Zp9,ZcD,ZDn,Tm,TQ] at h;exact ⟨h.1,Tq.1 h.2⟩
mutual
def ZuB:Li->Bool
 | .mk _ _ args body _=>Zj6 args && Zne body
def Zne:List Li->Bool
 | []=>true
 | x::l=>ZuB x && Zne l
end
def ZgU (l:List Li):Zne l=l.all ZuB:=by induction l with | nil=>rfl | cons x l ih=>simp [Zne,ih]
def Zqa {op:Nat} {rel:Bs} {args:List Ex} {body:List Li} {a:Nat} (h:ZuB (.mk op rel args body a)=true):(∀x∈args,Zp9 x=true)/\∀x∈body,ZuB x=true:=by
 simp only [ZuB,ZcD,ZgU,Tm] at h;exact ⟨Tq.1 h.1,Tq.1 h.2⟩
def Zqb (r:Ru):Bool:=r.args.all Zp9 && r.body.all ZuB
mutual
def ZuC:Un->Bool
 | .mk _ _ rules comps _ _=>rules.all Zqb && ZfB comps
def Zqc:Co->Bool
 | .mk _ _ _ _ u _=>ZuC u
def ZfB:List Co->Bool
 | []=>true
 | c::l=>Zqc c && ZfB l
end
def Zqd (l:List Co):ZfB l=l.all Zqc:=by induction l with | nil=>rfl | cons x l ih=>simp [ZfB,ih]
open Go.Proofs
variable {w0:World} {nG:Nat}
def Zj7 (e:Ex):Bool:=Yj e && Zp9 e
def Zx1 {op:Nat} {t:Bs} {n:Int} {l:List Ex} {a:Nat} (h:Zj7 (.mk op t n l a)=true):-2<V8 op/\(V8 op<0\/(l.length:Int)=V8 op)/\V9 op t=true/\(-9223372036854775808<=n/\n<9223372036854775808)/\l.all Zj7=true:=by
 simp only [Zj7,Tm] at h;obtain ⟨h1,h2⟩:=h;obtain ⟨r1,r2⟩:=Zd1 h2;simp only [Yj,Zx,Tm,Sm,TQ] at h1;obtain ⟨h1,h3,h4,h5,h6⟩:=h1;refine ⟨h1,h3,h5,r1,?_⟩;rw [Tq] at h6 |-;exact fun x hx=>by rw [Zj7,h6 x hx,r2 x hx];rfl
def Zth {op:Nat} (h:-2<V8 op):op<26:=by
 by_cases hc:op<26
 ·exact hc
 unfold V8 at h
 (repeat rw [Tf oM] at h)
 omega
def Zx2 {op:Nat} (h:-2<V8 op):(ZY op<5->V8 op=2)/\(ZY op=5->V8 op=1)/\ZY op<=6/\(op=5->V8 op=0):=by
 have hk:∀o:Fin 26,-2<V8 o.val->(ZY o.val<5->V8 o.val=2)/\(ZY o.val=5->V8 o.val=1)/\ZY o.val<=6/\(o.val=5->V8 o.val=0):=dM;exact hk ⟨op,Zth h⟩ h
def Zti (n:Nat):Zm:=ZiY (.tuple []) fun rest txt=>∃pl e want,rest=[YI ZW pl e,.d (.int .i64 want)]/\(Zj7 e=true/\wE e<=n/\n<=1073741824/\0<=want/\want<=6)/\txt=exW want.toNat e
def Zqe (n:Nat):ZL (Zti n):=ZaD _ _
def Ztj (n:Nat):Zm:=ZiY (.tuple []) fun rest txt=>∃fr fin pl xs,rest=[.d (.str fr),.d (.sl (Zp pl xs)),.d (.str fin)]/\(xs.all Zj7=true/\szS wE xs<=n/\n<=1073741824)/\txt=Wm fr fin xs
def Zqf (n:Nat):ZL (Ztj n):=ZaD _ _
def Vv (e:Ex):exW 0 e=exT e:=by rw [exW,Zsg,Tf sM]
def ZAN {n:Nat}:OKw w0 nG [(205,Zti n)] 204 (ZgS (YI ZW) Zj7 exT wE n):=by
 refine pwo Tryz.func204 fun args σ K h=>?_
 unfold ZgS at h
 split at h
 ·obtain ⟨l,pl,⟨op,tx,nn,xs,at'⟩,rfl,rfl,⟨rfl,rfl⟩,⟨bo,hz,hn⟩,aa,h⟩:=h;refine pwv [] 2 true ?_;refine ⟨l,exT (.mk op tx nn xs at'),rfl,⟨.inr rfl,rfl,rfl⟩,⟨pl,.mk op tx nn xs at',0,rfl,⟨bo,hz,hn,oM,oM⟩,(Vv _).symm⟩,aa,wN ?_⟩;exact h
 exact h.elim
def ZCH {n:Nat}:OKw w0 nG [(81,ZeC),(203,Zp1 204 ZW Zj7 exT wE n)] 148 (Ztj n):=by
 refine pwo Tryz.func148 fun args σ K h=>?_
 unfold Ztj ZiY at h
 split at h
 ·rename_i rest t p e rows
  obtain ⟨l,txt,rfl,⟨hp,rfl,rfl⟩,⟨fr,fin,pl,xs,rfl,⟨bo,hz,hn⟩,rfl⟩,aa,h⟩:=h;have key:l++Wm fr fin xs=l++fr++Zi cmm (xs.map exT)++fin:=by simp only [Wm,Zzw,Tn]
  rw [key] at h;have aa:l.length+(fr.length+((Zi cmm (xs.map exT)).length+fin.length))<70368744177664:=by have:=aa;simp only [Wm,Zzw,Ta] at this;exact this
  refine pwu [] 1 true ?_;rcases hp with rfl | rfl
  all_goals
   conv=>whnf
   refine wk _ fr ⟨[fr],rfl,sM,sM,sM⟩ ?_;(conv=>whnf);refine ⟨l++fr,pl,xs,rfl,Ze pl xs,⟨rfl,rfl,rfl⟩,⟨bo,hz,hn⟩,by rw [Ta];show _+(Zi cmm (xs.map exT)).length<_;omega,wN ?_⟩;refine wk (l++fr++Zi cmm (xs.map exT)) fin ⟨[fin],rfl,sM,sM,sM⟩ (wN ?_);exact h
 exact h.elim
def ZAO:List PV->St->(St->Prop)->Prop:=fun args σ K=>args.length<=Tryz.f81.ntmps/\W (ZrN Zaf Zp3 (Zk []) (Ye [(1,3)]) (fun _=>false)) (Xs Tryz.f81) (ZzB Zaf Tryz.f81 σ.bx.length K) (Zeo 0 args) σ
def ZDK:PDef (GG w0 nG) 81 ZAO (fun _ _ _ _=>False) :=
 ZmO ZC mixed Tryz.func81 rfl kR kR fun args σ K h=>⟨_,σ.bx.length,CxG.of ZC Zit ⟨Znc,trivial⟩ _ _ _,Tz _,h.1,h.2⟩
def ZAP (n:Nat):Tbl:=[(194,Zy7),(81,ZeC),(205,spB Zti n),(148,spB Ztj n),(240,Ziu),(239,Zb6),(195,JJ)]
end Go.PM.Lex
end
