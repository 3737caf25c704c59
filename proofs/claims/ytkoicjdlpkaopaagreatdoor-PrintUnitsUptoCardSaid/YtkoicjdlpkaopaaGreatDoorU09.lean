/- A part of the proof: plain logic, contracts and laws over the given program. -/
import Derived.Lib.MapLaws
import Derived.Test.YtkoicjdlpkaopaaGreatDoorU08
set_option linter.unusedVariables false
set_option linter.unusedSimpArgs false
set_option linter.all false
set_option maxRecDepth 100000
set_option maxHeartbeats 16000000
section
namespace Go.PM.Lex
open Go.Proofs
variable {w0:World} {nG:Nat}
theorem Zd3:PC w0 nG 264 X6:=by
 refine Zd Zb mixed (tbl:=[]) trivial Tryz.func264 rfl kR kR ?_;exact m91
noncomputable def Zpq:Tbl:=[(72,Za3)]
theorem Zbh:PC w0 nG 141 Jx:=by
 refine Zd Zb mixed (tbl:=Zpq) ⟨Zdu,trivial⟩ Tryz.func141 rfl kR kR ?_;intro args σ K h
 unfold Jx qSp at h
 split at h
 ·rename_i t rows a en dp w pl
  obtain ⟨L,S,rfl,ho,h⟩:=h;split at h
  ·obtain ⟨rfl,h⟩:=h;obtain ⟨r1,r2,r3⟩:=ho.rg;refine ⟨Za [],1,false,sM,Ta rfl,wN ?_⟩;refine Or.inl ⟨InR.i64 oM oM,?_⟩;rw [Int.add_zero];(conv=>whnf);refine ZBC (fun hw=>?_) (fun hw=>?_)
   ·obtain ⟨d,ts,rfl,hr,d7,bf⟩:=ho.wz hw;have ab:=hr.len;(conv=>whnf);refine ZBC (fun hc=>wN ?_) (fun hc=>?_)
    ·have hc:a<L.length:=by have hc:a<((Zy L).length:Int):=hc;rw [ZG] at hc;exact hc
     obtain ⟨x,hx,fy,an,j9⟩:=hr.at0 hc;have hv:Zfm (.ok d ts)=(decide (x.kind=1) && (!decide (x.text=[95]) && !Zbn x.text)):=by
      rw [Zfm,Zq,fy];rfl
     refine ⟨_,oM,hx,wN ?_⟩;refine ZBC (fun h1=>wN ?_) (fun h1=>wN ?_)
     ·have h1:x.kind=1:=by have h1:(x.kind:Int)=1:=h1;omega
      refine ⟨_,oM,hx,wN ?_⟩;refine ZBE (fun h2=>wN ?_) (fun h2=>wN ?_)
      ·refine ⟨_,oM,hx,wN ?_⟩;intro b hb
       cases b
       all_goals
        conv=>whnf
        exact h _ (by rw [hv,h1,hb];simpa using h2) _ _ _ _ ho
      have h2:x.text=[95]:=by simpa using h2
      exact h _ (by rw [hv,h2];simp) _ _ _ _ ho
     have h1:¬x.kind=1:=by have h1:¬(x.kind:Int)=1:=h1;omega
     exact h _ (by rw [hv,decide_eq_false h1,TU]) _ _ _ _ ho
    have hc:¬a<L.length:=by have hc:¬a<((Zy L).length:Int):=hc;rw [ZG] at hc;exact hc
    have hn:ts=[]:=TB oM;subst hn;(conv=>whnf);exact h _ rfl _ _ _ _ ho
   exact m160
  exact h.elim
 exact h.elim
noncomputable def ZkM:Tbl:=[(79,XS),(81,VO)]
theorem Zi9:TO w0 nG ZkM:=⟨Xx,VD,trivial⟩
theorem VF:PC w0 nG 205 VQ:=by
 refine Zd Zb mixed (tbl:=ZkM) Zi9 Tryz.func205 rfl kR kR ?_;intro args σ K h
 unfold VQ qSp at h
 split at h
 ·rename_i t rows a en dp w pl
  obtain ⟨L,S,rfl,ho,h⟩:=h;split at h
  ·rename_i wd
   refine ⟨Za [],1,false,sM,Ta rfl,wN ?_⟩;refine ⟨L,S,rfl,ho,0,rfl,oM,fun b hb=>?_⟩;intro a1 dp1 w1 pl1 af
   cases b with
   | false =>
    conv=>whnf
    refine ⟨L,S,rfl,af,150,rfl,oM,?_⟩;intro a2 dp2 w2 pl2 ac
    conv=>whnf
    refine h _ ?_ _ _ _ _ ac
    cases S with
    | ok d ts=>have hb:isW ts [wd]=false:=hb;simp [Yk,Zi8,hb]
    | bad e=>rfl
   | true =>
   cases S with
   | bad e=>cases hb
   | ok d ts =>
   have hb:isW ts [wd]=true:=hb;obtain ⟨rfl,hr,rfl,bf⟩:=af;have hn:=hr.tlq (ZS hb);have q1:=hn.lo;have q2:=hn.hi;have q3:=hn.big;(conv=>whnf);refine Or.inl ⟨InR.i64 oM oM,wN ?_⟩;exact h _ (by simp [Yk,hb]) _ _ _ _ (SOK.mk hn rfl bf)
  exact h.elim
 exact h.elim
noncomputable def ZkN:Tbl:=[(79,XS),(81,VO),(205,VQ)]
theorem Zja:TO w0 nG ZkN:=⟨Xx,VD,VF,trivial⟩
theorem Jy:PC w0 nG 208 Jb:=by
 refine Zd Zb mixed (tbl:=ZkN) Zja Tryz.func208 rfl kR kR ?_;intro args σ K h
 unfold Jb qSp at h
 split at h
 ·rename_i t rows a en dp w pl
  obtain ⟨L,S,rfl,ho,h⟩:=h;split at h
  ·rename_i wd
   refine ⟨Za [],1,false,sM,Ta rfl,wN ?_⟩;refine ⟨L,S,rfl,ho,0,rfl,oM,fun b hb=>?_⟩;intro a1 dp1 w1 pl1 af
   cases b with
   | true =>
    cases S with
    | bad e=>cases hb
    | ok d ts =>
    have bp:isW ts [wd]=true:=hb;obtain ⟨rfl,hr,rfl,bf⟩:=af;(conv=>whnf);refine ZBC (fun hc=>?_) (fun hc=>wN ?_)
    ·have hc:d=0:=by have hc:(64:Int) - d=64:=hc;omega
     subst hc;(conv=>whnf);refine ⟨L,_,rfl,(SOK.mk hr rfl bf),151,rfl,oM,?_⟩;intro a2 dp2 w2 pl2 ac
     conv=>whnf
     exact h _ (by rw [Wh,Tg bp,Tg rfl];rfl) _ _ _ _ ac
    have hc:¬d=0:=by have hc:¬(64:Int) - d=64:=hc;omega
    refine ⟨L,_,rfl,(SOK.mk hr rfl bf),fun S' ey=>?_⟩;intro a2 dp2 w2 pl2 ac
    have ey:SS.ok d ts.tail=S':=by rw [<- ey,Yk,Tg bp]
    subst ey;obtain ⟨rfl,bi,rfl,my⟩:=ac;(conv=>whnf);refine Or.inl ⟨InR.i64 oM oM,wN ?_⟩;exact h _ (by rw [Wh,Tg bp,Tc hc]) _ _ _ _ (SOK.mk bi oM oM)
   | false =>
   conv=>whnf
   refine ⟨L,S,rfl,af,fun S' ey=>?_⟩;intro a2 dp2 w2 pl2 ac
   obtain ⟨e,rfl,ce⟩:∃e,S'=.bad e/\Wh wd S=.bad e:=by
    cases S with
    | ok d ts=>have hb:isW ts [wd]=false:=hb;exact ⟨150,by rw [<- ey];simp [Yk,hb],by simp [Wh,hb]⟩
    | bad e=>exact ⟨e,ey.symm,rfl⟩
   conv=>whnf
   refine Or.inr (wN ?_);exact h _ ce _ _ _ _ ac.stay
  exact h.elim
 exact h.elim
noncomputable def Zrz:Tbl:=[(205,VQ)]
theorem Zbi:PC w0 nG 209 Zar:=by
 refine Zd Zb mixed (tbl:=Zrz) ⟨VF,trivial⟩ Tryz.func209 rfl kR kR ?_;intro args σ K h
 unfold Zar qSp at h
 split at h
 ·rename_i t rows a en dp w pl
  obtain ⟨L,S,rfl,ho,h⟩:=h;split at h
  ·rename_i wd
   obtain ⟨ady,h⟩:=h;refine ⟨Za [],1,false,sM,Ta rfl,wN ?_⟩;refine ⟨L,S,rfl,ho,fun S' ey=>?_⟩;intro a2 dp2 w2 pl2 ac
   cases S' with
   | ok d2 ts2 =>
    obtain ⟨rfl,bi,rfl,my⟩:=ac;obtain ⟨ah,ce⟩:d2<64/\Zbg wd S=.ok (d2+1) ts2:=by
     cases S with
     | ok d ts =>
      have je:=ady _ _ rfl
      by_cases hb:isW ts [wd]=true
      ·rw [Yk,Tg hb] at ey
       cases ey
       exact ⟨je,by rw [Zbg,Tg hb]⟩
      rw [Yk,Tc hb] at ey
      cases ey
     | bad e=>cases ey
    conv=>whnf
    refine Or.inl ⟨InR.i64 oM oM,wN ?_⟩;exact h _ ce _ _ _ _ (SOK.mk bi oM oM)
   | bad e =>
   have ce:Zbg wd S=.bad e:=by
    cases S with
    | ok d ts =>
     by_cases hb:isW ts [wd]=true
     ·rw [Yk,Tg hb] at ey
      cases ey
     rw [Yk,Tc hb] at ey;rw [Zbg,Tc hb];exact ey
    | bad f=>exact ey
   conv=>whnf
   refine Or.inr (wN ?_);exact h _ ce _ _ _ _ ac.stay
  exact h.elim
 exact h.elim
noncomputable def ZrA:Tbl:=[(141,Jx),(81,VO)]
theorem VG:PC w0 nG 148 VR:=by
 refine Zd Zb mixed (tbl:=ZrA) ⟨Zbh,VD,trivial⟩ Tryz.func148 rfl kR kR ?_;intro args σ K h
 unfold VR qSp at h
 split at h
 ·rename_i rest t rows a en dp w pl
  obtain ⟨L,S,rfl,ho,h⟩:=h;split at h
  ·refine ⟨Za [],1,false,sM,Ta rfl,wN ?_⟩;refine ⟨L,S,rfl,ho,rfl,fun b hb=>?_⟩;intro a1 dp1 w1 pl1 af
   cases b with
   | false =>
    conv=>whnf
    refine ⟨L,S,rfl,af,150,rfl,oM,?_⟩;intro a2 dp2 w2 pl2 ac
    conv=>whnf
    refine h _ _ ?_ _ _ _ _ ac
    cases S with
    | ok d ts=>have hb:Zq ts=false:=hb;simp [YW,Zi8,hb]
    | bad e=>rfl
   | true =>
   cases S with
   | bad e=>cases hb
   | ok d ts =>
   have hb:Zq ts=true:=hb;obtain ⟨rfl,hr,rfl,bf⟩:=af;have hn:=hr.tlq (Za5 hb);have q1:=hn.lo;have q2:=hn.hi;have q3:=hn.big;have q4:=hr.lo;obtain ⟨x,hx,fy,an,j9⟩:=hr.at0 oM;(conv=>whnf);refine Or.inl ⟨InR.i64 oM oM,wN ?_⟩;refine Or.inl ⟨InR.i64 oM oM,?_⟩;rw [show a1+1 - 1=a1 by omega];(conv=>whnf);refine ⟨_,oM,hx,wN ?_⟩;exact h _ _ (by simp [YW,hb]) _ _ _ _ (SOK.mk hn rfl bf)
  exact h.elim
 exact h.elim
noncomputable def ZrB:Tbl:=[(81,VO)]
theorem ZcN:PC w0 nG 142 ZbX:=by
 refine Zd Zb mixed (tbl:=ZrB) ⟨VD,trivial⟩ Tryz.func142 rfl kR kR ?_;intro args σ K h
 unfold ZbX qSp at h
 split at h
 ·rename_i t rows a en dp w pl
  obtain ⟨L,S,rfl,ho,h⟩:=h;split at h
  ·rename_i n m
   refine ⟨Za [],1,false,sM,Ta rfl,wN ?_⟩;refine ZBC (fun hc=>wN ?_) (fun hc=>wN ?_)
   ·refine ⟨L,S,rfl,ho,3,rfl,oM,?_⟩;intro a2 dp2 w2 pl2 ac
    conv=>whnf
    exact h _ (by rw [Wi,Tg hc]) _ _ _ _ ac
   exact h _ (by rw [Wi,Tc hc]) _ _ _ _ ho
  exact h.elim
 exact h.elim
def VH {α:Type} (d:Nat):R α->SS
 | .ok _ ts=>.ok d ts
 | .err _ e=>.bad e
theorem Zk {α:Type} (P:Nat->Ts->R α) (d:Nat) (ts:Ts):ZM P (.ok d ts)=VH d (P d ts):=by
 show (match P d ts with | .ok _ ts'=>SS.ok d ts' | .err _ e=>.bad e)=_;cases P d ts <;> rfl
def upS:SS->SS
 | .ok d ts=>.ok (d+1) ts
 | .bad e=>.bad e
theorem Uf {α:Type} (rd:Nat->Ts->R α) (fr tt:Bs) (z8:tt≠[]) (S:SS):ZM (fun d=>Zu d fr tt (rd d)) S=Zbg tt (ZM (fun d=>rd (d+1)) (Wh fr S)):=by
 cases S with
 | bad e=>rfl
 | ok d ts =>
 rw [Zk,Zu,Wh]
 by_cases h1:isW ts [fr]=true
 ·rw [Tg h1,Tg h1]
  by_cases h2:d=0
  ·rw [Tg h2,Tg h2];rfl
  rw [Tc h2,Tc h2,Zk,show d - 1+1=d by omega]
  cases hx:rd d ts.tail with
  | err r e=>rfl
  | ok v ts2 =>
  rw [R.bind_ok,Tc z8];simp only [VH,Zbg,ZT]
  by_cases h3:isW ts2 [tt]=true
  ·rw [Tg h3,Tg h3,R.bind_ok,show d - 1+1=d by omega]
  rw [Tc h3,Tc h3,R.bind_err]
 rw [Tc h1,Tc h1];rfl
theorem VI (S:SS):ZM (fun _=>Z2) S=YW S:=by
 cases S with
 | bad e=>rfl
 | ok d ts =>
 rw [Zk,Z2,YW]
 by_cases h:Zq ts=true
 ·rw [Tg h,Tg h];rfl
 rw [Tc h,Tc h];rfl
def Zl3 (tt:Bs) (d:Nat) (ts:Ts):R (List Ex):=if isW ts [tt]=true then .ok [] ts else YM [44] 12 ZA (Ya d) ts
theorem ZrC (fr tt:Bs) (z8:tt≠[]) (S:SS):ZM (fun d=>XX d (Yp d) fr tt) S=Zbg tt (ZM (Zl3 tt) (Wh fr S)) :=
 Uf (fun d ts=>if isW ts [tt]=true then .ok [] ts else YM [44] 12 ZA (Yp d) ts) fr tt z8 S
theorem ZkO (w:Bs) (S:SS) (h:YV 0 w S=true) (hw:w=[45]\/w=[126]):ZM Zv S=upS (ZM Zv (Wh w S)):=by
 cases S with
 | bad e=>cases h
 | ok d ts =>
 have h:isW ts [w]=true:=h;have key:∀op:Nat,VH d ((Zu d w [] (ZbN d) ts).bind fun e ts'=>R.ok (Ex.mk op [] 0 [e] ts.length) ts')=upS (ZM Zv (Wh w (.ok d ts))):=fun op=>by
  rw [Zu,Wh,Tg h,Tg h]
  by_cases h2:d=0
  ·rw [Tg h2,Tg h2];rfl
  rw [Tc h2,Tc h2,Zk];obtain ⟨d,rfl⟩:∃g,d=g+1:=⟨d - 1,oM⟩
  rw [ZbN,Nat.add_sub_cancel]
  cases Zv d ts.tail with
  | err r e=>rfl
  | ok v ts2=>rw [R.bind_ok,Tg rfl,R.bind_ok];rfl
 rw [Zk,Ju,VL];rcases hw with rfl | rfl
 ·rw [Tg h];exact key 8
 have h1:¬isW ts [[45]]=true:=fun g=>by
  simp only [isW,Sm,Ss,T8,Tk,beq_iff_eq] at g h;rw [g.2] at h;exact absurd h.2 dM
 rw [Tc h1,Tg h];exact key 9
theorem ZrD (S:SS) (h1:YV 0 [45] S=false) (h2:YV 0 [126] S=false):ZM Zv S=ZM (fun d=>YA d (Yp d)) S:=by
 cases S with
 | bad e=>rfl
 | ok d ts =>
 have h1:isW ts [[45]]=false:=h1;have h2:isW ts [[126]]=false:=h2;rw [Zk,Zk,Ju,VL,Tc (by rw [h1];simp),Tc (by rw [h2];simp),Zj1]
def Zqp (sub:Ts->R Ex) (ln:Nat):Nat->Ex->Ts->R Ex
 | 0,_,_=>.err 0 150
 | f+1,e,ts=>if (Wn ts).1=ln then (sub ts.tail).bind fun g ts'=>Zqp sub ln f (.mk (Wn ts).2 [] 0 [e,g] e.at') ts' else .ok e ts
def dsK (sg:Ts->R Ex):Nat->Ts->R Ex
 | 0,ts=>sg ts
 | k+1,ts=>(dsK sg k ts).bind fun e ts'=>Zqp (dsK sg k) (5 - k) (ts'.length+1) e ts'
noncomputable def Zl4:Tbl:=[(72,Za3),(264,X6)]
theorem ZbY:PC w0 nG 245 Ja:=by
 refine Zd Zb mixed (tbl:=Zl4) ⟨Zdu,Zd3,trivial⟩ Tryz.func245 rfl kR kR ?_;intro args σ K h
 unfold Ja qSp at h
 split at h
 ·rename_i rest t rows a en dp w pl
  obtain ⟨L,S,rfl,ho,h⟩:=h;split at h
  ·obtain ⟨r1,r2,r3⟩:=ho.rg;refine ⟨Za [],1,false,sM,Ta rfl,wN ?_⟩;refine ZBE (fun hw=>?_) (fun hw=>?_)
   ·exact m160
   obtain ⟨d,ts,rfl,hr,d7,bf⟩:=ho.wz (by simpa using hw);have ab:=hr.len;(conv=>whnf);refine ZBC (fun hc=>?_) (fun hc=>wN ?_)
   ·have hc:(L.length:Int)<=a:=by have hc:a>=((Zy L).length:Int):=hc;rw [ZG] at hc;exact hc
    have hn:ts=[]:=TB oM;subst hn;(conv=>whnf);exact h _ rfl _ _ _ _ ho
   have hc:a<L.length:=by have hc:¬a>=((Zy L).length:Int):=hc;rw [ZG] at hc;omega
   obtain ⟨x,hx,fy,an,j9⟩:=hr.at0 hc;have hv:Zgf (.ok d ts)=ZA ts:=rfl;rw [ZA,fy] at hv;have hv:Zgf (.ok d ts)=if x.kind=2\/x.kind=3 then true else if x.kind=4 then isW ts [[45],[126],[40],[91],[36]] else if x.kind=1 then !Zbn x.text || (decide (x.text=[110,105,108]) || decide (ZU x.text≠0)) else false:=hv
   refine ⟨_,oM,hx,wN ?_⟩
   (repeat (refine ⟨rfl,?_⟩;conv=>whnf))
   refine ZBC (fun h1=>wN ?_) (fun h1=>wN ?_)
   ·have h1:x.kind=2:=by have h1:(x.kind:Int)=2:=h1;omega
    refine ZBC (fun _=>wN ?_) (fun g=>absurd (by rw [h1];rfl) g);exact h _ (by rw [hv,Tg (Or.inl h1)]) _ _ _ _ ho
   have h1:¬x.kind=2:=by have h1:¬(x.kind:Int)=2:=h1;omega
   refine ZBC (fun h2=>wN ?_) (fun h2=>wN ?_)
   ·have h2:x.kind=3:=by have h2:(x.kind:Int)=3:=h2;omega
    exact h _ (by rw [hv,Tg (Or.inr h2)]) _ _ _ _ ho
   have h2:¬x.kind=3:=by have h2:¬(x.kind:Int)=3:=h2;omega
   rw [Tc oM] at hv;refine ZBC (fun h3=>wN ?_) (fun h3=>wN ?_)
   ·have h3:x.kind=4:=by have h3:(x.kind:Int)=4:=h3;omega
    have hw5:isW ts [[45],[126],[40],[91],[36]]=[[45],[126],[40],[91],[36]].contains x.text:=by
     rw [isW,fy];simp [Tok.t0,h3]
    rw [Tg h3,hw5] at hv;refine ZBC (fun hq=>wN ?_) (fun hq=>wN ?_)
    ·exact m69
    have hq0:¬x.text=[45]:=hq;refine ZBC (fun hq=>wN ?_) (fun hq=>wN ?_)
    ·exact m69
    have jg:¬x.text=[126]:=hq;refine ZBC (fun hq=>wN ?_) (fun hq=>wN ?_)
    ·exact m69
    have l6:¬x.text=[40]:=hq;refine ZBC (fun hq=>wN ?_) (fun hq=>wN ?_)
    ·exact m69
    have hq3:¬x.text=[91]:=hq;exact h _ (by rw [hv,Bool.eq_iff_iff,TG,List.contains_iff_mem];simp only [Tv,Sq,or_false,hq0,jg,l6,hq3,false_or]) _ _ _ _ ho
   have h3:¬x.kind=4:=by have h3:¬(x.kind:Int)=4:=h3;omega
   rw [Tc h3,Tg oM] at hv;intro b hb
   rw [hb] at hv
   cases b with
   | false =>
    conv=>whnf
    exact h _ hv _ _ _ _ ho
   | true =>
   conv=>whnf
   refine ZBC (fun h5=>wN ?_) (fun h5=>wN ?_)
   ·exact h _ (by rw [hv,TC (p:=x.text=[110,105,108]) h5];rfl) _ _ _ _ ho
   intro n hn
   conv=>whnf
   exact h _ (by rw [hv,decide_eq_false (p:=x.text=[110,105,108]) h5,<- hn];by_cases g:ZU x.text=0 <;> simp [g]) _ _ _ _ ho
  exact h.elim
 exact h.elim
def Zay (l:Nat):List Bs:=if l=0 then [[98,111,114],[98,120,111,114]] else if l=1 then [[98,97,110,100]] else if l=2 then [[115,104,108],[115,104,114]] else if l=3 then [[43],[45]] else [[42],[47],[37]]
def ZBd (l:Nat):List Nat:=if l=0 then [16,17] else if l=1 then [15] else if l=2 then [18,19] else if l=3 then [10,11] else [12,13,14]
def Zz1 (o:Nat):List D:=[.int .u8 o]
def Zpr:Zt:=fun args σ K=>match args,σ with
 | [.d (.int .i64 i)],⟨[],[],0⟩=>∃n:Nat,i=n/\n<=4/\K (.ret (.tuple [.d (.sl ((Zay n).map ZB)),.d (.sl ((ZBd n).map Zz1))])) ⟨[],[],0⟩
 | _,_=>False
theorem ZvM:PC w0 nG 266 Zpr:=by
 refine Zdl Zb mixed (tbl:=[]) trivial Tryz.func266 rfl kR kR ?_;intro args σ K h
 unfold Zpr at h
 split at h
 ·rename_i i
  obtain ⟨n,rfl,hn,h⟩:=h;refine ⟨Za [],Wv [],Ys [],Ys [],Ys [],0,true,sM,Ta rfl,?_⟩;have dm:n=0\/n=1\/n=2\/n=3\/n=4:=oM;rcases dm with rfl | rfl | rfl | rfl | rfl
  all_goals
   conv=>whnf
   exact h
 exact h.elim
theorem Zct {sub sub':Nat->Ts->R Ex} {least:Nat} (h:∀q,least<q->q<=6->sub q=sub' q):∀f e ts,WQ sub least f e ts=WQ sub' least f e ts
 | 0,_,_=>rfl
 | f+1,e,ts=>by
  rw [WD,WD]
  by_cases hc:(Wn ts).1<least\/(Wn ts).1=0
  ·rw [Tg hc,Tg hc]
  rw [Tc hc,Tc hc,h _ oM (by have:=(ZiT ts).1;omega)]
  cases sub' ((Wn ts).1+1) ts.tail with
  | err r e=>rfl
  | ok g ts'=>exact Zct h f _ _
theorem ZhP (sg:Ts->R Ex):∀m least j j',6 - least<=m->6<=least+j->6<=least+j'->WU sg j least=WU sg j' least
 | 0,least,j,j',hm,h1,h2=>by
  funext ts
  rw [Wk _ _ _ _ h1,Wk _ _ _ _ h2]
  cases sg ts with
  | err r e=>rfl
  | ok e ts1=>rw [R.bind_ok,R.bind_ok,Jv oM,Jv oM]
 | m+1,least,j,j',hm,h1,h2=>by
  funext ts
  rw [Wk _ _ _ _ h1,Wk _ _ _ _ h2]
  cases sg ts with
  | err r e=>rfl
  | ok e ts1 =>
  rw [R.bind_ok,R.bind_ok];exact Zct (fun q hq _=>ZhP sg m q _ _ oM oM oM) _ _ _
theorem Zd4 {sub:Nat->Ts->R Ex} {least:Nat}:∀f e ts v ts',WQ sub least f e ts=.ok v ts'->(Wn ts').1<least\/(Wn ts').1=0
 | 0,_,_,_,_,h=>by cases h
 | f+1,e,ts,v,ts',h=>by
  rw [WD] at h
  by_cases hc:(Wn ts).1<least\/(Wn ts).1=0
  ·rw [Tg hc] at h;cases h;exact hc
  rw [Tc hc] at h
  cases hx:sub ((Wn ts).1+1) ts.tail with
  | err r e=>rw [hx] at h;cases h
  | ok g ts1=>rw [hx,R.bind_ok] at h;exact Zd4 f _ _ _ _ h
theorem Zl5 {sg:Ts->R Ex} {j least:Nat} {ts ts':Ts} {v:Ex} (h6:6<=least+j) (h:WU sg j least ts=.ok v ts'):(Wn ts').1<least\/(Wn ts').1=0:=by
 rw [Wk _ _ _ _ h6] at h
 cases hx:sg ts with
 | err r e=>rw [hx] at h;cases h
 | ok e ts1=>rw [hx,R.bind_ok] at h;exact Zd4 _ _ _ _ _ h
theorem ZbZ (sub:Ts->R Ex) (ln f:Nat) (e:Ex) (ts:Ts):Zqp sub ln (f+1) e ts=if (Wn ts).1=ln then (sub ts.tail).bind fun g ts'=>Zqp sub ln f (.mk (Wn ts).2 [] 0 [e,g] e.at') ts' else .ok e ts:=rfl
theorem Xy {ts:Ts} (h:(Wn ts).1≠0):ts.tail.length+1=ts.length:=by
 cases ts with
 | nil=>exact absurd rfl (ZnW h)
 | cons t ts=>rfl
theorem ZhQ {sub:Ts->R Ex} (hf:ZhM sub) {ln:Nat} (h0:ln≠0):∀n f f' e ts,ts.length<=n->ts.length<f->ts.length<f'->Zqp sub ln f e ts=Zqp sub ln f' e ts
 | n,0,_,_,_,_,h1,_=>oM
 | n,_,0,_,_,_,_,h2=>oM
 | n,f+1,f'+1,e,ts,hn,h1,h2=>by
  rw [ZbZ,ZbZ]
  by_cases hc:(Wn ts).1=ln
  ·rw [Tg hc,Tg hc];have ht:=Xy (ts:=ts) oM
   cases hx:sub ts.tail with
   | err r e=>rfl
   | ok g ts1 =>
   have hq:=hf _ _ _ hx;dsimp only at hq;rw [R.bind_ok,R.bind_ok];exact ZhQ hf h0 (n - 1) f f' _ _ oM oM oM
  rw [Tc hc,Tc hc]
theorem Zb0 {sub:Nat->Ts->R Ex} (hf:∀q,ZhM (sub q)) {least:Nat} (h0:1<=least) (hs:∀ts v ts',sub (least+1) ts=.ok v ts'->(Wn ts').1<least+1\/(Wn ts').1=0) :
  ∀n f f' e ts,ts.length<=n->ts.length<f->ts.length<f'->WQ sub least f e ts=(WQ sub (least+1) f' e ts).bind fun e' ts'=>Zqp (sub (least+1)) least (ts'.length+1) e' ts'
 | n,0,_,_,_,_,h1,_=>oM
 | n,_,0,_,_,_,_,h2=>oM
 | n,f+1,f'+1,e,ts,hn,h1,h2=>by
  rw [WD,WD]
  by_cases hc:(Wn ts).1<least\/(Wn ts).1=0
  ·rw [Tg hc,Tg oM,R.bind_ok,ZbZ,Tc oM]
  rw [Tc hc];have ht:=Xy (ts:=ts) oM
  by_cases fu:(Wn ts).1=least
  ·rw [Tg oM,R.bind_ok,ZbZ,Tg fu,fu]
   cases hx:sub (least+1) ts.tail with
   | err r e=>rfl
   | ok g ts1 =>
   have hq:=hf _ _ _ _ hx;dsimp only at hq;have hst:=hs _ _ _ hx;rw [R.bind_ok,R.bind_ok,Zb0 hf h0 hs (n - 1) f (f'+1) _ ts1 oM oM oM,WD,Tg hst,R.bind_ok];exact ZhQ (hf _) oM n _ _ _ _ oM oM oM
  rw [Tc oM]
  cases hx:sub ((Wn ts).1+1) ts.tail with
  | err r e=>rfl
  | ok g ts1 =>
  have hq:=hf _ _ _ _ hx;dsimp only at hq;rw [R.bind_ok,R.bind_ok];exact Zb0 hf h0 hs (n - 1) f f' _ ts1 oM oM oM
theorem Zgg {sg:Ts->R Ex} (tr:ZhM sg):∀k,k<=5->dsK sg k=WU sg 6 (6 - k)
 | 0,_=>by
  funext ts
  rw [Wk _ _ _ _ oM];show sg ts=_
  cases sg ts with
  | err r e=>rfl
  | ok e ts1=>rw [R.bind_ok,Jv oM]
 | k+1,hk=>by
  funext ts
  have ih:=Zgg tr k oM;show (dsK sg k ts).bind (fun e ts'=>Zqp (dsK sg k) (5 - k) (ts'.length+1) e ts')=_;rw [ih,show 6 - (k+1)=5 - k by omega,show 6 - k=(5 - k)+1 by omega,Wk sg 6 (5 - k) ts oM,Wk sg 6 (5 - k+1) ts oM]
  cases hx:sg ts with
  | err r e=>rfl
  | ok e ts1 =>
  rw [R.bind_ok,R.bind_ok];have hI:WU sg 6 (5 - k+1)=WU sg (6 - 1) (5 - k+1):=ZhP sg 6 _ _ _ oM oM oM;rw [hI];exact (Zb0 (sub:=WU sg (6 - 1)) (least:=5 - k) (fun q=>U9 tr _ _) oM (fun ts v ts' h=>Zl5 oM h) ts1.length _ _ _ _ (Tr _) oM oM).symm
theorem Zb1 (d:Nat):dsK (Zv d) 5=Ya d:=Zgg (Ud d) 5 oM
theorem Zti (d k:Nat) (hk:k<=5):ZhM (dsK (Zv d) k):=by rw [Zgg (Ud d) k hk];exact U9 (Ud d) _ _
theorem Zcu {d:Nat} {ts:Ts} (h:ZA ts=false):∃r e,Ya d ts=.err r e:=by
 have h4:∀w,w∈[[45],[126]]->isW ts [w]=false:=by
  intro w hw
  rw [Bool.eq_false_iff];intro g
  simp only [isW,Sm,Ss,T8,Tk,Sb,TG,beq_iff_eq] at g;obtain ⟨hk,ht⟩:=g;have hw:w=[45]\/w=[126]:=by simpa using hw
  unfold ZA at h
  rcases hk with hk | hk
  ·rw [Tc oM,Tc oM,Tg hk,ht] at h;rcases hw with rfl | rfl <;> revert h <;> decide
  rw [Tc oM,Tg hk,isW,hk,ht] at h;rcases hw with rfl | rfl <;> revert h <;> decide
 refine ⟨ts.length,150,?_⟩;show WU (Zv d) 6 1 ts=_;rw [Wk _ _ _ _ oM,Ju,VL,Tc (by rw [h4 _ sM];simp),Tc (by rw [h4 _ sM];simp),YA,Tg h];rfl
abbrev Zy4 (o:Int) (s:Bs) (n:Int) (rows:List (List D)) (p:Int):PV:=.agg [.d (.int .u8 o),.d (.str s),.d (.int .i64 n),.d (.sl rows),.d (.int .i64 p)]
def dLt (n:Nat) (S:SS):Prop:=∀d ts,S=.ok d ts->d<n
def UD (n l:Nat):Zt:=qSp fun rest S K=>match rest with
 | [.d (.int .i64 i)]=>∃j:Nat,i=j/\j<=5/\(∀d ts,S=.ok d ts->d<n\/(d=n/\l<=j))/\∀S',ZM (fun d=>dsK (Zv d) (5 - j)) S=S'->∀o s m rows p,K (Zy4 o s m rows p) S'
 | _=>False
def Zas (P:Nat->Ts->R Ex) (n:Nat):Zt:=qSp fun rest S K=>match rest with
 | []=>dLt (n+1) S/\∀S',ZM P S=S'->∀o s m rows p,K (Zy4 o s m rows p) S'
 | _=>False
def Jc (n:Nat):Zt:=qSp fun rest S K=>match rest with
 | [.d (.str fr),.d (.str tt),.d (.bool b)]=>(b=true/\tt≠[]/\dLt (n+1) S)/\∀S',ZM (fun d=>XX d (Yp d) fr tt) S=S'->∀rows,K (.d (.sl rows)) S'
 | _=>False
def Zjb (n:Nat):Zt:=qSp fun rest S K=>match rest with
 | [.agg [.d (.int .u8 op),.d (.str []),.d (.int .i64 m),.nils e,.d (.int .i64 p)]]=>(m=0/\e=48/\dLt (n+1) S)/\∃o:Nat,op=(o:Int)/\∀S',ZM (fun d=>Zu d [40] [41] (XZ (Yp d) (YN o) [])) S=S'->∀o s m rows p,K (Zy4 o s m rows p) S'
 | _=>False
def LRq (n N:Nat) (X:SS):SS->Nat->Prop
 | .bad e,k=>X=.bad e/\k<=2000000
 | .ok d ts,k=>d<n/\d<64/\∃f l,X=VH d (Xl [44] 12 ZA (Ya d) f l ts)/\ts.length<f/\l.length=k/\k<=12/\k+ts.length<=N
def PRq (n N:Nat) (X:SS):SS->Nat->Prop
 | .bad e,k=>X=.bad e/\k<=2000000
 | .ok d ts,k=>d<n/\d<64/\∃f l,X=VH d ((Ya d ts).bind fun x ts=>if isW ts [[44]]=true then Xl [44] 12 ZA (Ya d) f (l++[x]) ts.tail else .ok (l++[x]) ts)/\ts.length<=f/\l.length=k/\(ZA ts=true->k<12)/\k<=12/\k+ts.length<=N
def ERq (n N:Nat) (X:SS):SS->Nat->Prop
 | .bad e,k=>X=.bad e/\k<=2000001
 | .ok d ts,k=>d<n/\d<64/\∃f l,X=VH d (if isW ts [[44]]=true then Xl [44] 12 ZA (Ya d) f l ts.tail else .ok l ts)/\ts.length<=f/\l.length=k/\k<=12/\k+ts.length<=N
theorem LRq.room {n N:Nat} {X S:SS} {k:Nat} {b:Bool} (h:LRq n N X S k) (hb:Zgf S=b):PRq n N X (if b=true then Wi k 12 S else S) k:=by
 cases S with
 | bad e=>cases b <;> simp only [if_true,if_false,To] <;> first | exact h | (unfold Wi;split <;> exact h)
 | ok d ts =>
 obtain ⟨h1,h2,f,l,h3,h4,h5,h6,h7⟩:=h;obtain ⟨f,rfl⟩:∃g,f=g+1:=⟨f - 1,oM⟩
 rw [Vj] at h3;have hb:ZA ts=b:=hb
 cases b with
 | false =>
  rw [Tc (by rw [hb];simp)] at h3;exact ⟨h1,h2,f,l,h3,oM,h5,by rw [hb];simp,h6,h7⟩
 | true =>
 rw [Tg rfl]
 by_cases hk:k=12
 ·rw [Tg ⟨hb,oM⟩] at h3;rw [Wi,Tg oM];exact ⟨h3,oM⟩
 rw [Tc (fun g=>hk oM)] at h3;rw [Wi,Tc oM];exact ⟨h1,h2,f,l,h3,oM,h5,fun _=>oM,h6,h7⟩
theorem PRq.expr {n N:Nat} {X S:SS} {k:Nat} (h:PRq n N X S k):ERq n N X (ZM (fun d=>dsK (Zv d) 5) S) (k+1):=by
 cases S with
 | bad e=>exact ⟨h.1,by have:=h.2;omega⟩
 | ok d ts =>
 obtain ⟨h1,h2,f,l,h3,h4,h5,h6,h6b,h7⟩:=h;rw [Zk];show ERq n N X (VH d (dsK (Zv d) 5 ts)) (k+1);rw [Zb1]
 by_cases hs:ZA ts=true
 ·have h6:=h6 hs
  cases hx:Ya d ts with
  | err r e=>rw [hx,R.bind_err] at h3;exact ⟨h3,oM⟩
  | ok v ts3 =>
  have hf:=ZcL d ts v ts3 hx;dsimp only at hf;have hv:1<=szE v:=by cases v;simp [szE]
  rw [hx,R.bind_ok] at h3;exact ⟨h1,h2,f,l++[v],h3,oM,sO,oM,oM⟩
 obtain ⟨r,e,hx⟩:=Zcu (d:=d) (by simpa using hs);rw [hx] at h3 |-;exact ⟨h3,oM⟩
theorem ERq.stop {n N:Nat} {X S:SS} {k:Nat} (h:ERq n N X S k) (hb:YV 0 [44] S=false):X=S:=by
 cases S with
 | bad e=>exact h.1
 | ok d ts =>
 obtain ⟨h1,h2,f,l,h3,_⟩:=h;have hb:isW ts [[44]]=false:=hb;rw [Tc (by rw [hb];simp)] at h3;exact h3
theorem ERq.more {n N:Nat} {X S:SS} {k:Nat} (h:ERq n N X S k) (hb:YV 0 [44] S=true):LRq n N X (Xg S) k:=by
 cases S with
 | bad e=>cases hb
 | ok d ts =>
 obtain ⟨h1,h2,f,l,h3,h4,h5,h6,h7⟩:=h;have hb:isW ts [[44]]=true:=hb;rw [Tg hb] at h3;have hn:ts.tail.length<ts.length:=by
  cases ts with
  | nil=>exact absurd rfl (ZS hb)
  | cons t ts=>simp
 exact ⟨h1,h2,f,l,h3,oM,h5,oM,oM⟩
theorem LRq.tight {n N:Nat} {X:SS} {k d:Nat} {ts:Ts} (h:LRq n N X (.ok d ts) k):LRq n (k+ts.length) X (.ok d ts) k:=by
 obtain ⟨h1,h2,f,l,h3,h4,h5,h6,h7⟩:=h;exact ⟨h1,h2,f,l,h3,h4,h5,h6,Tr _⟩
theorem LRq.wide {n N:Nat} {X:SS} {k d:Nat} {ts:Ts} (h:LRq n N X (.ok d ts) k):k+ts.length<=N:=by
 obtain ⟨h1,h2,f,l,h3,h4,h5,h6,h7⟩:=h;exact h7
theorem LRq.le {n N M:Nat} {X S:SS} {k:Nat} (h:LRq n N X S k) (hn:N<=M):LRq n M X S k:=by
 cases S with
 | bad e=>exact h
 | ok d ts=>obtain ⟨h1,h2,f,l,h3,h4,h5,h6,h7⟩:=h;exact ⟨h1,h2,f,l,h3,h4,h5,h6,oM⟩
theorem ERq.lt {n N:Nat} {X S:SS} {k:Nat} (h:ERq n N X S k):∀d ts,S=.ok d ts->d<64:=by
 rintro d ts rfl;exact h.2.1
theorem PRq.lt {n N:Nat} {X S:SS} {k:Nat} (h:PRq n N X S k):∀d ts,S=.ok d ts->d<n:=by
 rintro d ts rfl;exact h.1
theorem PRq.k {n N:Nat} {X S:SS} {k:Nat} (h:PRq n N X S k):k<=2000000:=by
 cases S with
 | bad e=>exact h.2
 | ok d ts=>obtain ⟨_,_,f,l,_,_,_,_,h6,h7⟩:=h;omega
theorem Zl6 {n:Nat} {L:List Tok} {S S1:SS} {fr tt:Bs} (hS:dLt (n+1) S) (je:∀d ts,S=.ok d ts->d<=64/\ts.length<=L.length) (h1:Wh fr S=S1) (hb:YV 0 tt S1=false):LRq n L.length (ZM (Zl3 tt) S1) S1 0:=by
 cases S with
 | bad e=>subst h1;exact ⟨rfl,oM⟩
 | ok d ts =>
 have hd:=hS _ _ rfl;obtain ⟨h6,h7⟩:=je _ _ rfl;rw [Wh] at h1;split at h1
 ·split at h1
  ·subst h1;exact ⟨rfl,oM⟩
  subst h1;have hb:isW ts.tail [tt]=false:=hb;rw [Zk,Zl3,Tc (by rw [hb];simp)];have:ts.tail.length<=ts.length:=by cases ts <;> simp
  exact ⟨oM,oM,ts.tail.length+1,[],rfl,oM,rfl,oM,oM⟩
 subst h1;exact ⟨rfl,oM⟩
theorem ZvN {fr:Bs} {S:SS} {d:Nat} {ts:Ts} {N:Nat} (h:Wh fr S=.ok d ts) (je:∀d ts,S=.ok d ts->d<=64/\ts.length<=N):d<64:=by
 cases S with
 | bad e=>cases h
 | ok d0 ts0 =>
 have h6:=(je _ _ rfl).1;rw [Wh] at h;split at h
 ·split at h
  ·cases h
  injection h with h1 h2;omega
 cases h
theorem ZkP {n:Nat} (he:PC w0 nG 246 (UD n 6)):PC w0 nG 210 (Jc n):=by
 refine Zd Zb mixed (tbl:=[(208,Jb),(79,XS),(209,Zar),(245,Ja),(142,ZbX),(246,UD n 6)]) ⟨Jy,Xx,Zbi,ZbY,ZcN,he,trivial⟩ Tryz.func210 rfl kR kR ?_;intro args σ K h
 unfold Jc qSp at h
 split at h
 ·rename_i t rows a en dp w pl
  obtain ⟨L,S,rfl,ho,h⟩:=h;split at h
  ·rename_i fr tt bb
   obtain ⟨⟨rfl,z8,dc⟩,h⟩:=h;have h:=h _ rfl;rw [ZrC fr tt z8 S] at h;obtain ⟨S1,cx⟩:∃x,Wh fr S=x:=⟨_,rfl⟩
   have je:∀d ts,S=.ok d ts->d<=64/\ts.length<=L.length:=by
    rintro d ts rfl
    obtain ⟨q1,q2,q3,q4⟩:=ho;have:=q2.len;have:=q2.lo;exact ⟨q4,oM⟩
   rw [cx] at h;obtain ⟨X,hX⟩:∃x,ZM (Zl3 tt) S1=x:=⟨_,rfl⟩
   obtain ⟨r1,r2,r3⟩:=ho.rg;refine ⟨Za [(6,⟨[9],[0,2],fun vs σ=>∃(rows:List (List D)) (a' dp' w' pl':Int) (S':SS),vs=[.sl 0 48 rows]/\σ=⟨[Ue t L a' en dp' w' pl'],[0],1⟩/\SOK L a' dp' w' S'/\LRq n L.length X S' rows.length,
    fun _ σ=>match σ with | ⟨.cells _ [_,.d (.int _ i),_,_,.d (.int _ w),_]::_,_,_⟩=>if w=0 then ((L.length:Int) - i).toNat+1 else 0 | _=>0⟩)],1,false,sM,Ta rfl,?_⟩
   conv=>whnf
   refine ⟨L,S,rfl,ho,fun S1' js=>?_⟩;obtain rfl:S1=S1':=by rw [<- cx,js]
   intro a1 dp1 w1 pl1 af
   conv=>whnf
   refine ⟨L,S1,rfl,af,0,rfl,oM,fun b hb=>?_⟩;intro a2 dp2 w2 pl2 ac
   cases b with
   | true =>
    cases S1 with
    | bad e=>cases hb
    | ok d1 ts1 =>
    have bp:isW ts1 [tt]=true:=hb;have hM:ZM (Zl3 tt) (.ok d1 ts1)=.ok d1 ts1:=by rw [Zk,Zl3,Tg bp];rfl
    rw [hM] at h;(conv=>whnf);refine ⟨L,_,rfl,ac,⟨?_,fun S2 ce=>?_⟩⟩
    ·rintro d ts hq
     cases hq
     exact ZvN cx je
    intro a3 dp3 w3 pl3 ai
    subst ce;(conv=>whnf);exact h _ _ _ _ _ ai
   | false =>
   have bz:=Zl6 dc je cx hb;rw [hX] at bz h;(conv=>whnf);refine ⟨⟨[],a2,dp2,w2,pl2,S1,rfl,rfl,ac,bz⟩,?_⟩
   clear bz af ac
   intro vs σ hI
   obtain ⟨rows,a3,dp3,w3,pl3,S3,rfl,rfl,ai,bz⟩:=hI;(conv=>whnf);refine ZBC (fun hw=>?_) (fun hw=>?_)
   ·obtain ⟨d3,ts3,rfl,bm,oa,my⟩:=ai.wz hw;have fe:=bm.len;have pt:=bm.lo;have pu:=bm.hi;(conv=>whnf);refine ⟨L,_,rfl,ai,fun b f6=>?_⟩;have io:=bz.wide;have eg:=bz.tight.room f6;intro a4 dp4 w4 pl4 av
    cases b
    all_goals conv=>whnf
    rotate_left;refine ⟨L,_,rfl,av,fun S4 ef=>?_⟩;rw [Tg rfl,ef] at eg;intro a5 dp5 w5 pl5 cy
    conv=>whnf
    rotate_left;rw [Tc sM] at eg;have cy:=av
    all_goals
     have gg:=eg.expr;have hk:=eg.k;refine ⟨L,_,rfl,cy,0,rfl,oM,fun d ts hq=>Or.inl (eg.lt d ts hq),fun S6 qr=>?_⟩;rw [show 5 - 0=5 from rfl] at qr;rw [qr] at gg;intro eo es em er ep a6 dp6 w6 pl6 jm
     conv=>whnf
     refine ⟨Tl.2 rfl,(show (rows.length+1) * 64<=2 ^ 47 by omega),(show rows.length+1<=2 ^ 47 by omega),wN ?_⟩;refine ⟨L,_,rfl,jm,0,rfl,oM,fun b fb=>?_⟩;intro a7 dp7 w7 pl7 fk
     cases b with
     | true =>
      have jt:=gg.more fb
      cases S6 with
      | bad e=>cases fb
      | ok d6 ts6 =>
      have fb:isW ts6 [[44]]=true:=fb;obtain ⟨rfl,mb,j6,qs⟩:=fk;have bw:=mb.tlq (ZS fb);have q1:=bw.lo;have q2:=bw.hi;have q3:=bw.len;(conv=>whnf);refine Or.inl ⟨InR.i64 oM oM,wN ?_⟩;refine ⟨⟨_,_,_,_,_,.ok d6 ts6.tail,rfl,rfl,SOK.mk bw j6 qs,?_⟩,?_⟩
      ·rw [Tb];exact jt.le io
      have ak:=gg.2.2;obtain ⟨_,_,_,_,_,_,ak⟩:=ak;exact m37
     | false =>
     have hst:=gg.stop fb;subst hst;(conv=>whnf);refine ⟨L,_,rfl,fk,⟨gg.lt,fun S8 rv=>?_⟩⟩;intro a8 dp8 w8 pl8 mt
     subst rv;(conv=>whnf);exact h _ _ _ _ _ mt
   obtain ⟨e,rfl,ki,lc⟩:=ai.w1 hw;obtain ⟨rfl,_⟩:=bz;(conv=>whnf);refine ⟨L,_,rfl,ai,⟨(by rintro d ts hq;cases hq),fun S8 rv=>?_⟩⟩;intro a8 dp8 w8 pl8 mt
   subst rv;(conv=>whnf);exact h _ _ _ _ _ mt
  exact h.elim
 exact h.elim
theorem Yn {α:Type} {P:Nat->Ts->R α} {n:Nat} {S:SS} (h:dLt n S):dLt n (ZM P S):=by
 cases S with
 | bad e=>intro d ts hq;cases hq
 | ok d0 ts0 =>
 intro d ts hq
 rw [Zk] at hq
 cases hx:P d0 ts0 with
 | err r e=>rw [hx] at hq;cases hq
 | ok v ts3=>rw [hx] at hq;simp only [VH,SS.ok.injEq] at hq;have:=h _ _ rfl;omega
theorem Xd {fr:Bs} {n:Nat} {S:SS} (h:dLt (n+1) S):dLt n (Wh fr S):=by
 cases S with
 | bad e=>intro d ts hq;cases hq
 | ok d0 ts0 =>
 intro d ts hq
 have:=h _ _ rfl;rw [Wh] at hq;split at hq
 ·split at hq
  ·cases hq
  injection hq with h1 h2;omega
 cases hq
theorem Zgh {L:List Tok} {a dp w:Int} {S:SS} (h:SOK L a dp w S):dLt 65 S:=by
 rintro d ts rfl;have:=h.2.2.2;omega
theorem Zps {S:SS} {v u:Bs} (h1:YV 0 v S=true) (h2:YV 0 u S=true):v=u:=by
 cases S with
 | bad e=>cases h1
 | ok d ts =>
 have h1:isW ts [v]=true:=h1;have h2:isW ts [u]=true:=h2;simp only [isW,Sm,Ss,T8,Tk,beq_iff_eq] at h1 h2;rw [<- h1.2,<- h2.2]
theorem ZrG {n:Nat} (hp:PC w0 nG 276 (Zas (fun d=>YA d (Yp d)) n)) (he:PC w0 nG 246 (UD n 6)):PC w0 nG 265 (Zas Zv n):=by
 refine Zd Zb mixed (tbl:=[(147,VP),(79,XS),(208,Jb),(276,Zas (fun d=>YA d (Yp d)) n),(246,UD n 6)]) ⟨VE,Xx,Jy,hp,he,trivial⟩ Tryz.func265 rfl kR kR ?_;intro args σ K h
 unfold Zas qSp at h
 split at h
 ·rename_i rest t rows a en dp w pl
  obtain ⟨L,S,rfl,ho,h⟩:=h;split at h
  ·obtain ⟨dc,h⟩:=h;have h:=h _ rfl;refine ⟨Za [],1,false,sM,Ta rfl,wN ?_⟩;refine ⟨L,S,rfl,ho,fun p=>?_⟩;intro a1 dp1 w1 pl1 af
   conv=>whnf
   refine ⟨L,S,rfl,af,0,rfl,oM,fun b1 aj=>?_⟩;intro a2 dp2 w2 pl2 ac
   cases b1
   all_goals
    conv=>whnf
    refine ⟨L,S,rfl,ac,0,rfl,oM,fun b2 bp=>?_⟩;intro a3 dp3 w3 pl3 ai
    cases b2
    all_goals conv=>whnf
   ·refine ⟨L,S,rfl,ai,dc,fun S' ey=>?_⟩;rw [ZrD S aj bp,ey] at h;intro eo es em er ep a4 dp4 w4 pl4 av
    conv=>whnf
    exact h _ _ _ _ _ _ _ _ _ av
   ·refine ⟨L,S,rfl,ai,fun S1 cx=>?_⟩;rw [ZkO _ S bp (Or.inr rfl)] at h;have eh:=Xd (fr:=[126]) dc;have je:=Xd (fr:=[126]) (Zgh ho);exact m56
   ·refine ⟨L,S,rfl,ai,fun S1 cx=>?_⟩;rw [ZkO _ S aj (Or.inl rfl)] at h;have eh:=Xd (fr:=[45]) dc;have je:=Xd (fr:=[45]) (Zgh ho);exact m56
   refine absurd (Zps aj bp) dM
  exact h.elim
 exact h.elim
def CRq (n m:Nat) (X:SS):SS->Nat->Prop
 | .bad e,i=>X=.bad e/\i<=m
 | .ok d ts,i=>d<n/\d<64/\i<=m/\∃l,X=VH d (XZ (Ya d) (m - i) l ts)/\l.length=i
theorem CRq.step {n m:Nat} {X S:SS} {i:Nat} (h:CRq n m X S i) (hi:i<m):dLt n (if (i:Int)>0 then Yk [44] S else S)/\CRq n m X (ZM (fun d=>dsK (Zv d) 5) (if (i:Int)>0 then Yk [44] S else S)) (i+1):=by
 cases S with
 | bad e =>
  have:(if (i:Int)>0 then Yk [44] (.bad e) else SS.bad e)=.bad e:=by split <;> rfl
  rw [this];exact ⟨fun d ts hq=>(by cases hq),h.1,oM⟩
 | ok d ts =>
 obtain ⟨h1,h2,_,l,h3,h4⟩:=h;obtain ⟨q,hq⟩:∃q,m - i=q+1:=⟨m - i - 1,oM⟩
 rw [hq,XZ] at h3;have key:∀ts2,X=VH d ((Ya d ts2).bind fun e ts=>XZ (Ya d) q (l++[e]) ts)->CRq n m X (ZM (fun d=>dsK (Zv d) 5) (.ok d ts2)) (i+1):=fun ts2 hX=>by
  rw [Zk];show CRq n m X (VH d (dsK (Zv d) 5 ts2)) (i+1);rw [Zb1]
  cases hx:Ya d ts2 with
  | err r e=>rw [hx] at hX;exact ⟨hX,oM⟩
  | ok v ts3 =>
  rw [hx,R.bind_ok] at hX;exact ⟨h1,h2,oM,l++[v],by rw [hX,show m - (i+1)=q by omega],by simp [h4]⟩
 by_cases h0:(i:Int)>0
 ·rw [Tg h0];have hl:l≠[]:=by rintro rfl;simp at h4;omega
  rw [Tc hl,ZT] at h3;rw [Yk]
  by_cases hb:isW ts [[44]]=true
  ·rw [Tg hb,R.bind_ok] at h3;rw [Tg hb];exact ⟨fun d' ts' hq=>(by cases hq;exact h1),key _ h3⟩
  rw [Tc hb,R.bind_err] at h3;rw [Tc hb];exact ⟨fun d' ts' hq=>(by cases hq),h3,oM⟩
 rw [Tc h0];have hl:l=[]:=TB oM;rw [Tg hl,R.bind_ok] at h3;exact ⟨fun d' ts' hq=>(by cases hq;exact h1),key _ h3⟩
theorem CRq.done {n m:Nat} {X S:SS} (h:CRq n m X S m):X=S/\∀d ts,S=.ok d ts->d<64:=by
 cases S with
 | bad e=>exact ⟨h.1,fun d ts hq=>by cases hq⟩
 | ok d ts =>
 obtain ⟨h1,h2,_,l,h3,h4⟩:=h;rw [Nat.sub_self] at h3;exact ⟨h3,fun d ts hq=>by cases hq;exact h2⟩
theorem CRq.le {n m:Nat} {X S:SS} {i:Nat} (h:CRq n m X S i):i<=m:=by
 cases S with
 | bad e=>exact h.2
 | ok d ts=>exact h.2.2.1
theorem CRq.start {n m:Nat} {S:SS} (h:dLt n S) (je:dLt 64 S):CRq n m (ZM (fun d=>XZ (Ya d) m []) S) S 0:=by
 cases S with
 | bad e=>exact ⟨rfl,oM⟩
 | ok d ts=>exact ⟨h _ _ rfl,je _ _ rfl,oM,[],by rw [Zk];rfl,rfl⟩
theorem ZrI {n:Nat} (he:PC w0 nG 246 (UD n 6)):PC w0 nG 283 (Zjb n):=by
 refine Zd Zb mixed (tbl:=[(208,Jb),(205,VQ),(246,UD n 6),(209,Zar)]) ⟨Jy,VF,he,Zbi,trivial⟩ Tryz.func283 rfl kR kR ?_;intro args σ K h
 unfold Zjb qSp at h
 split at h
 ·rename_i t rows a en dp w pl
  obtain ⟨L,S,rfl,ho,h⟩:=h;split at h
  ·rename_i op mm ee pp
   obtain ⟨⟨rfl,rfl,dc⟩,o,rfl,h⟩:=h;have h:=h _ rfl;rw [Uf (fun d=>XZ (Yp d) (YN o) []) [40] [41] dM S] at h;have je:=Xd (fr:=[40]) (Zgh ho);have eh:=Xd (fr:=[40]) dc;obtain ⟨S1,cx⟩:∃x,Wh [40] S=x:=⟨_,rfl⟩
   rw [cx] at h je eh;have hst:=CRq.start (m:=YN o) eh je;obtain ⟨X,hX⟩:∃x,ZM (fun d=>XZ (Ya d) (YN o) []) S1=x:=⟨_,rfl⟩
   have h:∀(o_1:Int) (s:List UInt8) (m:Int) (rows:List (List D)) (p:Int) (a' dp' w' pl':Int),SOK L a' dp' w' (Zbg [41] X)->K (.ret (Zy4 o_1 s m rows p)) ⟨[Ue t L a' en dp' w' pl'],[],0⟩:=by rw [<- hX];exact h
   rw [hX] at hst
   clear hX
   refine ⟨Za [(8,⟨[6],[0,3,4,5],fun vs σ=>∃(i:Nat) (rows:List (List D)) (a' dp' w' pl':Int) (S':SS),vs=[.d (.int .i64 i)]/\rows.length<=i /\
     σ=⟨[Ue t L a' en dp' w' pl',.cells 48 [.d (.int .u8 o),.d (.str []),.d (.int .i64 0),.sl 0 48 rows,.d (.int .i64 pp)],.cells 48 [.d (.int .u8 0),.d (.str []),.d (.int .i64 0),.sl 1 48 [],.d (.int .i64 0)]],[1,0],2⟩/\SOK L a' dp' w' S'/\CRq n (YN o) X S' i,
    fun vs _=>match vs with | [.d (.int _ i)]=>((YN o:Int) - i).toNat | _=>0⟩)],1,false,sM,Ta rfl,?_⟩
   conv=>whnf
   refine ZBC (fun h20=>?_) (fun h20=>?_)
   all_goals
    conv=>whnf
    refine ZBC (fun h22=>?_) (fun h22=>?_)
    all_goals conv=>whnf
   ·omega
   ·have j5:YN o=2:=by unfold YN;rw [Tc oM,Tg oM]
    refine ⟨L,S,rfl,ho,fun S1' js=>?_⟩;obtain rfl:S1=S1':=by rw [<- cx,js]
    intro a1 dp1 w1 pl1 af
    conv=>whnf
    refine ⟨⟨0,[],a1,dp1,w1,pl1,S1,rfl,sM,(by rfl),af,hst⟩,?_⟩;intro vs σ hI
    obtain ⟨i,rows,a2,dp2,w2,pl2,S2,rfl,qp,rfl,ac,v7⟩:=hI;(conv=>whnf);refine ZBC (fun hc=>wN ?_) (fun hc=>?_)
    ·have hi:i<YN o:=by rw [j5];have hc:(i:Int)<2:=hc;omega
     exact m10
    have hi:i=YN o:=by have:=v7.le;rw [j5] at this |-;have hc:¬(i:Int)<2:=hc;omega
    exact m62
   ·have j5:YN o=3:=by unfold YN;rw [Tg oM]
    refine ⟨L,S,rfl,ho,fun S1' js=>?_⟩;obtain rfl:S1=S1':=by rw [<- cx,js]
    intro a1 dp1 w1 pl1 af
    conv=>whnf
    refine ⟨⟨0,[],a1,dp1,w1,pl1,S1,rfl,sM,(by rfl),af,hst⟩,?_⟩;intro vs σ hI
    obtain ⟨i,rows,a2,dp2,w2,pl2,S2,rfl,qp,rfl,ac,v7⟩:=hI;(conv=>whnf);refine ZBC (fun hc=>wN ?_) (fun hc=>?_)
    ·have hi:i<YN o:=by rw [j5];have hc:(i:Int)<3:=hc;omega
     exact m10
    have hi:i=YN o:=by have:=v7.le;rw [j5] at this |-;have hc:¬(i:Int)<3:=hc;omega
    exact m62
   have j5:YN o=1:=by unfold YN;rw [Tc oM,Tc oM]
   refine ⟨L,S,rfl,ho,fun S1' js=>?_⟩;obtain rfl:S1=S1':=by rw [<- cx,js]
   intro a1 dp1 w1 pl1 af
   conv=>whnf
   refine ⟨⟨0,[],a1,dp1,w1,pl1,S1,rfl,sM,(by rfl),af,hst⟩,?_⟩;intro vs σ hI
   obtain ⟨i,rows,a2,dp2,w2,pl2,S2,rfl,qp,rfl,ac,v7⟩:=hI;(conv=>whnf);refine ZBC (fun hc=>wN ?_) (fun hc=>?_)
   ·have hi:i<YN o:=by rw [j5];have hc:(i:Int)<1:=hc;omega
    exact m10
   have hi:i=YN o:=by have:=v7.le;rw [j5] at this |-;have hc:¬(i:Int)<1:=hc;omega
   exact m62
  exact h.elim
 exact h.elim
theorem Vo {α β:Type} (d:Nat) (x:R α) (g:α->Ts->β):VH d (x.bind fun v ts=>.ok (g v ts) ts)=VH d x:=by cases x <;> rfl
theorem Zpt (S:SS):ZM (fun d=>Zu d [40] [41] (Yp d)) S=Zbg [41] (ZM (fun d=>dsK (Zv d) 5) (Wh [40] S)):=by
 rw [Uf Yp [40] [41] dM S]
 congr 1
 cases Wh [40] S with
 | bad e=>rfl
 | ok d ts =>
 rw [Zk,Zk];show VH d (Ya d ts)=VH d (dsK (Zv d) 5 ts);rw [Zb1]
theorem Zl7 (d:Nat) (ts:Ts) (g:Bs->List Ex->Ex):VH d ((Z2 ts).bind fun nm ts'=>if isW ts' [[40]]=true then (XX d (Yp d) [40] [41] ts').bind fun l ts'=>.ok (g nm l) ts' else .ok (g nm []) ts') =
  if YV 0 [40] (YW (.ok d ts))=true then ZM (fun d=>XX d (Yp d) [40] [41]) (YW (.ok d ts)) else YW (.ok d ts):=by
 rw [Z2,YW]
 by_cases h:Zq ts=true
 ·rw [Tg h,Tg h,R.bind_ok];show _=if isW ts.tail [[40]]=true then _ else _
  by_cases h2:isW ts.tail [[40]]=true
  ·rw [Tg h2,Tg h2,Zk];exact Vo d _ _
  rw [Tc h2,Tc h2];rfl
 rw [Tc h,Tc h];rfl
theorem ZrK {n:Nat} (he:PC w0 nG 246 (UD n 6)):PC w0 nG 276 (Zas (fun d=>YA d (Yp d)) n):=by
 refine Zdl Zb mixed (tbl:=[(245,Ja),(81,VO),(208,Jb),(246,UD n 6),(209,Zar),(210,Jc n),(148,VR),(79,XS),(264,X6),(283,Zjb n)]) ⟨ZbY,VD,Jy,he,Zbi,ZkP he,VG,Xx,Zd3,ZrI he,trivial⟩ Tryz.func276 rfl kR kR ?_;intro args σ K h
 unfold Zas qSp at h
 split at h
 ·rename_i rest t rows a en dp w pl
  obtain ⟨L,S,rfl,ho,h⟩:=h;split at h
  ·obtain ⟨dc,h⟩:=h;have h:=h _ rfl;refine ⟨Za [],Wv [],Ys [],Ys [],Ys [283],1,false,sM,Ta rfl,wN ?_⟩;refine ⟨L,S,rfl,ho,fun b hb=>?_⟩;intro a1 dp1 w1 pl1 af
   cases b with
   | false =>
    have hX:ZM (fun d=>YA d (Yp d)) S=Zi8 150 S:=by
     cases S with
     | bad e=>rfl
     | ok d ts =>
     have hb:ZA ts=false:=hb;rw [Zk,YA,Tg hb];rfl
    rw [hX] at h;(conv=>whnf);refine ⟨L,S,rfl,af,150,rfl,oM,?_⟩;exact m129
   | true =>
   cases S with
   | bad e=>cases hb
   | ok d ts =>
   have hst:ZA ts=true:=hb;obtain ⟨rfl,hr,rfl,bf⟩:=af;have hn:=hr.tlq (Ze8 hst);have q1:=hn.lo;have q2:=hn.hi;have q3:=hn.big;have q4:=hr.lo;obtain ⟨x,hx,fy,an,j9⟩:=hr.at0 oM;have aw:=SOK.mk hr rfl bf;have qt:=SOK.mk hn rfl bf;have hP:ZM (fun d=>YA d (Yp d)) (.ok d ts)=VH d (YA d (Yp d) ts):=Zk _ _ _;rw [hP,YA,Tc (by rw [hst];simp),fy] at h
   clear hP
   have hxk:x.t0.kind=x.kind:=rfl;have hxt:x.t0.text=x.text:=rfl;rw [hxk,hxt] at h;(conv=>whnf);refine ⟨_,oM,hx,wN ?_⟩
   (repeat (refine ⟨rfl,?_⟩;conv=>whnf))
   refine ZBC (fun hc=>wN ?_) (fun hc=>wN ?_)
   ·rw [Tg (show x.kind=2 by have hc:(x.kind:Int)=2:=hc;omega)] at h;exact m102
   rw [Tc (show ¬x.kind=2 by have hc:¬(x.kind:Int)=2:=hc;omega)] at h;refine ZBC (fun hc=>wN ?_) (fun hc=>wN ?_)
   ·rw [Tg (show x.kind=3 by have hc:(x.kind:Int)=3:=hc;omega)] at h;exact m102
   rw [Tc (show ¬x.kind=3 by have hc:¬(x.kind:Int)=3:=hc;omega)] at h;refine ZBC (fun hc=>wN ?_) (fun hc=>wN ?_)
   ·rw [Tg (show x.text=[40] from hc)] at h;have hP:VH d (Zu d [40] [41] (Yp d) ts)=_:=(Zk (fun d=>Zu d [40] [41] (Yp d)) d ts).symm.trans (Zpt _);rw [hP] at h;have je:=Xd (fr:=[40]) (Zgh aw);have eh:=Xd (fr:=[40]) dc;refine ⟨L,_,rfl,aw,fun S2 ce=>?_⟩;rw [ce] at h je eh;intro a2 dp2 w2 pl2 ac
    conv=>whnf
    refine ⟨L,_,rfl,ac,0,rfl,oM,fun d ts hq=>Or.inl (eh d ts hq),fun S3 cg=>?_⟩;rw [show 5 - 0=5 from rfl] at cg;have gu:=Yn (P:=fun d=>dsK (Zv d) 5) je;rw [cg] at h gu;intro eo es em er ep a3 dp3 w3 pl3 ai
    conv=>whnf
    refine ⟨L,_,rfl,ai,gu,fun S4 ef=>?_⟩;rw [ef] at h;intro a4 dp4 w4 pl4 av
    conv=>whnf
    exact h _ _ _ _ _ _ _ _ _ av
   rw [Tc (show ¬x.text=[40] from hc)] at h;refine ZBC (fun hc=>wN ?_) (fun hc=>wN ?_)
   ·rw [Tg (show x.text=[91] from hc),Vo] at h;have hP:VH d (XX d (Yp d) [91] [93] ts)=_:=(Zk (fun d=>XX d (Yp d) [91] [93]) d ts).symm;rw [hP] at h;refine ⟨L,_,rfl,aw,⟨rfl,sM,dc⟩,fun S2 ce rows2=>?_⟩;rw [ce] at h;exact m129
   rw [Tc (show ¬x.text=[91] from hc)] at h;refine ZBC (fun hc=>wN ?_) (fun hc=>wN ?_)
   ·rw [Tg (show x.text=[36] from hc),Zl7 d ts.tail (fun nm l=>.mk 7 nm 0 l ts.length)] at h;have j7:dLt (n+1) (YW (.ok d ts.tail)):=by
     rw [<- VI];exact Yn (fun d' ts' hq=>by cases hq;exact dc _ _ rfl)
    refine Or.inl ⟨InR.i64 oM oM,wN ?_⟩;refine ⟨L,_,rfl,qt,fun S2 s2 ce=>?_⟩;rw [ce] at h j7;intro a2 dp2 w2 pl2 ac
    conv=>whnf
    refine ⟨L,_,rfl,ac,0,rfl,oM,fun b3 f6=>?_⟩;rw [f6] at h;intro a3 dp3 w3 pl3 ai
    cases b3 with
    | false =>
     rw [Tc sM] at h;(conv=>whnf);exact h _ _ _ _ _ _ _ _ _ ai
    | true =>
    rw [Tg rfl] at h;(conv=>whnf);refine ⟨L,_,rfl,ai,⟨rfl,sM,j7⟩,fun S4 ef rows4=>?_⟩;rw [ef] at h;intro a4 dp4 w4 pl4 av
    conv=>whnf
    exact h _ _ _ _ _ _ _ _ _ av
   rw [Tc (show ¬x.text=[36] from hc)] at h;refine ZBC (fun hc=>wN ?_) (fun hc=>wN ?_)
   ·rw [show x.text=[110,105,108] from hc,Tc dM,Tg rfl] at h;exact m102
   have d8:¬x.text=[110,105,108]:=hc;refine ZBC (fun hc=>wN ?_) (fun hc=>wN ?_)
   ·rw [show x.text=[95] from hc,Tc dM,Tc dM,Tg rfl] at h;exact m102
   have adz:¬x.text=[95]:=hc;intro f hf
   conv=>whnf
   refine ZBE (fun hc=>wN ?_) (fun hc=>wN ?_)
   ·rw [Tg (show ZU x.text≠0 by omega),Vo] at h;have hP:VH d (Zu d [40] [41] (XZ (Yp d) (YN (ZU x.text)) []) ts.tail)=_:=(Zk (fun d=>Zu d [40] [41] (XZ (Yp d) (YN (ZU x.text)) [])) d ts.tail).symm;rw [hP] at h;refine Or.inl ⟨InR.i64 oM oM,wN ?_⟩;intro f2 hf2
    conv=>whnf
    refine ⟨L,_,rfl,qt,⟨rfl,rfl,fun d' ts' hq=>by cases hq;exact dc _ _ rfl⟩,ZU x.text,hf2.symm,fun S2 ce=>?_⟩;rw [ce] at h;intro eo es em er ep a2 dp2 w2 pl2 ac
    conv=>whnf
    exact h _ _ _ _ _ _ _ _ _ ac
   rw [Tc (show ¬ZU x.text≠0 by omega),Tc d8,Tc adz] at h;exact m102
  exact h.elim
 exact h.elim
theorem Zgi (ts:Ts) (w:Bs):isW ts [w]=true↔((hd ts).kind=1\/(hd ts).kind=4)/\(hd ts).text=w:=by
 simp only [isW,Sm,Ss,T8,Tk,Sb,TG,beq_iff_eq]
theorem WO {j:Nat} (hj:j<=4) (ts:Ts):(∃w∈Zay j,isW ts [w]=true)↔(Wn ts).1=j+1:=by
 simp only [Zgi];unfold Wn
 generalize (hd ts).kind=k;generalize (hd ts).text=x
 by_cases hk:k=1\/k=4
 ·rw [Tc oM];simp only [hk,true_and];have dm:j=0\/j=1\/j=2\/j=3\/j=4:=oM
  by_cases h1:x=[98,111,114]
  ·subst h1;rcases dm with rfl | rfl | rfl | rfl | rfl <;> decide
  by_cases h2:x=[98,120,111,114]
  ·subst h2;rcases dm with rfl | rfl | rfl | rfl | rfl <;> decide
  by_cases h3:x=[98,97,110,100]
  ·subst h3;rcases dm with rfl | rfl | rfl | rfl | rfl <;> decide
  by_cases h4:x=[115,104,108]
  ·subst h4;rcases dm with rfl | rfl | rfl | rfl | rfl <;> decide
  by_cases h5:x=[115,104,114]
  ·subst h5;rcases dm with rfl | rfl | rfl | rfl | rfl <;> decide
  by_cases h6:x=[43]
  ·subst h6;rcases dm with rfl | rfl | rfl | rfl | rfl <;> decide
  by_cases h7:x=[45]
  ·subst h7;rcases dm with rfl | rfl | rfl | rfl | rfl <;> decide
  by_cases h8:x=[42]
  ·subst h8;rcases dm with rfl | rfl | rfl | rfl | rfl <;> decide
  by_cases h9:x=[47]
  ·subst h9;rcases dm with rfl | rfl | rfl | rfl | rfl <;> decide
  by_cases h10:x=[37]
  ·subst h10;rcases dm with rfl | rfl | rfl | rfl | rfl <;> decide
  rw [Tc h1,Tc h2,Tc h3,Tc h4,Tc h5,Tc h6,Tc h7,Tc h8,Tc h9,Tc h10]
  constructor
  ·rintro ⟨w,hw,rfl⟩
   rcases dm with rfl | rfl | rfl | rfl | rfl <;> simp only [Zay] at hw <;> simp at hw <;> simp_all
  intro h;simp at h
 rw [Tg oM]
 constructor
 ·rintro ⟨w,_,h,_⟩;exact absurd h hk
 intro h;simp at h
def XRq (n l j N:Nat) (X:SS):SS->Prop
 | .bad e=>X=.bad e
 | .ok d ts=>(d<n\/(d=n/\l<=j))/\ts.length<=N/\∃f e,X=VH d (Zqp (dsK (Zv d) (4 - j)) (j+1) f e ts)/\ts.length<f
theorem XRq.start {n l j N:Nat} (hj:j<=4) {S:SS} (hS:∀d ts,S=.ok d ts->d<n\/(d=n/\l<=j)) (hN:∀d ts,S=.ok d ts->ts.length<=N):XRq n l j N (ZM (fun d=>dsK (Zv d) (5 - j)) S) (ZM (fun d=>dsK (Zv d) (4 - j)) S):=by
 cases S with
 | bad e=>rfl
 | ok d ts =>
 have h1:=hS _ _ rfl;have h2:=hN _ _ rfl;rw [Zk,Zk];show XRq n l j N (VH d (dsK (Zv d) (5 - j) ts)) (VH d (dsK (Zv d) (4 - j) ts));rw [show 5 - j=(4 - j)+1 by omega];have hk:=Zti d (4 - j) oM;show XRq n l j N (VH d ((dsK (Zv d) (4 - j) ts).bind fun e ts'=>Zqp (dsK (Zv d) (4 - j)) (5 - (4 - j)) (ts'.length+1) e ts')) _;rw [show 5 - (4 - j)=j+1 by omega]
 cases hx:dsK (Zv d) (4 - j) ts with
 | err r e=>rfl
 | ok e ts1 =>
 have hq:=hk _ _ _ hx;dsimp only at hq;exact ⟨h1,oM,ts1.length+1,e,rfl,oM⟩
theorem XRq.stop {n l j N:Nat} {X S:SS} (hj:j<=4) (h:XRq n l j N X S) (hb:∀w∈Zay j,YV 0 w S=false):X=S:=by
 cases S with
 | bad e=>exact h
 | ok d ts =>
 obtain ⟨h1,h2,f,e,h3,h4⟩:=h;obtain ⟨f,rfl⟩:∃g,f=g+1:=⟨f - 1,oM⟩
 rw [ZbZ,Tc] at h3
 ·exact h3
 intro g
 obtain ⟨w,hw,hq⟩:=(WO hj ts).2 g;have:isW ts [w]=false:=hb w hw;rw [hq] at this;cases this
theorem XRq.more {n l j N d:Nat} {X:SS} {ts:Ts} (hj:j<=4) (h:XRq n l j N X (.ok d ts)) {w:Bs} (hw:w∈Zay j) (hb:isW ts [w]=true):XRq n l j (ts.length - 1) X (ZM (fun d=>dsK (Zv d) (4 - j)) (.ok d ts.tail)):=by
 obtain ⟨h1,h2,f,e,h3,h4⟩:=h;obtain ⟨f,rfl⟩:∃g,f=g+1:=⟨f - 1,oM⟩
 have bp:=(WO hj ts).1 ⟨w,hw,hb⟩;rw [ZbZ,Tg bp] at h3;rw [Zk];show XRq n l j (ts.length - 1) X (VH d (dsK (Zv d) (4 - j) ts.tail));have hk:=Zti d (4 - j) oM;have ht:=Xy (ts:=ts) oM
 cases hx:dsK (Zv d) (4 - j) ts.tail with
 | err r e=>rw [hx] at h3;exact h3
 | ok g ts1 =>
 have hq:=hk _ _ _ hx;dsimp only at hq;rw [hx] at h3;exact ⟨h1,oM,f,_,h3,oM⟩
theorem XRq.le {n l j N M:Nat} {X S:SS} (h:XRq n l j N X S) (hn:N<=M):XRq n l j M X S:=by
 cases S with
 | bad e=>exact h
 | ok d ts=>obtain ⟨h1,h2,h3⟩:=h;exact ⟨h1,oM,h3⟩
theorem Zat {ts:Ts} {v u:Bs} (h1:isW ts [v]=true) (h2:isW ts [u]=true):v=u:=by
 rw [Zgi] at h1 h2;rw [<- h1.2,<- h2.2]
noncomputable def Ztj (n l:Nat):Tbl:=[(265,Zas Zv n),(266,Zpr),(246,UD n (l+1)),(79,XS)]
theorem Zyb {n l:Nat} (ht:TO w0 nG (Ztj n l)):PC w0 nG 246 (UD n l):=by
 refine Vb Zb mixed (tbl:=Ztj n l) ht Tryz.func246 rfl kR kR ?_;intro args σ K h
 unfold UD qSp at h
 split at h
 ·rename_i t rows a en dp w pl
  obtain ⟨L,S,rfl,ho,h⟩:=h;split at h
  ·obtain ⟨j,rfl,hj5,dc,h⟩:=h
   replace h:=h _ rfl
   obtain ⟨X,hX⟩:∃x,ZM (fun d=>dsK (Zv d) (5 - j)) S=x:=⟨_,rfl⟩
   rw [hX] at h;refine ⟨Za [(7,⟨[],[0,1,4,5,6,7],fun vs σ=>∃(eo:Int) (es:Bs) (em:Int) (er:List (List D)) (ep:Int) (a' dp' w' pl':Int) (S':SS),vs=[] /\
     σ=⟨[Ue t L a' en dp' w' pl',.cells 48 [.d (.int .u8 0),.d (.str []),.d (.int .i64 0),.sl 0 48 [],.d (.int .i64 0)],.cells 48 [.d (.int .u8 eo),.d (.str es),.d (.int .i64 em),.d (.sl er),.d (.int .i64 ep)]],[0],1⟩/\SOK L a' dp' w' S'/\XRq n l j L.length X S',
     fun _ σ=>match σ with | ⟨.cells _ [_,.d (.int _ i),_,_,.d (.int _ w),_]::_,_,_⟩=>if w=0 then ((L.length:Int) - i).toNat+1 else 0 | _=>0⟩)],Wv [(10,5)],Ys [],1,false,sM,Ta rfl,?_⟩
   conv=>whnf
   refine ZBE (fun hw=>?_) (fun hw=>?_)
   ·obtain ⟨f,rfl,hf,hf0⟩:=ho.w1 hw;rw [<- hX] at h;(conv=>whnf);exact h _ _ _ _ _ _ _ _ _ ho
   obtain ⟨d,ts,rfl,hr,d7,bf⟩:=ho.wz (by simpa using hw);(conv=>whnf);refine ZBC (fun h5=>?_) (fun h5=>wN ?_)
   ·have h5:j=5:=by have h5:(j:Int)=5:=h5;omega
    subst h5;(conv=>whnf);refine ⟨L,_,rfl,ho,⟨?_,fun S' ey=>?_⟩⟩
    ·rintro d' ts' hq;have:=dc d' ts' hq;omega
    have ey:ZM (fun d=>dsK (Zv d) (5 - 5)) (.ok d ts)=S':=ey;rw [ey] at hX;subst hX;intro eo es em er ep a4 dp4 w4 pl4 av
    conv=>whnf
    exact h _ _ _ _ _ _ _ _ _ av
   have h5:j<=4:=by have h5:¬(j:Int)=5:=h5;omega
   have bz:=XRq.start (N:=L.length) h5 dc (by rintro d' ts' hq;cases hq;have:=hr.len;have:=hr.lo;omega);rw [hX] at bz;refine ⟨j,rfl,h5,wN ?_⟩;refine Or.inl ⟨InR.i64 oM oM,wN ?_⟩;refine ⟨L,_,rfl,ho,j+1,oM,oM,(by rintro d' ts' hq;have:=dc d' ts' hq;omega),fun S1 cx=>?_⟩;rw [show 5 - (j+1)=4 - j by omega] at cx;rw [cx] at bz;intro eo es em er ep a1 dp1 w1 pl1 af
   conv=>whnf
   refine ⟨⟨eo,es,em,er,ep,a1,dp1,w1,pl1,S1,rfl,rfl,af,bz⟩,?_⟩
   clear bz af cx ho hX dc hr d7 bf
   intro vs σ hI
   obtain ⟨eo,es,em,er,ep,a1,dp1,w1,pl1,S1,rfl,rfl,af,bz⟩:=hI;(conv=>whnf);refine ZBC (fun ew=>?_) (fun ew=>?_)
   ·obtain ⟨d1,ts1,rfl,ae,j8,dg⟩:=af.wz ew;have dm:j=0\/j=1\/j=2\/j=3\/j=4:=oM;rcases dm with rfl | rfl | rfl | rfl | rfl
    ·conv=>whnf
     refine ⟨_,dM,rfl,wN ?_⟩;refine ⟨L,_,rfl,af,0,rfl,oM,fun b au=>?_⟩;have au:isW ts1 [[98,111,114]]=b:=au;intro c0a c0d c0w c0p ip
     cases b with
     | true =>
      conv=>whnf
      refine ⟨_,dM,rfl,wN ?_⟩;refine Or.inl ⟨InR.i64 dM dM,wN ?_⟩;refine ⟨_,dM,rfl,wN ?_⟩;refine ⟨L,_,rfl,ip,0,rfl,oM,fun b aj=>?_⟩;have aj:isW ts1 [[98,120,111,114]]=b:=aj;intro c1a c1d c1w c1p gb
      cases b with
      | true =>
       exact absurd (Zat au aj) dM
      | false =>
      conv=>whnf
      refine Or.inl ⟨InR.i64 dM dM,wN ?_⟩;have jt:=bz.more oM (show [98,111,114]∈Zay 0 by decide) au;have ez:=bz.1;obtain ⟨rfl,bi,rfl,bf⟩:=gb;have bm:=bi.tlq (ZS au);have q1:=bm.lo;have q2:=bm.hi;have q3:=bm.len;have q5:=bi.len;have q6:=bi.big;have q7:=ae.len;have q8:=Xy (ts:=ts1) (by have:=(WO (j:=0) oM ts1).1 ⟨_,(show [98,111,114]∈Zay 0 by decide),au⟩;omega);exact m216
     | false =>
     conv=>whnf
     refine Or.inl ⟨InR.i64 dM dM,wN ?_⟩;refine ⟨_,dM,rfl,wN ?_⟩;refine ⟨L,_,rfl,ip,0,rfl,oM,fun b aj=>?_⟩;have aj:isW ts1 [[98,120,111,114]]=b:=aj;intro c1a c1d c1w c1p gb
     cases b with
     | true =>
      conv=>whnf
      refine ⟨_,dM,rfl,wN ?_⟩;refine Or.inl ⟨InR.i64 dM dM,wN ?_⟩;have jt:=bz.more oM (show [98,120,111,114]∈Zay 0 by decide) aj;have ez:=bz.1;obtain ⟨rfl,bi,rfl,bf⟩:=gb;have bm:=bi.tlq (ZS aj);have q1:=bm.lo;have q2:=bm.hi;have q3:=bm.len;have q5:=bi.len;have q6:=bi.big;have q7:=ae.len;have q8:=Xy (ts:=ts1) (by have:=(WO (j:=0) oM ts1).1 ⟨_,(show [98,120,111,114]∈Zay 0 by decide),aj⟩;omega);exact m216
     | false =>
     exact m68
    ·conv=>whnf
     refine ⟨_,dM,rfl,wN ?_⟩;refine ⟨L,_,rfl,af,0,rfl,oM,fun b au=>?_⟩;have au:isW ts1 [[98,97,110,100]]=b:=au;intro c0a c0d c0w c0p ip
     cases b with
     | true =>
      conv=>whnf
      refine ⟨_,dM,rfl,wN ?_⟩;refine Or.inl ⟨InR.i64 dM dM,wN ?_⟩;have jt:=bz.more oM (show [98,97,110,100]∈Zay 1 by decide) au;have ez:=bz.1;obtain ⟨rfl,bi,rfl,bf⟩:=ip;have bm:=bi.tlq (ZS au);have q1:=bm.lo;have q2:=bm.hi;have q3:=bm.len;have q5:=bi.len;have q6:=bi.big;have q7:=ae.len;have q8:=Xy (ts:=ts1) (by have:=(WO (j:=1) oM ts1).1 ⟨_,(show [98,97,110,100]∈Zay 1 by decide),au⟩;omega);(conv=>whnf);refine Or.inl ⟨InR.i64 oM oM,wN ?_⟩;refine Or.inl ⟨InR.i64 dM dM,wN ?_⟩;refine ⟨L,_,rfl,SOK.mk bm rfl bf,1+1,oM,oM,(by rintro d' ts' hq;cases hq;omega),fun S3 cg=>?_⟩;rw [show 5 - (1+1)=4 - 1 by omega] at cg;exact m5
     | false =>
     conv=>whnf
     refine Or.inl ⟨InR.i64 dM dM,wN ?_⟩;have hs:=bz.stop oM (by intro u hu;simp only [Zay] at hu;simp at hu;subst hu <;> assumption);subst hs;exact h _ _ _ _ _ _ _ _ _ ip
    ·conv=>whnf
     refine ⟨_,dM,rfl,wN ?_⟩;refine ⟨L,_,rfl,af,0,rfl,oM,fun b au=>?_⟩;have au:isW ts1 [[115,104,108]]=b:=au;intro c0a c0d c0w c0p ip
     cases b with
     | true =>
      conv=>whnf
      refine ⟨_,dM,rfl,wN ?_⟩;refine Or.inl ⟨InR.i64 dM dM,wN ?_⟩;refine ⟨_,dM,rfl,wN ?_⟩;refine ⟨L,_,rfl,ip,0,rfl,oM,fun b aj=>?_⟩;have aj:isW ts1 [[115,104,114]]=b:=aj;intro c1a c1d c1w c1p gb
      cases b with
      | true =>
       exact absurd (Zat au aj) dM
      | false =>
      conv=>whnf
      refine Or.inl ⟨InR.i64 dM dM,wN ?_⟩;have jt:=bz.more oM (show [115,104,108]∈Zay 2 by decide) au;have ez:=bz.1;obtain ⟨rfl,bi,rfl,bf⟩:=gb;have bm:=bi.tlq (ZS au);have q1:=bm.lo;have q2:=bm.hi;have q3:=bm.len;have q5:=bi.len;have q6:=bi.big;have q7:=ae.len;have q8:=Xy (ts:=ts1) (by have:=(WO (j:=2) oM ts1).1 ⟨_,(show [115,104,108]∈Zay 2 by decide),au⟩;omega);exact m215
     | false =>
     conv=>whnf
     refine Or.inl ⟨InR.i64 dM dM,wN ?_⟩;refine ⟨_,dM,rfl,wN ?_⟩;refine ⟨L,_,rfl,ip,0,rfl,oM,fun b aj=>?_⟩;have aj:isW ts1 [[115,104,114]]=b:=aj;intro c1a c1d c1w c1p gb
     cases b with
     | true =>
      conv=>whnf
      refine ⟨_,dM,rfl,wN ?_⟩;refine Or.inl ⟨InR.i64 dM dM,wN ?_⟩;have jt:=bz.more oM (show [115,104,114]∈Zay 2 by decide) aj;have ez:=bz.1;obtain ⟨rfl,bi,rfl,bf⟩:=gb;have bm:=bi.tlq (ZS aj);have q1:=bm.lo;have q2:=bm.hi;have q3:=bm.len;have q5:=bi.len;have q6:=bi.big;have q7:=ae.len;have q8:=Xy (ts:=ts1) (by have:=(WO (j:=2) oM ts1).1 ⟨_,(show [115,104,114]∈Zay 2 by decide),aj⟩;omega);exact m215
     | false =>
     exact m68
    ·conv=>whnf
     refine ⟨_,dM,rfl,wN ?_⟩;refine ⟨L,_,rfl,af,0,rfl,oM,fun b au=>?_⟩;have au:isW ts1 [[43]]=b:=au;intro c0a c0d c0w c0p ip
     cases b with
     | true =>
      conv=>whnf
      refine ⟨_,dM,rfl,wN ?_⟩;refine Or.inl ⟨InR.i64 dM dM,wN ?_⟩;refine ⟨_,dM,rfl,wN ?_⟩;refine ⟨L,_,rfl,ip,0,rfl,oM,fun b aj=>?_⟩;have aj:isW ts1 [[45]]=b:=aj;intro c1a c1d c1w c1p gb
      cases b with
      | true =>
       exact absurd (Zat au aj) dM
      | false =>
      conv=>whnf
      refine Or.inl ⟨InR.i64 dM dM,wN ?_⟩;have jt:=bz.more oM (show [43]∈Zay 3 by decide) au;have ez:=bz.1;obtain ⟨rfl,bi,rfl,bf⟩:=gb;have bm:=bi.tlq (ZS au);have q1:=bm.lo;have q2:=bm.hi;have q3:=bm.len;have q5:=bi.len;have q6:=bi.big;have q7:=ae.len;have q8:=Xy (ts:=ts1) (by have:=(WO (j:=3) oM ts1).1 ⟨_,(show [43]∈Zay 3 by decide),au⟩;omega);exact m214
     | false =>
     conv=>whnf
     refine Or.inl ⟨InR.i64 dM dM,wN ?_⟩;refine ⟨_,dM,rfl,wN ?_⟩;refine ⟨L,_,rfl,ip,0,rfl,oM,fun b aj=>?_⟩;have aj:isW ts1 [[45]]=b:=aj;intro c1a c1d c1w c1p gb
     cases b with
     | true =>
      conv=>whnf
      refine ⟨_,dM,rfl,wN ?_⟩;refine Or.inl ⟨InR.i64 dM dM,wN ?_⟩;have jt:=bz.more oM (show [45]∈Zay 3 by decide) aj;have ez:=bz.1;obtain ⟨rfl,bi,rfl,bf⟩:=gb;have bm:=bi.tlq (ZS aj);have q1:=bm.lo;have q2:=bm.hi;have q3:=bm.len;have q5:=bi.len;have q6:=bi.big;have q7:=ae.len;have q8:=Xy (ts:=ts1) (by have:=(WO (j:=3) oM ts1).1 ⟨_,(show [45]∈Zay 3 by decide),aj⟩;omega);exact m214
     | false =>
     exact m68
    conv=>whnf
    refine ⟨_,dM,rfl,wN ?_⟩;refine ⟨L,_,rfl,af,0,rfl,oM,fun b au=>?_⟩;have au:isW ts1 [[42]]=b:=au;intro c0a c0d c0w c0p ip
    cases b with
    | true =>
     conv=>whnf
     refine ⟨_,dM,rfl,wN ?_⟩;refine Or.inl ⟨InR.i64 dM dM,wN ?_⟩;refine ⟨_,dM,rfl,wN ?_⟩;refine ⟨L,_,rfl,ip,0,rfl,oM,fun b aj=>?_⟩;have aj:isW ts1 [[47]]=b:=aj;intro c1a c1d c1w c1p gb
     cases b with
     | true =>
      exact absurd (Zat au aj) dM
     | false =>
     conv=>whnf
     refine Or.inl ⟨InR.i64 dM dM,wN ?_⟩;refine ⟨_,dM,rfl,wN ?_⟩;refine ⟨L,_,rfl,gb,0,rfl,oM,fun b bp=>?_⟩;have bp:isW ts1 [[37]]=b:=bp;intro c2a c2d c2w c2p oc
     cases b with
     | true =>
      exact absurd (Zat au bp) dM
     | false =>
     conv=>whnf
     refine Or.inl ⟨InR.i64 dM dM,wN ?_⟩;have jt:=bz.more oM (show [42]∈Zay 4 by decide) au;have ez:=bz.1;obtain ⟨rfl,bi,rfl,bf⟩:=oc;have bm:=bi.tlq (ZS au);have q1:=bm.lo;have q2:=bm.hi;have q3:=bm.len;have q5:=bi.len;have q6:=bi.big;have q7:=ae.len;have q8:=Xy (ts:=ts1) (by have:=(WO (j:=4) oM ts1).1 ⟨_,(show [42]∈Zay 4 by decide),au⟩;omega);exact m198
    | false =>
    conv=>whnf
    refine Or.inl ⟨InR.i64 dM dM,wN ?_⟩;refine ⟨_,dM,rfl,wN ?_⟩;refine ⟨L,_,rfl,ip,0,rfl,oM,fun b aj=>?_⟩;have aj:isW ts1 [[47]]=b:=aj;intro c1a c1d c1w c1p gb
    cases b with
    | true =>
     conv=>whnf
     refine ⟨_,dM,rfl,wN ?_⟩;refine Or.inl ⟨InR.i64 dM dM,wN ?_⟩;refine ⟨_,dM,rfl,wN ?_⟩;refine ⟨L,_,rfl,gb,0,rfl,oM,fun b bp=>?_⟩;have bp:isW ts1 [[37]]=b:=bp;intro c2a c2d c2w c2p oc
     cases b with
     | true =>
      exact absurd (Zat aj bp) dM
     | false =>
     conv=>whnf
     refine Or.inl ⟨InR.i64 dM dM,wN ?_⟩;have jt:=bz.more oM (show [47]∈Zay 4 by decide) aj;have ez:=bz.1;obtain ⟨rfl,bi,rfl,bf⟩:=oc;have bm:=bi.tlq (ZS aj);have q1:=bm.lo;have q2:=bm.hi;have q3:=bm.len;have q5:=bi.len;have q6:=bi.big;have q7:=ae.len;have q8:=Xy (ts:=ts1) (by have:=(WO (j:=4) oM ts1).1 ⟨_,(show [47]∈Zay 4 by decide),aj⟩;omega);exact m198
    | false =>
    conv=>whnf
    refine Or.inl ⟨InR.i64 dM dM,wN ?_⟩;refine ⟨_,dM,rfl,wN ?_⟩;refine ⟨L,_,rfl,gb,0,rfl,oM,fun b bp=>?_⟩;have bp:isW ts1 [[37]]=b:=bp;intro c2a c2d c2w c2p oc
    cases b with
    | true =>
     conv=>whnf
     refine ⟨_,dM,rfl,wN ?_⟩;refine Or.inl ⟨InR.i64 dM dM,wN ?_⟩;have jt:=bz.more oM (show [37]∈Zay 4 by decide) bp;have ez:=bz.1;obtain ⟨rfl,bi,rfl,bf⟩:=oc;have bm:=bi.tlq (ZS bp);have q1:=bm.lo;have q2:=bm.hi;have q3:=bm.len;have q5:=bi.len;have q6:=bi.big;have q7:=ae.len;have q8:=Xy (ts:=ts1) (by have:=(WO (j:=4) oM ts1).1 ⟨_,(show [37]∈Zay 4 by decide),bp⟩;omega);exact m198
    | false =>
    conv=>whnf
    refine Or.inl ⟨InR.i64 dM dM,wN ?_⟩;have hs:=bz.stop oM (by intro u hu;simp only [Zay] at hu;simp at hu;rcases hu with rfl | rfl | rfl <;> assumption);subst hs;exact h _ _ _ _ _ _ _ _ _ oc
   obtain ⟨e,rfl,hf,hf0⟩:=af.w1 ew;have bz:X=.bad e:=bz;subst bz;(conv=>whnf);exact h _ _ _ _ _ _ _ _ _ af
  exact h.elim
 exact h.elim
def ZvO (c:Int):Int:=if 48<=c/\c<=57 then c - 48 else if 97<=c/\c<=102 then c - 87 else if 65<=c/\c<=70 then c - 55 else -1
noncomputable def Zpu:Zt:=fun args σ K=>match args,σ with
 | [.d (.int .u8 c)],⟨[],[],0⟩=>(0<=c/\c<256)/\K (.ret (.d (.int .i64 (ZvO c)))) ⟨[],[],0⟩
 | _,_=>False
theorem ZvP:PC w0 nG 263 Zpu:=by
 refine Zd Zb mixed (tbl:=[]) trivial Tryz.func263 rfl kR kR ?_;intro args σ K h
 unfold Zpu at h
 split at h
 ·rename_i c
  obtain ⟨⟨h0,h1⟩,h⟩:=h;refine ⟨Za [],0,false,dM,Ta rfl,?_⟩;unfold ZvO at h
  by_cases k1:48<=c/\c<=57
  ·rw [Tg k1] at h;(conv=>whnf);refine ZBC (fun h2=>wN ?_) (fun h2=>absurd k1.1 h2);refine ZBC (fun h3=>wN ?_) (fun h3=>absurd k1.2 h3);refine Or.inl ⟨InR.u8 oM oM,wN ?_⟩;refine Or.inl ⟨InR.i64 oM oM,wN ?_⟩;exact h
  rw [Tc k1] at h
  by_cases k2:97<=c/\c<=102
  ·rw [Tg k2] at h;(conv=>whnf);refine ZBC (fun h2=>?_) (fun h2=>absurd (show c>=48 by omega) h2);(conv=>whnf);refine ZBC (fun h3=>absurd ⟨h2,h3⟩ k1) (fun h3=>wN ?_);refine ZBC (fun h4=>wN ?_) (fun h4=>absurd k2.1 h4);refine ZBC (fun h5=>wN ?_) (fun h5=>absurd k2.2 h5);refine Or.inl ⟨InR.u8 oM oM,wN ?_⟩;refine Or.inl ⟨InR.i64 oM oM,wN ?_⟩;refine Or.inl ⟨InR.i64 oM oM,wN ?_⟩;rw [show c - 87=c - 97+10 by omega] at h;exact h
  rw [Tc k2] at h
  by_cases k3:65<=c/\c<=70
  ·rw [Tg k3] at h;(conv=>whnf);refine ZBC (fun h2=>?_) (fun h2=>absurd (show c>=48 by omega) h2);(conv=>whnf);refine ZBC (fun h3=>absurd ⟨h2,h3⟩ k1) (fun h3=>wN ?_);refine ZBC (fun h4=>absurd h4 (show ¬(c>=97) by omega)) (fun h4=>wN ?_);refine ZBC (fun h6=>wN ?_) (fun h6=>absurd k3.1 h6);refine ZBC (fun h7=>wN ?_) (fun h7=>absurd k3.2 h7);refine Or.inl ⟨InR.u8 oM oM,wN ?_⟩;refine Or.inl ⟨InR.i64 oM oM,wN ?_⟩;refine Or.inl ⟨InR.i64 oM oM,wN ?_⟩;rw [show c - 55=c - 65+10 by omega] at h;exact h
  rw [Tc k3] at h;have fin:∀b:Bool,b=false->True:=fun _ _=>trivial
  conv=>whnf
  refine ZBC (fun h2=>wN ?_) (fun h2=>wN ?_)
  ·refine ZBC (fun h3=>absurd ⟨h2,h3⟩ k1) (fun h3=>wN ?_);refine ZBC (fun h4=>wN ?_) (fun h4=>wN ?_)
   ·refine ZBC (fun h5=>absurd ⟨h4,h5⟩ k2) (fun h5=>wN ?_);exact m157
   exact m157
  refine ZBC (fun h4=>absurd (show c>=48 from by have:c>=97:=h4;omega) h2) (fun h4=>wN ?_);refine ZBC (fun h4=>absurd (show c>=48 from by have:c>=65:=h4;omega) h2) (fun h4=>wN ?_);exact h
 exact h.elim
noncomputable def Zgj:Zt:=fun args σ K=>match args,σ with
 | [.d (.str s),.d (.int .i64 a)],⟨[],[],0⟩=>(0<=a/\a<s.length/\s.length<4294967281)/\K (.ret (.d (.str ((s.drop a.toNat).take (Yo (s.drop a.toNat)))))) ⟨[],[],0⟩
 | _,_=>False
theorem Zbj {l:Bs} {i:Nat} (h:i<l.length):l.getD i 0=l[i]:=by rw [TY,Ti h];rfl
theorem ZrL (r:Bs) (x y:UInt8):Lib.hasPrefix r [x,y]=true↔r.take 2=[x,y]:=by
 unfold Lib.hasPrefix
 rw [List.isPrefixOf_iff_prefix,List.prefix_iff_eq_take];exact ⟨fun g=>g.symm,fun g=>g.symm⟩
theorem ZrM (r:Bs):twos.any (Lib.hasPrefix r)=true↔r.take 2∈twos:=by
 simp only [twos,SH,List.any_nil,Sb,ZrL,Tv,To,or_false,Sq]
theorem ZkQ:PC w0 nG 242 Zgj:=by
 refine Zd Zb mixed (tbl:=[]) trivial Tryz.func242 rfl kR kR ?_;intro args σ K h
 unfold Zgj at h
 split at h
 ·rename_i s a
  obtain ⟨⟨h0,h1,hs⟩,h⟩:=h;obtain ⟨a,rfl⟩:∃n:Nat,a=n:=⟨a.toNat,oM⟩
  simp only [Tu] at h;have s7:cut s ((a:Int)).toNat (min ((a:Int)+2) (s.length:Int)).toNat=(s.drop a).take 2:=by
   rw [X4]
   by_cases h4:(a:Int)+2<=s.length
   ·rw [Int.min_eq_left h4];congr 1;omega
   exact m154
  have h2:=ZrM (s.drop a);generalize hu:(s.drop a).take 2=u at s7 h2;have qf:u∈twos->K (.ret (.d (.str u))) ⟨[],[],0⟩:=fun g=>by
   rw [Yo,Tg (h2.2 g),hu] at h;exact h
  refine ⟨Za [(6,⟨[7],[0,1,6],fun vs σ=>σ=⟨[],[],0⟩/\∃i:Nat,vs=[.d (.int .i64 i)]/\i<=21/\∀j<i,ones.getD j 0≠s.getD a 0,fun vs _=>match vs with | [.d (.int _ n)]=>(21 - n).toNat | _=>0⟩)],0,false,sM,Ta rfl,wN ?_⟩;refine Or.inl ⟨InR.i64 oM oM,wN ?_⟩;refine ⟨oM,oM,oM,wN ?_⟩;rw [s7];have mem:∀x,x∈twos->u=x->K (.ret (.d (.str u))) ⟨[],[],0⟩:=fun x hx g=>qf (g ▸ hx)
  conv=>whnf
  refine ZBC (fun h3=>wN ?_) (fun h3=>wN ?_)
  ·exact mem _ dM h3
  refine ZBC (fun h4=>wN ?_) (fun h4=>wN ?_)
  ·exact mem _ dM h4
  refine ZBC (fun h5=>wN ?_) (fun h5=>wN ?_)
  ·exact mem _ dM h5
  refine ZBC (fun h6=>wN ?_) (fun h6=>wN ?_)
  ·exact mem _ dM h6
  refine ZBC (fun h7=>wN ?_) (fun h7=>wN ?_)
  ·exact mem _ dM h7
  have i6:¬u∈twos:=fun g=>by
   simp only [twos,Tv,Sq,or_false] at g;rcases g with g | g | g | g | g
   ·exact h3 g
   ·exact h4 g
   ·exact h5 g
   ·exact h6 g
   exact h7 g
  have mg:Yo (s.drop a)=if ones.contains (s.getD a 0) then 1 else 0:=by
   rw [Yo,Tc (fun g=>i6 (h2.1 g)),Lib.getD_dropU,Se]
  refine ⟨⟨rfl,0,rfl,oM,oM⟩,?_⟩;intro vs σ1 hI
  obtain ⟨rfl,i,rfl,hi,hj⟩:=hI;(conv=>whnf);have vp:ones.length=21:=rfl;(conv=>whnf);refine ZBC (fun h8=>wN ?_) (fun h8=>wN ?_)
  ·have h8':i<21:=by have:(i:Int)<(21:Int):=h8;omega
   have dh:∀x:UInt8,ones.getD i 0=x->ones.contains x=true:=fun x g=>by
    rw [Zbj (by rw [vp];exact h8')] at g;rw [<- g];simp
   refine ⟨oM,h8,wN ?_⟩;refine ⟨h0,h1,wN ?_⟩;refine ZBC (fun h9=>wN ?_) (fun h9=>wN ?_)
   ·have h9':ones.getD i 0=s.getD a 0:=by
     have:((ones.getD i 0).toNat:Int)=((s.getD a 0).toNat:Int):=h9;exact UInt8.toNat_inj.1 oM
    refine Or.inl ⟨InR.i64 oM oM,wN ?_⟩;refine ⟨oM,oM,show (i:Int)+1<=21 by omega,wN ?_⟩;have e:cut ones ((i:Int)).toNat ((i:Int)+1).toNat=(s.drop a).take 1:=by
     rw [X4,show ((i:Int)+1).toNat - ((i:Int)).toNat=1 by omega,show ((i:Int)).toNat=i from rfl];rw [TS (by rw [vp];exact h8':i<ones.length),TS (by omega:a<s.length)];rw [Zbj (by rw [vp];exact h8'),Zbj oM] at h9';rw [List.take_succ_cons,List.take_succ_cons,T2,T2,h9']
    rw [mg,dh _ h9',Tg rfl,<- e] at h;exact h
   refine Or.inl ⟨InR.i64 oM oM,wN ?_⟩;refine ⟨⟨rfl,i+1,rfl,oM,fun j hj1 g=>?_⟩,?_⟩
   ·rcases Nat.lt_or_ge j i with g1 | g1
    ·exact hj j g1 g
    obtain rfl:j=i:=by omega
    exact h9 (show ((ones.getD j 0).toNat:Int)=((s.getD a 0).toNat:Int) by rw [g])
   exact (show ((21:Int) - ((i:Int)+1)).toNat<((21:Int) - (i:Int)).toNat by omega)
  have h8':21<=i:=by have:¬(i:Int)<(21:Int):=h8;omega
  have hc:ones.contains (s.getD a 0)=false:=by
   rw [Bool.eq_false_iff];intro g
   rw [List.contains_iff_mem] at g;obtain ⟨j,hj1,gh⟩:=Sd g;exact hj j (by rw [vp] at hj1;omega) (by rw [Zbj hj1];exact gh)
  rw [mg,hc,Tc sM,T2] at h;exact h
 exact h.elim
def Zpv (r:Bs):Bool:=Zi (pk r).1 || Zl (pk r).1 || decide ((pk r).1=34) || decide (0<Yo r)
noncomputable def Zpw:Zt:=fun args σ K=>match args,σ with
 | [.d (.str s),.d (.int .i64 a)],⟨[],[],0⟩=>(0<=a/\a<s.length/\s.length<4294967281)/\K (.ret (.d (.bool (Zpv (s.drop a.toNat))))) ⟨[],[],0⟩
 | _,_=>False
theorem Zb2 {r:Bs} (h0:0<r.length) {c:Int} (gi:0<=c) (hc:c<128):(pk r).1=c↔((r.getD 0 0).toNat:Int)=c:=by
 constructor
 ·intro g
  have:=(Zg7 r oM oM).2.1;omega
 intro g
 obtain ⟨b,l,rfl⟩:∃b l,r=b::l:=by cases r with | nil=>simp at h0 | cons b l=>exact ⟨b,l,rfl⟩
 have e:Lib.decodeL (b::l)=(b.toNat,1):=by
  rw [Lib.decodeL_N];simp only [Sj,Td] at g |-;unfold Lib.decodeN
  rw [Tg oM]
 unfold pk
 rw [Tc,e]
 ·simpa using g
 rw [e];simp only [not_or];exact ⟨sM,fun k=>by have:=b.toNat_lt;injection k;omega⟩
theorem Jz {r:Bs} (h0:0<r.length):Zl (pk r).1=Zl ((r.getD 0 0).toNat:Int):=by
 have k:=fun (c:Int) h1 h2=>@Zb2 r h0 c h1 h2
 rw [Bool.eq_iff_iff,isDigit_iff,isDigit_iff]
 constructor
 ·intro g;have:=(k _ (by omega:0<=(pk r).1) oM).1 rfl;omega
 intro g;have:=(k _ (by omega:0<=((r.getD 0 0).toNat:Int)) oM).2 rfl;omega
noncomputable def ZvQ:Tbl:=[(135,Zag),(195,Vd),(242,Zgj)]
theorem ZvR:PC w0 nG 203 Zpw:=by
 refine Zd Zb mixed (tbl:=ZvQ) ⟨ZaZ,ZaY,ZkQ,trivial⟩ Tryz.func203 rfl kR kR ?_;intro args σ K h
 unfold Zpw at h
 split at h
 ·rename_i s a
  obtain ⟨⟨h0,h1,hs⟩,h⟩:=h;obtain ⟨a,rfl⟩:∃n:Nat,a=n:=⟨a.toNat,oM⟩
  simp only [Tu] at h;have ge:0<(s.drop a).length:=hD;have kw:=Jz ge;have wa:=Zb2 ge (c:=34) oM oM;rw [Lib.getD_dropU,Se] at kw wa;refine ⟨Za [],0,false,dM,Ta rfl,wN ?_⟩;refine ⟨⟨h0,hs⟩,wN ?_⟩;refine ZBF (fun h2=>wN ?_) (fun h2=>wN ?_)
  ·have cq:Zi (pk (s.drop a)).1=true:=h2;rw [Zpv,cq,Bool.true_or,Bool.true_or,Bool.true_or] at h;exact h
  have cq:Zi (pk (s.drop a)).1=false:=h2;rw [Zpv,cq,SE] at h;refine ⟨h0,h1,wN ?_⟩;have xl:=(s.getD ((a:Int)).toNat 0).toNat_lt;refine Or.inl ⟨InR.i32 oM oM,wN ?_⟩;refine ZBF (fun h3=>wN ?_) (fun h3=>wN ?_)
  ·have du:Zl (pk (s.drop a)).1=true:=kw.trans h3;rw [du,Bool.true_or,Bool.true_or] at h;exact h
  have du:Zl (pk (s.drop a)).1=false:=kw.trans h3;rw [du,SE] at h;refine ⟨h0,h1,wN ?_⟩;refine ZBC (fun h4=>wN ?_) (fun h4=>wN ?_)
  ·rw [TC (wa.2 h4),Bool.true_or] at h;exact h
  rw [decide_eq_false (fun g=>h4 (wa.1 g)),SE] at h;refine ⟨⟨h0,h1,hs⟩,wN ?_⟩;have hl:((s.drop a).take (Yo (s.drop a))).length=0↔Yo (s.drop a)=0:=by rw [Sn];omega
  refine ZaR h ?_;have e:∀n,(decide (0<n))=!(decide (n=0)):=fun n=>by cases n <;> simp
  rw [e]
  congr 1
  rw [decide_eq_decide,<- hl];exact SA
 exact h.elim
theorem ZkR {R:Bs} (h:Lib.hasPrefix R [47,47]=true):2<=(if Lib.indexByte R 10<0 then R.length else (Lib.indexByte R 10).toNat)/\(if Lib.indexByte R 10<0 then R.length else (Lib.indexByte R 10).toNat)<=R.length:=by
 have h1:=(ZD h).1;have h2:=Vz 10 R;have h3:=ZaU (c:=10) h dM dM;split <;> omega
theorem Ug:∀(f g:Nat) (r:Bs),r.length<f->r.length<g->Zx f r=Zx g r
 | 0,_,r,h,_=>oM
 | _,0,r,_,h=>oM
 | f+1,g+1,r,hf,hg=>by
  have ak:=Znm r
  cases h1:Lib.hasPrefix (Lib.trimLeftS r ws) [47,47] with
  | true =>
   have h2:=ZkR h1;rw [Wy h1 _ rfl,Wy h1 _ rfl];rw [Ug f g _ hD hD]
  | false =>
  cases h2:Lib.hasPrefix (Lib.trimLeftS r ws) [47,42] with
  | false=>rw [Vf h1 h2,Vf h1 h2]
  | true =>
  have h4:=(ZD h2).1
  by_cases h3:Lib.index ((Lib.trimLeftS r ws).drop 2) [42,47]<0
  ·rw [Wz h1 h2 h3,Wz h1 h2 h3]
  rw [Vg h1 h2 (Lib.index ((Lib.trimLeftS r ws).drop 2) [42,47]).toNat oM,Vg h1 h2 (Lib.index ((Lib.trimLeftS r ws).drop 2) [42,47]).toNat oM];rw [Ug f g _ hD hD]
theorem ZhR {f:Nat} {r:Bs} (h:r.length<f):Zx f r=Zw r:=Ug _ _ r h oM
theorem ZvS {c:UInt8} {r:Bs} (h:ws.contains c=true):Lib.trimLeftS (c::r) ws=Lib.trimLeftS r ws:=by
 unfold Lib.trimLeftS;rw [List.dropWhile_cons,Tg h]
theorem Zpx {c:UInt8} {r:Bs} (h:ws.contains c=false):Lib.trimLeftS (c::r) ws=c::r:=by
 unfold Lib.trimLeftS;rw [List.dropWhile_cons,Tc (by rw [h];simp)]
theorem Zpy {c:UInt8} {r:Bs} (h:ws.contains c=true):Zw (c::r)=((Zw r).1,1+(Zw r).2):=by
 have ht:=ZvS (r:=r) h;have ak:=Znm r;have e:∀x:Bs,Zw x=Zx (x.length+1) x:=fun _=>rfl
 rw [e,e]
 cases h1:Lib.hasPrefix (Lib.trimLeftS r ws) [47,47] with
 | true =>
  have ji:=h1;rw [<- ht] at ji;have h2:=ZkR h1;rw [Wy ji _ rfl,Wy h1 _ rfl,ht,Ug (c::r).length r.length _ (by rw [Tp,Td];omega) hD];exact m186
 | false =>
 have ji:=h1;rw [<- ht] at ji
 cases h2:Lib.hasPrefix (Lib.trimLeftS r ws) [47,42] with
 | false =>
  have cq:=h2;rw [<- ht] at cq;rw [Vf h1 h2,Vf ji cq,ht];exact m186
 | true =>
 have cq:=h2;rw [<- ht] at cq;have h4:=(ZD h2).1
 by_cases h3:Lib.index ((Lib.trimLeftS r ws).drop 2) [42,47]<0
 ·have du:=h3;rw [<- ht] at du;rw [Wz h1 h2 h3,Wz ji cq du,ht];exact m186
 have du:Lib.index ((Lib.trimLeftS (c::r) ws).drop 2) [42,47]=((Lib.index ((Lib.trimLeftS r ws).drop 2) [42,47]).toNat:Nat):=by rw [ht];omega
 rw [Vg ji cq _ du,Vg h1 h2 (Lib.index ((Lib.trimLeftS r ws).drop 2) [42,47]).toNat oM,ht];rw [Ug (c::r).length r.length _ (by rw [Tp,Td];omega) hD];exact m186
theorem Zgk {r:Bs} {a b:UInt8} (h:Lib.hasPrefix r [a,b]=true) (ha:ws.contains a=false):Lib.trimLeftS r ws=r:=by
 rw [(ZD h).2];exact Zpx ha
theorem Zjc {r:Bs} (h:Lib.hasPrefix r [47,47]=true) (n:Nat) (hn:n=if Lib.indexByte r 10<0 then r.length else (Lib.indexByte r 10).toNat):Zw r=((Zw (r.drop n)).1,n+(Zw (r.drop n)).2):=by
 have ht:=Zgk h dM;have h1:=h;rw [<- ht] at h1;have h2:=ZkR h;have e:Zw r=Zx (r.length+1) r:=rfl;rw [e,Wy h1 n (by rw [ht];exact hn),ht,ZhR hD];refine Prod.ext rfl ?_;simp
theorem Zpz {r:Bs} (h:Lib.hasPrefix r [47,42]=true):Lib.hasPrefix r [47,47]=false:=by
 rw [(ZD h).2];rfl
theorem Zjd {r:Bs} (h:Lib.hasPrefix r [47,42]=true) (h3:Lib.index (r.drop 2) [42,47]<0):Zw r=(false,0):=by
 have ht:=Zgk h dM;have h1:=h;rw [<- ht] at h1;have h0:=Zpz h;rw [<- ht] at h0;have e:Zw r=Zx (r.length+1) r:=rfl;rw [e,Wz h0 h1 (by rw [ht];exact h3),ht];simp
theorem Zl8 {r:Bs} (h:Lib.hasPrefix r [47,42]=true) (i:Nat) (h3:Lib.index (r.drop 2) [42,47]=i):Zw r=((Zw (r.drop (i+4))).1,i+4+(Zw (r.drop (i+4))).2):=by
 have ht:=Zgk h dM;have h1:=h;rw [<- ht] at h1;have h0:=Zpz h;rw [<- ht] at h0;have h4:=(ZD h).1;have e:Zw r=Zx (r.length+1) r:=rfl;rw [e,Vg h0 h1 i (by rw [ht];exact h3),ht,ZhR hD];refine Prod.ext rfl ?_;simp
theorem Zl9 {c:UInt8} {r:Bs} (h:ws.contains c=false) (h1:Lib.hasPrefix (c::r) [47,47]=false) (h2:Lib.hasPrefix (c::r) [47,42]=false):Zw (c::r)=(true,0):=by
 have ht:=Zpx (r:=r) h;have e:Zw (c::r)=Zx ((c::r).length+1) (c::r):=rfl;rw [e,Vf (by rw [ht];exact h1) (by rw [ht];exact h2),ht];simp
theorem Jd {s:Bs} {a:Nat} (h:a<s.length):s.drop a=s.getD a 0::s.drop (a+1):=by
 rw [TS h,Zbj h]
theorem Zeo {b c:UInt8} {l:Bs} (h:b≠c):Lib.indexByte (b::l) c=if Lib.indexByte l c<0 then -1 else Lib.indexByte l c+1:=by
 have ko:=Lib.indexByte_ge l c;simp only [Lib.indexByte];rw [Tc (by simpa using h)]
 by_cases h1:Lib.indexByte l c=-1
 ·rw [h1];simp
 rw [Tc (by simpa using h1),Tc oM]
theorem Zma {b:UInt8} {l p:Bs} (h:Lib.hasPrefix (b::l) p=false):Lib.index (b::l) p=if Lib.index l p<0 then -1 else Lib.index l p+1:=by
 have ko:=Lib.index_ge l p;unfold Lib.hasPrefix at h
 simp only [Lib.index];rw [Tc (by rw [h];simp)]
 by_cases h1:Lib.index l p=-1
 ·rw [h1];simp
 rw [Tc (by simpa using h1),Tc oM]
theorem ZpA {l p:Bs} (h:Lib.hasPrefix l p=true) (hp:p≠[]):Lib.index l p=0:=by
 unfold Lib.hasPrefix at h
 cases l with
 | nil=>cases p with
  | nil=>exact absurd rfl hp
  | cons x p=>simp [List.isPrefixOf] at h
 | cons b l=>simp only [Lib.index];rw [Tg h]
theorem Zd5 {l:Bs} (h:l.length<=1):Lib.index l [42,47]=-1:=by
 match l,h with
 | [],_=>rfl
 | [b],_=>simp [Lib.index,List.isPrefixOf]
def J0 (k:Nat) (i:Int):Int:=if i<0 then -1 else i+k
theorem Zd6 {k:Nat} {i:Int}:J0 k (if i<0 then -1 else i+1)=J0 (k+1) i:=by
 unfold J0
 split <;> split <;> omega
theorem Zd7 {i:Int} (h:-1<=i):J0 0 i=i:=by unfold J0;split <;> omega
noncomputable def Zgl:Zt:=fun args σ K=>match args,σ with
 | [.d (.str s),.d (.int .i64 a)],⟨[],[],0⟩=>(0<=a/\a<=s.length/\s.length<4294967281) /\
   K (.ret (.tuple [.d (.int .i64 (a+(Zw (s.drop a.toNat)).2)),.d (.int .i64 (if (Zw (s.drop a.toNat)).1=true then -1 else a+(Zw (s.drop a.toNat)).2))])) ⟨[],[],0⟩
 | _,_=>False
theorem ZpB:PC w0 nG 202 Zgl:=by
 refine Vb Zb mixed (tbl:=[]) trivial Tryz.func202 rfl kR kR ?_;intro args σ K h
 unfold Zgl at h
 split at h
 ·rename_i s a
  obtain ⟨⟨h0,h1,hs⟩,h⟩:=h;obtain ⟨a,rfl⟩:∃n:Nat,a=n:=⟨a.toNat,oM⟩
  simp only [Tu] at h;refine ⟨Za [(1,⟨[1],[0],fun vs σ=>σ=⟨[],[],0⟩/\∃e:Nat,vs=[.d (.int .i64 e)]/\(a<=e/\e<=s.length)/\Zw (s.drop a)=((Zw (s.drop e)).1,e - a+(Zw (s.drop e)).2),muI s.length⟩),
   (8,⟨[1],[0,14],fun vs σ=>σ=⟨[],[],0⟩/\∃e x:Nat,vs=[.d (.str s),.d (.int .i64 e),.d (.int .i64 x)]/\(a<=e/\e<=x/\x<=s.length)/\Zw (s.drop a)=((Zw (s.drop e)).1,e - a+(Zw (s.drop e)).2)/\Lib.hasPrefix (s.drop e) [47,47]=true/\Lib.indexByte (s.drop e) 10=J0 (x - e) (Lib.indexByte (s.drop x) 10),fun vs _=>match vs with | [_,_,.d (.int _ n)]=>((s.length:Int) - n).toNat | _=>0⟩),
   (12,⟨[8],[0,1],fun vs σ=>σ=⟨[],[],0⟩/\∃e x:Nat,vs=[.d (.str s),.d (.int .i64 e),.d (.int .i64 x)]/\(a<=e/\e+2<=x/\(x<=s.length\/x=s.length+1/\x=e+3))/\Zw (s.drop a)=((Zw (s.drop e)).1,e - a+(Zw (s.drop e)).2)/\Lib.hasPrefix (s.drop e) [47,42]=true/\(e+2<x->Lib.index (s.drop (e+2)) [42,47]=J0 (x - 1 - (e+2)) (Lib.index (s.drop (x - 1)) [42,47])),fun vs _=>match vs with | [_,_,.d (.int _ n)]=>((s.length:Int)+1 - n).toNat | _=>0⟩)],Wv [],Ys [8,12],0,false,sM,Ta rfl,?_⟩
  conv=>whnf
  refine ⟨⟨rfl,a,rfl,⟨oM,oM⟩,sM⟩,?_⟩;intro vs σ1 hI
  obtain ⟨rfl,e,rfl,⟨rl,oh⟩,hE⟩:=hI;have stop:∀k,(Zw (s.drop e))=(true,k)->k=0->K (.ret (.tuple [.d (.int .i64 e),.d (.int .i64 (-1))])) ⟨[],[],0⟩:=fun k hk h3=>by
   subst h3;rw [hE,hk] at h;simp only [if_true] at h;rw [show (a:Int)+((e - a+0:Nat):Int)=(e:Int) by omega] at h;exact h
  conv=>whnf
  refine ZBC (fun h2=>wN ?_) (fun h2=>wN ?_)
  ·have cq:e<s.length:=by omega
   have hdh:=Jd cq;have xl:=(s.getD e 0).toNat_lt;refine ⟨oM,oM,wN ?_⟩;refine Or.inl ⟨InR.i64 oM oM,wN ?_⟩;refine ⟨oM,oM,oM,wN ?_⟩;have s7:cut s ((e:Int)).toNat (min ((e:Int)+2) (s.length:Int)).toNat=(s.drop e).take 2:=by
    rw [X4]
    by_cases h4:(e:Int)+2<=s.length
    ·rw [Int.min_eq_left h4];congr 1;omega
    exact m154
   have xk:∀b:UInt8,s.getD e 0=b->ws.contains b=true->a<=e+1/\e+1<=s.length/\Zw (s.drop a)=((Zw (s.drop (e+1))).1,e+1 - a+(Zw (s.drop (e+1))).2):=fun b hb hw=>by
    refine ⟨oM,oM,?_⟩;rw [hE,hdh,hb,Zpy hw];refine Prod.ext rfl ?_;simp only;omega
   have byt:∀n:Nat,n<256->(((s.getD ((e:Int)).toNat 0).toNat:Int)=(n:Int)↔s.getD e 0=UInt8.ofNat n):=fun n hn=>by
    rw [Tu]
    constructor
    ·intro g;apply UInt8.toNat_inj.1;rw [UInt8.toNat_ofNat_of_lt' (by show n<256;omega)];omega
    intro g;rw [g,UInt8.toNat_ofNat_of_lt' (by show n<256;omega)]
   conv=>whnf
   refine ZBC (fun k1=>wN ?_) (fun k1=>wN ?_)
   ·obtain ⟨g1,g2,g3⟩:=xk _ ((byt 9 oM).1 k1) dM;exact m61
   refine ZBC (fun k2=>wN ?_) (fun k2=>wN ?_)
   ·obtain ⟨g1,g2,g3⟩:=xk _ ((byt 10 oM).1 k2) dM;exact m61
   refine ZBC (fun k3=>wN ?_) (fun k3=>wN ?_)
   ·obtain ⟨g1,g2,g3⟩:=xk _ ((byt 13 oM).1 k3) dM;exact m61
   refine ZBC (fun k4=>wN ?_) (fun k4=>wN ?_)
   ·obtain ⟨g1,g2,g3⟩:=xk _ ((byt 32 oM).1 k4) dM;exact m61
   have hnw:ws.contains (s.getD e 0)=false:=by
    rw [Bool.eq_false_iff];intro g
    rw [List.contains_iff_mem] at g;simp only [Tv,Sq,or_false] at g;rcases g with g | g | g | g
    ·exact k4 ((byt 32 oM).2 g)
    ·exact k1 ((byt 9 oM).2 g)
    ·exact k3 ((byt 13 oM).2 g)
    exact k2 ((byt 10 oM).2 g)
   rw [s7];(conv=>whnf);refine ZBC (fun k5=>wN ?_) (fun k5=>wN ?_)
   ·have hp:Lib.hasPrefix (s.drop e) [47,47]=true:=(ZrL _ _ _).2 k5;refine ⟨⟨rfl,e,e,rfl,⟨oM,oM,oM⟩,hE,hp,by rw [Nat.sub_self,Zd7 (Lib.indexByte_ge _ _)]⟩,?_⟩;intro vs σ1 hI
    obtain ⟨rfl,e',x,hv,⟨x1,x2,x3⟩,qj,i7,hx⟩:=hI;obtain ⟨rfl,rfl⟩:e=e'/\vs=[.d (.int .i64 x)]:=by
     exact m183
    have ct:∀n,n=(if Lib.indexByte (s.drop e) 10<0 then (s.drop e).length else (Lib.indexByte (s.drop e) 10).toNat)->x=e+n->a<=x/\x<=s.length/\Zw (s.drop a)=((Zw (s.drop x)).1,x - a+(Zw (s.drop x)).2)/\e+2<=x:=fun n hn hxe=>by
     have:=ZkR hp;refine ⟨oM,oM,?_,oM⟩;rw [hE,Zjc hp n hn,Tw,<- hxe];refine Prod.ext rfl ?_;simp only;omega
    conv=>whnf
    refine ZBC (fun q1=>wN ?_) (fun q1=>wN ?_)
    ·have q1':x<s.length:=by omega
     have hxh:=Jd q1';refine ⟨oM,oM,wN ?_⟩;refine ZBE (fun q2=>wN ?_) (fun q2=>wN ?_)
     ·have q2':s.getD x 0≠10:=fun g=>q2 (show ((s.getD ((x:Int)).toNat 0).toNat:Int)=10 by rw [Tu,g];rfl)
      refine Or.inl ⟨InR.i64 oM oM,wN ?_⟩;refine ⟨⟨rfl,e,x+1,rfl,⟨oM,oM,oM⟩,hE,hp,?_⟩,(show ((s.length:Int) - ((x:Int)+1)).toNat<((s.length:Int) - (x:Int)).toNat by omega)⟩;rw [hx,hxh,Zeo q2',Zd6,show x+1 - e=x - e+1 by omega]
     have q2':s.getD x 0=10:=by
      have g:((s.getD ((x:Int)).toNat 0).toNat:Int)=10:=q2;rw [Tu] at g
      apply UInt8.toNat_inj.1;show (s.getD x 0).toNat=10;omega
     have h0:Lib.indexByte (s.drop x) 10=0:=by rw [hxh,q2'];rfl
     rw [h0] at hx;have gy:Lib.indexByte (s.drop e) 10=((x - e:Nat):Int):=by rw [hx];unfold J0;rw [Tc oM];omega
     obtain ⟨g1,g2,g3,g4⟩:=ct (x - e) (by rw [gy,Tc oM];omega) oM;exact m174
    have q1':x=s.length:=by omega
    have h0:Lib.indexByte (s.drop x) 10=-1:=by rw [q1',Sa];rfl
    rw [h0] at hx;have gy:Lib.indexByte (s.drop e) 10=-1:=by rw [hx];rfl
    obtain ⟨g1,g2,g3,g4⟩:=ct (x - e) (by rw [gy,Tg oM,Tp];omega) oM;exact m174
   have hp:Lib.hasPrefix (s.drop e) [47,47]=false:=by rw [Bool.eq_false_iff];exact fun g=>k5 ((ZrL _ _ _).1 g)
   refine ZBC (fun k6=>wN ?_) (fun k6=>wN ?_)
   ·have iv:Lib.hasPrefix (s.drop e) [47,42]=true:=(ZrL _ _ _).2 k6;have iu:e+2<=s.length:=by have:=(ZD iv).1;rw [Tp] at this;omega
    refine Or.inl ⟨InR.i64 oM oM,wN ?_⟩;refine ⟨⟨rfl,e,e+2,rfl,⟨oM,oM,oM⟩,hE,iv,fun g=>oM⟩,?_⟩;intro vs σ1 hI
    obtain ⟨rfl,e',x,hv,⟨x1,x2,x3⟩,qj,i7,hx⟩:=hI;obtain ⟨rfl,rfl⟩:e=e'/\vs=[.d (.int .i64 x)]:=by
     exact m183
    have ml:(s.drop e).drop 2=s.drop (e+2):=by rw [Tw]
    have more:(e+2<x->Lib.hasPrefix (s.drop (x - 1)) [42,47]=false)->(e+2<x->x<s.length)->(e+2<x+1->Lib.index (s.drop (e+2)) [42,47]=J0 (x+1 - 1 - (e+2)) (Lib.index (s.drop (x+1 - 1)) [42,47])):=fun g1 g2 _=>by
     rcases Nat.lt_or_ge (e+2) x with g | g
     ·have hxh:s.drop (x - 1)=s.getD (x - 1) 0::s.drop x:=by rw [Jd (show x - 1<s.length by have:=g2 g;omega),show x - 1+1=x by omega]
      rw [hx g,hxh,Zma (by rw [<- hxh];exact g1 g),Zd6,show x+1 - 1 - (e+2)=x - 1 - (e+2)+1 by omega,Nat.add_sub_cancel]
     obtain rfl:x=e+2:=by omega
     rw [Nat.add_sub_cancel,Nat.sub_self,Zd7 (Lib.index_ge _ _)]
    have out:s.length<=x->K (.ret (.tuple [.d (.int .i64 e),.d (.int .i64 e)])) ⟨[],[],0⟩:=fun g=>by
     have pn:Lib.index ((s.drop e).drop 2) [42,47]<0:=by
      rw [ml];rcases Nat.lt_or_ge (e+2) x with g1 | g1
      ·rw [hx g1,Zd5 hD];exact (show (-1:Int)<0 by decide)
      rw [Zd5 hD];decide
     have hb:=Zjd iv pn;rw [hE,hb] at h;simp only [To,if_false] at h;rw [show (a:Int)+((e - a+0:Nat):Int)=(e:Int) by omega] at h;exact h
    conv=>whnf
    refine ZBC (fun q1=>wN ?_) (fun q1=>wN ?_)
    ·have q1':x<s.length:=by omega
     refine Or.inl ⟨InR.i64 oM oM,wN ?_⟩;refine Or.inl ⟨InR.i64 oM oM,wN ?_⟩;refine ⟨oM,oM,oM,wN ?_⟩;have hcx:cut s ((x:Int) - 1).toNat ((x:Int)+1).toNat=(s.drop (x - 1)).take 2:=by
      rw [X4,show ((x:Int) - 1).toNat=x - 1 by omega];congr 1;omega
     rw [hcx];(conv=>whnf);refine ZBE (fun q2=>wN ?_) (fun q2=>wN ?_)
     ·have q2':Lib.hasPrefix (s.drop (x - 1)) [42,47]=false:=by rw [Bool.eq_false_iff];exact fun g=>q2 ((ZrL _ _ _).1 g)
      refine Or.inl ⟨InR.i64 oM oM,wN ?_⟩;exact ⟨⟨rfl,e,x+1,rfl,⟨oM,oM,oM⟩,hE,iv,more (fun _=>q2') (fun _=>q1')⟩,(show ((s.length:Int)+1 - ((x:Int)+1)).toNat<((s.length:Int)+1 - (x:Int)).toNat by omega)⟩
     have q2':Lib.hasPrefix (s.drop (x - 1)) [42,47]=true:=(ZrL _ _ _).2 q2;refine Or.inl ⟨InR.i64 oM oM,wN ?_⟩;refine ZBC (fun q3=>wN ?_) (fun q3=>wN ?_)
     ·have q3':x=e+2:=by omega
      refine Or.inl ⟨InR.i64 oM oM,wN ?_⟩;exact ⟨⟨rfl,e,x+1,rfl,⟨oM,oM,oM⟩,hE,iv,more (fun g=>oM) (fun _=>q1')⟩,(show ((s.length:Int)+1 - ((x:Int)+1)).toNat<((s.length:Int)+1 - (x:Int)).toNat by omega)⟩
     have q3':e+2<x:=by omega
     have hi:Lib.index ((s.drop e).drop 2) [42,47]=((x - 1 - (e+2):Nat):Int):=by
      rw [ml,hx q3',ZpA q2' sM];unfold J0;rw [Tc oM];omega
     have hb:=Zl8 iv _ hi;rw [Tw,show e+(x - 1 - (e+2)+4)=x+1 by omega] at hb;refine ZBC (fun q4=>absurd q4 oM) (fun q4=>wN ?_);refine Or.inl ⟨InR.i64 oM oM,wN ?_⟩;refine ⟨⟨rfl,x+1,rfl,⟨oM,oM⟩,?_⟩,(show ((s.length:Int) - ((x:Int)+1)).toNat<((s.length:Int) - (e:Int)).toNat by omega)⟩;rw [hE,hb];refine Prod.ext rfl ?_;simp only;omega
    have q1':s.length<=x:=by omega
    refine Or.inl ⟨InR.i64 oM oM,wN ?_⟩;refine ZBC (fun q3=>wN ?_) (fun q3=>wN ?_)
    ·have q3':x=e+2:=by omega
     refine Or.inl ⟨InR.i64 oM oM,wN ?_⟩;exact ⟨⟨rfl,e,x+1,rfl,⟨oM,oM,oM⟩,hE,iv,more (fun g=>oM) (fun g=>oM)⟩,(show ((s.length:Int)+1 - ((x:Int)+1)).toNat<((s.length:Int)+1 - (x:Int)).toNat by omega)⟩
    refine ZBC (fun q4=>?_) (fun q4=>absurd (show (x:Int)>=s.length by omega) q4);(conv=>whnf);exact out q1'
   have iv:Lib.hasPrefix (s.drop e) [47,42]=false:=by rw [Bool.eq_false_iff];exact fun g=>k6 ((ZrL _ _ _).1 g)
   refine stop 0 ?_ rfl;rw [hdh] at hp iv |-;exact Zl9 hnw hp iv
  have cq:e=s.length:=by omega
  refine stop 0 ?_ rfl;rw [cq,Sa];exact ZlA
 exact h.elim
theorem ZvT {p:UInt8->Bool}:∀(l:Bs) (k:Nat),k<=(l.takeWhile p).length->(k<l.length->(p (l.getD k 0)=true↔k<(l.takeWhile p).length))/\(l.length<=k->k=(l.takeWhile p).length)/\(k<(l.takeWhile p).length->k<l.length/\(l.takeWhile p).getD k 0=l.getD k 0)
 | [],k,h=>by simp at h;subst h;simp
 | b::l,k,h=>by
  by_cases hb:p b=true
  ·rw [List.takeWhile_cons_of_pos hb] at h |-
   cases k with
   | zero=>simp [hb]
   | succ k =>
   have ih:=ZvT (p:=p) l k (by simpa using h);simp only [Td,Sv,Nat.add_lt_add_iff_right,Nat.add_le_add_iff_right];exact ⟨ih.1,fun g=>by have:=ih.2.1 g;omega,ih.2.2⟩
  rw [List.takeWhile_cons_of_neg hb] at h |-;simp only [Tf,Nat.le_zero] at h;subst h;simp [hb]
theorem W3 {s:Bs} {o k:Nat}:(s.drop o).getD k 0=s.getD (o+k) 0:=by
 rw [TY,Sy,<- TY]
theorem ZkS (b:UInt8):(0<=ZvO b.toNat↔Xz true b=true)/\(Xz true b=true->ZvO b.toNat=Zax b/\Zax b<16):=by
 have key:∀n:Fin 256,(0<=ZvO (n.val:Int)↔Xz true (UInt8.ofNat n.val)=true)/\(Xz true (UInt8.ofNat n.val)=true->ZvO (n.val:Int)=Zax (UInt8.ofNat n.val)/\Zax (UInt8.ofNat n.val)<16):=by decide +kernel
 have:=key ⟨b.toNat,b.toNat_lt⟩;simpa using this
theorem Zyc {m d:Nat} (hm:m<2 ^ 60) (hd:d<16):Zm .or .u64 ((m:Int) * 16) (d:Int)=((m * 16+d:Nat):Int):=by
 have e:Zm .or .u64 ((m:Int) * 16) (d:Int)=IntKind.u64.wrap (BitVec.ofInt 64 ((m:Int) * 16) ||| BitVec.ofInt 64 (d:Int)).toNat:=by rw [Yz];rfl
 have h1:(BitVec.ofInt 64 ((m:Int) * 16)).toNat=m * 16:=by
  rw [show (m:Int) * 16=((m * 16:Nat):Int) by simp,BitVec.ofInt_natCast,BitVec.toNat_ofNat];omega
 have h2:(BitVec.ofInt 64 (d:Int)).toNat=d:=by rw [BitVec.ofInt_natCast,BitVec.toNat_ofNat];omega
 have h3:m * 16 ||| d=m * 16+d:=by
  have:=Nat.two_pow_add_eq_or_of_lt (i:=4) (b:=d) oM m;rw [show (2:Nat) ^ 4=16 by rfl] at this;rw [SD m 16,<- this]
 rw [e,BitVec.toNat_or,h1,h2,h3];have:InR .u64 ((m * 16+d:Nat):Int):=InR.u64 oM oM;exact this
theorem ZkT (n:Int):0<=IntKind.u64.wrap n/\IntKind.u64.wrap n<18446744073709551616:=by
 unfold IntKind.wrap
 simp only [show IntKind.u64.bits=64 from rfl,show IntKind.u64.signed=false from rfl,TU];simp;omega
theorem ZrN (x y:Int):0<=Zm .or .u64 x y/\Zm .or .u64 x y<18446744073709551616:=by
 have e:Zm .or .u64 x y=IntKind.u64.wrap (BitVec.ofInt 64 x ||| BitVec.ofInt 64 y).toNat:=by rw [Yz];rfl
 rw [e];exact ZkT _
theorem ZvU:∀(l:Bs),(∀b∈l,Zax b<16)->XE 16 l<16 ^ l.length:=by
 intro l
 have key:∀(l:Bs) (n m:Nat),n<16 ^ m->(∀b∈l,Zax b<16)->l.foldl (fun n b=>n * 16+Zax b) n<16 ^ (m+l.length):=by
  intro l
  induction l with
  | nil=>intro n m h _;exact h
  | cons b l ih =>
  intro n m h hb
  have h1:=hb b sM;have:=ih (n * 16+Zax b) (m+1) (by rw [Nat.pow_succ];omega) (fun c hc=>hb c (by simp [hc]));simpa [Sg,Nat.add_comm 1] using this
 intro hb
 have:=key l 0 0 sM hb;simpa [XE] using this
noncomputable def ZpC:Zt:=fun args σ K=>match args,σ with
 | [.d (.str s),.d (.int .i64 a)],⟨[],[],0⟩=>(0<=a/\a<s.length/\s.length<4294967281/\Zl ((s.getD a.toNat 0).toNat:Int)=true) /\
   (∀n,ZP (s.drop a.toNat)=some n->K (.ret (.tuple [Vq 2 [] (IntKind.i64.wrap n) a (a+Zz (s.drop a.toNat)),.d (.bool true)])) ⟨[],[],0⟩) /\
   (ZP (s.drop a.toNat)=none->∀n e:Int,K (.ret (.tuple [Vq 2 [] n a e,.d (.bool false)])) ⟨[],[],0⟩)
 | _,_=>False
noncomputable def ZvV:Tbl:=[(263,Zpu),(195,Vd),(135,Zag)]
theorem ZvW:PC w0 nG 243 ZpC:=by
 refine Vb Zb mixed (tbl:=ZvV) ⟨ZvP,ZaY,ZaZ,trivial⟩ Tryz.func243 rfl kR kR ?_;intro args σ K h
 unfold ZpC at h
 split at h
 ·rename_i s a
  obtain ⟨⟨h0,h1,hs,fy⟩,dj,dk⟩:=h;obtain ⟨a,rfl⟩:∃n:Nat,a=n:=⟨a.toNat,oM⟩
  simp only [Tu] at dj dk fy;have s7:cut s ((a:Int)).toNat (min ((a:Int)+2) (s.length:Int)).toNat=(s.drop a).take 2:=by
   rw [X4]
   by_cases h4:(a:Int)+2<=s.length
   ·rw [Int.min_eq_left h4];congr 1;omega
   rw [Int.min_eq_right oM,List.take_of_length_le (by rw [Tp];omega),List.take_of_length_le (by rw [Tp];omega)];rfl
  obtain ⟨r,hr⟩:∃r,r=s.drop a:=⟨_,rfl⟩
  obtain ⟨D,hD⟩:∃D,D=Zf r:=⟨_,rfl⟩
  rw [<- hr] at dj dk;refine ⟨Za [(6,⟨[7],[0,1,4,6,8],fun vs σ=>∃k n:Nat,vs=[.d (.int .u64 n)]/\σ=⟨[.cells 186 [.d (.int .u8 0),.d (.str []),.d (.int .i64 0),.d (.int .i64 0),.d (.int .i64 0)],.cells 186 [.d (.int .u8 2),.d (.str []),.d (.int .i64 0),.d (.int .i64 a),.d (.int .i64 (a+2+k:Nat))]],[],0⟩/\(k<=D.length/\n<18446744073709551616/\(k<=16->n=XE 16 (D.take k))),fun _ σ=>match σ.bx with | [_,.cells _ [_,_,_,_,.d (.int _ n)]]=>((s.length:Int) - n).toNat | _=>0⟩),
   (10,⟨[7,8],[0,1,4,6],fun vs σ=>∃(k n:Nat) (ok:Bool),vs=[.d (.int .u64 n),.d (.bool ok)]/\σ=⟨[.cells 186 [.d (.int .u8 0),.d (.str []),.d (.int .i64 0),.d (.int .i64 0),.d (.int .i64 0)],.cells 186 [.d (.int .u8 2),.d (.str []),.d (.int .i64 0),.d (.int .i64 a),.d (.int .i64 (a+k:Nat))]],[],0⟩/\(k<=D.length/\n<18446744073709551616/\ok=decide (XE 10 (D.take k)<9223372036854775808)/\(ok=true->n=XE 10 (D.take k))),fun _ σ=>match σ.bx with | [_,.cells _ [_,_,_,_,.d (.int _ n)]]=>((s.length:Int) - n).toNat | _=>0⟩)],Wv [],Ys [],0,false,sM,Ta rfl,?_⟩
  have fin:∀(e n:Nat) (ok:Bool),e=a+Zz r->(ok=true->D≠[]/\XE (if Xj r then 16 else 10) D<(if Xj r then 18446744073709551616 else 9223372036854775808)/\n=XE (if Xj r then 16 else 10) D/\¬(Xj r=true/\16<D.length)) ->
    (ok=false->D=[]\/(if Xj r then 18446744073709551616 else 9223372036854775808)<=XE (if Xj r then 16 else 10) D\/(Xj r=true/\16<D.length)) ->
    ∀X:Bool,X=(ok && !Zi (pk (s.drop e)).1 && !Zl (pk (s.drop e)).1)->K (.ret (.tuple [.agg [.d (.int .u8 2),.d (.str []),.d (.int .i64 (IntKind.i64.wrap n)),.d (.int .i64 a),.d (.int .i64 e)],.d (.bool X)])) ⟨[],[],0⟩:=fun e n ok he ad2 ad3 X hX=>by
   have kh:s.drop e=r.drop (Zz r):=by rw [hr,Tw,<- hr,he]
   have ez:(Zf r=[]\/(if Xj r then 18446744073709551616 else 9223372036854775808)<=XE (if Xj r then 16 else 10) (Zf r)\/(Zi (pk (r.drop (Zz r))).1=true\/Zl (pk (r.drop (Zz r))).1=true\/(Xj r=true/\16<(Zf r).length)))->ZP r=none:=fun g=>by
    unfold ZP
    by_cases g1:Zf r=[]
    ·rw [Tg g1]
    rw [Tc g1]
    by_cases g2:(if Xj r then 18446744073709551616 else 9223372036854775808)<=XE (if Xj r then 16 else 10) (Zf r)
    ·rw [Tg g2]
    rw [Tc g2];rcases g with g | g | g
    ·exact absurd g g1
    ·exact absurd g g2
    rw [Tg g]
   rw [kh] at hX;rw [<- hD] at ez
   cases X with
   | false =>
    have:ZP r=none:=by
     apply ez
     cases ok with
     | false=>rcases ad3 rfl with g | g | g <;> simp [g]
     | true =>
     simp only [Tt] at hX
     cases hl:Zi (pk (r.drop (Zz r))).1 with
     | true=>simp
     | false =>
     rw [hl] at hX
     cases hd:Zl (pk (r.drop (Zz r))).1 with
     | true=>simp
     | false=>rw [hd] at hX;simp at hX
    exact dk this _ _
   | true =>
   cases ok with
   | false=>simp at hX
   | true =>
   obtain ⟨g1,g2,g3,g4⟩:=ad2 rfl
   cases hl:Zi (pk (r.drop (Zz r))).1 with
   | true=>rw [hl] at hX;simp at hX
   | false =>
   cases hd:Zl (pk (r.drop (Zz r))).1 with
   | true=>rw [hd] at hX;simp at hX
   | false =>
   have hn:ZP r=some n:=by
    unfold ZP
    rw [<- hD,Tc g1,Tc oM,Tc (by rw [hl,hd];simp only [To,false_or];exact g4),g3]
   have:=dj n hn;rw [show (a:Int)+(Zz r:Int)=(e:Int) by omega] at this;exact this
  conv=>whnf
  refine Or.inl ⟨InR.i64 oM oM,wN ?_⟩;refine ⟨oM,oM,oM,wN ?_⟩;rw [s7,<- hr];(conv=>whnf);refine ZBC (fun k1=>wN ?_) (fun k1=>wN ?_)
  ·have hx:Xj r=true:=(ZrL _ _ _).2 k1;have iu:a+2<=s.length:=by have:=(ZD (show Lib.hasPrefix r [48,120]=true from hx)).1;rw [hr,Tp] at this;omega
   have wb:D=(s.drop (a+2)).takeWhile (Xz true):=by rw [hD,Zf,hx,Tg rfl,hr,Tw]
   have hNl:Zz r=2+D.length:=by rw [Zz,hx,Tg rfl,hD]
   have htw:∀k,k<=D.length->(a+2+k<s.length->(Xz true (s.getD (a+2+k) 0)=true↔k<D.length))/\(s.length<=a+2+k->k=D.length)/\(k<D.length->a+2+k<s.length/\D.getD k 0=s.getD (a+2+k) 0):=fun k hk=>by
    have:=ZvT (p:=Xz true) (s.drop (a+2)) k (by rw [<- wb];exact hk);exact m156
   have hDl:a+2+D.length<=s.length:=by
    have:=Wx (Xz true) (s.drop (a+2));rw [<- wb,Tp] at this;omega
   refine Or.inl ⟨InR.i64 oM oM,wN ?_⟩;refine ⟨⟨0,0,rfl,rfl,oM,oM,fun _=>by simp [XE]⟩,?_⟩;intro vs σ1 hI
   obtain ⟨k,n,rfl,rfl,hk,hn,xr⟩:=hI;obtain ⟨t1,t2,t3⟩:=htw k hk;have xl:=(s.getD (a+2+k) 0).toNat_lt;have jc:(s.getD (((a+2+k:Nat):Int)).toNat 0)=s.getD (a+2+k) 0:=by rw [Tu]
   have tail:k=D.length->∀okb:Bool,okb=(decide (0<k) && decide (k<=16))->∀X:Bool,X=(okb && !Zi (pk (s.drop (a+2+k))).1 && !Zl (pk (s.drop (a+2+k))).1) ->
     K (.ret (.tuple [.agg [.d (.int .u8 2),.d (.str []),.d (.int .i64 (IntKind.i64.wrap n)),.d (.int .i64 a),.d (.int .i64 (a+2+k:Nat))],.d (.bool X)])) ⟨[],[],0⟩:=fun xu okb aw X hX=>by
    refine fin (a+2+k) n okb (by rw [hNl];omega) (fun g=>?_) (fun g=>?_) X hX
    ·rw [aw] at g;simp only [Tk,TG] at g;have hv:=xr g.2;rw [xu,TJ] at hv;rw [hx];simp only [if_true];exact ⟨fun e=>by rw [e] at xu;simp at xu;omega,oM,hv,oM⟩
    rw [aw] at g;simp only [Bool.and_eq_false_iff,decide_eq_false_iff_not] at g;rcases g with g | g
    ·exact .inl (TB oM)
    exact .inr (.inr ⟨hx,oM⟩)
   conv=>whnf
   refine ZBC (fun q1=>wN ?_) (fun q1=>wN ?_)
   ·have q1':a+2+k<s.length:=by omega
    refine ⟨oM,oM,wN ?_⟩;rw [jc];refine ⟨⟨oM,oM⟩,?_⟩;have hxd:=ZkS (s.getD (a+2+k) 0);generalize x8:ZvO ((s.getD (a+2+k) 0).toNat:Int)=v at hxd |-;obtain ⟨m,rfl⟩ | ⟨m,rfl⟩:(∃m:Nat,v=m)\/(∃m:Nat,v=Int.negSucc m):=by
     cases v with
     | ofNat m=>exact .inl ⟨m,rfl⟩
     | negSucc m=>exact .inr ⟨m,rfl⟩
    ·have q2':Xz true (s.getD (a+2+k) 0)=true:=hxd.1.1 oM;have ah:k<D.length:=(t1 q1').1 q2';obtain ⟨d1,d2⟩:=hxd.2 q2';have tu:k+1<=16->XE 16 (D.take (k+1))=n * 16+m/\n<2 ^ 60:=fun g=>by
      have h1:=xr oM;have cd:∀b∈D.take k,Zax b<16:=fun b hb=>by
       have:=WX (Xz true) (s.drop (a+2));rw [<- wb,Tm] at this;exact ((ZkS b).2 (this b (List.mem_of_mem_take hb))).2
      have h2:=ZvU _ cd;have h3:(16:Nat) ^ (D.take k).length<=16 ^ 15:=Nat.pow_le_pow_right oM (by rw [Sn];omega);rw [Za1 ah,Za0,<- h1,(t3 ah).2];exact ⟨oM,by rw [h1];omega⟩
     have fin2:∀(x:Int),(k+1<=16->x=(n:Int) * 16)->∃n':Nat,Zm .or .u64 x (m:Int)=n'/\n'<18446744073709551616/\(k+1<=16->n'=XE 16 (D.take (k+1))):=fun x hx=>by
      have:=ZrN x (m:Int);refine ⟨(Zm .or .u64 x (m:Int)).toNat,oM,oM,fun g=>?_⟩;obtain ⟨g1,g2⟩:=tu g;rw [hx g,Zyc g2 oM,g1];omega
     conv=>whnf
     refine ⟨oM,wN ?_⟩
     by_cases aab:k+1<=16
     ·have:=(tu aab).2;have e0:(2:Int) ^ (min (Int.toNat 4) IntKind.u64.bits)=16:=rfl;refine Or.inl ⟨InR.u64 (by rw [e0];omega) (by rw [e0];omega),wN ?_⟩;obtain ⟨n',e1,e2,e3⟩:=fin2 ((n:Int) * 2 ^ (min (Int.toNat 4) IntKind.u64.bits)) (fun _=>rfl);exact m76
     refine Or.inr (wN ?_);obtain ⟨n',e1,e2,e3⟩:=fin2 (IntKind.u64.wrap ((n:Int) * 2 ^ (min (Int.toNat 4) IntKind.u64.bits))) (fun g=>absurd g aab);exact m76
    have q2':k=D.length:=by
     have:¬k<D.length:=fun g=>by have:=hxd.1.2 ((t1 q1').2 g);omega
     omega
    conv=>whnf
    refine Or.inl ⟨InR.i64 oM oM,wN ?_⟩;refine ZBC (fun z0=>wN ?_) (fun z0=>wN ?_)
    ·refine Or.inl ⟨InR.i64 oM oM,wN ?_⟩;refine Or.inr (wN ?_);refine ZBC (fun z1=>wN ?_) (fun z1=>wN ?_)
     ·refine ⟨⟨oM,oM⟩,wN ?_⟩
      repeat (refine ⟨rfl,?_⟩;conv=>whnf)
      refine ZBF (fun z2=>wN ?_) (fun z2=>wN ?_)
      ·have z2':Zi (pk (s.drop (a+2+k))).1=false:=by rw [Tu] at z2;simpa only [TV] using z2
       refine ZBC (fun z3=>wN ?_) (fun z3=>wN ?_)
       ·repeat (refine ⟨rfl,?_⟩;conv=>whnf)
        refine tail q2' true (by rw [TC (show 0<k by omega),TC (show k<=16 by omega)];rfl) true ?_;rw [z2',Tz (show s.length<=a+2+k by omega)];rfl
       have z3':a+2+k<s.length:=by omega
       have kw:=Jz (r:=s.drop (a+2+k)) (by rw [Tp];omega);rw [W3,Se] at kw;refine ⟨oM,oM,wN ?_⟩;rw [jc];refine Or.inl ⟨InR.i32 oM oM,wN ?_⟩
       repeat (refine ⟨rfl,?_⟩;conv=>whnf)
       refine tail q2' true (by rw [TC (show 0<k by omega),TC (show k<=16 by omega)];rfl) _ ?_;rw [z2',kw];simp
      have z2':Zi (pk (s.drop (a+2+k))).1=true:=by rw [Tu] at z2;simpa only [Bool.not_eq_false'] using z2
      repeat (refine ⟨rfl,?_⟩;conv=>whnf)
      refine tail q2' true (by rw [TC (show 0<k by omega),TC (show k<=16 by omega)];rfl) false ?_;rw [z2'];rfl
     repeat (refine ⟨rfl,?_⟩;conv=>whnf)
     refine tail q2' false (by rw [decide_eq_false (show ¬k<=16 by omega)];simp) false sM
    refine Or.inr (wN ?_)
    repeat (refine ⟨rfl,?_⟩;conv=>whnf)
    refine tail q2' false (by rw [decide_eq_false (show ¬0<k by omega)];simp) false sM
   have q1':k=D.length:=t2 oM;refine Or.inl ⟨InR.i64 oM oM,wN ?_⟩;refine ZBC (fun z0=>wN ?_) (fun z0=>wN ?_)
   ·refine Or.inl ⟨InR.i64 oM oM,wN ?_⟩;refine Or.inr (wN ?_);refine ZBC (fun z1=>wN ?_) (fun z1=>wN ?_)
    ·refine ⟨⟨oM,oM⟩,wN ?_⟩
     repeat (refine ⟨rfl,?_⟩;conv=>whnf)
     refine ZBF (fun z2=>wN ?_) (fun z2=>wN ?_)
     ·have z2':Zi (pk (s.drop (a+2+k))).1=false:=by rw [Tu] at z2;simpa only [TV] using z2
      refine ZBC (fun z3=>wN ?_) (fun z3=>wN ?_)
      ·repeat (refine ⟨rfl,?_⟩;conv=>whnf)
       refine tail q1' true (by rw [TC (show 0<k by omega),TC (show k<=16 by omega)];rfl) true ?_;rw [z2',Tz (show s.length<=a+2+k by omega)];rfl
      have z3':a+2+k<s.length:=by omega
      have kw:=Jz (r:=s.drop (a+2+k)) (by rw [Tp];omega);rw [W3,Se] at kw;refine ⟨oM,oM,wN ?_⟩;rw [jc];refine Or.inl ⟨InR.i32 oM oM,wN ?_⟩
      repeat (refine ⟨rfl,?_⟩;conv=>whnf)
      refine tail q1' true (by rw [TC (show 0<k by omega),TC (show k<=16 by omega)];rfl) _ ?_;rw [z2',kw];simp
     have z2':Zi (pk (s.drop (a+2+k))).1=true:=by rw [Tu] at z2;simpa only [Bool.not_eq_false'] using z2
     repeat (refine ⟨rfl,?_⟩;conv=>whnf)
     refine tail q1' true (by rw [TC (show 0<k by omega),TC (show k<=16 by omega)];rfl) false ?_;rw [z2'];rfl
    repeat (refine ⟨rfl,?_⟩;conv=>whnf)
    refine tail q1' false (by rw [decide_eq_false (show ¬k<=16 by omega)];simp) false sM
   refine Or.inr (wN ?_)
   repeat (refine ⟨rfl,?_⟩;conv=>whnf)
   refine tail q1' false (by rw [decide_eq_false (show ¬0<k by omega)];simp) false sM
  have hx:Xj r=false:=by rw [Xj,Bool.eq_false_iff];exact fun g=>k1 ((ZrL _ _ _).1 g)
  have wb:D=(s.drop a).takeWhile (Xz false):=by rw [hD,Zf,hx,Tc sM,hr,Sl]
  have hNl:Zz r=D.length:=by rw [Zz,hx,Tc sM,hD,Sf]
  have htw:∀k,k<=D.length->(a+k<s.length->(Xz false (s.getD (a+k) 0)=true↔k<D.length))/\(s.length<=a+k->k=D.length)/\(k<D.length->a+k<s.length/\D.getD k 0=s.getD (a+k) 0):=fun k hk=>by
   have:=ZvT (p:=Xz false) (s.drop a) k (by rw [<- wb];exact hk);exact m156
  have hDl:a+D.length<=s.length:=by
   have:=Wx (Xz false) (s.drop a);rw [<- wb,Tp] at this;omega
  refine ⟨⟨0,0,true,rfl,rfl,oM,oM,by simp [XE],fun _=>by simp [XE]⟩,?_⟩;intro vs σ1 hI
  obtain ⟨k,n,ok,rfl,rfl,hk,hn,aw,xr⟩:=hI;obtain ⟨t1,t2,t3⟩:=htw k hk;have xl:=(s.getD (a+k) 0).toNat_lt;have jc:(s.getD (((a+k:Nat):Int)).toNat 0)=s.getD (a+k) 0:=by rw [Tu]
  have ad5:D≠[]:=fun g=>by
   have hdb:Xz false (s.getD a 0)=true:=by rw [Xz,fy];rfl
   have:=((htw 0 oM).1 oM).1 hdb;rw [g] at this;simp at this
  have tail:k=D.length->∀okb:Bool,okb=ok->∀X:Bool,X=(okb && !Zi (pk (s.drop (a+k))).1 && !Zl (pk (s.drop (a+k))).1) ->
    K (.ret (.tuple [.agg [.d (.int .u8 2),.d (.str []),.d (.int .i64 (IntKind.i64.wrap n)),.d (.int .i64 a),.d (.int .i64 (a+k:Nat))],.d (.bool X)])) ⟨[],[],0⟩:=fun xu okb ad6 X hX=>by
   subst ad6;refine fin (a+k) n okb (by rw [hNl];omega) (fun g=>?_) (fun g=>?_) X hX
   ·have hv:=xr g;rw [g] at aw;rw [xu,TJ] at hv aw;have ad7:=of_decide_eq_true aw.symm;rw [hx];simp only [To,if_false,false_and,not_false_eq_true,and_true];exact ⟨ad5,oM,hv⟩
   rw [g] at aw;rw [xu,TJ] at aw;have ad7:=of_decide_eq_false aw.symm;rw [hx];simp only [To,if_false];exact .inr (.inl oM)
  conv=>whnf
  refine ZBC (fun q1=>wN ?_) (fun q1=>wN ?_)
  ·have q1':a+k<s.length:=by omega
   refine ⟨oM,oM,wN ?_⟩;rw [jc];refine Or.inl ⟨InR.i32 oM oM,wN ?_⟩;have hdB:Xz false (s.getD (a+k) 0)=Zl ((s.getD (a+k) 0).toNat:Int):=by rw [Xz];simp
   refine ZBF (fun q2=>wN ?_) (fun q2=>wN ?_)
   ·have q2':Xz false (s.getD (a+k) 0)=true:=hdB.trans q2;have ah:k<D.length:=(t1 q1').1 q2';have ml:=isDigit_iff.1 q2;obtain ⟨d,hd⟩:∃d:Nat,d=Zax (s.getD (a+k) 0):=⟨_,rfl⟩
    have hdv:((s.getD (a+k) 0).toNat:Int) - 48=(d:Int):=by rw [hd,Zax,Tg oM];omega
    have hv:XE 10 (D.take (k+1))=XE 10 (D.take k) * 10+d:=by rw [Za1 ah,Za0,(t3 ah).2,hd]
    have ak:=U1 10 oM (D.take (k+1)) k;rw [List.take_take,Nat.min_eq_left oM] at ak;refine ⟨oM,oM,wN ?_⟩;rw [jc];refine Or.inl ⟨InR.u8 oM oM,wN ?_⟩;rw [hdv];refine Or.inl ⟨InR.u64 oM oM,wN ?_⟩;refine Or.inl ⟨InR.u64 oM oM,wN ?_⟩;refine ⟨oM,wN ?_⟩;have ra:((9223372036854775807:Int) - (d:Int)).tdiv 10=(9223372036854775807 - (d:Int)) / 10:=Int.tdiv_eq_ediv_of_nonneg oM;rw [ra];refine Or.inl ⟨InR.u64 oM oM,wN ?_⟩;have big:∃n':Nat,IntKind.u64.wrap (IntKind.u64.wrap ((n:Int) * 10)+(d:Int))=n'/\n'<18446744073709551616:=by
     have:=ZkT (IntKind.u64.wrap ((n:Int) * 10)+(d:Int));exact ⟨(IntKind.u64.wrap (IntKind.u64.wrap ((n:Int) * 10)+(d:Int))).toNat,oM,oM⟩
    conv=>whnf
    refine ZBC (fun z1=>wN ?_) (fun z1=>?_)
    ·obtain ⟨n',e1,e2⟩:=big;have hf:false=decide (XE 10 (D.take (k+1))<9223372036854775808):=by
      symm;apply decide_eq_false
      rw [hv]
      cases ok with
      | true=>have:=xr rfl;omega
      | false=>have:=of_decide_eq_false aw.symm;omega
     exact m95
    cases ok with
    | true =>
     have ik:=xr rfl;have ad8:n * 10+d<9223372036854775808:=oM;(conv=>whnf);refine Or.inl ⟨InR.u64 oM oM,wN ?_⟩;refine Or.inl ⟨InR.u64 oM oM,wN ?_⟩;refine Or.inl ⟨InR.i64 oM oM,wN ?_⟩;exact ⟨⟨k+1,n * 10+d,true,rfl,rfl,oM,oM,by rw [hv,<- ik];exact (TC ad8).symm,fun _=>by rw [hv,ik]⟩,(show ((s.length:Int) - (((a+k:Nat):Int)+1)).toNat<((s.length:Int) - ((a+k:Nat):Int)).toNat by omega)⟩
    | false =>
    obtain ⟨n',e1,e2⟩:=big;have hf:false=decide (XE 10 (D.take (k+1))<9223372036854775808):=by
     symm;apply decide_eq_false
     have:=of_decide_eq_false aw.symm;omega
    conv=>whnf
    exact m95
   have q2':k=D.length:=by
    have:¬k<D.length:=fun g=>by have:=(t1 q1').2 g;rw [hdB,q2] at this;cases this
    omega
   refine Or.inr (wN ?_)
   cases ok with
   | true =>
    conv=>whnf
    refine ⟨⟨oM,oM⟩,wN ?_⟩
    repeat (refine ⟨rfl,?_⟩;conv=>whnf)
    refine ZBF (fun z2=>wN ?_) (fun z2=>wN ?_)
    ·have z2':Zi (pk (s.drop (a+k))).1=false:=by rw [Tu] at z2;simpa only [TV] using z2
     refine ZBC (fun z3=>wN ?_) (fun z3=>wN ?_)
     ·repeat (refine ⟨rfl,?_⟩;conv=>whnf)
      refine tail q2' true rfl true ?_;rw [z2',Tz (show s.length<=a+k by omega)];rfl
     have z3':a+k<s.length:=by omega
     have kw:=Jz (r:=s.drop (a+k)) (by rw [Tp];omega);rw [W3,Se] at kw;refine ⟨oM,oM,wN ?_⟩;rw [jc];refine Or.inl ⟨InR.i32 oM oM,wN ?_⟩
     repeat (refine ⟨rfl,?_⟩;conv=>whnf)
     refine tail q2' true rfl _ ?_;rw [z2',kw];simp
    have z2':Zi (pk (s.drop (a+k))).1=true:=by rw [Tu] at z2;simpa only [Bool.not_eq_false'] using z2
    repeat (refine ⟨rfl,?_⟩;conv=>whnf)
    refine tail q2' true rfl false ?_;rw [z2'];rfl
   | false =>
   conv=>whnf
   repeat (refine ⟨rfl,?_⟩;conv=>whnf)
   refine tail q2' false rfl false sM
  have q1':k=D.length:=t2 oM;refine Or.inr (wN ?_)
  cases ok with
  | true =>
   conv=>whnf
   refine ⟨⟨oM,oM⟩,wN ?_⟩
   repeat (refine ⟨rfl,?_⟩;conv=>whnf)
   refine ZBF (fun z2=>wN ?_) (fun z2=>wN ?_)
   ·have z2':Zi (pk (s.drop (a+k))).1=false:=by rw [Tu] at z2;simpa only [TV] using z2
    refine ZBC (fun z3=>wN ?_) (fun z3=>wN ?_)
    ·repeat (refine ⟨rfl,?_⟩;conv=>whnf)
     refine tail q1' true rfl true ?_;rw [z2',Tz (show s.length<=a+k by omega)];rfl
    have z3':a+k<s.length:=by omega
    have kw:=Jz (r:=s.drop (a+k)) (by rw [Tp];omega);rw [W3,Se] at kw;refine ⟨oM,oM,wN ?_⟩;rw [jc];refine Or.inl ⟨InR.i32 oM oM,wN ?_⟩
    repeat (refine ⟨rfl,?_⟩;conv=>whnf)
    refine tail q1' true rfl _ ?_;rw [z2',kw];simp
   have z2':Zi (pk (s.drop (a+k))).1=true:=by rw [Tu] at z2;simpa only [Bool.not_eq_false'] using z2
   repeat (refine ⟨rfl,?_⟩;conv=>whnf)
   refine tail q1' true rfl false ?_;rw [z2'];rfl
  | false =>
  conv=>whnf
  repeat (refine ⟨rfl,?_⟩;conv=>whnf)
  refine tail q1' false rfl false sM
 exact h.elim
theorem Zd8 {r:Bs} (hr:r≠[]) {c:Nat} (hc:c<65533):(Lib.decodeL r).1=c↔(pk r).1=(c:Int):=by
 unfold pk
 by_cases hv:Lib.decodeL r=(65533,1)
 ·rw [Tg (.inr hv),hv];simp only;omega
 rw [Tc (by simp only [not_or];exact ⟨hr,hv⟩)];simp only;omega
theorem ZhS {r:Bs} (h:(pk r).1≠-1):r≠[]/\pk r=(((Lib.decodeL r).1:Int),(Lib.decodeL r).2)/\Lib.encodeRune ((Lib.decodeL r).1:Int)=r.take (Lib.decodeL r).2:=by
 by_cases hr:r=[]
 ·rw [hr] at h;simp [pk] at h
 by_cases hv:Lib.decodeL r=(65533,1)
 ·unfold pk at h;rw [Tg (.inr hv)] at h;simp at h
 refine ⟨hr,by unfold pk;rw [Tc (by simp only [not_or];exact ⟨hr,hv⟩)],Lib.encode_decode r hr fun g=>hv (Prod.ext g.1 g.2)⟩
theorem Zmb {f:Nat} {r out:Bs} {p:Nat} (hc:(pk r).1=34):ZO (f+1) r false out p=.ok out (p+1):=by
 have hr:r≠[]:=(ZhS oM).1;have h1:=(Zd8 hr (c:=34) oM).2 hc;rw [ZO,Tc hr,Tc sM,Tg h1]
theorem ZrO {f:Nat} {r out:Bs} {p:Nat} (hr:r≠[]) (h1:(pk r).1≠34) (h2:(pk r).1≠92) (hc:(pk r).1<32):ZO (f+1) r false out p=.err p:=by
 rw [ZO,Tc hr,Tc sM,Tc (fun g=>h1 ((Zd8 hr (c:=34) oM).1 g)),Tc (fun g=>h2 ((Zd8 hr (c:=92) oM).1 g)),Tg hc]
theorem ZvX {f:Nat} {r out:Bs} {p:Nat} (h1:(pk r).1≠34) (h2:(pk r).1≠92) (hc:¬(pk r).1<32):ZO (f+1) r false out p=ZO f (r.drop (pk r).2) false (out++r.take (pk r).2) (p+(pk r).2):=by
 obtain ⟨hr,he,vq⟩:=ZhS (show (pk r).1≠-1 by omega);rw [ZO,Tc hr,Tc sM,Tc (fun g=>h1 ((Zd8 hr (c:=34) oM).1 g)),Tc (fun g=>h2 ((Zd8 hr (c:=92) oM).1 g)),Tc hc,vq];rw [he]
theorem ZrP {f:Nat} {r out:Bs} {p:Nat} (hc:(pk r).1=92):ZO (f+1) r false out p=ZO f (r.drop 1) true out (p+1):=by
 have hr:r≠[]:=(ZhS oM).1;have h1:=(Zd8 hr (c:=92) oM).2 hc;have h2:=(Zg7 r oM oM).2.2;have h3:=(ZhS (show (pk r).1≠-1 by omega)).2.1;rw [h3] at h2;simp only at h2;rw [ZO,Tc hr,Tc sM,Tc oM,Tg h1,h2]
theorem ZkU (f:Nat) (e:Bool) (out:Bs) (p:Nat):ZO f [] e out p=.err 0:=by
 cases f <;> simp [ZO]
theorem ZpD {f:Nat} {b:UInt8} {l out:Bs} {p:Nat}:ZO (f+1) (b::l) true out p=match Zh1 b.toNat with
  | none=>.err (p - 1)
  | some x=>ZO f l false (out++[x]) (p+1):=by
 have hr:b::l≠[]:=sM;have key:∀c:Nat,c<128->((Lib.decodeL (b::l)).1=c↔b.toNat=c):=fun c hc=>by
  rw [Zd8 hr oM,Zb2 sM oM oM];simp only [Sj];omega
 have sz:b.toNat<128->(Lib.decodeL (b::l)).2=1:=fun h=>by
  have h1:=(Zb2 (r:=b::l) (c:=b.toNat) sM oM oM).2 sM;have h2:=(Zg7 (b::l) oM oM).2.2;have h3:=(ZhS (r:=b::l) oM).2.1;rw [h3] at h2;exact h2
 have he:Zh1 (Lib.decodeL (b::l)).1=Zh1 b.toNat:=by
  unfold Zh1
  simp only [key 110 oM,key 116 oM,key 34 oM,key 92 oM]
 rw [ZO,Tc hr,Tg rfl,he]
 cases hx:Zh1 b.toNat with
 | none=>rfl
 | some x =>
 have:b.toNat<128:=by
  unfold Zh1 at hx
  (repeat' split at hx) <;> first | omega | cases hx
 rw [sz this];rfl
noncomputable def Zje:Zt:=fun args σ K=>match args,σ with
 | [.d (.str s),.d (.int .i64 a)],⟨[],[],0⟩=>(0<=a/\a<s.length/\s.length<4294967281) /\
   (match XL (s.drop a.toNat) with
    | .ok t l=>K (.ret (.tuple [Vq 3 t 0 a (a+l),.d (.int .i64 (-1))])) ⟨[],[],0⟩
    | .err p=>K (.ret (.tuple [Vq 0 [] 0 0 0,.d (.int .i64 (a+p))])) ⟨[],[],0⟩)
 | _,_=>False
noncomputable def ZrQ:Tbl:=[(193,Ze1)]
theorem ZrR:PC w0 nG 244 Zje:=by
 refine Vb Zb mixed (tbl:=ZrQ) ⟨ZfP,trivial⟩ Tryz.func244 rfl kR kR ?_;intro args σ K h
 unfold Zje at h
 split at h
 ·rename_i s a
  obtain ⟨⟨h0,h1,hs⟩,h⟩:=h;obtain ⟨a,rfl⟩:∃n:Nat,a=n:=⟨a.toNat,oM⟩
  simp only [Tu] at h;refine ⟨Za [(3,⟨[6,7],[0,1,4],fun vs σ=>∃(out:Bs) (i f:Nat),vs=[.sl 0 5 (Zj out),.d (.int .i64 i)]/\σ=⟨[.cells 186 [.d (.int .u8 0),.d (.str []),.d (.int .i64 0),.d (.int .i64 0),.d (.int .i64 0)]],[0],1⟩/\(a+1<=i/\i<=s.length/\s.length<i+f/\out.length<=i)/\ZO f (s.drop i) false out (i - a)=XL (s.drop a),fun vs _=>match vs with | [_,.d (.int _ n)]=>((s.length:Int) - n).toNat | _=>0⟩)],Wv [],Ys [],0,false,sM,Ta rfl,wN ?_⟩;refine Or.inl ⟨InR.i64 oM oM,wN ?_⟩;refine ⟨⟨[],a+1,(s.drop a).length+1,rfl,rfl,⟨oM,oM,hD,sM⟩,?_⟩,?_⟩
  ·rw [XL,Tw,show a+1 - a=1 by omega]
  intro vs σ1 hI
  obtain ⟨out,i,f,rfl,rfl,⟨hi0,wx,aa,vp⟩,fh⟩:=hI;obtain ⟨f,rfl⟩:∃g,f=g+1:=⟨f - 1,oM⟩
  have cu:=Yy out;have jx:=Zg6 (s.drop i);have eg:=Ww (s.drop i);have lv:=Zm9 (s.drop i);have aw:∀t l,XL (s.drop a)=.ok t l->K (.ret (.tuple [Vq 3 t 0 a (a+l),.d (.int .i64 (-1))])) ⟨[],[],0⟩:=fun t l g=>by rw [g] at h;exact h
  have aac:∀p,XL (s.drop a)=.err p->K (.ret (.tuple [Vq 0 [] 0 0 0,.d (.int .i64 (a+p))])) ⟨[],[],0⟩:=fun p g=>by rw [g] at h;exact h
  have tv:XL (s.drop a)=.err 0->K (.ret (.tuple [Vq 0 [] 0 0 0,.d (.int .i64 a)])) ⟨[],[],0⟩:=fun g=>by have:=aac 0 g;rw [show (a:Int)+((0:Nat):Int)=a by omega] at this;exact this
  have t7:XL (s.drop a)=.err (i - a)->K (.ret (.tuple [Vq 0 [] 0 0 0,.d (.int .i64 i)])) ⟨[],[],0⟩:=fun g=>by have:=aac _ g;rw [show (a:Int)+((i - a:Nat):Int)=i by omega] at this;exact this
  conv=>whnf
  refine ZBC (fun h2=>wN ?_) (fun h2=>wN ?_)
  ·have cq:i<s.length:=by omega
   have hdh:=Jd cq;have an:s.drop i≠[]:=by rw [hdh];simp
   refine ⟨⟨oM,oM,hs⟩,wN ?_⟩;generalize gi:(pk (s.drop ((i:Int)).toNat)).1=c;have hc:(pk (s.drop i)).1=c:=gi;have iv:c≠-1->i+(pk (s.drop i)).2<=s.length:=fun g=>by
    have:=(lv (by rw [hc];exact g)).2.1;rw [Tp] at this;omega
   conv=>whnf
   refine ZBC (fun h3=>wN ?_) (fun h3=>wN ?_)
   ·have g1:=Zmb (f:=f) (out:=out) (p:=i - a) (r:=s.drop i) (by rw [hc];exact h3);rw [fh] at g1;refine ⟨out,rfl,wN ?_⟩;refine Or.inl ⟨InR.i64 oM oM,wN ?_⟩;have:=aw _ _ g1;rw [show (a:Int)+((i - a+1:Nat):Int)=(i:Int)+1 by omega] at this;exact this
   refine ZBC (fun h4=>wN ?_) (fun h4=>wN ?_)
   ·have g1:=ZrP (f:=f) (out:=out) (p:=i - a) (r:=s.drop i) (by rw [hc];exact h4);rw [fh,Tw] at g1;refine Or.inl ⟨InR.i64 oM oM,wN ?_⟩;refine ZBC (fun h5=>wN ?_) (fun h5=>?_)
    ·exact tv (by rw [g1,Tz oM,ZkU])
    have ga:i+1<s.length:=by omega
    obtain ⟨f,rfl⟩:∃g,f=g+1:=⟨f - 1,oM⟩
    rw [Jd ga,ZpD] at g1;obtain ⟨b,hb⟩:∃b,b=s.getD (i+1) 0:=⟨_,rfl⟩
    have xl:=b.toNat_lt;have jc:s.getD (((i:Int)+1)).toNat 0=b:=by rw [hb];congr 1
    rw [<- hb] at g1;have on:∀x:UInt8,Zh1 b.toNat=some x->∃out':Bs,Zj out++[[.int .u8 (x.toNat:Int)]]=Zj out'/\(a+1<=i+2/\i+2<=s.length/\s.length<i+2+f/\out'.length<=i+2)/\ZO f (s.drop (i+2)) false out' (i+2 - a)=XL (s.drop a):=fun x hx=>by
     refine ⟨out++[x],(Uw _ _).symm,⟨oM,oM,oM,sO⟩,?_⟩;rw [g1,hx];simp only;rw [show i - a+1+1=i+2 - a by omega]
    conv=>whnf
    refine Or.inl ⟨InR.i64 oM oM,wN ?_⟩;refine ⟨oM,oM,wN ?_⟩;rw [jc];have q:∀n:Nat,(b.toNat:Int)=n->b.toNat=n:=fun n g=>oM
    conv=>whnf
    refine ZBC (fun k1=>wN ?_) (fun k1=>wN ?_)
    ·have k1':=q 110 k1;refine ⟨fun r hr=>by (simp at hr;rcases hr with rfl <;> rfl),(show ((Zj out).length+1) * 1<=2 ^ 47 by omega),(show (Zj out).length+1<=2 ^ 47 by omega),?_⟩;(conv=>whnf);refine Or.inl ⟨InR.i64 oM oM,wN ?_⟩;obtain ⟨out',e1,e2,e3⟩:=on 10 (by rw [k1'];rfl);exact m153
    refine ZBC (fun k2=>wN ?_) (fun k2=>wN ?_)
    ·have k2':=q 116 k2;refine ⟨fun r hr=>by (simp at hr;rcases hr with rfl <;> rfl),(show ((Zj out).length+1) * 1<=2 ^ 47 by omega),(show (Zj out).length+1<=2 ^ 47 by omega),?_⟩;(conv=>whnf);refine Or.inl ⟨InR.i64 oM oM,wN ?_⟩;obtain ⟨out',e1,e2,e3⟩:=on 9 (by rw [k2'];rfl);exact m153
    refine ZBC (fun k3=>wN ?_) (fun k3=>wN ?_)
    ·have k3':=q 34 k3;refine ZBC (fun _=>wN ?_) (fun g=>absurd k3 g);refine Or.inl ⟨InR.i64 oM oM,wN ?_⟩;refine ⟨oM,oM,wN ?_⟩;rw [jc];refine ⟨fun r hr=>by (simp at hr;rcases hr with rfl <;> rfl),(show ((Zj out).length+1) * 1<=2 ^ 47 by omega),(show (Zj out).length+1<=2 ^ 47 by omega),?_⟩;(conv=>whnf);refine Or.inl ⟨InR.i64 oM oM,wN ?_⟩;obtain ⟨out',e1,e2,e3⟩:=on 34 (by rw [k3'];rfl);refine ⟨⟨out',i+2,f,?_,rfl,e2,e3⟩,(show ((s.length:Int) - ((i:Int)+2)).toNat<((s.length:Int) - (i:Int)).toNat by omega)⟩;rw [<- e1,k3'];rfl
    refine ZBC (fun k4=>wN ?_) (fun k4=>wN ?_)
    ·have k4':=q 92 k4;refine Or.inl ⟨InR.i64 oM oM,wN ?_⟩;refine ⟨oM,oM,wN ?_⟩;rw [jc];refine ⟨fun r hr=>by (simp at hr;rcases hr with rfl <;> rfl),(show ((Zj out).length+1) * 1<=2 ^ 47 by omega),(show (Zj out).length+1<=2 ^ 47 by omega),?_⟩;(conv=>whnf);refine Or.inl ⟨InR.i64 oM oM,wN ?_⟩;obtain ⟨out',e1,e2,e3⟩:=on 92 (by rw [k4'];rfl);refine ⟨⟨out',i+2,f,?_,rfl,e2,e3⟩,(show ((s.length:Int) - ((i:Int)+2)).toNat<((s.length:Int) - (i:Int)).toNat by omega)⟩;rw [<- e1,k4'];rfl
    have aad:Zh1 b.toNat=none:=by
     unfold Zh1
     rw [Tc (fun g=>k1 oM),Tc (fun g=>k2 oM),Tc (fun g=>k3 oM),Tc (fun g=>k4 oM)]
    rw [aad] at g1;exact t7 (by rw [g1];simp)
   refine ZBC (fun h5=>wN ?_) (fun h5=>wN ?_)
   ·have g1:=ZrO (f:=f) (out:=out) (p:=i - a) an (by rw [hc];exact h3) (by rw [hc];exact h4) (by rw [hc];exact h5);rw [fh] at g1;exact t7 g1
   have g1:=ZvX (f:=f) (out:=out) (p:=i - a) (r:=s.drop i) (by rw [hc];exact h3) (by rw [hc];exact h4) (by rw [hc];exact h5);rw [fh,Tw] at g1;have g3:=iv oM;have ec:cut s ((i:Int)).toNat ((i:Int)+((pk (s.drop ((i:Int)).toNat)).2:Int)).toNat=(s.drop i).take (pk (s.drop i)).2:=by
    rw [X4];congr 1;simp only [Tu];omega
   have n6:((s.drop i).take (pk (s.drop i)).2).length=(pk (s.drop i)).2:=by rw [Sn,Tp];omega
   refine Or.inl ⟨InR.i64 tN tN,wN ?_⟩;refine ⟨oM,tN,tN,wN ?_⟩;rw [ec];refine ⟨fun r hr=>Jp _ r hr,(show ((Zj out).length+(Zj ((s.drop i).take (pk (s.drop i)).2)).length) * 1<=2 ^ 47 by rw [Yy,Yy];omega),(show (Zj out).length+(Zj ((s.drop i).take (pk (s.drop i)).2)).length<=2 ^ 47 by rw [Yy,Yy];omega),wN ?_⟩;refine Or.inl ⟨InR.i64 tN tN,wN ?_⟩;refine ⟨⟨out++(s.drop i).take (pk (s.drop i)).2,i+(pk (s.drop i)).2,f,?_,rfl,⟨oM,g3,oM,by rw [Tb];omega⟩,?_⟩,?_⟩
   ·rw [Yx];rfl
   ·rw [g1];congr 1;omega
   exact m60
  have g1:XL (s.drop a)=.err 0:=by rw [<- fh,Tz oM,ZkU]
  exact tv g1
 exact h.elim
theorem ZpE:∀b∈ones,b.toNat<128/\Zi (b.toNat:Int)=false/\Zl (b.toNat:Int)=false/\b.toNat≠34:=dM
theorem ZpF {r:Bs} (h:Yo r≠0):r.getD 0 0∈ones:=by
 unfold Yo at h
 split at h
 ·rename_i g
  simp only [twos,SH,List.any_nil,Sb,To,or_false] at g;rcases g with g | g | g | g | g <;> (rw [(ZD g).2,Sj];decide)
 split at h
 ·rename_i g;exact List.contains_iff_mem.1 g
 exact absurd rfl h
theorem Zd9 {r:Bs} (h0:0<r.length) (h:Zi (pk r).1=true\/Zl (pk r).1=true\/(pk r).1=34):Yo r=0:=by
 by_cases hs:Yo r=0
 ·exact hs
 obtain ⟨g1,g2,g3,g4⟩:=ZpE _ (ZpF hs);have:=(Zb2 (c:=(r.getD 0 0).toNat) h0 oM oM).2 rfl;rw [this,g2,g3] at h;rcases h with h | h | h
 ·cases h
 ·cases h
 exact absurd h oM
theorem Zmc {c:Int} (h:Zi c=true):Zl c=false/\c≠34:=by
 rw [Zg8] at h;refine ⟨?_,oM⟩;rw [Bool.eq_false_iff];intro g;rw [isDigit_iff] at g;omega
theorem ZrS {a:Nat} {r:Bs} (h0:0<r.length) (h:Zi (pk r).1=true):Xq a r true=.tok ⟨1,r.take (XD r),0,a,a+XD r⟩:=by
 obtain ⟨h1,h2⟩:=Zmc h;have hs:=Zd9 h0 (.inl h);simp only [Xq,hs,h,h1,h2];simp
theorem ZvY {a:Nat} {r:Bs} (h0:0<r.length) (h:Zl (pk r).1=true):Xq a r true=XM a r:=by
 have hs:=Zd9 h0 (.inr (.inl h));have h2:(pk r).1≠34:=by rw [isDigit_iff] at h;omega
 simp only [Xq,hs,h,h2];simp
theorem ZvZ {a:Nat} {r:Bs} (h0:0<r.length) (h:(pk r).1=34):Xq a r true=J3 a r:=by
 have hs:=Zd9 h0 (.inr (.inr h));simp only [Xq,hs,h];simp
theorem Ztk {a:Nat} {r:Bs} (h:0<Yo r):Xq a r true=.tok ⟨4,r.take (Yo r),0,a,a+Yo r⟩:=by
 simp only [Xq];rw [Tc oM,Tc sM,Tg h]
theorem Zyd {a:Nat} {r:Bs} {room:Bool} (h:Zpv r=false):Xq a r room=.bad a 140:=by
 simp only [Zpv,T9,decide_eq_false_iff_not] at h;obtain ⟨⟨⟨h1,h2⟩,h3⟩,h4⟩:=h;simp only [Xq];rw [Tg ⟨oM,h3,h1,h2⟩]
theorem Zye {a:Nat} {r:Bs} (h:Zpv r=true):Xq a r false=.bad a 3:=by
 have hn:¬(Yo r=0/\(pk r).1≠34/\Zi (pk r).1=false/\Zl (pk r).1=false):=by
  rintro ⟨g1,g2,g3,g4⟩
  simp only [Zpv,g1,g3,g4,g2] at h;simp at h
 simp only [Xq];rw [Tc hn];simp
noncomputable def ZpG:Zt:=fun args σ K=>match args,σ with
 | [.d (.str s),.d (.int .i64 a)],⟨[],[],0⟩=>(0<=a/\a<s.length/\s.length<4294967281/\Zpv (s.drop a.toNat)=true) /\
   (match Xq a.toNat (s.drop a.toNat) true with
    | .tok t=>K (.ret (.tuple [Vq t.kind t.text t.n t.at' t.fin,.d (.int .i64 0),.d (.int .i64 0)])) ⟨[],[],0⟩
    | .bad p e=>K (.ret (.tuple [Vq 0 [] 0 0 0,.d (.int .i64 p),.d (.int .i64 e)])) ⟨[],[],0⟩)
 | _,_=>False
noncomputable def Zv0:Tbl:=[(135,Zag),(136,ZfQ),(195,Vd),(243,ZpC),(244,Zje),(242,Zgj)]
theorem Zv1:PC w0 nG 204 ZpG:=by
 refine Vb Zb mixed (tbl:=Zv0) ⟨ZaZ,ZjL,ZaY,ZvW,ZrR,ZkQ,trivial⟩ Tryz.func204 rfl kR kR ?_;intro args σ K h
 unfold ZpG at h
 split at h
 ·rename_i s a
  obtain ⟨⟨h0,h1,hs,hb⟩,h⟩:=h;obtain ⟨a,rfl⟩:∃n:Nat,a=n:=⟨a.toNat,oM⟩
  simp only [Tu] at h hb;have ge:0<(s.drop a).length:=hD;have kw:=Jz ge;have wa:=Zb2 ge (c:=34) oM oM;rw [Lib.getD_dropU,Se] at kw wa;have xl:=(s.getD a 0).toNat_lt;have jc:s.getD ((a:Int)).toNat 0=s.getD a 0:=by rw [Tu]
  refine ⟨Za [],Wv [],Ys [],0,false,dM,Ta rfl,wN ?_⟩;refine ⟨⟨h0,hs⟩,wN ?_⟩;refine ZBF (fun h2=>wN ?_) (fun h2=>wN ?_)
  ·have cq:Zi (pk (s.drop a)).1=true:=h2;rw [ZrS ge cq] at h;refine ⟨⟨h0,oM,hs,cq⟩,wN ?_⟩;have e1:cut s ((a:Int)).toNat (((a:Int)).toNat+XD (s.drop ((a:Int)).toNat))=(s.drop a).take (XD (s.drop a)):=by rw [X4];congr 1;simp only [Tu];omega
   rw [e1];exact m168
  have cq:Zi (pk (s.drop a)).1=false:=h2;refine ⟨h0,h1,wN ?_⟩;rw [jc];refine Or.inl ⟨InR.i32 oM oM,wN ?_⟩;refine ZBF (fun h3=>wN ?_) (fun h3=>wN ?_)
  ·have du:Zl (pk (s.drop a)).1=true:=kw.trans h3;rw [ZvY ge du,XM] at h;refine ⟨⟨h0,h1,hs,h3⟩,fun n hn=>wN ?_,fun hn n e=>wN ?_⟩
   ·rw [show ZP (s.drop a)=some n from hn] at h;exact m168
   rw [show ZP (s.drop a)=none from hn] at h;exact h
  have du:Zl (pk (s.drop a)).1=false:=kw.trans h3;refine ⟨h0,h1,wN ?_⟩;rw [jc];(conv=>whnf);refine ZBC (fun h4=>wN ?_) (fun h4=>wN ?_)
  ·have gt:=wa.2 h4;rw [ZvZ ge gt,J3] at h;refine ⟨⟨h0,h1,hs⟩,?_⟩;rw [Tu]
   cases hT:XL (s.drop a) with
   | ok t l =>
    rw [hT] at h;(conv=>whnf);exact m168
   | err p =>
   rw [hT] at h;(conv=>whnf);exact m168
  have tr:0<Yo (s.drop a):=by
   rw [Zpv,cq,du,decide_eq_false (fun g=>h4 (wa.1 g))] at hb;simpa using hb
  have hsb:Yo (s.drop a)<=(s.drop a).length:=by
   have:=Zdq (a:=a) ge (Ztk (a:=a) tr);simp only at this;omega
  have gk:((s.drop a).take (Yo (s.drop a))).length=Yo (s.drop a):=by
   rw [Sn];omega
  rw [Tp] at hsb;rw [Ztk tr] at h;refine ⟨⟨h0,h1,hs⟩,wN ?_⟩;refine Or.inl ⟨InR.i64 (by simp only [Tu,gk];omega) (by simp only [Tu,gk];omega),wN ?_⟩;simp only [Tu,gk];exact m168
 exact h.elim
noncomputable def ZpH:Zt:=fun args σ K=>match args,σ with
 | [.d (.str s),.d (.int .i64 m)],⟨[],[],0⟩=>s.length<4294967281 /\
   K (.ret (.tuple [.d (.sl (Zy (Uh s m).1)),.d (.int .i64 (Uh s m).2.1),.d (.int .i64 (Uh s m).2.2)])) ⟨[],[],0⟩
 | _,_=>False
noncomputable def Zv2:Tbl:=[(202,Zgl),(203,Zpw),(204,ZpG)]
theorem Zv3:PC w0 nG 140 ZpH:=by
 refine Vb Zb mixed (tbl:=Zv2) ⟨ZpB,ZvR,Zv1,trivial⟩ Tryz.func140 rfl kR kR ?_;intro args σ K h
 unfold ZpH at h
 split at h
 ·rename_i s m
  obtain ⟨hs,h⟩:=h;refine ⟨Za [(3,⟨[7,8],[0,1],fun vs σ=>∃(l:List Tok) (e f:Nat),vs=[.sl 0 186 (Zy l),.d (.int .i64 e)]/\σ=⟨[],[0],1⟩ /\
   (e<=s.length/\s.length<e+f/\l.length<=e)/\Uh s m=(l++(Xk f (m - l.length) e (s.drop e)).1,(Xk f (m - l.length) e (s.drop e)).2),fun vs _=>match vs with | [_,.d (.int _ n)]=>((s.length:Int) - n).toNat | _=>0⟩)],Wv [],Ys [],0,false,sM,Ta rfl,?_⟩
  conv=>whnf
  refine ⟨⟨[],0,s.length+1,rfl,rfl,⟨oM,oM,sM⟩,by simp [Uh]⟩,?_⟩;intro vs σ1 hI
  obtain ⟨l,e,f,rfl,rfl,⟨rl,oh,ak⟩,cd⟩:=hI;obtain ⟨f,rfl⟩:∃g,f=g+1:=⟨f - 1,oM⟩
  have cu:(Zw (s.drop e)).2<=s.length - e:=by have:(Zw (s.drop e)).2<=(s.drop e).length:=ZaV _ _;rw [Tp] at this;exact this
  have ct:∀p c:Nat,Xk (f+1) (m - l.length) e (s.drop e)=([],(p,c))->K (.ret (.tuple [.d (.sl (Zy l)),.d (.int .i64 p),.d (.int .i64 c)])) ⟨[],[],0⟩:=fun p c g=>by
   rw [cd,g] at h;simp only [TT] at h;exact h
  have au:s.drop ((e:Int)).toNat=s.drop e:=by rw [Tu]
  conv=>whnf
  refine ⟨⟨oM,oM,hs⟩,?_⟩;rw [au];obtain ⟨k,hk⟩:∃k,k=(Zw (s.drop e)).2:=⟨_,rfl⟩
  rw [<- hk];rw [<- hk] at cu
  cases aw:(Zw (s.drop e)).1 with
  | false =>
   have g1:=ct (e+k) 140 (by rw [Xk,Tg aw,hk]);rw [Int.natCast_add] at g1;simp only [To,if_false];(conv=>whnf);exact g1
  | true =>
  have aj:¬(Zw (s.drop e)).1=false:=by rw [aw];simp
  simp only [if_true];(conv=>whnf);refine ZBC (fun h3=>wN ?_) (fun h3=>wN ?_)
  ·have d8:(s.drop e).drop k=[]:=by rw [Tw];exact Tz oM
   have g1:=ct 0 0 (by rw [Xk,Tc aj,<- hk,Tg d8]);exact g1
  have ah:e+k<s.length:=by omega
  have an:¬(s.drop e).drop k=[]:=fun g=>by have:=congrArg List.length g;rw [Tw,Tp] at this;simp at this;omega
  have g1:Xk (f+1) (m - l.length) e (s.drop e)=(match Xq (e+k) (s.drop (e+k)) (decide ((l.length:Int)<m)) with
    | .bad p e=>([],(p,e))
    | .tok t=>(t::(Xk f (m - l.length - 1) t.fin ((s.drop (e+k)).drop (t.fin - (e+k)))).1,(Xk f (m - l.length - 1) t.fin ((s.drop (e+k)).drop (t.fin - (e+k)))).2)):=by
   rw [Xk,Tc aj,<- hk,Tc an,Tw,show (decide (0<m - (l.length:Int)))=decide ((l.length:Int)<m) from by rw [decide_eq_decide];omega] <;> rfl
  have r7:s.drop ((e:Int)+(k:Int)).toNat=s.drop (e+k):=by rw [show ((e:Int)+(k:Int)).toNat=e+k by omega]
  refine ⟨⟨oM,oM,hs⟩,wN ?_⟩;refine ZBF (fun h4=>wN ?_) (fun h4=>wN ?_)
  ·rw [r7] at h4;have gt:Zpv (s.drop (e+k))=false:=by simpa using h4
   have g2:=ct _ _ (g1.trans (by rw [Zyd gt]));exact g2
  rw [r7] at h4;have gt:Zpv (s.drop (e+k))=true:=by simpa using h4
  refine ZBC (fun h5=>wN ?_) (fun h5=>wN ?_)
  ·have ga:¬(l.length:Int)<m:=by have h5:m<=((Zy l).length:Int):=h5;rw [ZG] at h5;omega
   have g2:=ct _ _ (g1.trans (by rw [decide_eq_false ga,Zye gt]));exact g2
  have ga:(l.length:Int)<m:=by have h5:¬m<=((Zy l).length:Int):=h5;rw [ZG] at h5;omega
  rw [TC ga] at g1;refine ⟨⟨oM,oM,hs,by rw [r7];exact gt⟩,?_⟩;rw [r7,show ((e:Int)+(k:Int)).toNat=e+k by omega]
  cases hx:Xq (e+k) (s.drop (e+k)) true with
  | bad p c =>
   rw [hx] at g1;have hc:=Zha hx;have g2:=ct p c g1;(conv=>whnf);refine ZBE (fun h6=>wN ?_) (fun h6=>absurd h6 (by have:((c:Nat):Int)≠0:=oM;exact this));exact g2
  | tok t =>
  rw [hx] at g1;obtain ⟨fi,i5,sx⟩:=Zdq hD hx;rw [Tp] at sx;(conv=>whnf);refine ⟨fun r hr=>by (simp at hr;subst hr;rfl),(show ((Zy l).length+1) * 48<=2 ^ 47 by rw [ZG];omega),(show (Zy l).length+1<=2 ^ 47 by rw [ZG];omega),wN ?_⟩;refine ⟨⟨l++[t],t.fin,f,?_,rfl,⟨oM,oM,by rw [Tb];simp;omega⟩,?_⟩,?_⟩
  ·rw [ZeZ];rfl
  ·exact m118
  exact (show ((s.length:Int) - (t.fin:Int)).toNat<((s.length:Int) - (e:Int)).toNat by omega)
 exact h.elim
noncomputable def ZpI:Zt:=fun args σ K=>match args,σ with
 | [.d (.str s),.d (.int .i64 m)],⟨[],[],0⟩=>s.length<4294967281 /\
   ∀x,Uh s m=x->K (.ret (.tuple (if x.2.2=0 then [.d (.sl (Zy x.1)),.d (.int .i64 0),.d (.int .i64 0)] else [.d (.sl []),.d (.int .i64 x.2.1),.d (.int .i64 x.2.2)]))) ⟨[],[],0⟩
 | _,_=>False
noncomputable def Zv4:Tbl:=[(140,ZpH)]
theorem Zv5:PC w0 nG 78 ZpI:=by
 refine Zd Zb mixed (tbl:=Zv4) ⟨Zv3,trivial⟩ Tryz.func78 rfl kR kR ?_;intro args σ K h
 unfold ZpI at h
 split at h
 ·rename_i s m
  obtain ⟨hs,h⟩:=h;refine ⟨Za [],0,false,sM,Ta rfl,wN ?_⟩;refine ⟨hs,?_⟩;obtain ⟨x,hx⟩:∃x,Uh s m=x:=⟨_,rfl⟩
  have h:=h x hx;rw [hx];obtain ⟨l,p,c⟩:=x;(conv=>whnf);refine ZBE (fun hc=>wN ?_) (fun hc=>wN ?_)
  ·simp only at hc h;rw [Tc oM] at h;exact h
  simp only at hc h;rw [Tg oM] at h;exact h
 exact h.elim
end Go.PM.Lex
end
