/- A part of the proof: plain logic, contracts and laws over the given program. -/
import Derived.Lib.LaidTab
import Derived.Test.YtlelokbefhefcaaGreatDoorB07
set_option linter.unusedVariables false
set_option linter.unusedSimpArgs false
set_option linter.all false
set_option maxRecDepth 100000
set_option maxHeartbeats 16000000
noncomputable section
section
namespace Go.PM.Lex
open Go.Proofs
variable {w0:World} {nG:Nat}
def Ztz (x:Li):Bool:=YI x && Zvs x
def ZyJ {op:Nat} {rel:Bs} {args:List Ex} {body:List Li} {a:Nat} (h:Ztz (.mk op rel args body a)=true):YY op rel args.length body.length=true/\(∀x∈args,ZkE x=true)/\∀x∈body,Ztz x=true:=by
 simp only [Ztz,Tl] at h;obtain ⟨h1,h2⟩:=h;obtain ⟨m1,m2,m3⟩:=ZyH h1;obtain ⟨r1,r2⟩:=ZqA h2;exact ⟨m1,fun x hx=>by rw [ZkE,m2 x hx,r1 x hx];rfl,fun x hx=>by rw [Ztz,m3 x hx,r2 x hx];rfl⟩
def ZCa (n:Nat):Zk:=ZjH (.tuple []) fun rest txt=>∃pl x,rest=[YH YQ pl x]/\(Ztz x=true/\wL x<=n/\n<=1073741824)/\txt=liT x
def ZnY (n:Nat):Zk:=fun args σ K=>match args,σ with
 | [.ptr 0 0,.d (.sl r),.d (.str bt),.func g [.ptr 0 0] []],⟨[.cells t [p,.sl 0 e rows]],[0],1⟩=>∃l pl xs,rows=Zl l/\r=xs.map (YQ pl)/\(p=.ptr 0 0/\t=132/\e=5/\g=187)/\(xs.all Ztz=true/\szS wL xs<=n/\n<=1073741824)/\l.length+(Zh bt (xs.map liT)).length<70368744177664 /\
   K (.ret (.tuple [])) ⟨[.cells t [.ptr 0 0,.sl 0 e (Zl (l++Zh bt (xs.map liT)))]],[0],1⟩
 | _,_=>False
def ZCc {n:Nat}:OKw w0 nG [(181,Zhl),(187,ZCa n)] 186 (ZnY n):=by
 refine pwo Tryz.func186 fun args σ K h=>?_
 unfold ZnY at h
 split at h
 ·rename_i r bt g t p e rows
  obtain ⟨l,pl,xs,rfl,rfl,⟨rfl,rfl,rfl,rfl⟩,⟨bm,hz,hn⟩,hlen,h⟩:=h;have ca:(xs.map (YQ pl)).length=xs.length:=Td ..;have hsz:=Zu wL xs;refine pwv [(1,⟨[12],[0,1,2,3,10,11],fun vs σ=>∃i:Nat,vs=[.d (.int .i64 i)]/\σ=⟨[.cells 132 [.ptr 0 0,.sl 0 5 (Zl (l++Zh bt ((xs.take i).map liT)))]],[0],1⟩/\i<=xs.length,mu1 xs.length⟩)] 1 true ?_;refine ⟨⟨0,rfl,(by simp only [T6,TJ,Zh,TW];rfl),oM⟩,?_⟩;intro vs σ hI
  obtain ⟨i,rfl,rfl,hi⟩:=hI;(conv=>whnf);refine ZGg (fun ab=>wN ?_) (fun ab=>?_)
  ·have ab:i<xs.length:=lzI ca ab;have hg:=ZD wL xs i ab;have fg:Ztz xs[i]=true:=Tm.1 bm _ (TC ab);have cq:=VI bt liT ab;have am:=Zaz bt liT xs (i+1);obtain ⟨eA,hA⟩:∃x,xs[i]=x:=⟨_,rfl⟩
   obtain ⟨a1,a2,a3,a4,a5⟩:=eA;rw [hA] at hg fg cq;have cf:(xs.map (YQ pl))[((i:Nat):Int).toNat]?=some (YQ pl (.mk a1 a2 a3 a4 a5)):=by simp [ab,hA]
   refine ⟨_,oM,cf,wN ?_⟩;refine ZGg (fun h0=>wN ?_) (fun h0=>?_)
   ·have h0:0<i:=by omega
    rw [Tf oM] at cq;rw [cq] at am;simp only [Ta] at am;refine wk _ bt ⟨rfl,rfl⟩ (wN ?_);refine wk _ (liT (.mk a1 a2 a3 a4 a5)) ⟨pl,(.mk a1 a2 a3 a4 a5),rfl,⟨fg,oM,oM⟩,rfl⟩ (wN ?_);exact mq76
   obtain rfl:i=0:=by omega
   rw [Tj rfl] at cq;rw [cq] at am;(conv=>whnf);refine ⟨l++Zh bt ((xs.take 0).map liT),liT (.mk a1 a2 a3 a4 a5),rfl,⟨.inr rfl,rfl,rfl⟩,⟨pl,(.mk a1 a2 a3 a4 a5),rfl,⟨fg,oM,oM⟩,rfl⟩,by simp only [T6,TJ,Zh,Ta,Tg];omega,wN ?_⟩;exact mq72
  exact mq170
 exact h.elim
def ZCd (n:Nat):Tbl:=[(124,Ze1),(185,Zty n),(236,Ztx n),(186,spB ZnY n)]
def ZCe {n:Nat} (ht:TO w0 nG (ZCd n)):PC w0 nG 187 (ZCa n):=by
 refine YV Zr mixed (tbl:=ZCd n) ht Tryz.func187 rfl kR kR ?_;intro args σ K h
 unfold ZCa ZjH at h
 split at h
 ·rename_i rest t p e rows
  obtain ⟨l,txt,rfl,⟨hp,rfl,rfl⟩,⟨pl,⟨op,rel,xs,body,at'⟩,rfl,⟨bm,hz,hn⟩,rfl⟩,hlen,h⟩:=h;obtain ⟨m1,m2,m3⟩:=ZyJ bm;have dy:szS wE xs+szS wL body+rel.length+1<=n:=by rw [wL,Zmc] at hz;omega
  refine ⟨Zg [],Ys [(13,2)],ZC [],1,true,sM,Tc rfl,?_⟩;have ub:((op=1\/op=2)/\Xj rel=true/\body.length=0)\/(3<=op/\op<=8/\rel=[]/\xs.length=2/\body.length=0)\/(op=9/\rel=[]/\xs.length=1/\0<body.length)\/(9<op/\op<=12/\rel=[]/\xs.length=2/\0<body.length):=ZyI m1;rcases ub with ⟨dx,y8,hb⟩ | ⟨c1,c2,rfl,bo,hb⟩ | ⟨rfl,rfl,dm,hb⟩ | ⟨c1,c2,rfl,bo,hb⟩
  ·rcases dx with rfl | rfl
   ·rcases hp with rfl | rfl
    all_goals
     have hx:liT (.mk 1 rel xs body at')=rel++X9 [40] [41] xs:=by rw [liT];rfl
     rw [hx] at h hlen
     (try simp only [Ta,Te,Tg] at hlen)
     conv=>whnf
     refine wk _ rel ⟨[rel],rfl,sM,sM,sM⟩ ?_;(conv=>whnf);refine wk _ (X9 [40] [41] xs) ⟨[40],[41],pl,xs,rfl,⟨Tm.2 m2,oM,oM⟩,rfl⟩ ?_;rw [show l++(rel++X9 [40] [41] xs)=l++rel++X9 [40] [41] xs by simp only [Tn]] at h;(conv=>whnf);exact h
   rcases hp with rfl | rfl
   all_goals
    have hx:liT (.mk 2 rel xs body at')=[33]++(rel++X9 [40] [41] xs):=by rw [liT];rfl
    rw [hx] at h hlen
    (try simp only [Ta,Te,Tg] at hlen)
    conv=>whnf
    refine wk _ [33] ⟨[[33]],rfl,sM,sM,sM⟩ ?_;(conv=>whnf);refine wk _ rel ⟨[rel],rfl,sM,sM,sM⟩ ?_;(conv=>whnf);refine wk _ (X9 [40] [41] xs) ⟨[40],[41],pl,xs,rfl,⟨Tm.2 m2,oM,oM⟩,rfl⟩ ?_;rw [show l++([33]++(rel++X9 [40] [41] xs))=l++[33]++rel++X9 [40] [41] xs by simp only [Tn]] at h;(conv=>whnf);exact h
  ·obtain ⟨x0,x1,rfl⟩:=Zvw bo;simp only [szS] at dy;have g0:=m2 x0 sM;have g1:=m2 x1 sM;have z0:wE x0<=n:=oM;have z1:wE x1<=n:=oM;obtain ⟨o0,t0,n0,y0,q0⟩:=x0;obtain ⟨o1,t1,n1,y1,q1⟩:=x1;obtain rfl | rfl | rfl | rfl | rfl | rfl:op=3\/op=4\/op=5\/op=6\/op=7\/op=8:=oM
   ·rcases hp with rfl | rfl
    all_goals
     have hx:liT (.mk 3 [] [(.mk o0 t0 n0 y0 q0),(.mk o1 t1 n1 y1 q1)] body at')=exW 0 (.mk o0 t0 n0 y0 q0)++([32,61,32]++exW 0 (.mk o1 t1 n1 y1 q1)):=by rw [liT,Vg,Vg];rfl
     rw [hx] at h hlen
     (try simp only [Ta,Te,Tg] at hlen)
     conv=>whnf
     refine ⟨_,dM,rfl,wN ?_⟩;refine wk _ (exW 0 (.mk o0 t0 n0 y0 q0)) ⟨pl,(.mk o0 t0 n0 y0 q0),0,rfl,⟨g0,oM,oM,oM,oM⟩,rfl⟩ ?_;(conv=>whnf);refine Or.inl ⟨InR.u8 dM dM,wN ?_⟩;refine ⟨dM,dM,wN ?_⟩;refine wk _ [32,61,32] ⟨[[32,61,32]],rfl,sM,sM,sM⟩ ?_;(conv=>whnf);refine ⟨_,dM,rfl,wN ?_⟩;refine wk _ (exW 0 (.mk o1 t1 n1 y1 q1)) ⟨pl,(.mk o1 t1 n1 y1 q1),0,rfl,⟨g1,oM,oM,oM,oM⟩,rfl⟩ ?_;rw [show l++(exW 0 (.mk o0 t0 n0 y0 q0)++([32,61,32]++exW 0 (.mk o1 t1 n1 y1 q1)))=l++exW 0 (.mk o0 t0 n0 y0 q0)++[32,61,32]++exW 0 (.mk o1 t1 n1 y1 q1) by simp only [Tn]] at h;(conv=>whnf);exact h
   ·rcases hp with rfl | rfl
    all_goals
     have hx:liT (.mk 4 [] [(.mk o0 t0 n0 y0 q0),(.mk o1 t1 n1 y1 q1)] body at')=exW 0 (.mk o0 t0 n0 y0 q0)++([32,33,61,32]++exW 0 (.mk o1 t1 n1 y1 q1)):=by rw [liT,Vg,Vg];rfl
     rw [hx] at h hlen
     (try simp only [Ta,Te,Tg] at hlen)
     conv=>whnf
     refine ⟨_,dM,rfl,wN ?_⟩;refine wk _ (exW 0 (.mk o0 t0 n0 y0 q0)) ⟨pl,(.mk o0 t0 n0 y0 q0),0,rfl,⟨g0,oM,oM,oM,oM⟩,rfl⟩ ?_;(conv=>whnf);refine Or.inl ⟨InR.u8 dM dM,wN ?_⟩;refine ⟨dM,dM,wN ?_⟩;refine wk _ [32,33,61,32] ⟨[[32,33,61,32]],rfl,sM,sM,sM⟩ ?_;(conv=>whnf);refine ⟨_,dM,rfl,wN ?_⟩;refine wk _ (exW 0 (.mk o1 t1 n1 y1 q1)) ⟨pl,(.mk o1 t1 n1 y1 q1),0,rfl,⟨g1,oM,oM,oM,oM⟩,rfl⟩ ?_;rw [show l++(exW 0 (.mk o0 t0 n0 y0 q0)++([32,33,61,32]++exW 0 (.mk o1 t1 n1 y1 q1)))=l++exW 0 (.mk o0 t0 n0 y0 q0)++[32,33,61,32]++exW 0 (.mk o1 t1 n1 y1 q1) by simp only [Tn]] at h;(conv=>whnf);exact h
   ·rcases hp with rfl | rfl
    all_goals
     have hx:liT (.mk 5 [] [(.mk o0 t0 n0 y0 q0),(.mk o1 t1 n1 y1 q1)] body at')=exW 0 (.mk o0 t0 n0 y0 q0)++([32,60,32]++exW 0 (.mk o1 t1 n1 y1 q1)):=by rw [liT,Vg,Vg];rfl
     rw [hx] at h hlen
     (try simp only [Ta,Te,Tg] at hlen)
     conv=>whnf
     refine ⟨_,dM,rfl,wN ?_⟩;refine wk _ (exW 0 (.mk o0 t0 n0 y0 q0)) ⟨pl,(.mk o0 t0 n0 y0 q0),0,rfl,⟨g0,oM,oM,oM,oM⟩,rfl⟩ ?_;(conv=>whnf);refine Or.inl ⟨InR.u8 dM dM,wN ?_⟩;refine ⟨dM,dM,wN ?_⟩;refine wk _ [32,60,32] ⟨[[32,60,32]],rfl,sM,sM,sM⟩ ?_;(conv=>whnf);refine ⟨_,dM,rfl,wN ?_⟩;refine wk _ (exW 0 (.mk o1 t1 n1 y1 q1)) ⟨pl,(.mk o1 t1 n1 y1 q1),0,rfl,⟨g1,oM,oM,oM,oM⟩,rfl⟩ ?_;rw [show l++(exW 0 (.mk o0 t0 n0 y0 q0)++([32,60,32]++exW 0 (.mk o1 t1 n1 y1 q1)))=l++exW 0 (.mk o0 t0 n0 y0 q0)++[32,60,32]++exW 0 (.mk o1 t1 n1 y1 q1) by simp only [Tn]] at h;(conv=>whnf);exact h
   ·rcases hp with rfl | rfl
    all_goals
     have hx:liT (.mk 6 [] [(.mk o0 t0 n0 y0 q0),(.mk o1 t1 n1 y1 q1)] body at')=exW 0 (.mk o0 t0 n0 y0 q0)++([32,60,61,32]++exW 0 (.mk o1 t1 n1 y1 q1)):=by rw [liT,Vg,Vg];rfl
     rw [hx] at h hlen
     (try simp only [Ta,Te,Tg] at hlen)
     conv=>whnf
     refine ⟨_,dM,rfl,wN ?_⟩;refine wk _ (exW 0 (.mk o0 t0 n0 y0 q0)) ⟨pl,(.mk o0 t0 n0 y0 q0),0,rfl,⟨g0,oM,oM,oM,oM⟩,rfl⟩ ?_;(conv=>whnf);refine Or.inl ⟨InR.u8 dM dM,wN ?_⟩;refine ⟨dM,dM,wN ?_⟩;refine wk _ [32,60,61,32] ⟨[[32,60,61,32]],rfl,sM,sM,sM⟩ ?_;(conv=>whnf);refine ⟨_,dM,rfl,wN ?_⟩;refine wk _ (exW 0 (.mk o1 t1 n1 y1 q1)) ⟨pl,(.mk o1 t1 n1 y1 q1),0,rfl,⟨g1,oM,oM,oM,oM⟩,rfl⟩ ?_;rw [show l++(exW 0 (.mk o0 t0 n0 y0 q0)++([32,60,61,32]++exW 0 (.mk o1 t1 n1 y1 q1)))=l++exW 0 (.mk o0 t0 n0 y0 q0)++[32,60,61,32]++exW 0 (.mk o1 t1 n1 y1 q1) by simp only [Tn]] at h;(conv=>whnf);exact h
   ·rcases hp with rfl | rfl
    all_goals
     have hx:liT (.mk 7 [] [(.mk o0 t0 n0 y0 q0),(.mk o1 t1 n1 y1 q1)] body at')=exW 0 (.mk o0 t0 n0 y0 q0)++([32,62,32]++exW 0 (.mk o1 t1 n1 y1 q1)):=by rw [liT,Vg,Vg];rfl
     rw [hx] at h hlen
     (try simp only [Ta,Te,Tg] at hlen)
     conv=>whnf
     refine ⟨_,dM,rfl,wN ?_⟩;refine wk _ (exW 0 (.mk o0 t0 n0 y0 q0)) ⟨pl,(.mk o0 t0 n0 y0 q0),0,rfl,⟨g0,oM,oM,oM,oM⟩,rfl⟩ ?_;(conv=>whnf);refine Or.inl ⟨InR.u8 dM dM,wN ?_⟩;refine ⟨dM,dM,wN ?_⟩;refine wk _ [32,62,32] ⟨[[32,62,32]],rfl,sM,sM,sM⟩ ?_;(conv=>whnf);refine ⟨_,dM,rfl,wN ?_⟩;refine wk _ (exW 0 (.mk o1 t1 n1 y1 q1)) ⟨pl,(.mk o1 t1 n1 y1 q1),0,rfl,⟨g1,oM,oM,oM,oM⟩,rfl⟩ ?_;rw [show l++(exW 0 (.mk o0 t0 n0 y0 q0)++([32,62,32]++exW 0 (.mk o1 t1 n1 y1 q1)))=l++exW 0 (.mk o0 t0 n0 y0 q0)++[32,62,32]++exW 0 (.mk o1 t1 n1 y1 q1) by simp only [Tn]] at h;(conv=>whnf);exact h
   rcases hp with rfl | rfl
   all_goals
    have hx:liT (.mk 8 [] [(.mk o0 t0 n0 y0 q0),(.mk o1 t1 n1 y1 q1)] body at')=exW 0 (.mk o0 t0 n0 y0 q0)++([32,62,61,32]++exW 0 (.mk o1 t1 n1 y1 q1)):=by rw [liT,Vg,Vg];rfl
    rw [hx] at h hlen
    (try simp only [Ta,Te,Tg] at hlen)
    conv=>whnf
    refine ⟨_,dM,rfl,wN ?_⟩;refine wk _ (exW 0 (.mk o0 t0 n0 y0 q0)) ⟨pl,(.mk o0 t0 n0 y0 q0),0,rfl,⟨g0,oM,oM,oM,oM⟩,rfl⟩ ?_;(conv=>whnf);refine Or.inl ⟨InR.u8 dM dM,wN ?_⟩;refine ⟨dM,dM,wN ?_⟩;refine wk _ [32,62,61,32] ⟨[[32,62,61,32]],rfl,sM,sM,sM⟩ ?_;(conv=>whnf);refine ⟨_,dM,rfl,wN ?_⟩;refine wk _ (exW 0 (.mk o1 t1 n1 y1 q1)) ⟨pl,(.mk o1 t1 n1 y1 q1),0,rfl,⟨g1,oM,oM,oM,oM⟩,rfl⟩ ?_;rw [show l++(exW 0 (.mk o0 t0 n0 y0 q0)++([32,62,61,32]++exW 0 (.mk o1 t1 n1 y1 q1)))=l++exW 0 (.mk o0 t0 n0 y0 q0)++[32,62,61,32]++exW 0 (.mk o1 t1 n1 y1 q1) by simp only [Tn]] at h;(conv=>whnf);exact h
  ·obtain ⟨x0,rfl⟩:=ZB9 dm;simp only [szS] at dy;have g0:=m2 x0 sM;have z0:wE x0<=n:=oM;obtain ⟨o0,t0,n0,y0,q0⟩:=x0;rcases hp with rfl | rfl
   all_goals
    have hx:liT (.mk 9 [] [(.mk o0 t0 n0 y0 q0)] body at')=exW 0 (.mk o0 t0 n0 y0 q0)++(([32,61,32]++[99,111,117,110,116])++([32,58,32,123,32]++(Zh cmm (body.map liT)++([32,125])))):=by rw [liT,ZdV,Vg];simp [Zmb,Ztl,Zkz]
    rw [hx] at h hlen
    (try simp only [Ta,Te,Tg] at hlen)
    conv=>whnf
    refine ⟨_,dM,rfl,wN ?_⟩;refine wk _ (exW 0 (.mk o0 t0 n0 y0 q0)) ⟨pl,(.mk o0 t0 n0 y0 q0),0,rfl,⟨g0,oM,oM,oM,oM⟩,rfl⟩ ?_;(conv=>whnf);refine Or.inl ⟨InR.u8 dM dM,wN ?_⟩;refine ⟨dM,dM,wN ?_⟩;refine wk _ ([32,61,32]++[99,111,117,110,116]) ⟨[[32,61,32],[99,111,117,110,116]],rfl,sM,sM,sM⟩ ?_;(conv=>whnf);refine ⟨fun r hr=>?_,dM,by rw [Zc];simp,wN ?_⟩
    ·rw [Zc] at hr;simp only [Tz,TJ,Tu,Sr,or_false] at hr;rcases hr with rfl;rfl
    refine wk _ [32,58,32,123,32] ⟨[[32,58,32,123,32]],rfl,sM,sM,sM⟩ ?_;(conv=>whnf);refine ⟨oM,l++exW 0 (.mk o0 t0 n0 y0 q0)++([32,61,32]++[99,111,117,110,116])++[32,58,32,123,32],pl,body,rfl,Zq pl body,⟨rfl,rfl,rfl,rfl⟩,⟨Tm.2 m3,oM,oM⟩,(by (try simp only [Ta,Te,Tg]);show _+(Zh cmm (body.map liT)).length<_;omega),?_⟩;(conv=>whnf);refine wk (l++exW 0 (.mk o0 t0 n0 y0 q0)++([32,61,32]++[99,111,117,110,116])++[32,58,32,123,32]++Zh cmm (body.map liT)) [32,125] ⟨[[32,125]],rfl,sM,sM,sM⟩ ?_;rw [show l++(exW 0 (.mk o0 t0 n0 y0 q0)++(([32,61,32]++[99,111,117,110,116])++([32,58,32,123,32]++(Zh cmm (body.map liT)++([32,125])))))=l++exW 0 (.mk o0 t0 n0 y0 q0)++([32,61,32]++[99,111,117,110,116])++[32,58,32,123,32]++Zh cmm (body.map liT)++[32,125] by simp only [Tn]] at h;(conv=>whnf);exact h
  obtain ⟨x0,x1,rfl⟩:=Zvw bo;simp only [szS] at dy;have g0:=m2 x0 sM;have g1:=m2 x1 sM;have z0:wE x0<=n:=oM;have z1:wE x1<=n:=oM;obtain ⟨o0,t0,n0,y0,q0⟩:=x0;obtain ⟨o1,t1,n1,y1,q1⟩:=x1;obtain rfl | rfl | rfl:op=10\/op=11\/op=12:=oM
  ·rcases hp with rfl | rfl
   all_goals
    have hx:liT (.mk 10 [] [(.mk o0 t0 n0 y0 q0),(.mk o1 t1 n1 y1 q1)] body at')=exW 0 (.mk o0 t0 n0 y0 q0)++(([32,61,32]++[115,117,109])++([32]++(exW 0 (.mk o1 t1 n1 y1 q1)++([32,58,32,123,32]++(Zh cmm (body.map liT)++([32,125])))))):=by rw [liT,ZdV,Vg,Vg];simp [Zmb,Ztl,Zkz]
    rw [hx] at h hlen
    (try simp only [Ta,Te,Tg] at hlen)
    conv=>whnf
    refine ⟨_,dM,rfl,wN ?_⟩;refine wk _ (exW 0 (.mk o0 t0 n0 y0 q0)) ⟨pl,(.mk o0 t0 n0 y0 q0),0,rfl,⟨g0,oM,oM,oM,oM⟩,rfl⟩ ?_;(conv=>whnf);refine Or.inl ⟨InR.u8 dM dM,wN ?_⟩;refine ⟨dM,dM,wN ?_⟩;refine wk _ ([32,61,32]++[115,117,109]) ⟨[[32,61,32],[115,117,109]],rfl,sM,sM,sM⟩ ?_;(conv=>whnf);refine ⟨fun r hr=>?_,dM,by rw [Zc];simp,wN ?_⟩
    ·exact mq112
    refine ⟨_,dM,rfl,wN ?_⟩;refine wk _ [32] ⟨[[32]],rfl,sM,sM,sM⟩ ?_;(conv=>whnf);refine wk _ (exW 0 (.mk o1 t1 n1 y1 q1)) ⟨pl,(.mk o1 t1 n1 y1 q1),0,rfl,⟨g1,oM,oM,oM,oM⟩,rfl⟩ ?_;(conv=>whnf);refine XS ?_;refine wk _ [32,58,32,123,32] ⟨[[32,58,32,123,32]],rfl,sM,sM,sM⟩ ?_;(conv=>whnf);refine ⟨oM,l++exW 0 (.mk o0 t0 n0 y0 q0)++([32,61,32]++[115,117,109])++[32]++exW 0 (.mk o1 t1 n1 y1 q1)++[32,58,32,123,32],pl,body,rfl,Zq pl body,⟨rfl,rfl,rfl,rfl⟩,⟨Tm.2 m3,oM,oM⟩,(by (try simp only [Ta,Te,Tg]);show _+(Zh cmm (body.map liT)).length<_;omega),?_⟩;(conv=>whnf);refine wk (l++exW 0 (.mk o0 t0 n0 y0 q0)++([32,61,32]++[115,117,109])++[32]++exW 0 (.mk o1 t1 n1 y1 q1)++[32,58,32,123,32]++Zh cmm (body.map liT)) [32,125] ⟨[[32,125]],rfl,sM,sM,sM⟩ ?_;rw [show l++(exW 0 (.mk o0 t0 n0 y0 q0)++(([32,61,32]++[115,117,109])++([32]++(exW 0 (.mk o1 t1 n1 y1 q1)++([32,58,32,123,32]++(Zh cmm (body.map liT)++([32,125])))))))=l++exW 0 (.mk o0 t0 n0 y0 q0)++([32,61,32]++[115,117,109])++[32]++exW 0 (.mk o1 t1 n1 y1 q1)++[32,58,32,123,32]++Zh cmm (body.map liT)++[32,125] by simp only [Tn]] at h;(conv=>whnf);exact h
  ·rcases hp with rfl | rfl
   all_goals
    have hx:liT (.mk 11 [] [(.mk o0 t0 n0 y0 q0),(.mk o1 t1 n1 y1 q1)] body at')=exW 0 (.mk o0 t0 n0 y0 q0)++(([32,61,32]++[109,105,110])++([32]++(exW 0 (.mk o1 t1 n1 y1 q1)++([32,58,32,123,32]++(Zh cmm (body.map liT)++([32,125])))))):=by rw [liT,ZdV,Vg,Vg];simp [Zmb,Ztl,Zkz]
    rw [hx] at h hlen
    (try simp only [Ta,Te,Tg] at hlen)
    conv=>whnf
    refine ⟨_,dM,rfl,wN ?_⟩;refine wk _ (exW 0 (.mk o0 t0 n0 y0 q0)) ⟨pl,(.mk o0 t0 n0 y0 q0),0,rfl,⟨g0,oM,oM,oM,oM⟩,rfl⟩ ?_;(conv=>whnf);refine Or.inl ⟨InR.u8 dM dM,wN ?_⟩;refine ⟨dM,dM,wN ?_⟩;refine wk _ ([32,61,32]++[109,105,110]) ⟨[[32,61,32],[109,105,110]],rfl,sM,sM,sM⟩ ?_;(conv=>whnf);refine ⟨fun r hr=>?_,dM,by rw [Zc];simp,wN ?_⟩
    ·exact mq112
    refine ⟨_,dM,rfl,wN ?_⟩;refine wk _ [32] ⟨[[32]],rfl,sM,sM,sM⟩ ?_;(conv=>whnf);refine wk _ (exW 0 (.mk o1 t1 n1 y1 q1)) ⟨pl,(.mk o1 t1 n1 y1 q1),0,rfl,⟨g1,oM,oM,oM,oM⟩,rfl⟩ ?_;(conv=>whnf);refine XS ?_;refine wk _ [32,58,32,123,32] ⟨[[32,58,32,123,32]],rfl,sM,sM,sM⟩ ?_;(conv=>whnf);refine ⟨oM,l++exW 0 (.mk o0 t0 n0 y0 q0)++([32,61,32]++[109,105,110])++[32]++exW 0 (.mk o1 t1 n1 y1 q1)++[32,58,32,123,32],pl,body,rfl,Zq pl body,⟨rfl,rfl,rfl,rfl⟩,⟨Tm.2 m3,oM,oM⟩,(by (try simp only [Ta,Te,Tg]);show _+(Zh cmm (body.map liT)).length<_;omega),?_⟩;(conv=>whnf);refine wk (l++exW 0 (.mk o0 t0 n0 y0 q0)++([32,61,32]++[109,105,110])++[32]++exW 0 (.mk o1 t1 n1 y1 q1)++[32,58,32,123,32]++Zh cmm (body.map liT)) [32,125] ⟨[[32,125]],rfl,sM,sM,sM⟩ ?_;rw [show l++(exW 0 (.mk o0 t0 n0 y0 q0)++(([32,61,32]++[109,105,110])++([32]++(exW 0 (.mk o1 t1 n1 y1 q1)++([32,58,32,123,32]++(Zh cmm (body.map liT)++([32,125])))))))=l++exW 0 (.mk o0 t0 n0 y0 q0)++([32,61,32]++[109,105,110])++[32]++exW 0 (.mk o1 t1 n1 y1 q1)++[32,58,32,123,32]++Zh cmm (body.map liT)++[32,125] by simp only [Tn]] at h;(conv=>whnf);exact h
  rcases hp with rfl | rfl
  all_goals
   have hx:liT (.mk 12 [] [(.mk o0 t0 n0 y0 q0),(.mk o1 t1 n1 y1 q1)] body at')=exW 0 (.mk o0 t0 n0 y0 q0)++(([32,61,32]++[109,97,120])++([32]++(exW 0 (.mk o1 t1 n1 y1 q1)++([32,58,32,123,32]++(Zh cmm (body.map liT)++([32,125])))))):=by rw [liT,ZdV,Vg,Vg];simp [Zmb,Ztl,Zkz]
   rw [hx] at h hlen
   (try simp only [Ta,Te,Tg] at hlen)
   conv=>whnf
   refine ⟨_,dM,rfl,wN ?_⟩;refine wk _ (exW 0 (.mk o0 t0 n0 y0 q0)) ⟨pl,(.mk o0 t0 n0 y0 q0),0,rfl,⟨g0,oM,oM,oM,oM⟩,rfl⟩ ?_;(conv=>whnf);refine Or.inl ⟨InR.u8 dM dM,wN ?_⟩;refine ⟨dM,dM,wN ?_⟩;refine wk _ ([32,61,32]++[109,97,120]) ⟨[[32,61,32],[109,97,120]],rfl,sM,sM,sM⟩ ?_;(conv=>whnf);refine ⟨fun r hr=>?_,dM,by rw [Zc];simp,wN ?_⟩
   ·exact mq112
   refine ⟨_,dM,rfl,wN ?_⟩;refine wk _ [32] ⟨[[32]],rfl,sM,sM,sM⟩ ?_;(conv=>whnf);refine wk _ (exW 0 (.mk o1 t1 n1 y1 q1)) ⟨pl,(.mk o1 t1 n1 y1 q1),0,rfl,⟨g1,oM,oM,oM,oM⟩,rfl⟩ ?_;(conv=>whnf);refine XS ?_;refine wk _ [32,58,32,123,32] ⟨[[32,58,32,123,32]],rfl,sM,sM,sM⟩ ?_;(conv=>whnf);refine ⟨oM,l++exW 0 (.mk o0 t0 n0 y0 q0)++([32,61,32]++[109,97,120])++[32]++exW 0 (.mk o1 t1 n1 y1 q1)++[32,58,32,123,32],pl,body,rfl,Zq pl body,⟨rfl,rfl,rfl,rfl⟩,⟨Tm.2 m3,oM,oM⟩,(by (try simp only [Ta,Te,Tg]);show _+(Zh cmm (body.map liT)).length<_;omega),?_⟩;(conv=>whnf);refine wk (l++exW 0 (.mk o0 t0 n0 y0 q0)++([32,61,32]++[109,97,120])++[32]++exW 0 (.mk o1 t1 n1 y1 q1)++[32,58,32,123,32]++Zh cmm (body.map liT)) [32,125] ⟨[[32,125]],rfl,sM,sM,sM⟩ ?_;rw [show l++(exW 0 (.mk o0 t0 n0 y0 q0)++(([32,61,32]++[109,97,120])++([32]++(exW 0 (.mk o1 t1 n1 y1 q1)++([32,58,32,123,32]++(Zh cmm (body.map liT)++([32,125])))))))=l++exW 0 (.mk o0 t0 n0 y0 q0)++([32,61,32]++[109,97,120])++[32]++exW 0 (.mk o1 t1 n1 y1 q1)++[32,58,32,123,32]++Zh cmm (body.map liT)++[32,125] by simp only [Tn]] at h;(conv=>whnf);exact h
 exact h.elim
def cWA (hN:NumOK w0 nG) (hL:LexC w0 nG) (n:Nat):PC w0 nG 185 (Zty n):=Zvu (cWE hN hL n)
def ZqH {n:Nat} (h:PC w0 nG 187 (ZCa n)):PC w0 nG 186 (ZnY n):=ZCc ⟨Zqs,h,trivial⟩
def cWL (hN:NumOK w0 nG) (hL:LexC w0 nG):∀n,PC w0 nG 187 (ZCa n)
 | 0=>ZCe ⟨Zax,cWA hN hL 0,cWE hN hL 0,ZA (Zf Tryz.func186 kR rfl),trivial⟩
 | n+1=>ZCe ⟨Zax,cWA hN hL (n+1),cWE hN hL (n+1),ZB (sp:=ZnY) (ZqH (cWL hN hL n)),trivial⟩
def ZCf (r:Ru):Bool:=XL r && ZqB r
def ZyK {r:Ru} (h:ZCf r=true):(∀x∈r.args,ZkE x=true)/\∀x∈r.body,Ztz x=true:=by
 simp only [ZCf,XL,ZqB,Tl] at h;obtain ⟨⟨_,h1,h2⟩,h3,h4⟩:=h;rw [Tm] at h1 h2 h3 h4;exact ⟨fun x hx=>by rw [ZkE,h1 x hx,h3 x hx];rfl,fun x hx=>by rw [Ztz,h2 x hx,h4 x hx];rfl⟩
def ZDj (n:Nat):Zk:=ZjH (.tuple []) fun rest txt=>∃pl x,rest=[YH ZQ pl x]/\(ZCf x=true/\wRu x<=n/\n<=1073741824)/\txt=ruT x
def ZEo {n:Nat}:OKw w0 nG [(124,Ze1),(185,Zty n),(186,ZnY n)] 129 (ZDj n):=by
 refine pwo Tryz.func129 fun args σ K h=>?_
 unfold ZDj ZjH at h
 split at h
 ·rename_i rest t p e rows
  obtain ⟨l,txt,rfl,⟨hp,rfl,rfl⟩,⟨pl,⟨head,xs,body,at'⟩,rfl,⟨bm,hz,hn⟩,rfl⟩,hlen,h⟩:=h;obtain ⟨m2,m3⟩:=ZyK bm;simp only at m2 m3;have dy:szS wE xs+szS wL body+head.length+1<=n:=by unfold wRu at hz;simp only at hz;omega
  have ct:(ZL pl body).length=body.length:=by rw [Zq,Td]
  refine pwu [] 1 true ?_;have og:l.length+head.length+(X9 [40] [41] xs).length+10<70368744177664+10:=by
   have e:(ruT ⟨head,xs,body,at'⟩).length>=head.length+(X9 [40] [41] xs).length:=by rw [ruT];simp only [Ta];omega
   omega
  rcases hp with rfl | rfl
  all_goals
   conv=>whnf
   refine wk _ head ⟨[head],rfl,sM,sM,sM⟩ ?_;(conv=>whnf);refine wk _ (X9 [40] [41] xs) ⟨[40],[41],pl,xs,rfl,⟨Tm.2 m2,oM,oM⟩,rfl⟩ ?_;(conv=>whnf);refine ZGg (fun c=>wN ?_) (fun c=>wN ?_)
   ·have c:0<body.length:=by have c:((ZL pl body).length:Int)>0:=c;omega
    have hx:ruT ⟨head,xs,body,at'⟩=head++(X9 [40] [41] xs++([32,58,45,32]++(Zh cmm (body.map liT)++[46]))):=by rw [ruT,Tj c,ZdV];simp
    rw [hx] at h hlen;simp only [Ta,Te,Tg] at hlen;refine wk _ [32,58,45,32] ⟨[[32,58,45,32]],rfl,sM,sM,sM⟩ ?_;(conv=>whnf);refine ⟨l++head++X9 [40] [41] xs++[32,58,45,32],pl,body,rfl,Zq pl body,⟨rfl,rfl,rfl,rfl⟩,⟨Tm.2 m3,oM,oM⟩,(by (try simp only [Ta,Te,Tg]);show _+(Zh cmm (body.map liT)).length<_;omega),?_⟩;(conv=>whnf);refine wk (l++head++X9 [40] [41] xs++[32,58,45,32]++Zh cmm (body.map liT)) [46] ⟨[[46]],rfl,sM,sM,sM⟩ ?_;simp only [<- Tn] at h;exact mq47
   have c:¬0<body.length:=by have c:¬((ZL pl body).length:Int)>0:=c;omega
   have hx:ruT ⟨head,xs,body,at'⟩=head++(X9 [40] [41] xs++[46]):=by rw [ruT,Tf c,Sg]
   rw [hx] at h hlen;simp only [Ta,Te,Tg] at hlen;refine wk _ [46] ⟨[[46]],rfl,sM,sM,sM⟩ ?_;simp only [<- Tn] at h;exact mq47
 exact h.elim
def cWR (hN:NumOK w0 nG) (hL:LexC w0 nG) (n:Nat):PC w0 nG 129 (ZDj n):=ZEo ⟨Zax,cWA hN hL n,ZqH (cWL hN hL n),trivial⟩
def ZtA {t:Ty} (h:Yo t=true):Xj t.name=true/\(∀f∈t.fields,YR f=true)/\(∀c∈t.cases,Xo c=true) /\
  ((t.kind=1/\Xj t.base=true/\t.fields=[]/\t.cases=[])\/(t.kind=2/\t.base=[]/\t.cases=[])\/(t.kind=3/\t.base=[]/\t.fields=[]/\t.cases≠[])):=by
 simp only [Yo,Tl] at h;obtain ⟨h1,h2,h3,h4⟩:=h;refine ⟨h2,Tm.1 h3,Tm.1 h4,?_⟩;unfold Zb5 at h1
 split at h1
 ·rename_i c
  simp only [Tl,TH] at h1;exact .inl ⟨c,h1.1,TU h1.2.1,TU h1.2.2⟩
 split at h1
 ·rename_i c
  simp only [Tl,TH] at h1;exact .inr (.inl ⟨c,h1.1,TU h1.2⟩)
 split at h1
 ·rename_i c
  simp only [Tl,TH,TZ,decide_eq_false_iff_not] at h1;exact .inr (.inr ⟨c,h1.1,TU h1.2.1,fun e=>h1.2.2 (by rw [e];rfl)⟩)
 cases h1
def ZyL {tys:List Ty} {rels:List Re} {rules:List Ru} {comps:List Co} {inits:List Ini} {overs:List Ov} (h:Ze0 (.mk tys rels rules comps inits overs)=true) :
  (∀x∈tys,Yo x=true)/\(∀x∈rels,X3 x=true)/\(∀x∈rules,XL x=true)/\(∀x∈comps,Yi x=true)/\(∀x∈inits,Wr x=true)/\∀x∈overs,WS x=true:=by
 simp only [Ze0,Ws,Tl] at h;obtain ⟨h1,h2,h3,h4,h5,h6⟩:=h;exact ⟨Tm.1 h1,Tm.1 h2,Tm.1 h3,Tm.1 h4,Tm.1 h5,Tm.1 h6⟩
end Go.PM.Lex
end

section
namespace Go.PM.Lex
open Go.Proofs Go.RowKit
variable {w0:World} {nG:Nat}
def ZCh:Tbl:=[(124,Ze1)]
def ZCi {n:Nat}:PC w0 nG 183 (Zhk (YH (fun _=>Zn)) YR fiT wFi n):=by
 refine pwt (tbl:=ZCh) ⟨Zax,trivial⟩ Tryz.func183 fun args σ K h=>?_
 unfold Zhk at h
 split at h
 ·obtain ⟨l,pl,⟨nm,ty⟩,rfl,rfl,⟨rfl,rfl⟩,⟨bm,hz,hn⟩,hlen,h⟩:=h;refine pwv [] 2 true ?_;refine ⟨l,fiT ⟨nm,ty⟩,rfl,⟨.inr rfl,rfl,rfl⟩,⟨[nm,[58,32],ty],rfl,sM,sM,by simp [fiT]⟩,hlen,wN ?_⟩;exact h
 exact h.elim
def ZFF (n:Nat):PC w0 nG 182 (Zqr 183 (fun _=>Zn) YR fiT wFi n):=Zyo ⟨Zqs,ZCi,trivial⟩
def ZtB (n:Nat):Zk:=ZjH (.tuple []) fun rest txt=>∃(fr fin:Bs) (xs:List Fi),rest=[.d (.str fr),.d (.sl (xs.map Zn)),.d (.str fin)]/\(xs.all YR=true/\szS wFi xs<=n/\n<=1073741824)/\txt=Vf fr xs fin
def Zvx {n:Nat}:PC w0 nG 125 (ZtB n):=by
 refine pwt (tbl:=[(124,Ze1),(182,Zqr 183 (fun _=>Zn) YR fiT wFi n)]) ⟨Zax,ZFF n,trivial⟩ Tryz.func125 fun args σ K h=>?_
 unfold ZtB ZjH at h
 split at h
 ·rename_i rest t p e rows
  obtain ⟨l,txt,rfl,⟨hp,rfl,rfl⟩,⟨fr,fin,xs,rfl,⟨bm,hz,hn⟩,rfl⟩,hlen,h⟩:=h;have key:l++Vf fr xs fin=l++fr++Zh cmm (xs.map fiT)++fin:=by simp only [Vf,Tn]
  rw [key] at h;have hlen:l.length+(fr.length+((Zh cmm (xs.map fiT)).length+fin.length))<70368744177664:=by have:=hlen;simp only [Vf,Ta] at this;exact this
  refine pwu [] 1 true ?_;rcases hp with rfl | rfl
  all_goals
   conv=>whnf
   refine wk _ fr ⟨[fr],rfl,sM,sM,sM⟩ ?_;(conv=>whnf);refine ⟨l++fr,fun _=>0,xs,rfl,rfl,⟨rfl,rfl,rfl⟩,⟨bm,hz,hn⟩,by rw [Ta];show _+(Zh cmm (xs.map fiT)).length<_;omega,wN ?_⟩;refine wk (l++fr++Zh cmm (xs.map fiT)) fin ⟨[fin],rfl,sM,sM,sM⟩ (wN ?_);exact h
 exact h.elim
def ZCl {n:Nat}:PC w0 nG 127 (Zhk (YH (fun _=>Zy)) Xo caT wCa n):=by
 refine pwt (tbl:=[(125,ZtB n)]) ⟨Zvx,trivial⟩ Tryz.func127 fun args σ K h=>?_
 unfold Zhk at h
 split at h
 ·obtain ⟨l,pl,⟨nm,fs⟩,rfl,rfl,⟨rfl,rfl⟩,⟨bm,hz,hn⟩,hlen,h⟩:=h;have hm:fs.all YR=true:=by simp only [Xo,Tl] at bm;exact bm.2
  have hz:nm.length+szS wFi fs<=n:=by unfold wCa at hz;simp only at hz;omega
  refine pwv [] 2 true ?_;refine ⟨by simp only [Te,Tg];omega,wN ?_⟩;refine ⟨l,caT ⟨nm,fs⟩,rfl,⟨.inr rfl,rfl,rfl⟩,⟨nm++[32,123],[125],fs,rfl,⟨hm,oM,hn⟩,rfl⟩,hlen,wN ?_⟩;exact h
 exact h.elim
def ZFG (n:Nat):PC w0 nG 126 (Zqr 127 (fun _=>Zy) Xo caT wCa n):=Zyq ⟨Zqs,ZCl,trivial⟩
end Go.PM.Lex
end

section
namespace Go.PM.Lex
open Go.Proofs
variable {w0:World} {nG:Nat}
def ZDk (x:Un):Bool:=Ze0 x && Zvt x
def ZCm (x:Co):Bool:=Yi x && ZqC x
def ZyM {tys:List Ty} {rels:List Re} {rules:List Ru} {comps:List Co} {inits:List Ini} {overs:List Ov} (h:ZDk (.mk tys rels rules comps inits overs)=true) :
  (∀x∈tys,Yo x=true)/\(∀x∈rels,X3 x=true)/\(∀x∈rules,ZCf x=true)/\∀x∈comps,ZCm x=true:=by
 simp only [ZDk,Tl] at h;obtain ⟨h,hr⟩:=h;obtain ⟨m1,m2,m3,m4,m5,m6⟩:=ZyL h;simp only [Zvt,ZqD,Tl] at hr;have r1:=Tm.1 hr.1;have r2:=Tm.1 hr.2;exact ⟨m1,m2,fun x hx=>by rw [ZCf,m3 x hx,r1 x hx];rfl,fun x hx=>by rw [ZCm,m4 x hx,r2 x hx];rfl⟩
def Zsn (r:Ru):Bs:=ruT r++[10]
def ZCn (body:List PV->Bs->Prop):Zk:=fun args σ K=>match args,σ with
 | .ptr 0 0::rest,⟨[.cells t [p,.sl 0 e rows]],[0],1⟩=>∃l txt,rows=Zl l/\((p=.d .nilp\/p=.ptr 0 0)/\t=132/\e=5)/\body rest txt/\l.length+txt.length<70368744177664 /\
   ∀p',(p'=.d .nilp\/p'=.ptr 0 0)->K (.ret (.tuple [])) ⟨[.cells t [p',.sl 0 e (Zl (l++txt))]],[0],1⟩
 | _,_=>False
def ZDl (n:Nat):Zk:=ZCn fun rest txt=>∃pl x,rest=[YH X2 pl x]/\(ZDk x=true/\wUn x<=n/\n<=1073741824/\noC x)/\txt=unT x
def ZdZ {α:Type} (T:α->Bs) {xs:List α} {i:Nat} (h:i<xs.length):((xs.take (i+1)).map T).flatten=((xs.take i).map T).flatten++T xs[i]:=by
 rw [List.take_succ_eq_append_getElem h,TS,List.flatten_append];simp
def ZkF {α:Type} (T:α->Bs) (xs:List α) (i:Nat):((xs.take i).map T).flatten.length<=(xs.map T).flatten.length:=by
 have e:(xs.map T).flatten=((xs.take i).map T).flatten++((xs.drop i).map T).flatten:=by rw [<- List.flatten_append,<- TS,List.take_append_drop]
 rw [e,Ta];omega
def ZCo (n:Nat):Tbl:=[(124,Ze1),(125,ZtB n),(126,Zqr 127 (fun _=>Zy) Xo caT wCa n),(129,ZDj n)]
def ZEp {n:Nat} (ht:TO w0 nG (ZCo n)):PC w0 nG 71 (ZDl n):=by
 refine Zpo Zr mixed (tbl:=ZCo n) ht Tryz.func71 rfl kR kR ?_;intro args σ K h
 unfold ZDl ZCn at h
 split at h
 ·rename_i rest t p e rows
  obtain ⟨l,txt,rfl,⟨hp,rfl,rfl⟩,⟨pl,⟨tys,rels,rules,comps,inits,overs⟩,rfl,⟨bm,hz,hn,rfl,rfl,rfl⟩,rfl⟩,hlen,h⟩:=h;obtain ⟨m1,m2,m3,m4⟩:=ZyM bm;have hz:szS wTy tys+szS wRe rels+szS wRu rules+1<=n:=by rw [wUn] at hz;omega
  have hu:unT (.mk tys rels rules [] [] [])=(tys.map tyT).flatten++((rels.map reT).flatten++(rules.map Zsn).flatten):=by rw [unT,ZAy];rfl
  rw [hu] at hlen;simp only [Ta] at hlen;have h:∀p',(p'=.d .nilp\/p'=.ptr 0 0)->K (.ret (.tuple [])) ⟨[.cells 132 [p',.sl 0 5 (Zl (l++(tys.map tyT).flatten++(rels.map reT).flatten++(rules.map Zsn).flatten))]],[0],1⟩:=by
   rw [hu] at h;simpa only [Tn] using h
  have s1:=Zu wTy tys;have s2:=Zu wRe rels;have s3:=Zu wRu rules;refine ⟨Zg [(2,⟨[21],[2,3,19,20],fun vs σ=>∃(i:Nat) (P:PV),vs=[.d (.int .i64 i)]/\σ=⟨[.cells 132 [P,.sl 0 5 (Zl (l++((tys.take i).map tyT).flatten))],.cells 126 [.ptr 0 0],.cells 57 ((X2 pl (.mk tys rels rules [] [] [])).map .d)],[0],1⟩/\(P=.d .nilp\/P=.ptr 0 0)/\i<=tys.length,mu1 tys.length⟩),(15,⟨[60],[2,3,58,59],fun vs σ=>∃(i:Nat) (P:PV),vs=[.d (.int .i64 i)]/\σ=⟨[.cells 132 [P,.sl 0 5 (Zl (l++(tys.map tyT).flatten++((rels.take i).map reT).flatten))],.cells 126 [.ptr 0 0],.cells 57 ((X2 pl (.mk tys rels rules [] [] [])).map .d)],[0],1⟩/\(P=.d .nilp\/P=.ptr 0 0)/\i<=rels.length,mu1 rels.length⟩),(47,⟨[166],[2,3,164,165],fun vs σ=>∃(i:Nat) (P:PV),vs=[.d (.int .i64 i)]/\σ=⟨[.cells 132 [P,.sl 0 5 (Zl (l++(tys.map tyT).flatten++(rels.map reT).flatten++((rules.take i).map Zsn).flatten))],.cells 126 [.ptr 0 0],.cells 57 ((X2 pl (.mk tys rels rules [] [] [])).map .d)],[0],1⟩/\(P=.d .nilp\/P=.ptr 0 0)/\i<=rules.length,mu1 rules.length⟩)],Ys [(19,4),(27,1),(37,1),(42,1)],ZC [],ZC [],ZC [],Zwc [(14,([2,3],fun vs σ=>∃P:PV,vs=[.ptr 1 0,.ptr 2 0]/\σ=⟨[.cells 132 [P,.sl 0 5 (Zl (l++(tys.map tyT).flatten))],.cells 126 [.ptr 0 0],.cells 57 ((X2 pl (.mk tys rels rules [] [] [])).map .d)],[0],1⟩/\(P=.d .nilp\/P=.ptr 0 0))),(26,([2,3],fun vs σ=>∃P:PV,vs=[.ptr 1 0,.ptr 2 0]/\σ=⟨[.cells 132 [P,.sl 0 5 (Zl (l++(tys.map tyT).flatten++(rels.map reT).flatten))],.cells 126 [.ptr 0 0],.cells 57 ((X2 pl (.mk tys rels rules [] [] [])).map .d)],[0],1⟩/\(P=.d .nilp\/P=.ptr 0 0)))],1,true,sM,Tc rfl,?_⟩;rcases hp with rfl | rfl
  all_goals
   conv=>whnf
   refine ⟨wN ?_,?_⟩
   ·refine ⟨⟨0,_,rfl,zN,iM,oM⟩,?_⟩;intro vs σ hI
    obtain ⟨i,P,rfl,rfl,hP,hi⟩:=hI;(conv=>whnf);refine ZGg (fun ab=>?_) (fun ab=>?_)
    ·have ca:(tys.map (Zs pl)).length=tys.length:=Td ..;have ab:i<tys.length:=lzI ca ab;have hg:=ZD wTy tys i ab;have cq:=ZdZ tyT ab;have am:=ZkF tyT tys (i+1);have cp:=TC ab;obtain ⟨L,hL⟩:∃L,l++((tys.take i).map tyT).flatten=L:=⟨_,rfl⟩
     have y9:L.length=(l).length+((tys.take i).map tyT).flatten.length:=by rw [<- hL,Ta]
     (try simp only [Ta] at y9)
     rw [cq,Ta] at am;rw [hL];obtain ⟨x,hX⟩:∃x,tys[i]=x:=⟨_,rfl⟩
     rw [hX] at hg cp cq am;obtain ⟨kd,nm,base,fs,cs,at'⟩:=x;have ip:l++((tys.take (i+1)).map tyT).flatten=L++tyT ⟨kd,nm,base,fs,cs,at'⟩:=by rw [cq,<- Tn,hL]
     have cf:(tys.map (Zs pl))[((i:Nat):Int).toNat]?=some (Zs pl ⟨kd,nm,base,fs,cs,at'⟩):=by simp [ab,hX]
     obtain ⟨q1,q2,q3,q4⟩:=ZtA (m1 _ cp);simp only at q1 q2 q3 q4;have uc:wTy ⟨kd,nm,base,fs,cs,at'⟩=1+nm.length+base.length+szS wFi fs+szS wCa cs:=rfl;have hw:nm.length+base.length+szS wFi fs+szS wCa cs<=n:=oM;(conv=>whnf);refine ⟨_,oM,cf,?_⟩
     by_cases k1:kd=1
     ·have hT:tyT ⟨kd,nm,base,fs,cs,at'⟩=[116,121,112,101,32]++(nm++(([32,60,58,32]++base)++[10])):=by rw [tyT,Tj k1]
      rw [hT] at am;simp only [Ta,Te,Tg] at am;rcases hP with rfl | rfl
      all_goals
       conv=>whnf
       refine ⟨L,[116,121,112,101,32]++nm,rfl,⟨iM,rfl,rfl⟩,⟨[[116,121,112,101,32],nm],rfl,sM,sM,sM⟩,(by (try simp only [Ta,Te,Tg]);omega),?_⟩;(conv=>whnf);refine ZGg (fun _=>?_) (fun g=>absurd (show (kd:Int)=1 by omega) g);(conv=>whnf);refine ⟨L++([116,121,112,101,32]++nm),[32,60,58,32]++base,rfl,⟨.inr rfl,rfl,rfl⟩,⟨[[32,60,58,32],base],rfl,sM,sM,sM⟩,(by (try simp only [Ta,Te,Tg]);omega),?_⟩;(conv=>whnf);refine ⟨L++([116,121,112,101,32]++nm)++([32,60,58,32]++base),[10],rfl,⟨.inr rfl,rfl,rfl⟩,⟨[[10]],rfl,sM,sM,sM⟩,(by (try simp only [Ta,Te,Tg]);omega),?_⟩;(conv=>whnf);refine Zi ?_;refine ⟨⟨i+1,_,rfl,(by rw [ip,hT];simp only [Tn];rfl),.inr rfl,oM⟩,?_⟩;exact lzM oM
     by_cases k2:kd=2
     ·have hT:tyT ⟨kd,nm,base,fs,cs,at'⟩=[116,121,112,101,32]++(nm++(Vf [32,61,32,91] fs [93]++[10])):=by rw [tyT,Tf k1,Tj k2]
      rw [hT] at am;simp only [Ta,Te,Tg] at am;rcases hP with rfl | rfl
      all_goals
       conv=>whnf
       refine ⟨L,[116,121,112,101,32]++nm,rfl,⟨iM,rfl,rfl⟩,⟨[[116,121,112,101,32],nm],rfl,sM,sM,sM⟩,(by (try simp only [Ta,Te,Tg]);omega),?_⟩;(conv=>whnf);refine ZGg (fun g=>absurd (show kd=1 by have g:(kd:Int)=1:=g;omega) k1) (fun _=>wN ?_);refine ZGg (fun _=>?_) (fun g=>absurd (show (kd:Int)=2 by omega) g);(conv=>whnf);refine ⟨L++([116,121,112,101,32]++nm),Vf [32,61,32,91] fs [93],rfl,⟨.inr rfl,rfl,rfl⟩,⟨[32,61,32,91],[93],fs,rfl,⟨Tm.2 q2,oM,oM⟩,rfl⟩,(by (try simp only [Ta,Te,Tg]);omega),?_⟩;(conv=>whnf);refine ⟨L++([116,121,112,101,32]++nm)++Vf [32,61,32,91] fs [93],[10],rfl,⟨.inr rfl,rfl,rfl⟩,⟨[[10]],rfl,sM,sM,sM⟩,(by (try simp only [Ta,Te,Tg]);omega),?_⟩;(conv=>whnf);refine Zi ?_;refine ⟨⟨i+1,_,rfl,(by rw [ip,hT];simp only [Tn];rfl),.inr rfl,oM⟩,?_⟩;exact lzM oM
     have hT:tyT ⟨kd,nm,base,fs,cs,at'⟩=[116,121,112,101,32]++(nm++([32,61,32]++(Zh [32,124,32] (cs.map caT)++[10]))):=by rw [tyT,Tf k1,Tf k2];simp only [Tn]
     rw [hT] at am;simp only [Ta,Te,Tg] at am;rcases hP with rfl | rfl
     all_goals
      conv=>whnf
      refine ⟨L,[116,121,112,101,32]++nm,rfl,⟨iM,rfl,rfl⟩,⟨[[116,121,112,101,32],nm],rfl,sM,sM,sM⟩,(by (try simp only [Ta,Te,Tg]);omega),?_⟩;(conv=>whnf);refine ZGg (fun g=>absurd (show kd=1 by have g:(kd:Int)=1:=g;omega) k1) (fun _=>wN ?_);refine ZGg (fun g=>absurd (show kd=2 by have g:(kd:Int)=2:=g;omega) k2) (fun _=>wN ?_);refine ⟨L++([116,121,112,101,32]++nm),[32,61,32],rfl,⟨.inr rfl,rfl,rfl⟩,⟨[[32,61,32]],rfl,sM,sM,sM⟩,(by (try simp only [Ta,Te,Tg]);omega),?_⟩;(conv=>whnf);refine ⟨L++([116,121,112,101,32]++nm)++[32,61,32],fun _=>0,cs,rfl,rfl,⟨rfl,rfl,rfl⟩,⟨Tm.2 q3,oM,oM⟩,(by (try simp only [Ta,Te,Tg]);show _+(Zh [32,124,32] (cs.map caT)).length<_;omega),?_⟩;(conv=>whnf);refine ⟨L++([116,121,112,101,32]++nm)++[32,61,32]++Zh [32,124,32] (cs.map caT),[10],rfl,⟨.inr rfl,rfl,rfl⟩,⟨[[10]],rfl,sM,sM,sM⟩,(by (try simp only [Ta,Te,Tg]);omega),?_⟩;(conv=>whnf);refine Zi ?_;refine ⟨⟨i+1,_,rfl,(by rw [ip,hT];simp only [Tn];rfl),.inr rfl,oM⟩,?_⟩;exact lzM oM
    have ab:i=tys.length:=by
     have ca:(tys.map (Zs pl)).length=tys.length:=Td ..;have ab:¬(i:Int)<(tys.map (Zs pl)).length:=ab;rw [ca] at ab;omega
    subst ab;rw [T7];rcases hP with rfl | rfl
    all_goals
     conv=>whnf
     exact ⟨_,rfl,rfl,iM⟩
   intro vs σ hI
   obtain ⟨P,rfl,rfl,hP⟩:=hI;(conv=>whnf);refine ⟨?_,?_⟩
   ·rcases hP with rfl | rfl
    all_goals
     conv=>whnf
     refine ⟨⟨0,_,rfl,zN,iM,oM⟩,?_⟩;intro vs σ hI
     obtain ⟨i,P,rfl,rfl,hP,hi⟩:=hI;(conv=>whnf);refine ZGg (fun ab=>?_) (fun ab=>?_)
     ·have ca:(rels.map (ZM pl)).length=rels.length:=Td ..;have ab:i<rels.length:=lzI ca ab;have hg:=ZD wRe rels i ab;have cq:=ZdZ reT ab;have am:=ZkF reT rels (i+1);have cp:=TC ab;obtain ⟨L,hL⟩:∃L,l++(tys.map tyT).flatten++((rels.take i).map reT).flatten=L:=⟨_,rfl⟩
      have y9:L.length=(l++(tys.map tyT).flatten).length+((rels.take i).map reT).flatten.length:=by rw [<- hL,Ta]
      (try simp only [Ta] at y9)
      rw [cq,Ta] at am;rw [hL];obtain ⟨x,hX⟩:∃x,rels[i]=x:=⟨_,rfl⟩
      rw [hX] at hg cp cq am;obtain ⟨nm,fs,b1,b2,b3,at'⟩:=x;have ip:l++(tys.map tyT).flatten++((rels.take (i+1)).map reT).flatten=L++reT ⟨nm,fs,b1,b2,b3,at'⟩:=by rw [cq,<- Tn,hL]
      have cf:(rels.map (ZM pl))[((i:Nat):Int).toNat]?=some (ZM pl ⟨nm,fs,b1,b2,b3,at'⟩):=by simp [ab,hX]
      have q:=m2 _ cp;simp only [X3,Tl] at q;obtain ⟨q1,q2⟩:=q;have q2:=Tm.1 q2;have uc:wRe ⟨nm,fs,b1,b2,b3,at'⟩=1+nm.length+szS wFi fs:=rfl;have hw:nm.length+szS wFi fs<=n:=oM;(conv=>whnf);refine ⟨_,oM,cf,?_⟩;have rv:reT ⟨nm,fs,b1,b2,b3,at'⟩=Vf ([100,101,99,108,32]++nm++[40]) fs [41]++((if b1 then [32,105,110,112,117,116] else [])++((if b2 then [32,111,117,116,112,117,116] else [])++((if b3 then [32,105,110,108,105,110,101] else [])++[10]))):=by rw [reT];simp only [Tn]
      rcases hP with rfl | rfl
      all_goals
       conv=>whnf
       refine ⟨by simp only [Te,Tg];omega,wN ?_⟩;refine ⟨by simp only [Ta,Te,Tg];omega,?_⟩
       cases b1 <;> cases b2 <;> cases b3
       ·have hT:=rv;simp only [if_true,Tv,if_false,Sg] at hT;rw [hT] at am;simp only [Ta,Te,Tg] at am;(conv=>whnf);refine ⟨L,Vf ([100,101,99,108,32]++nm++[40]) fs [41],rfl,⟨iM,rfl,rfl⟩,⟨([100,101,99,108,32]++nm++[40]),[41],fs,rfl,⟨Tm.2 q2,oM,oM⟩,rfl⟩,(by (try simp only [Ta,Te,Tg]);omega),?_⟩;(conv=>whnf);refine ⟨dM,dM,wN ?_⟩;refine XS ?_;refine ⟨dM,dM,wN ?_⟩;refine XS ?_;refine ⟨dM,dM,wN ?_⟩;refine XS ?_;refine ⟨L++Vf ([100,101,99,108,32]++nm++[40]) fs [41],[10],rfl,⟨.inr rfl,rfl,rfl⟩,⟨[[10]],rfl,sM,sM,sM⟩,(by (try simp only [Ta,Te,Tg]);omega),?_⟩;exact mq28
       ·have hT:=rv;simp only [if_true,Tv,if_false,Sg] at hT;rw [hT] at am;simp only [Ta,Te,Tg] at am;(conv=>whnf);refine ⟨L,Vf ([100,101,99,108,32]++nm++[40]) fs [41],rfl,⟨iM,rfl,rfl⟩,⟨([100,101,99,108,32]++nm++[40]),[41],fs,rfl,⟨Tm.2 q2,oM,oM⟩,rfl⟩,(by (try simp only [Ta,Te,Tg]);omega),?_⟩;(conv=>whnf);refine ⟨dM,dM,wN ?_⟩;refine XS ?_;refine ⟨dM,dM,wN ?_⟩;refine XS ?_;refine ⟨dM,dM,wN ?_⟩;refine ⟨dM,dM,wN ?_⟩;refine ⟨L++Vf ([100,101,99,108,32]++nm++[40]) fs [41],[32,105,110,108,105,110,101],rfl,⟨.inr rfl,rfl,rfl⟩,⟨[[32,105,110,108,105,110,101]],rfl,sM,sM,sM⟩,(by (try simp only [Ta,Te,Tg]);omega),?_⟩;(conv=>whnf)
        (repeat (refine ⟨rfl,?_⟩;conv=>whnf))
        conv=>whnf
        refine XS ?_;refine ⟨L++Vf ([100,101,99,108,32]++nm++[40]) fs [41]++[32,105,110,108,105,110,101],[10],rfl,⟨.inr rfl,rfl,rfl⟩,⟨[[10]],rfl,sM,sM,sM⟩,(by (try simp only [Ta,Te,Tg]);omega),?_⟩;exact mq28
       ·have hT:=rv;simp only [if_true,Tv,if_false,Sg] at hT;rw [hT] at am;simp only [Ta,Te,Tg] at am;(conv=>whnf);refine ⟨L,Vf ([100,101,99,108,32]++nm++[40]) fs [41],rfl,⟨iM,rfl,rfl⟩,⟨([100,101,99,108,32]++nm++[40]),[41],fs,rfl,⟨Tm.2 q2,oM,oM⟩,rfl⟩,(by (try simp only [Ta,Te,Tg]);omega),?_⟩;(conv=>whnf);refine ⟨dM,dM,wN ?_⟩;refine XS ?_;refine ⟨dM,dM,wN ?_⟩;refine ⟨dM,dM,wN ?_⟩;refine ⟨L++Vf ([100,101,99,108,32]++nm++[40]) fs [41],[32,111,117,116,112,117,116],rfl,⟨.inr rfl,rfl,rfl⟩,⟨[[32,111,117,116,112,117,116]],rfl,sM,sM,sM⟩,(by (try simp only [Ta,Te,Tg]);omega),?_⟩;(conv=>whnf)
        (repeat (refine ⟨rfl,?_⟩;conv=>whnf))
        conv=>whnf
        refine XS ?_;refine ⟨dM,dM,wN ?_⟩;refine XS ?_;refine ⟨L++Vf ([100,101,99,108,32]++nm++[40]) fs [41]++[32,111,117,116,112,117,116],[10],rfl,⟨.inr rfl,rfl,rfl⟩,⟨[[10]],rfl,sM,sM,sM⟩,(by (try simp only [Ta,Te,Tg]);omega),?_⟩;exact mq28
       ·have hT:=rv;simp only [if_true,Tv,if_false,Sg] at hT;rw [hT] at am;simp only [Ta,Te,Tg] at am;(conv=>whnf);refine ⟨L,Vf ([100,101,99,108,32]++nm++[40]) fs [41],rfl,⟨iM,rfl,rfl⟩,⟨([100,101,99,108,32]++nm++[40]),[41],fs,rfl,⟨Tm.2 q2,oM,oM⟩,rfl⟩,(by (try simp only [Ta,Te,Tg]);omega),?_⟩;(conv=>whnf);refine ⟨dM,dM,wN ?_⟩;refine XS ?_;refine ⟨dM,dM,wN ?_⟩;refine ⟨dM,dM,wN ?_⟩;refine ⟨L++Vf ([100,101,99,108,32]++nm++[40]) fs [41],[32,111,117,116,112,117,116],rfl,⟨.inr rfl,rfl,rfl⟩,⟨[[32,111,117,116,112,117,116]],rfl,sM,sM,sM⟩,(by (try simp only [Ta,Te,Tg]);omega),?_⟩;(conv=>whnf)
        (repeat (refine ⟨rfl,?_⟩;conv=>whnf))
        conv=>whnf
        refine XS ?_;refine ⟨dM,dM,wN ?_⟩;refine ⟨dM,dM,wN ?_⟩;refine ⟨L++Vf ([100,101,99,108,32]++nm++[40]) fs [41]++[32,111,117,116,112,117,116],[32,105,110,108,105,110,101],rfl,⟨.inr rfl,rfl,rfl⟩,⟨[[32,105,110,108,105,110,101]],rfl,sM,sM,sM⟩,(by (try simp only [Ta,Te,Tg]);omega),?_⟩;(conv=>whnf)
        (repeat (refine ⟨rfl,?_⟩;conv=>whnf))
        conv=>whnf
        refine XS ?_;refine ⟨L++Vf ([100,101,99,108,32]++nm++[40]) fs [41]++[32,111,117,116,112,117,116]++[32,105,110,108,105,110,101],[10],rfl,⟨.inr rfl,rfl,rfl⟩,⟨[[10]],rfl,sM,sM,sM⟩,(by (try simp only [Ta,Te,Tg]);omega),?_⟩;exact mq28
       ·have hT:=rv;simp only [if_true,Tv,if_false,Sg] at hT;rw [hT] at am;simp only [Ta,Te,Tg] at am;(conv=>whnf);refine ⟨L,Vf ([100,101,99,108,32]++nm++[40]) fs [41],rfl,⟨iM,rfl,rfl⟩,⟨([100,101,99,108,32]++nm++[40]),[41],fs,rfl,⟨Tm.2 q2,oM,oM⟩,rfl⟩,(by (try simp only [Ta,Te,Tg]);omega),?_⟩;(conv=>whnf);refine ⟨dM,dM,wN ?_⟩;refine ⟨dM,dM,wN ?_⟩;refine ⟨L++Vf ([100,101,99,108,32]++nm++[40]) fs [41],[32,105,110,112,117,116],rfl,⟨.inr rfl,rfl,rfl⟩,⟨[[32,105,110,112,117,116]],rfl,sM,sM,sM⟩,(by (try simp only [Ta,Te,Tg]);omega),?_⟩;(conv=>whnf)
        (repeat (refine ⟨rfl,?_⟩;conv=>whnf))
        conv=>whnf
        refine XS ?_;refine ⟨dM,dM,wN ?_⟩;refine XS ?_;refine ⟨dM,dM,wN ?_⟩;refine XS ?_;refine ⟨L++Vf ([100,101,99,108,32]++nm++[40]) fs [41]++[32,105,110,112,117,116],[10],rfl,⟨.inr rfl,rfl,rfl⟩,⟨[[10]],rfl,sM,sM,sM⟩,(by (try simp only [Ta,Te,Tg]);omega),?_⟩;exact mq28
       ·have hT:=rv;simp only [if_true,Tv,if_false,Sg] at hT;rw [hT] at am;simp only [Ta,Te,Tg] at am;(conv=>whnf);refine ⟨L,Vf ([100,101,99,108,32]++nm++[40]) fs [41],rfl,⟨iM,rfl,rfl⟩,⟨([100,101,99,108,32]++nm++[40]),[41],fs,rfl,⟨Tm.2 q2,oM,oM⟩,rfl⟩,(by (try simp only [Ta,Te,Tg]);omega),?_⟩;(conv=>whnf);refine ⟨dM,dM,wN ?_⟩;refine ⟨dM,dM,wN ?_⟩;refine ⟨L++Vf ([100,101,99,108,32]++nm++[40]) fs [41],[32,105,110,112,117,116],rfl,⟨.inr rfl,rfl,rfl⟩,⟨[[32,105,110,112,117,116]],rfl,sM,sM,sM⟩,(by (try simp only [Ta,Te,Tg]);omega),?_⟩;(conv=>whnf)
        (repeat (refine ⟨rfl,?_⟩;conv=>whnf))
        conv=>whnf
        refine XS ?_;refine ⟨dM,dM,wN ?_⟩;refine XS ?_;refine ⟨dM,dM,wN ?_⟩;refine ⟨dM,dM,wN ?_⟩;refine ⟨L++Vf ([100,101,99,108,32]++nm++[40]) fs [41]++[32,105,110,112,117,116],[32,105,110,108,105,110,101],rfl,⟨.inr rfl,rfl,rfl⟩,⟨[[32,105,110,108,105,110,101]],rfl,sM,sM,sM⟩,(by (try simp only [Ta,Te,Tg]);omega),?_⟩;(conv=>whnf)
        (repeat (refine ⟨rfl,?_⟩;conv=>whnf))
        conv=>whnf
        refine XS ?_;refine ⟨L++Vf ([100,101,99,108,32]++nm++[40]) fs [41]++[32,105,110,112,117,116]++[32,105,110,108,105,110,101],[10],rfl,⟨.inr rfl,rfl,rfl⟩,⟨[[10]],rfl,sM,sM,sM⟩,(by (try simp only [Ta,Te,Tg]);omega),?_⟩;exact mq28
       ·have hT:=rv;simp only [if_true,Tv,if_false,Sg] at hT;rw [hT] at am;simp only [Ta,Te,Tg] at am;(conv=>whnf);refine ⟨L,Vf ([100,101,99,108,32]++nm++[40]) fs [41],rfl,⟨iM,rfl,rfl⟩,⟨([100,101,99,108,32]++nm++[40]),[41],fs,rfl,⟨Tm.2 q2,oM,oM⟩,rfl⟩,(by (try simp only [Ta,Te,Tg]);omega),?_⟩;(conv=>whnf);refine ⟨dM,dM,wN ?_⟩;refine ⟨dM,dM,wN ?_⟩;refine ⟨L++Vf ([100,101,99,108,32]++nm++[40]) fs [41],[32,105,110,112,117,116],rfl,⟨.inr rfl,rfl,rfl⟩,⟨[[32,105,110,112,117,116]],rfl,sM,sM,sM⟩,(by (try simp only [Ta,Te,Tg]);omega),?_⟩;(conv=>whnf)
        (repeat (refine ⟨rfl,?_⟩;conv=>whnf))
        conv=>whnf
        refine XS ?_;refine ⟨dM,dM,wN ?_⟩;refine ⟨dM,dM,wN ?_⟩;refine ⟨L++Vf ([100,101,99,108,32]++nm++[40]) fs [41]++[32,105,110,112,117,116],[32,111,117,116,112,117,116],rfl,⟨.inr rfl,rfl,rfl⟩,⟨[[32,111,117,116,112,117,116]],rfl,sM,sM,sM⟩,(by (try simp only [Ta,Te,Tg]);omega),?_⟩;(conv=>whnf)
        (repeat (refine ⟨rfl,?_⟩;conv=>whnf))
        conv=>whnf
        refine XS ?_;refine ⟨dM,dM,wN ?_⟩;refine XS ?_;refine ⟨L++Vf ([100,101,99,108,32]++nm++[40]) fs [41]++[32,105,110,112,117,116]++[32,111,117,116,112,117,116],[10],rfl,⟨.inr rfl,rfl,rfl⟩,⟨[[10]],rfl,sM,sM,sM⟩,(by (try simp only [Ta,Te,Tg]);omega),?_⟩;exact mq28
       have hT:=rv;simp only [if_true,Tv,if_false,Sg] at hT;rw [hT] at am;simp only [Ta,Te,Tg] at am;(conv=>whnf);refine ⟨L,Vf ([100,101,99,108,32]++nm++[40]) fs [41],rfl,⟨iM,rfl,rfl⟩,⟨([100,101,99,108,32]++nm++[40]),[41],fs,rfl,⟨Tm.2 q2,oM,oM⟩,rfl⟩,(by (try simp only [Ta,Te,Tg]);omega),?_⟩;(conv=>whnf);refine ⟨dM,dM,wN ?_⟩;refine ⟨dM,dM,wN ?_⟩;refine ⟨L++Vf ([100,101,99,108,32]++nm++[40]) fs [41],[32,105,110,112,117,116],rfl,⟨.inr rfl,rfl,rfl⟩,⟨[[32,105,110,112,117,116]],rfl,sM,sM,sM⟩,(by (try simp only [Ta,Te,Tg]);omega),?_⟩;(conv=>whnf)
       (repeat (refine ⟨rfl,?_⟩;conv=>whnf))
       conv=>whnf
       refine XS ?_;refine ⟨dM,dM,wN ?_⟩;refine ⟨dM,dM,wN ?_⟩;refine ⟨L++Vf ([100,101,99,108,32]++nm++[40]) fs [41]++[32,105,110,112,117,116],[32,111,117,116,112,117,116],rfl,⟨.inr rfl,rfl,rfl⟩,⟨[[32,111,117,116,112,117,116]],rfl,sM,sM,sM⟩,(by (try simp only [Ta,Te,Tg]);omega),?_⟩;(conv=>whnf)
       (repeat (refine ⟨rfl,?_⟩;conv=>whnf))
       conv=>whnf
       refine XS ?_;refine ⟨dM,dM,wN ?_⟩;refine ⟨dM,dM,wN ?_⟩;refine ⟨L++Vf ([100,101,99,108,32]++nm++[40]) fs [41]++[32,105,110,112,117,116]++[32,111,117,116,112,117,116],[32,105,110,108,105,110,101],rfl,⟨.inr rfl,rfl,rfl⟩,⟨[[32,105,110,108,105,110,101]],rfl,sM,sM,sM⟩,(by (try simp only [Ta,Te,Tg]);omega),?_⟩;(conv=>whnf)
       (repeat (refine ⟨rfl,?_⟩;conv=>whnf))
       conv=>whnf
       refine XS ?_;refine ⟨L++Vf ([100,101,99,108,32]++nm++[40]) fs [41]++[32,105,110,112,117,116]++[32,111,117,116,112,117,116]++[32,105,110,108,105,110,101],[10],rfl,⟨.inr rfl,rfl,rfl⟩,⟨[[10]],rfl,sM,sM,sM⟩,(by (try simp only [Ta,Te,Tg]);omega),?_⟩;exact mq28
     have ab:i=rels.length:=by
      have ca:(rels.map (ZM pl)).length=rels.length:=Td ..;have ab:¬(i:Int)<(rels.map (ZM pl)).length:=ab;rw [ca] at ab;omega
     subst ab;rw [T7];rcases hP with rfl | rfl
     all_goals
      conv=>whnf
      exact ⟨_,rfl,rfl,iM⟩
   intro vs σ hI
   obtain ⟨P,rfl,rfl,hP⟩:=hI;(conv=>whnf);rcases hP with rfl | rfl
   all_goals
    conv=>whnf
    refine ⟨⟨0,_,rfl,zN,iM,oM⟩,?_⟩;intro vs σ hI
    obtain ⟨i,P,rfl,rfl,hP,hi⟩:=hI;(conv=>whnf);refine ZGg (fun ab=>?_) (fun ab=>?_)
    ·have ca:(rules.map (ZQ pl)).length=rules.length:=Td ..;have ab:i<rules.length:=lzI ca ab;have hg:=ZD wRu rules i ab;have cq:=ZdZ Zsn ab;have am:=ZkF Zsn rules (i+1);have cp:=TC ab;obtain ⟨L,hL⟩:∃L,l++(tys.map tyT).flatten++(rels.map reT).flatten++((rules.take i).map Zsn).flatten=L:=⟨_,rfl⟩
     have y9:L.length=(l++(tys.map tyT).flatten++(rels.map reT).flatten).length+((rules.take i).map Zsn).flatten.length:=by rw [<- hL,Ta]
     (try simp only [Ta] at y9)
     rw [cq,Ta] at am;rw [hL];obtain ⟨x,hX⟩:∃x,rules[i]=x:=⟨_,rfl⟩
     rw [hX] at hg cp cq am;obtain ⟨head,as',bd,at'⟩:=x;have ip:l++(tys.map tyT).flatten++(rels.map reT).flatten++((rules.take (i+1)).map Zsn).flatten=L++Zsn ⟨head,as',bd,at'⟩:=by rw [cq,<- Tn,hL]
     have cf:(rules.map (ZQ pl))[((i:Nat):Int).toNat]?=some (ZQ pl ⟨head,as',bd,at'⟩):=by simp [ab,hX]
     have hw:wRu ⟨head,as',bd,at'⟩<=n:=oM;have hT:Zsn ⟨head,as',bd,at'⟩=(ruT ⟨head,as',bd,at'⟩)++[10]:=rfl;rw [hT] at am;simp only [Ta,Te,Tg] at am;(conv=>whnf);refine ⟨_,oM,cf,?_⟩;rcases hP with rfl | rfl
     all_goals
      conv=>whnf
      refine ⟨L,(ruT ⟨head,as',bd,at'⟩),rfl,⟨iM,rfl,rfl⟩,⟨pl,⟨head,as',bd,at'⟩,rfl,⟨m3 _ cp,hw,hn⟩,rfl⟩,(by (try simp only [Ta,Te,Tg]);omega),?_⟩;(conv=>whnf);refine ⟨L++(ruT ⟨head,as',bd,at'⟩),[10],rfl,⟨.inr rfl,rfl,rfl⟩,⟨[[10]],rfl,sM,sM,sM⟩,(by (try simp only [Ta,Te,Tg]);omega),?_⟩;(conv=>whnf);refine Zi ?_;refine ⟨⟨i+1,_,rfl,(by rw [ip,hT];simp only [Tn];rfl),.inr rfl,oM⟩,?_⟩;exact lzM oM
    have ab:i=rules.length:=by
     have ca:(rules.map (ZQ pl)).length=rules.length:=Td ..;have ab:¬(i:Int)<(rules.map (ZQ pl)).length:=ab;rw [ca] at ab;omega
    subst ab;rw [T7];rcases hP with rfl | rfl
    all_goals
     conv=>whnf
     exact h _ iM
 exact h.elim
def cWU (hN:NumOK w0 nG) (hL:LexC w0 nG) (n:Nat):PC w0 nG 71 (ZDl n) :=
 ZEp ⟨Zax,Zvx,ZFG _,cWR hN hL _,trivial⟩
def ZyN {z:Bs} {c:UInt8} (hc:c.toNat<128):pk (c::z)=((c.toNat:Int),1):=by
 have e:Lib.decodeL (c::z)=(c.toNat,1):=by
  rw [Lib.decodeL_N];unfold Lib.decodeN;rw [Tj (by simpa using hc)];simp
 unfold pk
 rw [e,Tf sO]
structure Fol (c:UInt8) (z:Bs):Prop where
 low:c.toNat<128
 let':Zm c.toNat=false
 dig:Zo c.toNat=false
 dot:c=46->Zm (pk z).1=false
def Fol.pk {c:UInt8} {z:Bs} (h:Fol c z):Lex.pk (c::z)=((c.toNat:Int),1):=ZyN h.low
inductive Pc where
 | blank (b:UInt8) | tok (s:Bs) (t:T0)
def Pc.bs:Pc->Bs | .blank b=>[b] | .tok s _=>s
def Pc.ts:Pc->Ts | .blank _=>[] | .tok _ t=>[t]
def bsP (l:List Pc):Bs:=(l.map Pc.bs).flatten
def tsP (l:List Pc):Ts:=(l.map Pc.ts).flatten
@[simp] theorem bsP_nil:bsP []=[]:=rfl
@[simp] theorem tsP_nil:tsP []=[]:=rfl
@[simp] theorem bsP_cons (p:Pc) (l:List Pc):bsP (p::l)=p.bs++bsP l:=by simp [bsP]
@[simp] theorem tsP_cons (p:Pc) (l:List Pc):tsP (p::l)=p.ts++tsP l:=by simp [tsP]
@[simp] theorem bsP_app (l m:List Pc):bsP (l++m)=bsP l++bsP m:=by simp [bsP]
@[simp] theorem tsP_app (l m:List Pc):tsP (l++m)=tsP l++tsP m:=by simp [tsP]
def nmP (s:Bs):Pc:=.tok s (nmT s)
def sgP (s:Bs):Pc:=.tok s (sgT s)
def ZnZ:∀d:Fin 16,ZgY (ZjF d.val)=d.val/\XZ true (ZjF d.val)=true/\(d.val<10->XZ false (ZjF d.val)=true)/\ZjF d.val≠120:=by decide +kernel
def ZtC (base:Nat) (l:Bs) (b:UInt8):Ww base (l++[b])=Ww base l * base+ZgY b:=by simp [Ww]
def Zbu {base:Nat} (hb:base=10\/base=16):∀(f n:Nat),n<f->Ww base (JT base f n)=n/\(∀b∈JT base f n,XZ (decide (base=16)) b=true/\b≠120)/\JT base f n≠[]/\∀k,n<base ^ (k+1)->(JT base f n).length<=k+1
 | 0,n,h=>oM
 | f+1,n,h=>by
  have hd:∀d,d<base->ZgY (ZjF d)=d/\XZ (decide (base=16)) (ZjF d)=true/\ZjF d≠120:=fun d hd=>by
   obtain ⟨h1,h2,h3,h4⟩:=ZnZ ⟨d,oM⟩;refine ⟨h1,?_,h4⟩;rcases hb with rfl | rfl
   ·exact h3 hd
   exact h2
  rw [JT]
  by_cases c:n<base
  ·rw [Tj c];obtain ⟨h1,h2,h3⟩:=hd n c;refine ⟨by simpa [Ww] using h1,fun b hb=>?_,sM,fun k _=>sM⟩;rw [List.mem_singleton.1 hb];exact ⟨h2,h3⟩
  rw [Tf c];have aa:n / base<n:=Nat.div_lt_self oM oM;obtain ⟨i1,i2,i3,i4⟩:=Zbu hb f (n / base) oM;obtain ⟨h1,h2,h3⟩:=hd (n % base) (Nat.mod_lt _ oM);refine ⟨?_,fun b hb=>?_,sM,fun k hk=>?_⟩
  ·rw [ZtC,i1,h1,Nat.mul_comm];exact Nat.div_add_mod n base
  ·rcases TE.1 hb with hb | hb
   ·exact i2 b hb
   rw [List.mem_singleton.1 hb];exact ⟨h2,h3⟩
  cases k with
  | zero=>simp at hk;omega
  | succ k =>
  have:n / base<base ^ (k+1):=by
   rw [Nat.div_lt_iff_lt_mul oM];rw [Nat.pow_succ] at hk;exact hk
  have:=i4 k this;exact mq97
def spP:Pc:=.blank 32
def nlP:Pc:=.blank 10
@[simp] theorem bs_sp:spP.bs=[32]:=rfl
@[simp] theorem bs_nl:nlP.bs=[10]:=rfl
@[simp] theorem ts_sp:spP.ts=[]:=rfl
@[simp] theorem ts_nl:nlP.ts=[]:=rfl
@[simp] theorem bs_nm (s:Bs):(nmP s).bs=s:=rfl
@[simp] theorem bs_sg (s:Bs):(sgP s).bs=s:=rfl
@[simp] theorem ts_nm (s:Bs):(nmP s).ts=[nmT s]:=rfl
@[simp] theorem ts_sg (s:Bs):(sgP s).ts=[sgT s]:=rfl
@[simp] theorem bs_tok (s:Bs) (t:T0):(Pc.tok s t).bs=s:=rfl
@[simp] theorem ts_tok (s:Bs) (t:T0):(Pc.tok s t).ts=[t]:=rfl
def ts2 (p:Nat×List Pc):Nat×Ts:=(p.1,tsP p.2)
def Zd0:∀(f:Nat) (r out q:Bs),VG f r out=some q->q.length<=out.length+4 * r.length
 | 0,r,out,q,h=>by simp [VG] at h
 | f+1,r,out,q,h=>by
  unfold VG at h
  split at h
  ·cases h;omega
  rename_i hr
  have hd:=Lib.decodeL_le r hr;have hg:=Zg6 r;split at h
  ·have:=Zd0 f _ _ _ h;simp only [Ta,Te,Tg,Tx] at this;omega
  split at h
  ·cases h
  have:=Zd0 f _ _ _ h;have h4:=ZDM (Lib.decodeL r).1;simp only [Ta,Tx] at this;omega
def ZtD (s:Bs):(Zxa s).length<=4 * s.length+2:=by
 unfold Zxa Jo
 split
 ·cases hq:VG (s.length+1) s [34] with
  | none=>simp
  | some q =>
  have:=Zd0 _ _ _ _ hq;simp only [TY,Sn,Ta,Te,Tg] at this |-;omega
 simp
def ZtE {n:Int} (h0:-9223372036854775808<=n) (h1:n<9223372036854775808):(ZfW n).length<=20:=by
 unfold ZfW
 split
 ·have h:=(Zbu (base:=16) (.inr rfl) ((n+18446744073709551616).toNat+1) (n+18446744073709551616).toNat oM).2.2.2 15 (by
   have:(16:Nat) ^ (15+1)=18446744073709551616:=dM;omega)
  simp only [Ta,Te,Tg,Ve];omega
 have h:=(Zbu (base:=10) (.inl rfl) (n.toNat+1) n.toNat oM).2.2.2 18 (by
  have:(10:Nat) ^ (18+1)=10000000000000000000:=dM;omega)
 rw [Ve];omega
def ZtF (op:Nat):(VH op).length<=6:=by
 by_cases h:op<26
 ·have hk:∀o:Fin 26,(VH o.val).length<=6:=by decide
  exact hk ⟨op,h⟩
 unfold VH
 (repeat rw [Tf oM])
 decide
def Zvy (l:List (Nat×Bs)):Nat:=(l.map fun p=>p.2.length+4).sum
def Vh (l:List Bs):(Zh cmm l).length<=(l.map fun s=>s.length+4).sum:=by
 match l with
 | []=>exact Sa _
 | [x]=>simp [Zh]
 | x::y::l =>
  have ih:=Vh (y::l);rw [Zh]
  ·simp only [Ta,Tz,List.sum_cons] at ih |-;have:cmm.length=2:=rfl;omega
  intro h;cases h
def Zhn (w:Nat) (p:Nat×Bs):(Ztk w p).length<=p.2.length+2:=by
 unfold Ztk;split
 ·exact mq97
 omega
def ZqI (w1 w2:Nat) (sep:Bs) (l:List (Nat×Bs)):(exA w1 w2 sep l).length<=Zvy l+sep.length:=by
 match l with
 | []=>simp [exA]
 | [a]=>have:=Zhn w1 a;simp only [exA,Zvy,Tz,TJ,List.sum_cons,List.sum_nil];omega
 | a::b::l =>
  have h1:=Zhn w1 a;have h2:=Zhn w2 b;simp only [exA,Zvy,Tz,List.sum_cons,Ta];omega
def ZqJ (op:Nat) (t:Bs) (n:Int) (l:List (Nat×Bs)) (h0:-9223372036854775808<=n) (h1:n<9223372036854775808):(exN op t n l).length<=Zvy l+5 * t.length+30:=by
 have hw:=ZtF op;have hn:=ZtE h0 h1;have hq:=ZtD t;have hc:(Zh cmm (l.map Prod.snd)).length<=Zvy l:=by
  have:=Vh (l.map Prod.snd);rw [Sj] at this;exact this
 unfold exN
 split
 ·have:=ZqI (ZV op) (ZV op+1) ([32]++(VH op++[32])) l;simp only [Ta,Te,Tg] at this;omega
 split
 ·have:=ZqI 5 5 [] l;simp only [Ta,Tg] at this |-;omega
 split
 ·exact mq97
 split
 ·exact mq97
 split
 ·simp only [Ta,Te,Tg];split
  ·simp only [Tg];omega
  exact mq97
 split
 ·omega
 split
 ·omega
 split
 ·simp only [Te,Tg];omega
 split
 ·simp only [Te,Tg];omega
 omega
mutual
def Zd1:∀e:Ex,Zqz e=true->(exT e).length+4<=64 * wE e
 | .mk op t n l a,h=>by
  obtain ⟨r1,r2⟩:=ZdX h;have ih:=Zbv l (by rw [ZcG];exact Tm.2 r2);have:=ZqJ op t n (Zql l) r1.1 r1.2;rw [exT,wE];omega
def Zbv:∀l:List Ex,ZkD l=true->Zvy (Zql l)<=64 * wEs l
 | [],h=>by rw [Zql];simp [Zvy]
 | x::l,h=>by
  rw [ZkD,Tl] at h;have h1:=Zd1 x h.1;have h2:=Zbv l h.2;rw [Zql,wEs];unfold Zvy at h2 |-
  simp only [Tz,List.sum_cons];omega
end
def ZqK {α:Type} {T:α->Bs} {w:α->Nat}:∀l:List α,(∀x∈l,(T x).length+4<=64 * w x)->(l.map fun x=>(T x).length+4).sum<=64 * szS w l
 | [],h=>Sa _
 | x::l,h=>by
  have h1:=h x sM;have h2:=ZqK l fun y hy=>h y (TG _ hy)
  simp only [Tz,List.sum_cons,szS];omega
def JU {α:Type} {T:α->Bs} {w:α->Nat} {l:List α} (h:∀x∈l,(T x).length+4<=64 * w x):(Zh cmm (l.map T)).length<=64 * szS w l:=by
 have h1:=Vh (l.map T);rw [Sj] at h1;exact TN h1 (ZqK l h)
def Wu {α:Type} {T:α->Bs} {w:α->Nat}:∀{l:List α},(∀x∈l,(T x).length+4<=64 * w x)->((l.map T).flatten).length<=64 * szS w l
 | [],h=>Sa _
 | x::l,h=>by
  have h1:=h x sM;have h2:=Wu (l:=l) fun y hy=>h y (TG _ hy)
  simp only [Tz,List.flatten_cons,Ta,szS];omega
def ZkG:∀{l:List Ex},(∀x∈l,Zqz x=true)->(Zmb l).length+(Ztl l.tail).length<=64 * szS wE l/\(Zmb l).length+(Zmb l.tail).length<=64 * szS wE l
 | [],h=>by simp [Zmb,Ztl]
 | x::l,h=>by
  have h1:=Zd1 x (h x sM);have h2:=Wu (T:=fun e=>[32]++exT e) (w:=fun e=>wE e) (l:=l) fun y hy=>by
   have:=Zd1 y (h y (TG _ hy))
   cases y with
   | mk o t n a b =>
   have hw:1<=wE (.mk o t n a b):=by rw [wE];omega
   have h3:=ZqJ o t n (Zql a) (ZdX (h _ (TG _ hy))).1.1 (ZdX (h _ (TG _ hy))).1.2;have h4:=Zbv a (by rw [ZcG];exact Tm.2 (ZdX (h _ (TG _ hy))).2);simp only [Ta,Te,Tg];rw [exT,wE];omega
  refine ⟨?_,?_⟩
  ·show (exT x).length+(Ztl l).length<=64 * szS wE (x::l);rw [szS];unfold Ztl
   have:szS (fun e=>wE e) l=szS wE l:=rfl;omega
  show (exT x).length+(Zmb l).length<=64 * szS wE (x::l)
  cases l with
  | nil=>rw [szS,szS];simp [Zmb];omega
  | cons y l =>
  have h5:=Zd1 y (h y sM);rw [szS,szS];simp only [Zmb];omega
def ZyO (op:Nat):(Zxb op).length<=4:=by unfold Zxb;(repeat' split) <;> decide
def ZyP (op:Nat):(Zkz op).length<=5:=by unfold Zkz;(repeat' split) <;> decide
def Zi4 {fr fin:Bs} {l:List Ex} (h:∀x∈l,Zqz x=true):(X9 fr fin l).length<=fr.length+64 * szS wE l+fin.length:=by
 have:=JU (T:=exT) (w:=wE) fun x hx=>Zd1 x (h x hx)
 unfold X9 ZBi
 simp only [Ta];omega
mutual
def ZyQ:∀x:Li,Zvs x=true->(liT x).length+4<=64 * wL x
 | .mk op rel args body a,h=>by
  obtain ⟨r1,r2⟩:=ZqA h;have h1:=Zho body (by rw [Zhm];exact Tm.2 r2);have h2:=Zi4 (fr:=[40]) (fin:=[41]) r1;obtain ⟨h3,h4⟩:=ZkG r1;have h5:=ZyO op;have h6:=ZyP op;have h7:=Vh (Zsm body);rw [liT,wL];simp only [Te,Tg] at h2;split
  ·exact mq97
  split
  ·simp only [Ta];omega
  split
  ·simp only [Ta];omega
  exact mq97
def Zho:∀l:List Li,ZnW l=true->((Zsm l).map fun s=>s.length+4).sum<=64 * wLs l
 | [],h=>by rw [Zsm];simp
 | x::l,h=>by
  rw [ZnW,Tl] at h;have h1:=ZyQ x h.1;have h2:=Zho l h.2;rw [Zsm,wLs];simp only [Tz,List.sum_cons];omega
end
def ZyR {r:Ru} (h:ZqB r=true):(ruT r).length+10<=64 * wRu r:=by
 simp only [ZqB,Tl] at h;have r1:=Tm.1 h.1;have r2:=Tm.1 h.2;have h1:=Zi4 (fr:=[40]) (fin:=[41]) r1;have h2:=Zho r.body (by rw [Zhm];exact h.2);have h3:=Vh (Zsm r.body);rw [Zmc] at h2;unfold ruT wRu
 simp only [Te,Tg] at h1;split
 ·exact mq97
 exact mq97
def ZyS (f:Fi):(fiT f).length+4<=64 * wFi f:=by
 unfold fiT wFi;simp only [Ta,Te,Tg];omega
def ZkH (fr fin:Bs) (l:List Fi):(Vf fr l fin).length<=fr.length+64 * szS wFi l+fin.length:=by
 have:=JU (T:=fiT) (w:=wFi) (l:=l) fun x _=>ZyS x
 unfold Vf
 simp only [Ta];omega
def ZyT (c:Ca):(caT c).length+4<=64 * wCa c:=by
 have:=ZkH (c.name++[32,123]) [125] c.fields;unfold caT wCa
 simp only [Ta,Te,Tg] at this |-;omega
def ZfZ (l:List Bs):(Zh [32,124,32] l).length<=(l.map fun s=>s.length+4).sum:=by
 match l with
 | []=>exact Sa _
 | [x]=>simp [Zh]
 | x::y::l =>
  have ih:=ZfZ (y::l);rw [Zh]
  ·simp only [Ta,Tz,List.sum_cons,Te,Tg] at ih |-;omega
  intro h;cases h
def ZyU (t:Ty):(tyT t).length+4<=64 * wTy t:=by
 have h1:=ZkH [32,61,32,91] [93] t.fields;have h2:=ZfZ (t.cases.map caT);rw [Sj] at h2;have h3:=ZqK (T:=caT) (w:=wCa) t.cases fun x _=>ZyT x
 have h4:(t.cases.map fun x=>(caT x).length+4).sum=(t.cases.map ((fun s:Bs=>s.length+4)∘caT)).sum:=rfl;rw [h4] at h3;unfold tyT wTy
 simp only [Te,Tg] at h1;simp only [Ta,Te,Tg];split
 ·exact mq97
 split
 ·omega
 exact mq97
def ZyV (d:Re):(reT d).length+4<=64 * wRe d:=by
 have h1:=ZkH ([100,101,99,108,32]++(d.name++[40])) [41] d.fields;have hi:∀(b:Bool) (s:Bs),(if b then s else []).length<=s.length:=fun b s=>by cases b <;> simp
 have i1:=hi d.inn [32,105,110,112,117,116];have i2:=hi d.out [32,111,117,116,112,117,116];have i3:=hi d.inl [32,105,110,108,105,110,101];unfold reT wRe
 simp only [Ta,Te,Tg] at h1 i1 i2 i3 |-;omega
def ZkI (l:List Bs):(ZBj l).length<=2+64 * szS wBs l:=by
 have h1:=JU (T:=fun s:Bs=>s) (w:=wBs) (l:=l) fun x _=>by unfold wBs;omega
 rw [List.map_id'] at h1;unfold ZBj
 split
 ·simp
 exact mq97
def ZyW (i:Ini):(inT i).length+4<=64 * wIn i:=by
 have:=ZkI i.types;unfold inT wIn
 exact mq97
def ZyX (o:Ov):(ovT o).length+4<=64 * wOv o:=by
 unfold ovT wOv
 exact mq97
mutual
def ZqL:∀u:Un,Zvt u=true->(unT u).length+4<=64 * wUn u
 | .mk a b c d e f,h=>by
  simp only [Zvt,Tl] at h;have r1:=Tm.1 h.1;have h1:=Wu (T:=tyT) (w:=wTy) (l:=a) fun x _=>ZyU x
  have h2:=Wu (T:=reT) (w:=wRe) (l:=b) fun x _=>ZyV x
  have h3:=Wu (T:=fun r=>ruT r++[10]) (w:=wRu) (l:=c) fun x hx=>by
   have:=ZyR (r1 x hx);exact mq97
  have h4:=Zme d h.2;have h5:=Wu (T:=inT) (w:=wIn) (l:=e) fun x _=>ZyW x
  have h6:=Wu (T:=ovT) (w:=wOv) (l:=f) fun x _=>ZyX x
  rw [unT,wUn];simp only [Ta];omega
def ZyY:∀c:Co,ZqC c=true->(coT c).length+4<=64 * wCo c+64
 | .mk nm ps base tys u a,h=>by
  rw [ZqC] at h;have h1:=ZqL u h;have h2:=ZkI ps;have h3:=ZkI tys;rw [coT,wCo];split
  ·exact mq97
  exact mq97
def Zme:∀l:List Co,ZfX l=true->((ZAy l).flatten).length<=64 * Zxc l
 | [],h=>by rw [ZAy];simp
 | x::l,h=>by
  rw [ZfX,Tl] at h;have h1:=ZyY x h.1;have h2:=Zme l h.2;rw [ZAy,Zxc];simp only [List.flatten_cons,Ta];omega
end
def ZtG (n:Nat):Zk:=fun args σ K=>match args,σ with
 | [.agg c],⟨[],[],0⟩=>∃pl x,c=(X2 pl x).map .d/\((Ze0 x=true->Zvt x=true)/\wUn x<=n/\n<=16777216/\noC x) /\
   ((Ze0 x=false->K (.ret (.tuple [.d (.str []),.d (.int .i64 160)])) ⟨[],[],0⟩)/\(Ze0 x=true->∀r,JR 65536 16384 Zbj (unT x)=r->K (.ret (.tuple [.d (.str (ZdY (unT x) r).1),.d (.int .i64 (ZdY (unT x) r).2)])) ⟨[],[],0⟩))
 | _,_=>False
def ZCq {n:Nat}:OKw w0 nG [(70,YW (YH X2) Ze0 wUn n),(71,ZDl n),(73,ZaA),(72,Zl7),(74,ZqG)] 45 (ZtG n):=by
 refine pwo Tryz.func45 fun args σ K h=>?_
 unfold ZtG at h
 split at h
 ·obtain ⟨pl,⟨u1,u2,u3,u4,u5,u6⟩,rfl,⟨uz,hz,hn,hnc⟩,ha,hb⟩:=h;refine pwv [] 0 true ?_;refine ⟨pl,(.mk u1 u2 u3 u4 u5 u6),rfl,⟨hz,oM⟩,fun b bv=>?_⟩
  cases b with
  | false =>
   conv=>whnf
   exact ha bv
  | true =>
  have h1:=uz bv;have h2:=ZqL _ h1;have hb:=hb bv;(conv=>whnf);refine ⟨[],unT (.mk u1 u2 u3 u4 u5 u6),rfl,⟨.inl rfl,rfl,rfl⟩,⟨pl,(.mk u1 u2 u3 u4 u5 u6),rfl,⟨by rw [ZDk,bv,h1];rfl,hz,oM,hnc⟩,rfl⟩,by simp only [Tg];omega,fun p' jo=>?_⟩;obtain ⟨T,hT⟩:∃T,unT (.mk u1 u2 u3 u4 u5 u6)=T:=⟨_,rfl⟩
  rw [hT] at hb h2 |-;rcases jo with rfl | rfl
  all_goals
   conv=>whnf
   refine ⟨T,⟨rfl,rfl,rfl,iM,oM⟩,?_⟩;(conv=>whnf);refine ⟨oM,fun x hx=>?_⟩;have hb:=hb x hx
   cases x with
   | ok v L =>
    obtain ⟨v1,v2,v3,v4,v5,v6⟩:=v;unfold ZEW
    dsimp only;(conv=>whnf);refine ⟨T,⟨rfl,rfl,rfl,iM,oM⟩,?_⟩;(conv=>whnf);refine ⟨fun g=>absurd g dM,fun _=>wN ?_⟩;exact hb
   | err p c =>
   conv=>whnf
   refine ⟨T,⟨rfl,rfl,rfl,iM,oM⟩,?_⟩;(conv=>whnf);refine ⟨fun g=>wN ?_,fun g=>wN ?_⟩
   ·rw [ZdY,Tj oM] at hb;exact hb
   rw [ZdY,Tf oM] at hb;exact hb
 exact h.elim
def ZFH (hg:GlobOK w0 nG) (hN:NumOK w0 nG) (hL:LexC w0 nG) (n:Nat):PC w0 nG 45 (ZtG n) :=
 ZCq ⟨ZE5 hL n,cWU hN hL n,ZfY,ZD3 hg,ZyF,trivial⟩
def ZqM {α:Type} (enc:Pl->α->List D) (c:Nat->α->Prop) (f:α->Bs×Nat) (n:Nat):Zk:=fun args σ K=>match args,σ with
 | [.agg cs],⟨[],[],0⟩=>∃pl e,cs=(enc pl e).map .d/\(c n e/\n<=16777216)/\∀s k,f e=(s,k)->K (.ret (.tuple [.d (.str s),.d (.int .i64 (k:Nat))])) ⟨[],[],0⟩
 | _,_=>False
def Zi5 (x:Un):Bs×Nat:=if Ze0 x=true then ZdY (unT x) (JR 65536 16384 Zbj (unT x)) else ([],160)
def Zhp (n:Nat) (x:Un):Prop:=Zvt x=true/\wUn x<=n/\(unT x).length<1073741824/\noC x
def ZyZ (hg:GlobOK w0 nG) (hN:NumOK w0 nG) (hL:LexC w0 nG) (n:Nat):PC w0 nG 45 (ZqM X2 Zhp Zi5 n):=(ZFH hg hN hL n).weaken1 fun args σ K h=>by
 unfold ZqM at h
 unfold ZtG
 split at h
 ·obtain ⟨pl,e,h1,⟨⟨h2,h3,h4,h6⟩,h5⟩,h⟩:=h;exact ⟨pl,e,h1,⟨fun _=>h2,h3,oM,h6⟩,fun g=>h _ _ (by rw [Zi5,Tf (by rw [g];simp)]),fun g x hx=>h _ _ (by rw [Zi5,Tj g,hx])⟩
 exact h.elim
structure Pr where
 types:List Ty
 rels:List Re
 rules:List Ru
def Zn0 (pl:Pl) (p:Pr):List D:=[.sl (p.types.map (Zs pl)),.sl (p.rels.map (ZM pl)),.sl (p.rules.map (ZQ pl))]
def Zmf (p:Pr):Nat:=1+szS ZDf p.types+szS ZDg p.rels+szS Zi0 p.rules
def mvM {α:Type} (f:α->MV) (m:List (Bs×α)):List (Bs×MV):=m.map fun x=>(x.1,f x.2)
def mvI (n:Int):MV:=.one (.int .i64 n)
def mvB (b:Bool):MV:=.one (.bool b)
def mvC (c:Int×Int):MV:=.agg [.int .i64 c.1,.int .i64 c.2]
def ZI {α:Type} {f:α->MV} {k:Bs}:∀m:List (Bs×α),lkM k (mvM f m)=(lkM k m).map f
 | []=>rfl
 | (x,v)::l=>by
  have ih:=ZI (f:=f) (k:=k) l;simp only [mvM,Tz,lkM] at ih |-
  cases decide (k=x) with
  | true=>rfl
  | false=>exact ih
def XN {α:Type} {f:α->MV} {k:Bs} {v:α}:∀m:List (Bs×α),Z2 k (f v) (mvM f m)=mvM f (Z2 k v m)
 | []=>rfl
 | (x,u)::l=>by
  have ih:=XN (f:=f) (k:=k) (v:=v) l;simp only [mvM,Tz,Z2] at ih |-
  cases decide (k=x) with
  | true=>rfl
  | false=>simp only [ih];rfl
def ZkJ {α:Type} {f:α->MV} (m:List (Bs×α)):(mvM f m).length=m.length:=Td ..
def JV {α:Type} {k s:Bs} {v:α}:∀m:List (Bs×α),lkM s (Z2 k v m)=if s=k then some v else lkM s m
 | []=>by simp only [Z2,lkM];by_cases h:s=k <;> simp [h]
 | (x,u)::l=>by
  have ih:=JV (k:=k) (s:=s) (v:=v) l;simp only [Z2]
  by_cases h:k=x
  ·subst h;rw [TX rfl];simp only [lkM]
   by_cases g:s=k <;> simp [g]
  rw [decide_eq_false h];simp only [lkM,ih]
  by_cases g:s=x
  ·subst g;rw [TX rfl];simp only;rw [Tf (fun e=>h e.symm)]
  rw [decide_eq_false g]
def putM_len {α:Type} {k:Bs} {v:α}:∀{m:List (Bs×α)},lkM k m=none->(Z2 k v m).length=m.length+1
 | [],_=>rfl
 | (x,u)::l,h=>by
  simp only [lkM] at h;simp only [Z2]
  cases hd:decide (k=x) with
  | true=>rw [hd] at h;cases h
  | false=>rw [hd] at h;simp only [Te,putM_len h]
def ZAB:Bs:=[110,117,109,98,101,114]
def ZDm:Bs:=[115,121,109,98,111,108]
def Zi6 (s:Bs):Bool:=decide (s=ZAB) || decide (s=ZDm)
def X4:Nat->List Bs->List (Bs×Int)->List (Bs×Int)
 | _,[],m=>m
 | i,s::l,m=>X4 (i+1) l (if (lkM s m).isNone=true then Z2 s (i:Int) m else m)
def YX (l:List Bs):List (Bs×Int):=X4 0 l []
def ZtH (p:Pr):List (Bs×Int):=YX (p.types.map (·.name))
def JW (p:Pr):List (Bs×Int):=YX (p.rels.map (·.name))
def Yv (i:Nat):Nat->List Ca->List (Bs×(Int×Int))->List (Bs×(Int×Int))
 | _,[],m=>m
 | k,c::l,m=>Yv i (k+1) l (if (lkM c.name m).isNone=true then Z2 c.name ((i:Int),(k:Int)) m else m)
def JX:Nat->List Ty->List (Bs×(Int×Int))->List (Bs×(Int×Int))
 | _,[],m=>m
 | i,t::l,m=>JX (i+1) l (Yv i 0 t.cases m)
def Xc (p:Pr):List (Bs×(Int×Int)):=JX 0 p.types []
def X5:List Ty->List (Bs×Int)->List (Bs×Int)
 | [],m=>m
 | t::l,m=>X5 l (if t.kind≠1/\(lkM t.name m).isNone=true then Z2 t.name (m.length:Int) m else m)
def JY (p:Pr):List (Bs×Int):=X5 p.types [(ZAB,0),(ZDm,1)]
def XO (p:Pr) (s:Bs):Option Bs:=match lkM s (ZtH p) with
 | none=>none
 | some i=>if Zi6 s=true then none else match p.types[i.toNat]? with
  | some t=>if t.kind=1/\t.base≠[] then some t.base else none
  | none=>none
def Vi (p:Pr) (s:Bs):Bool:=(lkM s (ZtH p)).isSome || Zi6 s
def Zd2 {s:Bs}:∀(l:List Bs) (i:Nat) (m:List (Bs×Int)) (n:Int),lkM s (X4 i l m)=some n->lkM s m=some n\/∃k:Nat,n=i+k/\l[k]?=some s
 | [],i,m,n,h=>.inl h
 | x::l,i,m,n,h=>by
  rcases Zd2 l (i+1) _ n h with h | ⟨k,h1,h2⟩
  ·split at h
   ·rw [JV] at h;split at h
    ·rename_i e;cases h;exact .inr ⟨0,oM,by simp [e]⟩
    exact .inl h
   exact .inl h
  exact .inr ⟨k+1,oM,by simpa using h2⟩
def Zf0 {s:Bs} {l:List Bs} {n:Int} (h:lkM s (YX l)=some n):∃k:Nat,n=k/\l[k]?=some s:=by
 rcases Zd2 l 0 [] n h with h | ⟨k,h1,h2⟩
 ·cases h
 exact ⟨k,oM,h2⟩
def ZqN {p:Pr} {s:Bs} {n:Int} (h:lkM s (ZtH p)=some n):∃(k:Nat) (t:Ty),n=k/\p.types[k]?=some t/\t.name=s:=by
 exact mq146
abbrev Zi7 (pl:Pl) (p:Pr) (b:Nat):List PV:=[.mp b,.mp (b+1),.mp (b+2),.mp (b+3),.d (.sl (p.types.map (Zs pl))),.d (.sl (p.rels.map (ZM pl))),.d (.sl (p.rules.map (ZQ pl)))]
abbrev Zi8 (p:Pr):List Box:=[.dmap (mvM mvI (ZtH p)),.dmap (mvM mvI (JW p)),.dmap (mvM mvI (JY p)),.dmap (mvM mvC (Xc p))]
abbrev Ze2 (pl:Pl) (p:Pr):List Box:=.cells 139 (Zi7 pl p 1)::Zi8 p
def BP (p:Pr):Prop:=Zmf p<=1073741824
def BP.len {p:Pr} (h:BP p):p.types.length<=1073741824/\p.rels.length<=1073741824/\p.rules.length<=1073741824:=by
 unfold BP Zmf at h
 have h1:=Zu ZDf p.types;have h2:=Zu ZDg p.rels;have h3:=Zu Zi0 p.rules;omega
def Zd3 {α:Type} {f:α->Nat} {l:List α} {x:α} (h:x∈l):f x<szS f l:=by
 obtain ⟨i,hi,rfl⟩:=T5 h;exact ZD f l i hi
def BP.ty {p:Pr} (h:BP p) {t:Ty} (ht:t∈p.types):t.fields.length<=1073741824/\t.cases.length<=1073741824/\∀c∈t.cases,c.fields.length<=1073741824:=by
 unfold BP Zmf at h
 have h1:=Zd3 (f:=ZDf) ht;have e1:ZDf t=1+szS sz0 t.fields+szS ZBh t.cases:=rfl;have h2:=Zu sz0 t.fields;have h3:=Zu ZBh t.cases;refine ⟨oM,oM,fun c hc=>?_⟩;have h4:=Zd3 (f:=ZBh) hc;have e2:ZBh c=1+szS sz0 c.fields:=rfl;have h5:=Zu sz0 c.fields;omega
def BP.re {p:Pr} (h:BP p) {d:Re} (hd:d∈p.rels):d.fields.length<=1073741824:=by
 unfold BP Zmf at h
 have h1:=Zd3 (f:=ZDg) hd;have e1:ZDg d=1+szS sz0 d.fields:=rfl;have h2:=Zu sz0 d.fields;omega
def Zhq (p:Pr) (b:Bs):Nat->Bs->Bool
 | 0,_=>false
 | n+1,a=>if a=b then true else match XO p a with
  | none=>false
  | some c=>Zhq p b n c
def WI (p:Pr) (a b:Bs):Bool:=Zhq p b (p.types.length+1) a
def Zbw (p:Pr):Nat->Bs->Option Bs
 | 0,_=>none
 | n+1,a=>match XO p a with
  | none=>some a
  | some c=>Zbw p n c
def Zvz (p:Pr) (a:Bs):Option Bs:=Zbw p (p.types.length+1) a
def Ux (p:Pr):Nat->Bs->Nat
 | 0,_=>0
 | n+1,a=>match XO p a with
  | none=>0
  | some c=>Ux p n c+1
def Xr (p:Pr) (a:Bs):Int:=(lkM ((Zvz p a).getD []) (JY p)).getD 0
def ZY (p:Pr) (l:List Fi):List Int:=l.map fun f=>Xr p f.typ
def ZCr (p:Pr):Prop:=∀s,(Zvz p s).isSome=true
def Zf1 {p:Pr}:∀{n m:Nat} {a r:Bs},Zbw p n a=some r->n<=m->Zbw p m a=some r
 | 0,_,_,_,h,_=>by cases h
 | n+1,0,_,_,_,h=>oM
 | n+1,m+1,a,r,h,am=>by
  simp only [Zbw] at h |-;split at h
  ·exact h
  exact Zf1 h oM
def ZtI {p:Pr} {n:Nat} {a c r:Bs} (hb:XO p a=some c) (h:Zbw p n a=some r):∃m,n=m+1/\Zbw p m c=some r:=by
 cases n with
 | zero=>cases h
 | succ m=>refine ⟨m,rfl,?_⟩;simpa only [Zbw,hb] using h
def ZtJ {p:Pr} {a c r:Bs} (hb:XO p a=some c) (h:Zvz p a=some r):Zvz p c=some r:=by
 obtain ⟨m,h1,h2⟩:=ZtI hb h;exact Zf1 h2 oM
def ZtK {p:Pr} {a:Bs} (hb:XO p a=none):Zvz p a=some a:=by simp only [Zvz,Zbw,hb]
def Zmg {p:Pr}:∀{n:Nat} {a c r:Bs},Zbw p n a=some r->XO p a=some c->∀m,n<=m->Ux p m c<Ux p m a
 | 0,_,_,_,h,_,_,_=>by cases h
 | n+1,a,c,r,h,hb,m,hm=>by
  obtain ⟨k,rfl⟩:∃k,m=k+1:=⟨m - 1,oM⟩
  simp only [Zbw,hb] at h;have e:Ux p (k+1) a=Ux p k c+1:=by simp only [Ux,hb]
  rw [e]
  cases hc:XO p c with
  | none=>simp only [Ux,hc];omega
  | some d =>
  have e2:Ux p (k+1) c=Ux p k d+1:=by simp only [Ux,hc]
  rw [e2];have:=Zmg h hc k oM;omega
def ZaB (body:List PV->Pl->Pr->(PEnd->Prop)->Prop):Zk:=fun args σ K=>match args,σ with
 | .ptr 0 0::rest,⟨bx,[],0⟩=>∃pl p,bx=Ze2 pl p/\BP p/\body rest pl p fun pe=>K pe ⟨bx,[],0⟩
 | _,_=>False
def ZkK:Zk:=fun args σ K=>match args,σ with
 | [.d (.str s)],⟨[],[],0⟩=>∀b,Zi6 s=b->K (.ret (.d (.bool b))) ⟨[],[],0⟩
 | _,_=>False
def Zmh:PC w0 nG 136 ZkK:=by
 refine pwe Tryz.func136 fun args σ K h=>?_
 unfold ZkK at h
 split at h
 ·rename_i s
  refine pwv [] 0 false ?_;refine ZGg (fun h1=>wN ?_) (fun h1=>wN ?_)
  ·exact h _ (by simp [Zi6,show s=ZAB from h1])
  exact h _ (by simp [Zi6,show ¬s=ZAB from h1];rfl)
 exact h.elim
def Zf2:Zk:=ZaB fun rest pl p K=>match rest with
 | [.d (.str s)]=>∀x,XO p s=x->K (.ret (.tuple [.d (.str (x.getD [])),.d (.bool x.isSome)]))
 | _=>False
def ZqO:Tbl:=[(136,ZkK)]
def Zy0 (ht:TO w0 nG ZqO):PC w0 nG 83 Zf2:=by
 refine pwt ht Tryz.func83 fun args σ K h=>?_
 unfold Zf2 ZaB at h
 split at h
 ·obtain ⟨pl,p,rfl,hp,h⟩:=h;split at h
  ·rename_i s
   refine pwv [] 5 false ?_;refine ZGp (fun v hv=>?_) (fun hv=>?_);rotate_left
   ·rw [ZI,Option.map_eq_none_iff] at hv;(conv=>whnf);exact h none (by simp only [XO,hv])
   rw [ZI] at hv;obtain ⟨n,hn,rfl⟩:=TB.1 hv;obtain ⟨k,⟨t1,t2,t3,t4,t5,t6⟩,rfl,ht,ao⟩:=ZqN hn;have hk:p.types[(k:Int).toNat]?=some ⟨t1,t2,t3,t4,t5,t6⟩:=by rw [Th];exact ht
   have hr:(p.types.map (Zs pl))[(k:Int).toNat]?=some (Zs pl ⟨t1,t2,t3,t4,t5,t6⟩):=by rw [Ti,hk];rfl
   conv=>whnf
   intro b hb
   cases b with
   | true =>
    conv=>whnf
    exact h none (by simp only [XO,hn,hb,if_true])
   | false =>
   conv=>whnf
   refine ⟨_,oM,hr,wN ?_⟩;refine ZGi (fun hc=>wN ?_) (fun hc=>wN ?_)
   ·exact h none (by simp only [XO,hn,hb,hk];rw [Tf sM,Tf];intro g;exact hc (by simp only [g.1];rfl))
   refine ⟨_,oM,hr,wN ?_⟩;refine ⟨_,oM,hr,wN ?_⟩;have dv:t1=1:=by have hc:(t1:Int)=1:=hc;omega
   cases t3 with
   | nil=>exact h none (by simp only [XO,hn,hb,hk];rw [Tf sM,Tf sM])
   | cons x t3=>exact h (some (x::t3)) (by simp only [XO,hn,hb,hk];rw [Tf sM,Tj ⟨dv,sM⟩])
  exact h.elim
 exact h.elim
def ZaC:Zk:=ZaB fun rest pl p K=>match rest with
 | [.d (.str s)]=>∀b,Vi p s=b->K (.ret (.d (.bool b)))
 | _=>False
def ZqP:OKw w0 nG ZqO 82 ZaC:=by
 refine pwo Tryz.func82 fun args σ K h=>?_
 unfold ZaC ZaB at h
 split at h
 ·obtain ⟨pl,p,rfl,hp,h⟩:=h;split at h
  ·rename_i s
   refine pwv [] 5 false ?_;refine ZGp (fun v hv=>?_) (fun hv=>wN ?_)
   ·rw [ZI] at hv;obtain ⟨n,hn,rfl⟩:=TB.1 hv;(conv=>whnf);exact h true (by simp [Vi,hn])
   rw [ZI,Option.map_eq_none_iff] at hv;intro b hb
   conv=>whnf
   exact h b (by simp [Vi,hv,hb])
  exact h.elim
 exact h.elim
def VJ:Zk:=ZaB fun rest pl p K=>match rest with
 | [.d (.str s)]=>ZCr p/\∀n,Xr p s=n->K (.ret (.d (.int .i64 n)))
 | _=>False
def Zmi:Tbl:=[(83,Zf2)]
def ZqQ:OKw w0 nG Zmi 137 VJ:=by
 refine pwo Tryz.func137 fun args σ K h=>?_
 unfold VJ ZaB at h
 split at h
 ·obtain ⟨pl,p,rfl,hp,h⟩:=h;split at h
  ·rename_i s
   obtain ⟨he,h⟩:=h;obtain ⟨r,hr⟩:=Sq.1 (he s);refine pwv [(1,⟨[1],[0],fun vs σ=>∃a,vs=[.d (.str a)]/\σ=⟨Ze2 pl p,[],0⟩/\Zvz p a=some r,fun vs _=>match vs with | [.d (.str a)]=>Ux p (p.types.length+1) a | _=>0⟩)] 5 false ?_;refine ⟨⟨s,rfl,rfl,hr⟩,?_⟩
   rintro vs σ1 ⟨a,rfl,rfl,ha⟩
   conv=>whnf
   refine ⟨pl,p,rfl,hp,fun x hx=>?_⟩
   cases x with
   | none =>
    have m9:r=a:=by rw [ZtK hx] at ha;exact (Option.some.inj ha).symm
    subst m9;(conv=>whnf);refine ZGp (fun v hv=>?_) (fun hv=>wN ?_)
    ·rw [ZI] at hv;obtain ⟨n,hn,rfl⟩:=TB.1 hv;(conv=>whnf);exact h n (by simp [Xr,hr,hn])
    rw [ZI,Option.map_eq_none_iff] at hv;exact h 0 (by simp [Xr,hr,hv])
   | some c =>
   conv=>whnf
   exact ⟨⟨c,rfl,rfl,ZtJ hx ha⟩,Zmg ha hx _ (Tr _)⟩
  exact h.elim
 exact h.elim
def Zhr:Zk:=ZaB fun rest pl p K=>match rest with
 | [.d (.str a),.d (.str b)]=>∀x,WI p a b=x->K (.ret (.d (.bool x)))
 | _=>False
def ZqR:OKw w0 nG Zmi 146 Zhr:=by
 refine pwo Tryz.func146 fun args σ K h=>?_
 unfold Zhr ZaB at h
 split at h
 ·obtain ⟨pl,p,rfl,hp,h⟩:=h;split at h
  ·rename_i s b
   have aa:=hp.len.1;have hl:(p.types.map (Zs pl)).length=p.types.length:=Td ..;refine pwu [(2,⟨[1,16],[0,2,15],fun vs σ=>∃a j,vs=[.d (.str a),.d (.int .i64 j)]/\σ=⟨Ze2 pl p,[],0⟩/\(0<=j/\j<=p.types.length+1)/\Zhq p b (p.types.length+1 - j.toNat) a=WI p s b,
    fun vs _=>match vs with | [_,.d (.int _ j)]=>((p.types.length:Int)+1 - j).toNat | _=>0⟩)] 5 false ?_
   conv=>whnf
   refine Zi ?_;refine ⟨⟨s,0,rfl,rfl,⟨oM,oM⟩,rfl⟩,?_⟩
   rintro vs σ1 ⟨a,j,rfl,rfl,⟨rx,hj1⟩,ha⟩
   conv=>whnf
   refine ZGg (fun hc=>?_) (fun hc=>?_);rotate_left
   ·conv=>whnf
    rw [show p.types.length+1 - j.toNat=0 by omega] at ha;exact h false (by rw [<- ha];rfl)
   obtain ⟨q,hq⟩:∃q,p.types.length+1 - j.toNat=q+1:=⟨p.types.length - j.toNat,oM⟩
   rw [hq] at ha;simp only [Zhq] at ha;(conv=>whnf);refine ZGg (fun uz=>wN ?_) (fun uz=>wN ?_)
   ·rw [Tj uz] at ha;exact h true ha.symm
   rw [Tf uz] at ha;refine ⟨pl,p,rfl,hp,fun x hx=>?_⟩;rw [hx] at ha
   cases x with
   | none =>
    conv=>whnf
    exact h false ha.symm
   | some c =>
   conv=>whnf
   refine Zi ?_;refine ⟨⟨c,j+1,rfl,rfl,⟨oM,oM⟩,?_⟩,?_⟩
   ·rw [show p.types.length+1 - (j+1).toNat=q by omega];exact ha
   show ((p.types.length:Int)+1 - (j+1)).toNat<((p.types.length:Int)+1 - j).toNat;omega
  exact h.elim
 exact h.elim
abbrev ZqS (pl:Pl) (p:Pr):List Box:=.cells 69 [.ptr 1 0]::.cells 139 (Zi7 pl p 2)::Zi8 p
def Zn1 {α:Type} (enc:α->List D) (cond:α->Prop) (q:Pr->α->Bool):Zk:=fun args σ K=>match args,σ with
 | [.agg c,.ptr 0 0],⟨bx,[],0⟩=>∃pl p x,bx=ZqS pl p/\c=(enc x).map .d/\(BP p/\cond x)/\∀b,q p x=b->K (.ret (.d (.bool b))) ⟨bx,[],0⟩
 | _,_=>False
def Zhs {α:Type} (q:α->Bool):Nat->List α->Int
 | _,[]=>-1
 | i,x::l=>if q x=true then i else Zhs q (i+1) l
def Zd4 {α:Type} {q:α->Bool}:∀(l:List α) (i:Nat),(0<=Zhs q i l)↔l.any q=true
 | [],i=>by simp [Zhs]
 | x::l,i=>by
  simp only [Zhs,SA]
  cases hq:q x with
  | true=>simp
  | false=>simpa using Zd4 l (i+1)
def Zf3 {α:Type} (clo:FuncId) (enc:α->List D) (cond:α->Prop) (q:Pr->α->Bool):Zk:=fun args σ K=>match args,σ with
 | [.d (.sl rows),.func g [] [.ptr 0 0]],⟨bx,[],0⟩=>∃pl p l,bx=ZqS pl p/\rows=l.map enc/\(g=clo/\BP p/\l.length<=1073741824/\∀x∈l,cond x)/\∀i,Zhs (q p) 0 l=i->K (.ret (.d (.int .i64 i))) ⟨bx,[],0⟩
 | _,_=>False
def Zf4 {α:Type} (clo:FuncId) (enc:α->List D) (cond:α->Prop) (q:Pr->α->Bool):Zk:=fun args σ K=>match args,σ with
 | [.d (.sl rows),.func g [] [.ptr 0 0]],⟨bx,[],0⟩=>∃pl p,∃l:List α,bx=ZqS pl p/\rows=l.map enc/\(g=clo/\BP p/\l.length<=1073741824/\∀x∈l,cond x)/\∀b,l.any (q p)=b->K (.ret (.d (.bool b))) ⟨bx,[],0⟩
 | _,_=>False
def Vj (p:Pr) (l:List Fi):Bool:=!(l.any fun f=>!Vi p f.typ)
def Zbx:{α:Type}->α->Prop:=fun _=>True
def Zf5 (c:Ca):Prop:=c.fields.length<=1073741824
def ZtM:OKw w0 nG [(82,ZaC)] 135 (Zn1 Zn Zbx (fun p (f:Fi)=>!Vi p f.typ)):=by
 refine pwo Tryz.func135 fun args σ K h=>?_
 unfold Zn1 at h
 split at h
 ·obtain ⟨pl,p,⟨f1,f2⟩,rfl,rfl,⟨hp,ud⟩,h⟩:=h;refine pwv [] 6 false ?_;refine ⟨pl,p,rfl,hp,fun b hb=>wN ?_⟩;exact h _ (by simp only [hb])
 exact h.elim
def ZtO:OKw w0 nG [(135,Zn1 Zn Zbx (fun p (f:Fi)=>!Vi p f.typ))] 202 (Zf3 135 Zn Zbx (fun p (f:Fi)=>!Vi p f.typ)):=by
 refine pwo Tryz.func202 fun args σ K h=>?_
 unfold Zf3 at h
 split at h
 ·obtain ⟨pl,p,l,rfl,rfl,⟨rfl,hp,hlen,oz⟩,h⟩:=h;have hl:(l.map Zn).length=l.length:=Td ..;refine pwu [(2,⟨[8],[0,1,7],fun vs σ=>∃j:Nat,vs=[.d (.int .i64 j)]/\σ=⟨ZqS pl p,[],0⟩/\j<=l.length/\Zhs ((fun p (f:Fi)=>!Vi p f.typ) p) j (l.drop j)=Zhs ((fun p (f:Fi)=>!Vi p f.typ) p) 0 l,
   mu1 l.length⟩)] 6 false ?_
  conv=>whnf
  refine ⟨⟨0,rfl,rfl,oM,rfl⟩,?_⟩
  rintro vs σ1 ⟨j,rfl,rfl,hj,ha⟩
  conv=>whnf
  refine ZGg (fun hc=>?_) (fun hc=>?_);rotate_left
  ·conv=>whnf
   rw [Tp oM] at ha;exact h (-1) ha.symm
  have aa:j<l.length:=oM;rw [Tk aa] at ha;have hr:(l.map Zn)[(j:Int).toNat]?=some (Zn l[j]):=by rw [Th,Ti,Tb aa];rfl
  have ud:=oz _ (TC aa);generalize l[j]=x at ha hr ud;obtain ⟨f1,f2⟩:=x;exact mq191
 exact h.elim
def ZtQ:OKw w0 nG [(202,Zf3 135 Zn Zbx (fun p (f:Fi)=>!Vi p f.typ))] 134 (Zf4 135 Zn Zbx (fun p (f:Fi)=>!Vi p f.typ)):=by
 refine pwo Tryz.func134 fun args σ K h=>?_
 exact mq78
def Zd5:Zk:=ZaB fun rest pl p K=>match rest with
 | [.d (.sl rows)]=>∃l:List Fi,rows=l.map Zn/\l.length<=1073741824/\∀b,Vj p l=b->K (.ret (.d (.bool b)))
 | _=>False
def ZtS:OKw w0 nG [(134,Zf4 135 Zn Zbx (fun p (f:Fi)=>!Vi p f.typ))] 81 Zd5:=by
 refine pwo Tryz.func81 fun args σ K h=>?_
 unfold Zd5 ZaB at h
 split at h
 ·obtain ⟨pl,p,rfl,hp,h⟩:=h;split at h
  ·obtain ⟨l,rfl,hlen,h⟩:=h;refine pwv [] 5 false ?_;refine ⟨pl,p,l,rfl,rfl,⟨rfl,hp,hlen,fun _ _=>trivial⟩,fun b hb=>wN ?_⟩;exact h _ (by simp only [Vj,hb])
  exact h.elim
 exact h.elim
def ZtU:OKw w0 nG [(81,Zd5)] 80 (Zn1 Zy Zf5 (fun p (c:Ca)=>!Vj p c.fields)):=by
 refine pwo Tryz.func80 fun args σ K h=>?_
 unfold Zn1 at h
 split at h
 ·obtain ⟨pl,p,⟨c1,c2⟩,rfl,rfl,⟨hp,ud⟩,h⟩:=h;refine pwv [] 6 false ?_;refine ⟨pl,p,rfl,hp,c2,rfl,ud,fun b hb=>wN ?_⟩;exact h _ (by simp only [hb])
 exact h.elim
def ZtW:OKw w0 nG [(80,Zn1 Zy Zf5 (fun p (c:Ca)=>!Vj p c.fields))] 133 (Zf3 80 Zy Zf5 (fun p (c:Ca)=>!Vj p c.fields)):=by
 refine pwo Tryz.func133 fun args σ K h=>?_
 unfold Zf3 at h
 split at h
 ·obtain ⟨pl,p,l,rfl,rfl,⟨rfl,hp,hlen,oz⟩,h⟩:=h;have hl:(l.map Zy).length=l.length:=Td ..;refine pwu [(2,⟨[8],[0,1,7],fun vs σ=>∃j:Nat,vs=[.d (.int .i64 j)]/\σ=⟨ZqS pl p,[],0⟩/\j<=l.length/\Zhs ((fun p (c:Ca)=>!Vj p c.fields) p) j (l.drop j)=Zhs ((fun p (c:Ca)=>!Vj p c.fields) p) 0 l,
   mu1 l.length⟩)] 6 false ?_
  conv=>whnf
  refine ⟨⟨0,rfl,rfl,oM,rfl⟩,?_⟩
  rintro vs σ1 ⟨j,rfl,rfl,hj,ha⟩
  conv=>whnf
  refine ZGg (fun hc=>?_) (fun hc=>?_);rotate_left
  ·conv=>whnf
   rw [Tp oM] at ha;exact h (-1) ha.symm
  have aa:j<l.length:=oM;rw [Tk aa] at ha;have hr:(l.map Zy)[(j:Int).toNat]?=some (Zy l[j]):=by rw [Th,Ti,Tb aa];rfl
  have ud:=oz _ (TC aa);generalize l[j]=x at ha hr ud;obtain ⟨c1,c2⟩:=x;exact mq191
 exact h.elim
def ZtY:OKw w0 nG [(133,Zf3 80 Zy Zf5 (fun p (c:Ca)=>!Vj p c.fields))] 79 (Zf4 80 Zy Zf5 (fun p (c:Ca)=>!Vj p c.fields)):=by
 refine pwo Tryz.func79 fun args σ K h=>?_
 exact mq78
def Vk (l:List Int):List (List D):=l.map fun n=>[.int .i64 n]
def ZaD:Zk:=ZaB fun rest pl p K=>match rest with
 | [.d (.sl rows)]=>∃l:List Fi,rows=l.map Zn/\(ZCr p/\l.length<=1073741824)/\K (.ret (.d (.sl (Vk (ZY p l)))))
 | _=>False
def Zn3 (ht:TO w0 nG [(137,VJ)]):PC w0 nG 203 ZaD:=by
 refine pwt ht Tryz.func203 fun args σ K h=>?_
 unfold ZaD ZaB at h
 split at h
 ·obtain ⟨pl,p,rfl,hp,h⟩:=h;split at h
  ·obtain ⟨l,rfl,⟨he,hlen⟩,h⟩:=h;have hl:(l.map Zn).length=l.length:=Td ..;refine pwu [(3,⟨[5,10],[0,8,9],fun vs σ=>∃j:Nat,vs=[.sl 0 3 (Vk (ZY p (l.take j))),.d (.int .i64 j)]/\σ=⟨Ze2 pl p,[0],1⟩/\j<=l.length,
    mu2 l.length⟩)] 5 false ?_
   conv=>whnf
   refine ⟨⟨0,rfl,rfl,oM⟩,?_⟩
   rintro vs σ1 ⟨j,rfl,rfl,hj⟩
   conv=>whnf
   refine ZGg (fun hc=>?_) (fun hc=>?_);rotate_left
   ·conv=>whnf
    rw [List.take_of_length_le oM];exact h
   have aa:j<l.length:=oM;have ht:ZY p (l.take (j+1))=ZY p (l.take j)++[Xr p l[j].typ]:=by simp only [ZY,List.take_succ,Tb aa,Option.toList_some,TS,Tz,TJ]
   have hr:(l.map Zn)[(j:Int).toNat]?=some (Zn l[j]):=by rw [Th,Ti,Tb aa];rfl
   have hlr:(Vk (ZY p (l.take j))).length=j:=by simp [Vk,ZY];omega
   generalize l[j]=x at ht hr;obtain ⟨f1,f2⟩:=x;(conv=>whnf);refine ⟨_,oM,hr,wN ?_⟩;refine ⟨pl,p,rfl,hp,he,fun n hn=>wN ?_⟩;refine ⟨fun r hr=>by simp at hr;subst hr;rfl,?_,?_,?_⟩
   ·show ((Vk (ZY p (l.take j))).length+1) * 8<=2 ^ 47;omega
   ·show (Vk (ZY p (l.take j))).length+1<=2 ^ 47;omega
   conv=>whnf
   refine Zi ?_;refine ⟨⟨j+1,?_,rfl,oM⟩,?_⟩
   ·rw [ht,hn];simp only [Vk,TS,Tz,TJ];rfl
   show ((l.length:Int) - ((j:Int)+1)).toNat<((l.length:Int) - (j:Int)).toNat;omega
  exact h.elim
 exact h.elim
def VK {s:Bs}:∀(l:List Bs) (i:Nat) (m:List (Bs×Int)),X4 i (l++[s]) m=if (lkM s (X4 i l m)).isNone=true then Z2 s ((i:Int)+l.length) (X4 i l m) else X4 i l m
 | [],i,m=>by simp [X4]
 | x::l,i,m=>by
  simp only [T9,X4,VK l (i+1),Te];rw [show ((i+1:Nat):Int)+(l.length:Int)=(i:Int)+((l.length+1:Nat):Int) by omega]
  try rfl
def UT {α:Type} (enc:Pl->α->List D) (nm:α->Bs):Zk:=fun args σ K=>match args,σ with
 | [.agg c],⟨[],[],0⟩=>∃pl x,c=(enc pl x).map .d/\K (.ret (.d (.str (nm x)))) ⟨[],[],0⟩
 | _,_=>False
def UU {α:Type} (clo:FuncId) (enc:Pl->α->List D) (nm:α->Bs):Zk:=fun args σ K=>match args,σ with
 | [.d (.sl rows),.func g [] []],⟨[],[],0⟩=>∃pl,∃l:List α,rows=l.map (enc pl)/\(g=clo/\l.length<=1073741824)/\K (.ret (.mp 0)) ⟨[.dmap (mvM mvI (YX (l.map nm)))],[],0⟩
 | _,_=>False
def ZkL:PC w0 nG 76 (UT Zs (·.name)):=by
 refine pwe Tryz.func76 fun args σ K h=>?_
 exact mq121
def ZkN:OKw w0 nG [(76,UT Zs (·.name))] 75 (UU 76 Zs (·.name)):=by
 refine pwo Tryz.func75 fun args σ K h=>?_
 unfold UU at h
 split at h
 ·obtain ⟨pl,l,rfl,⟨rfl,hlen⟩,h⟩:=h;have hl:(l.map (Zs pl)).length=l.length:=Td ..;refine pwu [(3,⟨[13],[1,5,11,12],fun vs σ=>∃j:Nat,vs=[.d (.int .i64 j)]/\σ=⟨[.dmap (mvM mvI (YX ((l.take j).map (·.name))))],[],0⟩/\j<=l.length,
   mu1 l.length⟩)] 1 false ?_
  conv=>whnf
  refine ⟨⟨0,rfl,rfl,oM⟩,?_⟩
  rintro vs σ1 ⟨j,rfl,rfl,hj⟩
  conv=>whnf
  refine ZGg (fun hc=>?_) (fun hc=>?_);rotate_left
  ·conv=>whnf
   rw [List.take_of_length_le oM];exact h
  have aa:j<l.length:=oM;have hs:YX ((l.take (j+1)).map (·.name))=if (lkM l[j].name (YX ((l.take j).map (·.name)))).isNone=true then Z2 l[j].name (j:Int) (YX ((l.take j).map (·.name))) else YX ((l.take j).map (·.name)):=by
   exact mq117
  have hr:(l.map (Zs pl))[(j:Int).toNat]?=some (Zs pl l[j]):=by rw [Th,Ti,Tb aa];rfl
  exact mq29
 exact h.elim
def ZkO:PC w0 nG 78 (UT ZM (·.name)):=by
 refine pwe Tryz.func78 fun args σ K h=>?_
 exact mq121
def ZkQ:OKw w0 nG [(78,UT ZM (·.name))] 77 (UU 78 ZM (·.name)):=by
 refine pwo Tryz.func77 fun args σ K h=>?_
 unfold UU at h
 split at h
 ·obtain ⟨pl,l,rfl,⟨rfl,hlen⟩,h⟩:=h;have hl:(l.map (ZM pl)).length=l.length:=Td ..;refine pwu [(3,⟨[13],[1,5,11,12],fun vs σ=>∃j:Nat,vs=[.d (.int .i64 j)]/\σ=⟨[.dmap (mvM mvI (YX ((l.take j).map (·.name))))],[],0⟩/\j<=l.length,
   mu1 l.length⟩)] 1 false ?_
  conv=>whnf
  refine ⟨⟨0,rfl,rfl,oM⟩,?_⟩
  rintro vs σ1 ⟨j,rfl,rfl,hj⟩
  conv=>whnf
  refine ZGg (fun hc=>?_) (fun hc=>?_);rotate_left
  ·conv=>whnf
   rw [List.take_of_length_le oM];exact h
  have aa:j<l.length:=oM;have hs:YX ((l.take (j+1)).map (·.name))=if (lkM l[j].name (YX ((l.take j).map (·.name)))).isNone=true then Z2 l[j].name (j:Int) (YX ((l.take j).map (·.name))) else YX ((l.take j).map (·.name)):=by
   exact mq117
  have hr:(l.map (ZM pl))[(j:Int).toNat]?=some (ZM pl l[j]):=by rw [Th,Ti,Tb aa];rfl
  exact mq29
 exact h.elim
def Zb8 {i:Nat} {c:Ca}:∀(l:List Ca) (k:Nat) (m:List (Bs×(Int×Int))),Yv i k (l++[c]) m=if (lkM c.name (Yv i k l m)).isNone=true then Z2 c.name ((i:Int),((k+l.length:Nat):Int)) (Yv i k l m) else Yv i k l m
 | [],k,m=>rfl
 | x::l,k,m=>by
  simp only [T9,Yv,Zb8 l (k+1),Te];rw [show k+1+l.length=k+(l.length+1) by omega]
  try rfl
def Zb9 {t:Ty}:∀(l:List Ty) (i:Nat) (m:List (Bs×(Int×Int))),JX i (l++[t]) m=Yv (i+l.length) 0 t.cases (JX i l m)
 | [],i,m=>rfl
 | x::l,i,m=>by
  simp only [T9,JX,Zb9 l (i+1),Te];rw [show i+1+l.length=i+(l.length+1) by omega]
def ZaE {t:Ty}:∀(l:List Ty) (m:List (Bs×Int)),X5 (l++[t]) m=if t.kind≠1/\(lkM t.name (X5 l m)).isNone=true then Z2 t.name ((X5 l m).length:Int) (X5 l m) else X5 l m
 | [],m=>rfl
 | x::l,m=>by simp only [T9,X5,ZaE l];rfl
abbrev ZqT (pl:Pl) (p:Pr):List PV:=[.d (.sl (p.types.map (Zs pl))),.d (.sl (p.rels.map (ZM pl))),.d (.sl (p.rules.map (ZQ pl)))]
abbrev ZqU (pl:Pl) (p:Pr) (cs:List (Bs×(Int×Int))) (sh:List (Bs×Int)):List Box:=[.cells 38 (ZqT pl p),.dmap (mvM mvC cs),.dmap (mvM mvI sh),
 .cells 139 ([.mp 4,.mp 5,.mp 2,.mp 1]++ZqT pl p),.dmap (mvM mvI (ZtH p)),.dmap (mvM mvI (JW p))]
def ZcH:Zk:=fun args σ K=>match args,σ with
 | [.agg c],⟨[],[],0⟩=>∃pl p,c=(Zn0 pl p).map .d/\BP p/\K (.ret (.ptr 3 0)) ⟨ZqU pl p (Xc p) (JY p),[],0⟩
 | _,_=>False
def Zi9:Tbl:=[(75,UU 76 Zs (·.name)),(77,UU 78 ZM (·.name))]
abbrev ZkR (p:Pr) (j:Nat):List (Bs×(Int×Int)):=JX 0 (p.types.take j) []
abbrev Zn4 (p:Pr) (j:Nat):List (Bs×Int):=X5 (p.types.take j) [(ZAB,0),(ZDm,1)]
def ZqV (ht:TO w0 nG Zi9):PC w0 nG 46 ZcH:=by
 refine YV Zr mixed (tbl:=Zi9) ht Tryz.func46 rfl kR kR ?_;intro args σ K h
 unfold ZcH at h
 split at h
 ·obtain ⟨pl,p,rfl,hp,h⟩:=h;have hlen:=hp.len;have hl:(p.types.map (Zs pl)).length=p.types.length:=Td ..;refine ⟨Zg [(5,⟨[33],[3,31,32],fun vs σ=>∃j:Nat,vs=[.d (.int .i64 j)]/\σ=⟨ZqU pl p (ZkR p j) (Zn4 p j),[],0⟩/\j<=p.types.length,
    fun vs _=>match vs with | [.d (.int _ j)]=>((p.types.length:Int) - j).toNat | _=>0⟩),
   (8,⟨[41],[3,4,5,31,32,33,39,40],fun vs σ=>∃(j k:Nat) (t:Ty),vs=[.ptr 3 0,.d (.int .i64 j),.ptr 6 0,.d (.sl (p.types.map (Zs pl))),.d (.int .i64 (p.types.map (Zs pl)).length),.d (.int .i64 j),.d (.sl (t.cases.map Zy)),.d (.int .i64 (t.cases.map Zy).length),.d (.int .i64 k)] /\
     σ=⟨ZqU pl p (Yv j 0 (t.cases.take k) (ZkR p j)) (Zn4 p j)++[.cells 144 ((Zs pl t).map .d)],[],0⟩/\k<=t.cases.length/\p.types[j]?=some t/\t.cases.length<=1073741824,
    fun vs _=>match vs with | [_,_,_,_,_,_,_,.d (.int _ n),.d (.int _ k)]=>(n - k).toNat | _=>0⟩)],Ys [],ZC [8],6,false,sM,Tc rfl,?_⟩
  conv=>whnf
  refine ⟨pl,p.types,rfl,⟨rfl,hlen.1⟩,wN ?_⟩;refine ⟨pl,p.rels,rfl,⟨rfl,hlen.2.1⟩,wN ?_⟩;refine ⟨⟨0,rfl,rfl,oM⟩,?_⟩
  rintro vs σ1 ⟨j,rfl,rfl,hj⟩
  conv=>whnf
  refine ZGg (fun hc=>?_) (fun hc=>?_);rotate_left
  ·have e1:ZkR p j=Xc p:=by unfold ZkR;rw [List.take_of_length_le oM];rfl
   have e2:Zn4 p j=JY p:=by unfold Zn4;rw [List.take_of_length_le oM];rfl
   conv=>whnf
   rw [<- e1,<- e2] at h;exact h
  have aa:j<p.types.length:=oM;have cq:p.types.take (j+1)=p.types.take j++[p.types[j]]:=by rw [List.take_add_one,Tb aa];rfl
  have dw:ZkR p (j+1)=Yv j 0 p.types[j].cases (ZkR p j):=by unfold ZkR;rw [cq,Zb9,List.length_take,Nat.min_eq_left oM,Sk]
  have gf:Zn4 p (j+1)=if p.types[j].kind≠1/\(lkM p.types[j].name (Zn4 p j)).isNone=true then Z2 p.types[j].name ((Zn4 p j).length:Int) (Zn4 p j) else Zn4 p j:=by unfold Zn4;rw [cq,ZaE]
  have ht:p.types[j]?=some p.types[j]:=Tb aa;have nt:=(hp.ty (TC aa)).2.1;have hr:(p.types.map (Zs pl))[(j:Int).toNat]?=some (Zs pl p.types[j]):=by rw [Th,Ti,ht];rfl
  generalize p.types[j]=t at dw gf ht hr nt;obtain ⟨t1,t2,t3,t4,t5,t6⟩:=t;have iz:(t5.map Zy).length=t5.length:=Td ..;(conv=>whnf);refine ⟨_,oM,hr,wN ?_⟩;refine ⟨⟨j,0,⟨t1,t2,t3,t4,t5,t6⟩,rfl,rfl,oM,ht,nt⟩,?_⟩
  rintro vs σ2 ⟨j',k,t',bq,rfl,hk,km,-⟩
  have ej:(some (PV.d (.int .i64 (j:Int))):Option PV)=some (.d (.int .i64 (j':Int))):=congrArg (fun l:List PV=>l[5]?) bq;obtain rfl:j=j':=by have ej:=Option.some.inj ej;injection ej with ej;injection ej with _ ej;omega
  obtain rfl:(⟨t1,t2,t3,t4,t5,t6⟩:Ty)=t':=Option.some.inj (ht.symm.trans km);have bq:vs=[.d (.int .i64 k)]:=congrArg (List.drop 8) bq;subst bq;(conv=>whnf);refine ZGg (fun bj=>?_) (fun bj=>?_)
  ·have av:k<t5.length:=by have bj:(k:Int)<((t5.map Zy).length:Int):=bj;omega
   have o3:Yv j 0 (t5.take (k+1)) (ZkR p j)=if (lkM t5[k].name (Yv j 0 (t5.take k) (ZkR p j))).isNone=true then Z2 t5[k].name ((j:Int),(k:Int)) (Yv j 0 (t5.take k) (ZkR p j)) else Yv j 0 (t5.take k) (ZkR p j):=by
    rw [List.take_add_one,Tb av];show Yv j 0 (t5.take k++[t5[k]]) _=_;rw [Zb8,List.length_take,Nat.min_eq_left oM,Sk]
   have ef:(t5.map Zy)[(k:Int).toNat]?=some (Zy t5[k]):=by rw [Th,Ti,Tb av];rfl
   generalize t5[k]=c at o3 ef;obtain ⟨c1,c2⟩:=c;(conv=>whnf);refine ⟨_,oM,ef,wN ?_⟩;refine ZGp (fun v hv=>?_) (fun hv=>wN ?_)
   ·rw [ZI] at hv;obtain ⟨n,hn,rfl⟩:=TB.1 hv;rw [Tf (by rw [show lkM _ _=some n from hn];simp)] at o3;(conv=>whnf)
    (repeat (refine ⟨rfl,?_⟩;conv=>whnf))
    refine Zi ?_;exact ⟨⟨j,k+1,⟨t1,t2,t3,t4,t5,t6⟩,rfl,by simp only [o3];rfl,by simp only;omega,ht,nt⟩,by show (((t5.map Zy).length:Int) - ((k:Int)+1)).toNat<(((t5.map Zy).length:Int) - (k:Int)).toNat;omega⟩
   rw [ZI,Option.map_eq_none_iff] at hv;rw [Tj (by rw [show lkM _ _=none from hv];rfl)] at o3;have e:mvM mvC (Yv j 0 (t5.take (k+1)) (ZkR p j))=Z2 c1 (.agg [.int .i64 j,.int .i64 k]) (mvM mvC (Yv j 0 (t5.take k) (ZkR p j))):=by rw [o3,<- XN];rfl
   (repeat (refine ⟨rfl,?_⟩;conv=>whnf))
   refine Zi ?_;exact ⟨⟨j,k+1,⟨t1,t2,t3,t4,t5,t6⟩,rfl,by rw [<- e];rfl,by simp only;omega,ht,nt⟩,by show (((t5.map Zy).length:Int) - ((k:Int)+1)).toNat<(((t5.map Zy).length:Int) - (k:Int)).toNat;omega⟩
  have iu:k=t5.length:=by have bj:¬(k:Int)<((t5.map Zy).length:Int):=bj;have hk:k<=t5.length:=hk;omega
  subst iu;have e1:ZkR p (j+1)=Yv j 0 (t5.take t5.length) (ZkR p j):=by rw [dw,T7]
  conv=>whnf
  refine ZGp (fun v hv=>?_) (fun hv=>wN ?_)
  ·rw [ZI] at hv;obtain ⟨n,hn,rfl⟩:=TB.1 hv;rw [Tf (by rw [show lkM _ _=some n from hn];simp)] at gf;(conv=>whnf);refine ZGi (fun fi=>wN ?_) (fun fi=>wN ?_)
   ·exact mq70
   exact mq70
  rw [ZI,Option.map_eq_none_iff] at hv;refine ZGi (fun fi=>wN ?_) (fun fi=>wN ?_)
  ·rw [Tj ⟨fun g=>fi (by simp only [show t1=1 from g];rfl),by rw [show lkM _ _=none from hv];rfl⟩] at gf;have e2:mvM mvI (Zn4 p (j+1))=Z2 t2 (.one (.int .i64 ((mvM mvI (Zn4 p j)).length:Int))) (mvM mvI (Zn4 p j)):=by rw [gf,<- XN,ZkJ];rfl
   (repeat (refine ⟨rfl,?_⟩;conv=>whnf))
   refine Zi ?_;exact ⟨⟨j+1,rfl,by rw [e1,<- e2];rfl,oM⟩,by show ((p.types.length:Int) - ((j:Int)+1)).toNat<((p.types.length:Int) - (j:Int)).toNat;omega⟩
  rw [Tf (fun g=>g.1 (by have fi:(t1:Int)=1:=fi;show t1=1;omega))] at gf;exact mq70
 exact h.elim
abbrev BM:=List (Bs×Bool)
def has (k:Bs) (m:BM):Bool:=(lkM k m).getD false
def Zy1:List Ca->Bool->BM->Bool×BM
 | [],b,m=>(b,m)
 | c::l,b,m=>Zy1 l (b || has c.name m) (Z2 c.name true m)
def ZaF:List Ty->BM->BM->Option Nat
 | [],_,_=>none
 | t::l,n,m=>if (Zy1 t.cases (has t.name n) m).1=true then some t.at' else ZaF l (Z2 t.name true n) (Zy1 t.cases (has t.name n) m).2
def Zja (p:Pr) (t:Ty):Bool:=t.cases.any (fun c=>!Vj p c.fields) || (!Vj p t.fields || (decide (t.kind=1) && !Vi p t.base))
def Zht (p:Pr):List Ty->Option Nat
 | []=>none
 | t::l=>if Zja p t=true then some t.at' else Zht p l
def Zd6 (p:Pr) (s:Bs):Nat->Bs->Bool
 | 0,_=>false
 | n+1,a=>match XO p a with
  | none=>false
  | some c=>if c=s then true else Zd6 p s n c
def ZkS (p:Pr) (t:Ty):Bool:=Zd6 p t.name (p.types.length+1) t.name
def Zcl (p:Pr):List Ty->Option Nat
 | []=>none
 | t::l=>if ZkS p t=true then some t.at' else Zcl p l
def Zhu (p:Pr):Nat->List Re->Option (Nat×Nat)
 | _,[]=>none
 | i,d::l=>if (lkM d.name (JW p)).getD 0≠(i:Int) then some (d.at',170) else if Vj p d.fields=false then some (d.at',180) else if (d.inl && (d.inn || d.out))=true then some (d.at',185) else Zhu p (i+1) l
def Zf6:BM:=[(ZAB,true),(ZDm,true)]
def Zjb (p:Pr):Option (Nat×Nat):=match ZaF p.types Zf6 [] with
 | some a=>some (a,170)
 | none=>match Zht p p.types with
  | some a=>some (a,180)
  | none=>match Zcl p p.types with
   | some a=>some (a,172)
   | none=>Zhu p 0 p.rels
def ZDn (pl:Pl):Option (Nat×Nat)->List PV
 | none=>[.d (.int .i64 0),.d (.int .i64 0)]
 | some (a,e)=>[.d (.int .i64 (pl a)),.d (.int .i64 e)]
def ZtZ:Zk:=ZaB fun rest pl p K=>match rest with
 | []=>∀x,Zjb p=x->K (.ret (.agg (ZDn pl x)))
 | _=>False
abbrev ZDo (pl:Pl) (p:Pr) (x y:List (Bs×MV)):List Box:=Ze2 pl p++[.cells 69 [.ptr 0 0],.cells 71 [.d (.int .i64 0),.d (.int .i64 0)],.dmap x,.dmap y]
abbrev dSt (pl:Pl) (p:Pr) (n m:BM):List Box:=ZDo pl p (mvM mvB n) (mvM mvB m)
def ZvA:Tbl:=[(79,Zf4 80 Zy Zf5 (fun p (c:Ca)=>!Vj p c.fields)),(81,Zd5),(82,ZaC),(83,Zf2)]
def optK.bool {k:Bs} {m:BM} {A:MV->Prop} (h:A (mvB (has k m))):optK (lkM k (mvM mvB m)) A (A (mvB false)):=by
 rw [ZI];unfold has at h
 cases hk:lkM k m with
 | none=>rw [hk] at h;exact h
 | some b=>rw [hk] at h;exact h
def ZCs (ht:TO w0 nG ZvA):PC w0 nG 47 ZtZ:=by
 refine YV Zr mixed (tbl:=ZvA) ht Tryz.func47 rfl kR kR ?_;intro args σ K h
 unfold ZtZ ZaB at h
 split at h
 ·obtain ⟨pl,p,rfl,hp,h⟩:=h;split at h
  ·have hlen:=hp.len;have hl:(p.types.map (Zs pl)).length=p.types.length:=Td ..;have hlr:(p.rels.map (ZM pl)).length=p.rels.length:=Td ..;refine ⟨Zg [(3,⟨[30],[1,2,3,4,28,29],fun vs σ=>∃(j:Nat) (n m:BM),vs=[.d (.int .i64 j)]/\σ=⟨dSt pl p n m,[],0⟩/\j<=p.types.length/\ZaF (p.types.drop j) n m=ZaF p.types Zf6 [],
     fun vs _=>match vs with | [.d (.int _ j)]=>((p.types.length:Int) - j).toNat | _=>0⟩),
    (7,⟨[7,41],[1,2,3,4,6,28,29,30,39,40],fun vs σ=>∃(j k:Nat) (t:Ty) (n m:BM) (b:Bool),vs=[.ptr 5 0,.ptr 6 0,.mp 7,.mp 8,.ptr 9 0,.d (.sl (p.types.map (Zs pl))),.d (.int .i64 (p.types.map (Zs pl)).length),.d (.int .i64 j),.d (.sl (t.cases.map Zy)),.d (.int .i64 (t.cases.map Zy).length),.d (.bool b),.d (.int .i64 k)] /\
      σ=⟨dSt pl p n m++[.cells 144 ((Zs pl t).map .d)],[],0⟩/\k<=t.cases.length/\p.types[j]?=some t /\
      (if (Zy1 (t.cases.drop k) b m).1=true then some t.at' else ZaF (p.types.drop (j+1)) (Z2 t.name true n) (Zy1 (t.cases.drop k) b m).2)=ZaF p.types Zf6 [],
     fun vs _=>match vs with | [_,_,_,_,_,_,_,_,_,.d (.int _ n),_,.d (.int _ k)]=>(n - k).toNat | _=>0⟩),
    (17,⟨[70],[1,2,68,69],fun vs σ=>∃(j:Nat) (n m:BM),vs=[.d (.int .i64 j)]/\σ=⟨dSt pl p n m,[],0⟩/\j<=p.types.length/\Zht p (p.types.drop j)=Zht p p.types,
     fun vs _=>match vs with | [.d (.int _ j)]=>((p.types.length:Int) - j).toNat | _=>0⟩),
    (24,⟨[108],[1,2,106,107],fun vs σ=>∃(j:Nat) (n m:BM),vs=[.d (.int .i64 j)]/\σ=⟨dSt pl p n m,[],0⟩/\j<=p.types.length/\Zcl p (p.types.drop j)=Zcl p p.types,
     fun vs _=>match vs with | [.d (.int _ j)]=>((p.types.length:Int) - j).toNat | _=>0⟩),
    (27,⟨[15,16],[1,2,14,106,107,108],fun vs σ=>∃(j k:Nat) (a:Bs) (t:Ty) (n m:BM),vs=[.ptr 5 0,.ptr 6 0,.ptr 9 0,.d (.sl (p.types.map (Zs pl))),.d (.int .i64 (p.types.map (Zs pl)).length),.d (.int .i64 j),.d (.str a),.d (.int .i64 k)] /\
      σ=⟨dSt pl p n m++[.cells 144 ((Zs pl t).map .d)],[],0⟩/\k<=p.types.length+1/\p.types[j]?=some t/\Zd6 p t.name (p.types.length+1 - k) a=ZkS p t,
     fun vs _=>match vs with | [_,_,_,_,.d (.int _ n),_,_,.d (.int _ k)]=>(n+1 - k).toNat | _=>0⟩),
    (36,⟨[147],[1,2,145,146],fun vs σ=>∃(j:Nat) (n m:BM),vs=[.d (.int .i64 j)]/\σ=⟨dSt pl p n m,[],0⟩/\j<=p.rels.length/\Zhu p j (p.rels.drop j)=Zhu p 0 p.rels,
     fun vs _=>match vs with | [.d (.int _ j)]=>((p.rels.length:Int) - j).toNat | _=>0⟩)],Ys [],ZC [7,27],5,false,sM,Tc rfl,?_⟩
   conv=>whnf
   refine ⟨⟨0,Zf6,[],rfl,rfl,oM,rfl⟩,?_⟩
   rintro vs σ1 ⟨j,n,m,rfl,rfl,hj,ha⟩
   conv=>whnf
   refine ZGg (fun hc=>?_) (fun hc=>?_)
   ·have aa:j<p.types.length:=by omega
    rw [Tk aa] at ha;simp only [ZaF] at ha;have ht:p.types[j]?=some p.types[j]:=Tb aa;have nt:=(hp.ty (TC aa)).2.1;have hr:(p.types.map (Zs pl))[(j:Int).toNat]?=some (Zs pl p.types[j]):=by rw [Th,Ti,ht];rfl
    generalize p.types[j]=t at ha ht hr nt;obtain ⟨t1,t2,t3,t4,t5,t6⟩:=t;have iz:(t5.map Zy).length=t5.length:=Td ..;(conv=>whnf);refine ⟨_,oM,hr,wN ?_⟩;refine optK.bool (wN ?_);refine ⟨⟨j,0,⟨t1,t2,t3,t4,t5,t6⟩,n,m,has t2 n,rfl,rfl,oM,ht,ha⟩,?_⟩
    clear ha
    rintro vs σ2 ⟨j',k,t',n,m,b,bq,rfl,hk,km,ha⟩
    have ej:(some (PV.d (.int .i64 (j:Int))):Option PV)=some (.d (.int .i64 (j':Int))):=congrArg (fun l:List PV=>l[7]?) bq;obtain rfl:j=j':=by have ej:=Option.some.inj ej;injection ej with ej;injection ej with _ ej;omega
    obtain rfl:(⟨t1,t2,t3,t4,t5,t6⟩:Ty)=t':=Option.some.inj (ht.symm.trans km);have bq:vs=[.d (.bool b),.d (.int .i64 k)]:=congrArg (List.drop 10) bq;subst bq;(conv=>whnf);refine ZGg (fun bj=>?_) (fun bj=>?_)
    ·have av:k<t5.length:=by have bj:(k:Int)<((t5.map Zy).length:Int):=bj;omega
     have hd:t5.drop k=t5[k]::t5.drop (k+1):=Tk av;have ef:(t5.map Zy)[(k:Int).toNat]?=some (Zy t5[k]):=by rw [Th,Ti,Tb av];rfl
     simp only at ha;rw [hd] at ha
     clear hd
     generalize t5[k]=c at ha ef;obtain ⟨c1,c2⟩:=c;simp only [Zy1] at ha;(conv=>whnf);refine ⟨_,oM,ef,?_⟩;have hμ:((((t5.map Zy).length:Int) - ((k:Int)+1)).toNat<(((t5.map Zy).length:Int) - (k:Int)).toNat):=oM
     cases b with
     | true =>
      conv=>whnf
      refine Zi ?_;exact ⟨⟨j,k+1,⟨t1,t2,t3,t4,t5,t6⟩,n,Z2 c1 true m,true,rfl,congrArg (fun x=>(⟨ZDo pl p (mvM mvB n) x++[.cells 144 ((Zs pl ⟨t1,t2,t3,t4,t5,t6⟩).map .d)],[],0⟩:St)) (XN (f:=mvB) (k:=c1) (v:=true) m),by simp only;omega,ht,ha⟩,hμ⟩
     | false =>
     conv=>whnf
     refine optK.bool (wN ?_);refine Zi ?_;exact ⟨⟨j,k+1,⟨t1,t2,t3,t4,t5,t6⟩,n,Z2 c1 true m,has c1 m,rfl,congrArg (fun x=>(⟨ZDo pl p (mvM mvB n) x++[.cells 144 ((Zs pl ⟨t1,t2,t3,t4,t5,t6⟩).map .d)],[],0⟩:St)) (XN (f:=mvB) (k:=c1) (v:=true) m),by simp only;omega,ht,ha⟩,hμ⟩
    have iu:k=t5.length:=by have bj:¬(k:Int)<((t5.map Zy).length:Int):=bj;have hk:k<=t5.length:=hk;omega
    subst iu;simp only [Sw,Zy1] at ha
    cases b with
    | true =>
     rw [Tj rfl] at ha;(conv=>whnf);exact h (some (t6,170)) (by simp only [Zjb,<- ha])
    | false =>
    rw [Tf sM] at ha;(conv=>whnf);refine Zi ?_;exact ⟨⟨j+1,Z2 t2 true n,m,rfl,congrArg (fun x=>(⟨ZDo pl p x (mvM mvB m),[],0⟩:St)) (XN (f:=mvB) (k:=t2) (v:=true) n),oM,ha⟩,by show ((p.types.length:Int) - ((j:Int)+1)).toNat<((p.types.length:Int) - (j:Int)).toNat;omega⟩
   have rx:j=p.types.length:=oM;subst rx;rw [Sw] at ha;have fh:ZaF p.types Zf6 []=none:=ha.symm
   clear ha
   conv=>whnf
   refine ⟨⟨0,n,m,rfl,rfl,oM,rfl⟩,?_⟩
   clear n m
   rintro vs σ1 ⟨j,n,m,rfl,rfl,hj,ha⟩
   conv=>whnf
   refine ZGg (fun hc=>?_) (fun hc=>?_)
   ·have aa:j<p.types.length:=by omega
    rw [Tk aa] at ha;simp only [Zht] at ha;have za:=hp.ty (TC aa);have hr:(p.types.map (Zs pl))[(j:Int).toNat]?=some (Zs pl p.types[j]):=by rw [Th,Ti,Tb aa];rfl
    generalize p.types[j]=t at ha hr za;obtain ⟨t1,t2,t3,t4,t5,t6⟩:=t;simp only at za;have yes:Zja p ⟨t1,t2,t3,t4,t5,t6⟩=true->K (.ret (.agg (ZDn pl (some (t6,180))))) ⟨Ze2 pl p,[],0⟩:=fun g=>by
     rw [Tj g] at ha;exact h (some (t6,180)) (by simp only [Zjb,fh,<- ha])
    have no:Zja p ⟨t1,t2,t3,t4,t5,t6⟩=false->Zht p (p.types.drop (j+1))=Zht p p.types:=fun g=>by
     rw [Tf (by rw [g];simp)] at ha;exact ha
    have hμ:((p.types.length:Int) - ((j:Int)+1)).toNat<((p.types.length:Int) - (j:Int)).toNat:=oM
    clear ha h
    conv=>whnf
    refine ⟨_,oM,hr,wN ?_⟩;refine ⟨pl,p,t5,rfl,rfl,⟨rfl,hp,za.2.1,za.2.2⟩,fun b hb=>?_⟩
    cases b with
    | true =>
     conv=>whnf
     exact yes (by simp only [Zja];rw [hb];rfl)
    | false =>
    conv=>whnf
    refine ⟨pl,p,rfl,hp,t4,rfl,za.1,fun b dq=>?_⟩
    cases b with
    | false =>
     conv=>whnf
     exact yes (by simp only [Zja];rw [hb,dq];rfl)
    | true =>
    conv=>whnf
    refine ZGg (fun fi=>wN ?_) (fun fi=>wN ?_)
    ·have fi:t1=1:=by have fi:(t1:Int)=1:=fi;omega
     refine ⟨pl,p,rfl,hp,fun b ge=>?_⟩
     cases b with
     | false =>
      conv=>whnf
      exact yes (by simp only [Zja];rw [hb,dq,ge,fi];rfl)
     | true =>
     conv=>whnf
     refine Zi ?_;exact ⟨⟨j+1,n,m,rfl,rfl,oM,no (by simp only [Zja];rw [hb,dq,ge,fi];rfl)⟩,hμ⟩
    have fi:¬t1=1:=fun g=>fi (by simp only [g];rfl)
    refine Zi ?_;exact ⟨⟨j+1,n,m,rfl,rfl,oM,no (by simp only [Zja];rw [hb,dq,decide_eq_false fi];rfl)⟩,hμ⟩
   have rx:j=p.types.length:=oM;subst rx;rw [Sw] at ha;have cg:Zht p p.types=none:=ha.symm
   clear ha
   conv=>whnf
   refine ⟨⟨0,n,m,rfl,rfl,oM,rfl⟩,?_⟩
   clear n m
   rintro vs σ1 ⟨j,n,m,rfl,rfl,hj,ha⟩
   conv=>whnf
   refine ZGg (fun hc=>?_) (fun hc=>?_)
   ·have aa:j<p.types.length:=by omega
    rw [Tk aa] at ha;simp only [Zcl] at ha;have ht:p.types[j]?=some p.types[j]:=Tb aa;have hr:(p.types.map (Zs pl))[(j:Int).toNat]?=some (Zs pl p.types[j]):=by rw [Th,Ti,ht];rfl
    generalize p.types[j]=t at ha ht hr;obtain ⟨t1,t2,t3,t4,t5,t6⟩:=t;have yes:ZkS p ⟨t1,t2,t3,t4,t5,t6⟩=true->K (.ret (.agg (ZDn pl (some (t6,172))))) ⟨Ze2 pl p,[],0⟩:=fun g=>by
     rw [Tj g] at ha;exact h (some (t6,172)) (by simp only [Zjb,fh,cg,<- ha])
    have no:ZkS p ⟨t1,t2,t3,t4,t5,t6⟩=false->Zcl p (p.types.drop (j+1))=Zcl p p.types:=fun g=>by
     rw [Tf (by rw [g];simp)] at ha;exact ha
    have hμ:((p.types.length:Int) - ((j:Int)+1)).toNat<((p.types.length:Int) - (j:Int)).toNat:=oM
    clear ha h
    conv=>whnf
    refine ⟨_,oM,hr,wN ?_⟩;refine ⟨⟨j,0,t2,⟨t1,t2,t3,t4,t5,t6⟩,n,m,rfl,rfl,oM,ht,rfl⟩,?_⟩
    rintro vs σ2 ⟨j',k,a,t',n,m,bq,rfl,hk,km,ha⟩
    have ej:(some (PV.d (.int .i64 (j:Int))):Option PV)=some (.d (.int .i64 (j':Int))):=congrArg (fun l:List PV=>l[5]?) bq;obtain rfl:j=j':=by have ej:=Option.some.inj ej;injection ej with ej;injection ej with _ ej;omega
    obtain rfl:(⟨t1,t2,t3,t4,t5,t6⟩:Ty)=t':=Option.some.inj (ht.symm.trans km);have bq:vs=[.d (.str a),.d (.int .i64 k)]:=congrArg (List.drop 6) bq;subst bq;simp only at ha;(conv=>whnf);refine ZGg (fun bj=>?_) (fun bj=>?_);rotate_left
    ·rw [show p.types.length+1 - k=0 by omega] at ha;(conv=>whnf);refine Zi ?_;exact ⟨⟨j+1,n,m,rfl,rfl,oM,no ha.symm⟩,hμ⟩
    obtain ⟨q,hq⟩:∃q,p.types.length+1 - k=q+1:=⟨p.types.length - k,oM⟩
    rw [hq] at ha;simp only [Zd6] at ha;(conv=>whnf);refine ⟨pl,p,rfl,hp,fun x hx=>?_⟩;rw [hx] at ha
    cases x with
    | none =>
     conv=>whnf
     refine Zi ?_;exact ⟨⟨j+1,n,m,rfl,rfl,oM,no ha.symm⟩,hμ⟩
    | some c =>
    simp only at ha;(conv=>whnf);refine ZGg (fun dw=>wN ?_) (fun dw=>wN ?_)
    ·rw [Tj (show c=t2 from dw)] at ha;exact yes ha.symm
    rw [Tf (show ¬c=t2 from dw)] at ha;refine Zi ?_;exact ⟨⟨j,k+1,c,⟨t1,t2,t3,t4,t5,t6⟩,n,m,rfl,rfl,oM,ht,by rw [show p.types.length+1 - (k+1)=q by omega];exact ha⟩,by show (((p.types.map (Zs pl)).length:Int)+1 - ((k:Int)+1)).toNat<(((p.types.map (Zs pl)).length:Int)+1 - (k:Int)).toNat;omega⟩
   have rx:j=p.types.length:=oM;subst rx;rw [Sw] at ha;have nz:Zcl p p.types=none:=ha.symm
   clear ha
   have hdF:Zjb p=Zhu p 0 p.rels:=by simp only [Zjb,fh,cg,nz]
   conv=>whnf
   refine ⟨⟨0,n,m,rfl,rfl,oM,rfl⟩,?_⟩
   clear n m
   rintro vs σ1 ⟨j,n,m,rfl,rfl,hj,ha⟩
   conv=>whnf
   refine ZGg (fun hc=>?_) (fun hc=>?_)
   ·have aa:j<p.rels.length:=by omega
    rw [Tk aa] at ha;simp only [Zhu] at ha;have jq:=hp.re (TC aa);have hr:(p.rels.map (ZM pl))[(j:Int).toNat]?=some (ZM pl p.rels[j]):=by rw [Th,Ti,Tb aa];rfl
    generalize p.rels[j]=d at ha hr jq;obtain ⟨d1,d2,d3,d4,d5,d6⟩:=d;simp only at jq ha;have yes:∀e,Zhu p 0 p.rels=some (d6,e)->K (.ret (.agg (ZDn pl (some (d6,e))))) ⟨Ze2 pl p,[],0⟩:=fun e g=>h _ (by rw [hdF,g])
    have hμ:((p.rels.length:Int) - ((j:Int)+1)).toNat<((p.rels.length:Int) - (j:Int)).toNat:=oM
    clear h
    have zb:∀A:MV->Prop,A (mvI ((lkM d1 (JW p)).getD 0))->optK (lkM d1 (mvM mvI (JW p))) A (A (mvI 0)):=fun A g=>by
     rw [ZI]
     cases hk:lkM d1 (JW p) with
     | none=>rw [hk] at g;exact g
     | some b=>rw [hk] at g;exact g
    conv=>whnf
    refine ⟨_,oM,hr,wN ?_⟩;refine zb _ (wN ?_);refine ZGi (fun h1=>wN ?_) (fun h1=>wN ?_)
    ·rw [Tj h1] at ha;exact yes 170 ha.symm
    rw [Tf (fun g=>g h1)] at ha;refine ⟨pl,p,rfl,hp,d2,rfl,jq,fun b hb=>?_⟩
    cases b with
    | false =>
     rw [Tj hb] at ha;(conv=>whnf);exact yes 180 ha.symm
    | true =>
    rw [Tf (by rw [hb];simp)] at ha;(conv=>whnf)
    cases d5 with
    | false =>
     rw [Tf sM] at ha;(conv=>whnf);refine Zi ?_;exact ⟨⟨j+1,n,m,rfl,rfl,oM,ha⟩,hμ⟩
    | true =>
    cases d3 with
    | true =>
     rw [Tj sM] at ha;(conv=>whnf);exact yes 185 ha.symm
    | false =>
    cases d4 with
    | true =>
     rw [Tj sM] at ha;(conv=>whnf);exact yes 185 ha.symm
    | false =>
    rw [Tf sM] at ha;(conv=>whnf);refine Zi ?_;exact ⟨⟨j+1,n,m,rfl,rfl,oM,ha⟩,hμ⟩
   have rx:j=p.rels.length:=oM;subst rx;rw [Sw] at ha;(conv=>whnf);exact h none (by rw [hdF,<- ha];rfl)
  exact h.elim
 exact h.elim
def prU (p:Pr):Un:=.mk p.types p.rels p.rules [] [] []
abbrev ZCt (pl:Pl) (p:Pr) (b:Nat):List Box:=[.cells 38 (ZqT pl p),.dmap (mvM mvC (Xc p)),.dmap (mvM mvI (JY p)),
 .cells 139 ([.mp (b+4),.mp (b+5),.mp (b+2),.mp (b+1)]++ZqT pl p),.dmap (mvM mvI (ZtH p)),.dmap (mvM mvI (JW p))]
abbrev ZEq (pl:Pl) (p:Pr):List Box:=.cells 38 (ZqT pl p)::.cells 71 [.d (.int .i64 0),.d (.int .i64 0)]::ZCt pl p 2
def Zmj {p:Pr} {a e:Nat}:∀(l:List Re) (i:Nat),Zhu p i l=some (a,e)->e≠0
 | [],_,h=>by cases h
 | d::l,i,h=>by
  simp only [Zhu] at h;split at h
  ·cases h;decide
  split at h
  ·cases h;decide
  split at h
  ·cases h;decide
  exact Zmj l _ h
def Zy2 {p:Pr} {a e:Nat} (h:Zjb p=some (a,e)):e≠0:=by
 unfold Zjb at h
 split at h
 ·cases h;decide
 split at h
 ·cases h;decide
 split at h
 ·cases h;decide
 exact Zmj _ _ h
abbrev Vs:=List (Bs×Int)
abbrev VS:=Vs×Bool
def Zhv (p:Pr) (n:Int):Option Ty:=p.types.find? fun t=>decide (t.kind=2) && (decide (0<=n) && decide ((lkM t.name (JY p)).getD 0=n))
def Zjc (p:Pr) (s:Bs):Option (Ty×Ca):=match lkM s (Xc p) with
 | none=>none
 | some (i,k)=>match p.types[i.toNat]? with
  | none=>none
  | some t=>match t.cases[k.toNat]? with
   | none=>none
   | some c=>some (t,c)
def ZN (p:Pr) (op:Nat) (text:Bs) (Zcn:Nat) (n:Int):List Int :=
 if op=7 then (match Zjc p text with | some tc=>ZY p tc.2.fields | none=>[])
 else if op=6 then (match Zhv p n with | some t=>ZY p t.fields | none=>[])
 else if op=20 then [1,1] else if op=21\/op=23\/op=25 then [1] else if op=22 then [1,0,0] else List.replicate Zcn 0
def Ze3 (p:Pr) (vs:Vs) (op:Nat) (text:Bs):Int :=
 if op=1 then (lkM text vs).getD (-1)
 else if op=7 then (match Zjc p text with | some tc=>Xr p tc.1.name | none=>-1)
 else if op=6\/op=5\/op=2 then -1 else if op=4\/op=20\/op=22\/op=24 then 1 else 0
def Zt0 (t:Bs) (n:Int) (s:VS):VS :=
 if (lkM t s.1).isNone=true\/((lkM t s.1).getD 0=-1/\n≠-1) then (Z2 t n s.1,s.2 || decide (n≠-1)) else s
mutual
def gvE (p:Pr):Ex->Int->VS->VS
 | .mk op text _ args _,n,s=>if op=1 then Zt0 text n s
  else gvEs p args (if (ZN p op text args.length n).length=args.length then ZN p op text args.length n else List.replicate args.length (-1)) s
def gvEs (p:Pr):List Ex->List Int->VS->VS
 | e::es,n::ns,s=>gvEs p es ns (gvE p e n s)
 | _,_,s=>s
end
def Y8 (p:Pr) (name:Bs) (Zcn:Nat):List Int:=match lkM name (JW p) with
 | none=>List.replicate Zcn (-1)
 | some i=>match p.rels[i.toNat]? with
  | none=>List.replicate Zcn (-1)
  | some d=>if d.fields.length=Zcn then ZY p d.fields else List.replicate Zcn (-1)
def ZAC (p:Pr) (vs:Vs):Ex->Int
 | .mk op text _ _ _=>Ze3 p vs op text
def Jp (p:Pr) (vs:Vs):List Ex->Int
 | a::b::_=>if ZAC p vs a≠-1 then ZAC p vs a else ZAC p vs b
 | _=>-1
mutual
def gvL (p:Pr):Li->VS->VS
 | .mk op rel args body _,s=>if op<=2 then gvEs p args (Y8 p rel args.length) s
  else if op<=8 then gvEs p args [Jp p s.1 args,Jp p s.1 args] s
  else gvLs p body (gvEs p args (List.replicate args.length 0) s)
def gvLs (p:Pr):List Li->VS->VS
 | [],s=>s
 | x::l,s=>gvLs p l (gvL p x s)
end
def Uy (p:Pr) (r:Ru) (v:Vs):VS:=gvLs p r.body (gvEs p r.args (Y8 p r.head r.args.length) (v,false))
def WT (p:Pr) (r:Ru):Nat->Vs->Option Vs
 | 0,_=>none
 | n+1,v=>if (Uy p r v).2=true then WT p r n (Uy p r v).1 else some (Uy p r v).1
abbrev Flt:=Option (Nat×Nat)
mutual
def rtE (p:Pr) (vs:Vs):Ex->Int->Flt
 | .mk op text _ args a,n =>
  if op=7/\(lkM text (Xc p)).isNone=true then some (a,184)
  else if (Ze3 p vs op text≠-1/\n≠-1/\Ze3 p vs op text≠n)\/((op=6\/op=5)/\(Zhv p n).isNone=true)\/(op=1/\Ze3 p vs op text=-1) then some (a,183)
  else if (ZN p op text args.length n).length≠args.length then some (a,182)
  else ZaW p vs args (ZN p op text args.length n)
def ZaW (p:Pr) (vs:Vs):List Ex->List Int->Flt
 | e::es,n::ns=>match rtE p vs e n with
  | some f=>some f
  | none=>ZaW p vs es ns
 | _,_=>none
end
def Zt1 (p:Pr) (vs:Vs) (name:Bs) (args:List Ex) (a:Nat) (head:Bool):Flt:=match lkM name (JW p) with
 | none=>some (a,181)
 | some i=>match p.rels[i.toNat]? with
  | none=>none
  | some d=>if (head && d.inn)=true then some (a,185) else if d.fields.length≠args.length then some (a,182) else ZaW p vs args (Y8 p name args.length)
mutual
def rtL (p:Pr) (vs:Vs):Li->Flt
 | .mk op rel args body a=>if op<=2 then Zt1 p vs rel args a false
  else if op<=8 then (match ZaW p vs args [Jp p vs args,Jp p vs args] with
   | some f=>some f
   | none=>if 5<=op/\Jp p vs args≠0/\Jp p vs args≠1 then some (a,183) else none)
  else match ZaW p vs args (List.replicate args.length 0) with
   | some f=>some f
   | none=>Zh0 p vs body
def Zh0 (p:Pr) (vs:Vs):List Li->Flt
 | []=>none
 | x::l=>match rtL p vs x with
  | some f=>some f
  | none=>Zh0 p vs l
end
def YB (p:Pr) (op:Nat) (text:Bs) (kind:Bs):List Fi :=
 if op=7 then (match Zjc p text with | some tc=>tc.2.fields | none=>[])
 else if op=6 then (match Zhv p (Xr p kind) with | some t=>t.fields | none=>[]) else []
mutual
def wiE (p:Pr):Ex->Bs->List (Ex×Bs)
 | .mk op text n args a,kind=>(.mk op text n args a,kind)::ZaX p args (YB p op text kind)
def ZaX (p:Pr):List Ex->List Fi->List (Ex×Bs)
 | e::es,f::fs=>wiE p e f.typ++ZaX p es fs
 | _,_=>[]
end
def Zn5 (p:Pr) (name:Bs):List Fi:=match lkM name (JW p) with
 | none=>(match p.rels[0]? with | some d=>d.fields | none=>[])
 | some i=>match p.rels[i.toNat]? with | some d=>d.fields | none=>[]
def VV (p:Pr):Li->List (Ex×Bs)
 | .mk op rel args _ _=>if op=1 then ZaX p args (Zn5 p rel) else []
def Zjd (p:Pr) (l:List Li):List (Bs×Bs):=(l.flatMap (VV p)).filterMap fun x=>match x with
 | (.mk op text _ _ _,k)=>if op=1 then some (text,k) else none
def V3 (p:Pr) (kn:List (Bs×Bs)):List (Ex×Bs)->Flt
 | []=>none
 | (.mk op text _ _ a,k)::l =>
  if (XO p k).isSome=true/\(8<=op\/(op=1/\(kn.any fun y=>decide (y.1=text) && WI p y.2 k)=false)) then some (a,183) else V3 p kn l
def Zmk (p:Pr) (r:Ru):Flt:=V3 p (Zjd p r.body) (ZaX p r.args (Zn5 p r.head))
def Zje (p:Pr) (r:Ru) (vs:Vs):Flt:=if 64<vs.length then some (r.at',3) else match Zt1 p vs r.head r.args r.at' true with
 | some f=>some f
 | none=>match Zh0 p vs r.body with
  | some f=>some f
  | none=>Zmk p r
mutual
def nvE:Ex->List Bs
 | .mk op text _ args _=>if op=1 then [text] else Zhw args
def Zhw:List Ex->List Bs
 | []=>[]
 | e::l=>nvE e++Zhw l
end
mutual
def nvL:Li->List Bs
 | .mk _ _ args body _=>Zhw args++Vl body
def Vl:List Li->List Bs
 | []=>[]
 | x::l=>nvL x++Vl l
end
def nvR (r:Ru):List Bs:=Zhw r.args++Vl r.body
def Zcm (p:Pr) (r:Ru):Vs:=(WT p r ((nvR r).length+1) []).getD []
def Jq (p:Pr):List Ru->Flt
 | []=>none
 | r::l=>match Zje p r (Zcm p r) with
  | some f=>some f
  | none=>Jq p l
def Zy3 (pl:Pl) (p:Pr):Int×Int:=if (Zi5 (prU p)).2≠0 then (0,(Zi5 (prU p)).2) else match Zjb p with
 | some (a,e)=>(pl a,e)
 | none=>match Jq p p.rules with
  | some (a,e)=>(pl a,e)
  | none=>(0,0)
abbrev ZFf (pl:Pl) (r:Ru) (more:Bool):List PV:=[.ptr 1 0,.d (.str r.head),.d (.sl (Ze pl r.args)),.d (.sl (ZL pl r.body)),.d (.int .i64 (pl r.at')),.mp 2,.d (.bool more)]
abbrev Zby (pl:Pl) (p:Pr) (r:Ru) (vs:Vs) (more:Bool):List Box:=.cells 160 (ZFf pl r more)::.cells 139 (Zi7 pl p 3)::.dmap (mvM mvI vs)::Zi8 p
structure OKP (p:Pr):Prop where
 bp:BP p
 ends:ZCr p
def ZaY (body:List PV->Pl->Pr->Ru->Vs->Bool->(PEnd->Vs->Bool->Prop)->Prop):Zk:=fun args σ K=>match args,σ with
 | .ptr 0 0::rest,⟨bx,[],0⟩=>∃pl p r vs more,bx=Zby pl p r vs more/\OKP p/\body rest pl p r vs more fun pe vs' more'=>K pe ⟨Zby pl p r vs' more',[],0⟩
 | _,_=>False
def Zd7 {body:List PV->Pl->Pr->Ru->Vs->Bool->(PEnd->Vs->Bool->Prop)->Prop} (hb:∀rest pl p r vs more (K K':PEnd->Vs->Bool->Prop),(∀pe v m,K pe v m->K' pe v m)->body rest pl p r vs more K->body rest pl p r vs more K'):Zx (ZaY body):=fun args σ K K' hK h=>by
 unfold ZaY at h |-
 split at h
 ·obtain ⟨pl,p,r,vs,more,h1,h2,h3⟩:=h;exact ⟨pl,p,r,vs,more,h1,h2,hb _ _ _ _ _ _ _ _ (fun pe v m hk=>hK _ _ hk) h3⟩
 exact h.elim
def Zf7 {s:Bs} {i:Nat} {v:Int×Int}:∀(l:List Ca) (k:Nat) (m:List (Bs×(Int×Int))),lkM s (Yv i k l m)=some v->lkM s m=some v\/∃(j:Nat) (c:Ca),v=((i:Int),((k+j:Nat):Int))/\l[j]?=some c/\c.name=s
 | [],k,m,h=>.inl h
 | c::l,k,m,h=>by
  rcases Zf7 l (k+1) _ h with h | ⟨j,c',h1,h2,h3⟩
  ·split at h
   ·rw [JV] at h;split at h
    ·rename_i e;cases h;exact .inr ⟨0,c,sM,rfl,e.symm⟩
    exact .inl h
   exact .inl h
  exact .inr ⟨j+1,c',by rw [h1];congr 2;omega,by simpa using h2,h3⟩
def Zf8 {s:Bs} {v:Int×Int}:∀(l:List Ty) (i:Nat) (m:List (Bs×(Int×Int))),lkM s (JX i l m)=some v->lkM s m=some v\/∃(j k:Nat) (t:Ty) (c:Ca),v=(((i+j:Nat):Int),(k:Int))/\l[j]?=some t/\t.cases[k]?=some c/\c.name=s
 | [],i,m,h=>.inl h
 | t::l,i,m,h=>by
  rcases Zf8 l (i+1) _ h with h | ⟨j,k,t',c,h1,h2,h3,h4⟩
  ·rcases Zf7 _ _ _ h with h | ⟨j,c,h1,h2,h3⟩
   ·exact .inl h
   exact .inr ⟨0,j,t,c,by rw [h1];simp,rfl,h2,h3⟩
  exact .inr ⟨j+1,k,t',c,by rw [h1];congr 2;omega,by simpa using h2,h3,h4⟩
def Zd8 {p:Pr} {s:Bs} {v:Int×Int} (h:lkM s (Xc p)=some v):∃(j k:Nat) (t:Ty) (c:Ca),v=((j:Int),(k:Int))/\p.types[j]?=some t/\t.cases[k]?=some c/\Zjc p s=some (t,c):=by
 rcases Zf8 _ _ _ h with h | ⟨j,k,t,c,h1,h2,h3,h4⟩
 ·cases h
 rw [Sk] at h1;refine ⟨j,k,t,c,h1,h2,h3,?_⟩;subst h1;simp only [Zjc,h,Th,h2,h3]
def Zf9 {p:Pr} {s:Bs} (h:lkM s (Xc p)=none):Zjc p s=none:=by simp only [Zjc,h]
def ZqW:Zk:=ZaY fun rest pl p r vs more K=>match rest with
 | [.agg c]=>∃e,c=(ZF pl e).map .d/\∀n,ZAC p vs e=n->K (.ret (.d (.int .i64 n))) vs more
 | _=>False
def ZCv:OKw w0 nG [(137,VJ)] 205 ZqW:=by
 refine pwo Tryz.func205 fun args σ K h=>?_
 unfold ZqW ZaY at h
 split at h
 ·obtain ⟨pl,p,r,vs,more,rfl,hp,h⟩:=h;split at h
  ·obtain ⟨⟨op,text,num,eargs,ea⟩,rfl,h⟩:=h;simp only [ZAC] at h;refine pwv [] 7 false ?_;refine ZGg (fun h1=>?_) (fun h1=>wN ?_)
   ·have h1:op=1:=by have h1:(op:Int)=1:=h1;omega
    subst h1;(conv=>whnf);refine ZGp (fun v hv=>?_) (fun hv=>wN ?_)
    ·rw [ZI] at hv;obtain ⟨n,hn,rfl⟩:=TB.1 hv;(conv=>whnf);exact h n (by simp [Ze3,hn])
    rw [ZI,Option.map_eq_none_iff] at hv;exact h (-1) (by simp [Ze3,hv])
   have h1:¬op=1:=fun g=>h1 (by simp only [g];rfl)
   refine ZGg (fun h7=>?_) (fun h7=>?_)
   ·have h7:op=7:=by have h7:(op:Int)=7:=h7;omega
    subst h7;(conv=>whnf);refine ZGp (fun v hv=>?_) (fun hv=>wN ?_)
    ·rw [ZI] at hv;obtain ⟨n,hn,rfl⟩:=TB.1 hv;obtain ⟨j,k,t,c,rfl,h2,h3,h4⟩:=Zd8 hn;have hr:(p.types.map (Zs pl))[(j:Int).toNat]?=some (Zs pl t):=by rw [Th,Ti,h2];rfl
     obtain ⟨t1,t2,t3,t4,t5,t6⟩:=t;(conv=>whnf)
     (repeat (refine ⟨rfl,?_⟩;conv=>whnf))
     refine ⟨dM,dM,wN ?_⟩;refine ⟨_,oM,hr,wN ?_⟩;refine ⟨pl,p,rfl,hp.bp,hp.ends,fun n hn=>wN ?_⟩
     (repeat (refine ⟨rfl,?_⟩;conv=>whnf))
     exact h n (by simp only [Ze3];rw [Tf dM,Tj trivial,h4];exact hn)
    rw [ZI,Option.map_eq_none_iff] at hv
    (repeat (refine ⟨rfl,?_⟩;conv=>whnf))
    exact h (-1) (by simp [Ze3,Zf9 hv])
   have h7:¬op=7:=fun g=>h7 (by simp only [g];rfl)
   repeat' ((conv=>whnf);refine ZGg (fun hc=>?_) (fun hc=>?_))
   all_goals (conv=>whnf)
   all_goals first
    | (exfalso;omega)
    | (refine h _ ?_
       unfold Ze3
       rw [Tf h1,Tf h7]
       first
        | rw [Tj oM]
        | rw [Tf oM,Tj oM]
        | rw [Tf oM,Tf oM])
  exact h.elim
 exact h.elim
def optK.int {k:Bs} {m:List (Bs×Int)} {A:MV->Prop} (h:A (mvI ((lkM k m).getD 0))):optK (lkM k (mvM mvI m)) A (A (mvI 0)):=by
 rw [ZI]
 cases hk:lkM k m with
 | none=>rw [hk] at h;exact h
 | some b=>rw [hk] at h;exact h
abbrev zTy:List PV:=[.d (.int .u8 0),.d (.str []),.d (.str []),.d (.sl []),.d (.sl []),.d (.int .i64 0)]
def Zjf (p:Pr) (n:Int) (t:Ty):Bool:=decide (t.kind=2) && (decide (0<=n) && decide ((lkM t.name (JY p)).getD 0=n))
def ZkT:Zk:=ZaY fun rest pl p r vs more K=>match rest with
 | [.d (.int .i64 n)]=>(∀t,Zhv p n=some t->K (.ret (.tuple [.agg ((Zs pl t).map .d),.d (.bool true)])) vs more)/\(Zhv p n=none->K (.ret (.tuple [.agg zTy,.d (.bool false)])) vs more)
 | _=>False
def ZCw:PC w0 nG 204 ZkT:=by
 refine pwe Tryz.func204 fun args σ K h=>?_
 unfold ZkT ZaY at h
 split at h
 ·obtain ⟨pl,p,r,vs,more,rfl,hp,h⟩:=h;split at h
  ·rename_i n
   obtain ⟨hs,hn⟩:=h;have hlen:=hp.bp.len;have hl:(p.types.map (Zs pl)).length=p.types.length:=Td ..;refine pwu [(2,⟨[17],[0,1,4,15,16],fun w σ=>∃j:Nat,w=[.d (.int .i64 j)]/\σ=⟨Zby pl p r vs more++[.cells 144 [.d (.int .u8 0),.d (.str []),.d (.str []),.sl 0 192 [],.sl 1 151 [],.d (.int .i64 0)]],[1,0],2⟩/\j<=p.types.length/\(p.types.drop j).find? (Zjf p n)=Zhv p n,
    fun w _=>match w with | [.d (.int _ j)]=>((p.types.length:Int) - j).toNat | _=>0⟩)] 7 false ?_
   conv=>whnf
   refine ⟨⟨0,rfl,rfl,oM,rfl⟩,?_⟩
   rintro w σ1 ⟨j,rfl,rfl,hj,ha⟩
   conv=>whnf
   refine ZGg (fun hc=>?_) (fun hc=>?_);rotate_left
   ·conv=>whnf
    rw [Tp oM] at ha;exact hn ha.symm
   have aa:j<p.types.length:=oM;rw [Tk aa,List.find?_cons] at ha;have hr:(p.types.map (Zs pl))[(j:Int).toNat]?=some (Zs pl p.types[j]):=by rw [Th,Ti,Tb aa];rfl
   generalize p.types[j]=t at ha hr;obtain ⟨t1,t2,t3,t4,t5,t6⟩:=t;have hμ:((p.types.length:Int) - ((j:Int)+1)).toNat<((p.types.length:Int) - (j:Int)).toNat:=oM;have yes:Zjf p n ⟨t1,t2,t3,t4,t5,t6⟩=true->K (.ret (.tuple [.agg ((Zs pl ⟨t1,t2,t3,t4,t5,t6⟩).map .d),.d (.bool true)])) ⟨Zby pl p r vs more,[],0⟩:=fun g=>by
    rw [g] at ha;exact hs _ ha.symm
   have no:Zjf p n ⟨t1,t2,t3,t4,t5,t6⟩=false->(p.types.drop (j+1)).find? (Zjf p n)=Zhv p n:=fun g=>by rw [g] at ha;exact ha
   clear ha hs hn
   conv=>whnf
   refine ⟨_,oM,hr,wN ?_⟩;refine ZGg (fun hk=>?_) (fun hk=>?_);rotate_left
   ·have hk:¬t1=2:=fun g=>hk (by simp only [g];rfl)
    conv=>whnf
    refine Zi ?_;exact ⟨⟨j+1,rfl,rfl,oM,no (by unfold Zjf;rw [decide_eq_false hk];rfl)⟩,hμ⟩
   have hk:t1=2:=by have hk:(t1:Int)=2:=hk;omega
   conv=>whnf
   refine ZGg (fun h0=>?_) (fun h0=>?_);rotate_left
   ·conv=>whnf
    refine Zi ?_;exact ⟨⟨j+1,rfl,rfl,oM,no (by unfold Zjf;rw [decide_eq_false h0,TP,Bool.and_false])⟩,hμ⟩
   conv=>whnf
   refine optK.int (wN ?_);refine ZGg (fun he=>wN ?_) (fun he=>wN ?_)
   ·exact yes (by unfold Zjf;rw [TX hk,TX h0,TX he];rfl)
   refine Zi ?_;exact ⟨⟨j+1,rfl,rfl,oM,no (by unfold Zjf;rw [decide_eq_false he,Bool.and_false,Bool.and_false])⟩,hμ⟩
  exact h.elim
 exact h.elim
def Zml (p:Pr) (n:Int):Ex->List Int
 | .mk op text _ args _=>ZN p op text args.length n
def Zcn:Ex->Nat
 | .mk _ _ _ args _=>args.length
def Zd9:Zk:=ZaY fun rest pl p r vs more K=>match rest with
 | [.agg c,.d (.int .i64 n)]=>∃e,c=(ZF pl e).map .d/\Zcn e<=2097152/\∀l b,Zml p n e=l->decide (l.length=Zcn e)=b->K (.ret (.tuple [.d (.sl (Vk l)),.d (.bool b)])) vs more
 | _=>False
def ZqX (l:List Int):(Vk l).length=l.length:=Td ..
def Zt3 (ht:TO w0 nG [(203,ZaD),(204,ZkT)]):PC w0 nG 138 Zd9:=by
 refine pwt ht Tryz.func138 fun args σ K h=>?_
 unfold Zd9 ZaY at h
 split at h
 ·obtain ⟨pl,p,r,vs,more,rfl,hp,h⟩:=h;split at h
  ·rename_i n
   obtain ⟨⟨op,text,num,eargs,ea⟩,rfl,ol,h⟩:=h;simp only [Zml,Zcn] at h ol;have am:(Ze pl eargs).length=eargs.length:=by rw [Zc,Td]
   have fin:∀l:List Int,ZN p op text eargs.length n=l->K (.ret (.tuple [.d (.sl (Vk l)),.d (.bool (decide (((Vk l).length:Int)=((Ze pl eargs).length:Int))))])) ⟨Zby pl p r vs more,[],0⟩:=fun l hl =>
    h l _ hl (by rw [ZqX,am];exact decide_eq_decide.2 oM)
   clear h
   refine pwv [] 7 false ?_;refine ZGg (fun h7=>?_) (fun h7=>wN ?_)
   ·have h7:op=7:=by have h7:(op:Int)=7:=h7;omega
    subst h7;(conv=>whnf);refine ZGp (fun v hv=>?_) (fun hv=>wN ?_)
    ·rw [ZI] at hv;obtain ⟨m,hn,rfl⟩:=TB.1 hv;obtain ⟨j,k,t,c,rfl,h2,h3,h4⟩:=Zd8 hn;have nt:=(hp.bp.ty (T1 h2)).2.2 c (T1 h3);have hr:(p.types.map (Zs pl))[(j:Int).toNat]?=some (Zs pl t):=by rw [Th,Ti,h2];rfl
     have ef:(t.cases.map Zy)[(k:Int).toNat]?=some (Zy c):=by rw [Th,Ti,h3];rfl
     obtain ⟨t1,t2,t3,t4,t5,t6⟩:=t;obtain ⟨c1,c2⟩:=c;(conv=>whnf)
     (repeat (refine ⟨rfl,?_⟩;conv=>whnf))
     refine ⟨dM,dM,wN ?_⟩;refine ⟨_,oM,hr,wN ?_⟩;refine ⟨dM,dM,wN ?_⟩;refine ⟨_,oM,ef,wN ?_⟩;refine ⟨pl,p,rfl,hp.bp,c2,rfl,⟨hp.ends,nt⟩,wN ?_⟩
     (repeat (refine ⟨rfl,?_⟩;conv=>whnf))
     exact fin _ (by simp [ZN,h4])
    rw [ZI,Option.map_eq_none_iff] at hv
    (repeat (refine ⟨rfl,?_⟩;conv=>whnf))
    exact fin [] (by simp [ZN,Zf9 hv])
   have h7:¬op=7:=fun g=>h7 (by simp only [g];rfl)
   refine ZGg (fun h6=>?_) (fun h6=>wN ?_)
   ·have h6:op=6:=by have h6:(op:Int)=6:=h6;omega
    subst h6;(conv=>whnf);refine ⟨pl,p,r,vs,more,rfl,hp,fun t ht=>wN ?_,fun ht=>wN ?_⟩
    ·obtain ⟨t1,t2,t3,t4,t5,t6⟩:=t;have eu:=(hp.bp.ty (List.mem_of_find?_eq_some ht)).1;refine ⟨pl,p,rfl,hp.bp,t4,rfl,⟨hp.ends,eu⟩,wN ?_⟩
     (repeat (refine ⟨rfl,?_⟩;conv=>whnf))
     exact fin _ (by simp [ZN,ht])
    exact fin [] (by simp [ZN,ht])
   have h6:¬op=6:=fun g=>h6 (by simp only [g];rfl)
   refine ZGg (fun hc=>?_) (fun hc=>?_)
   ·have hc:op=20:=by have hc:(op:Int)=20:=hc;omega
    subst hc;(conv=>whnf);exact fin [1,1] (by simp [ZN])
   have ue:¬op=20:=fun g=>hc (by simp only [g];rfl)
   repeat' ((conv=>whnf);refine ZGg (fun hc=>?_) (fun hc=>?_))
   all_goals (conv=>whnf)
   all_goals try (exfalso;omega)
   all_goals try
    first
    | (refine fin [1] ?_;unfold ZN;rw [Tf h7,Tf h6,Tf ue,Tj oM];done)
    | (refine fin [1,0,0] ?_;unfold ZN;rw [Tf h7,Tf h6,Tf ue,Tf oM,Tj oM];done)
   all_goals
    refine ⟨rfl,dM,by show (Ze pl eargs).length * 1<=_;omega,by show (Ze pl eargs).length * 8<=_;omega,wN ?_⟩;rw [show List.replicate (Ze pl eargs).length [D.int .i64 0]=Vk (List.replicate eargs.length 0) by rw [Vk,List.map_replicate,am]];exact fin _ (by unfold ZN;rw [Tf h7,Tf h6,Tf ue,Tf oM,Tf oM])
  exact h.elim
 exact h.elim
end Go.PM.Lex
end
