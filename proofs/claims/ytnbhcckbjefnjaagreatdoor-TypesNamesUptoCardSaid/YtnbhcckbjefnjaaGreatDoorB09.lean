/- A part of the proof: plain logic, contracts and laws over the given program. -/
import Derived.Lib.LaidTab
import Derived.Test.YtnbhcckbjefnjaaGreatDoorB08
set_option linter.unusedVariables false
set_option linter.unusedSimpArgs false
set_option linter.all false
set_option maxRecDepth 100000
set_option maxHeartbeats 16000000
noncomputable section
section
namespace Go.PM.Lex
open Go.Proofs
variable {w0:World} {nG:Nat}
def ZsB (x:Li):Bool:=YE x && Zi0 x
def Zxp {op:Nat} {rel:Bs} {args:List Ex} {body:List Li} {a:Nat} (h:ZsB (.mk op rel args body a)=true):YU op rel args.length body.length=true/\(∀x∈args,ZjY x=true)/\∀x∈body,ZsB x=true:=by
 simp only [ZsB,Tm] at h;obtain ⟨h1,h2⟩:=h;obtain ⟨m1,m2,m3⟩:=Zxn h1;obtain ⟨r1,r2⟩:=ZpW h2;exact ⟨m1,fun x hx=>by rw [ZjY,m2 x hx,r1 x hx];rfl,fun x hx=>by rw [ZsB,m3 x hx,r2 x hx];rfl⟩
def ZAd (n:Nat):Zp:=ZiZ (.tuple []) fun rest txt=>∃pl x,rest=[YC Y5 pl x]/\(ZsB x=true/\wL x<=n/\n<=1073741824)/\txt=liT x
def Zng (n:Nat):Zp:=fun args σ K=>match args,σ with
 | [.ptr 0 0,.d (.sl r),.d (.str bt),.func g [.ptr 0 0] []],⟨[.cells t [p,.sl 0 e rows]],[0],1⟩=>∃l pl xs,rows=Zh l/\r=xs.map (Y5 pl)/\(p=.ptr 0 0/\t=104/\e=5/\g=149)/\(xs.all ZsB=true/\szS wL xs<=n/\n<=1073741824)/\l.length+(Zf bt (xs.map liT)).length<70368744177664 /\
   K (.ret (.tuple [])) ⟨[.cells t [.ptr 0 0,.sl 0 e (Zh (l++Zf bt (xs.map liT)))]],[0],1⟩
 | _,_=>False
def ZAf {n:Nat}:OKw w0 nG [(143,ZgK),(149,ZAd n)] 148 (Zng n):=by
 refine pwo Tryz.func148 fun args σ K h=>?_
 unfold Zng at h
 split at h
 ·rename_i r bt g t p e rows
  obtain ⟨l,pl,xs,rfl,rfl,⟨rfl,rfl,rfl,rfl⟩,⟨bv,hz,hn⟩,aa,h⟩:=h;have du:(xs.map (Y5 pl)).length=xs.length:=Td ..;have hsz:=Zn wL xs;refine pwv [(1,⟨[12],[0,1,2,3,10,11],fun vs σ=>∃i:Nat,vs=[.d (.int .i64 i)]/\σ=⟨[.cells 104 [.ptr 0 0,.sl 0 5 (Zh (l++Zf bt ((xs.take i).map liT)))]],[0],1⟩/\i<=xs.length,mu1 xs.length⟩)] 1 true ?_;refine ⟨⟨0,rfl,(by simp only [Sk,TM,Zf,T1];rfl),oM⟩,?_⟩;intro vs σ hI
  obtain ⟨i,rfl,rfl,hi⟩:=hI;(conv=>whnf);refine ZEH (fun ac=>wN ?_) (fun ac=>?_)
  ·have ac:i<xs.length:=lzI du ac;have hg:=Zr wL xs i ac;have ig:ZsB xs[i]=true:=Tq.1 bv _ (TE ac);have cn:=VR bt liT ac;have ak:=Zat bt liT xs (i+1);obtain ⟨eA,hA⟩:∃x,xs[i]=x:=⟨_,rfl⟩
   obtain ⟨a1,a2,a3,a4,a5⟩:=eA;rw [hA] at hg ig cn;have bi:(xs.map (Y5 pl))[((i:Nat):Int).toNat]?=some (Y5 pl (.mk a1 a2 a3 a4 a5)):=by simp [ac,hA]
   refine ⟨_,oM,bi,wN ?_⟩;refine ZEH (fun h0=>wN ?_) (fun h0=>?_)
   ·have h0:0<i:=by omega
    rw [Tf oM] at cn;rw [cn] at ak;simp only [Ta] at ak;refine wk _ bt ⟨rfl,rfl⟩ (wN ?_);refine wk _ (liT (.mk a1 a2 a3 a4 a5)) ⟨pl,(.mk a1 a2 a3 a4 a5),rfl,⟨ig,oM,oM⟩,rfl⟩ (wN ?_);exact mq70
   obtain rfl:i=0:=by omega
   rw [Tj rfl] at cn;rw [cn] at ak;(conv=>whnf);refine ⟨l++Zf bt ((xs.take 0).map liT),liT (.mk a1 a2 a3 a4 a5),rfl,⟨.inr rfl,rfl,rfl⟩,⟨pl,(.mk a1 a2 a3 a4 a5),rfl,⟨ig,oM,oM⟩,rfl⟩,by simp only [Sk,TM,Zf,Ta,Tg];omega,wN ?_⟩;exact mq66
  exact mq174
 exact h.elim
def ZAg (n:Nat):Tbl:=[(77,Zev),(147,ZsA n),(204,Zsz n),(148,spB Zng n)]
def ZAh {n:Nat} (ht:TO w0 nG (ZAg n)):PC w0 nG 149 (ZAd n):=by
 refine Wu ZI mixed (tbl:=ZAg n) ht Tryz.func149 rfl kR kR ?_;intro args σ K h
 unfold ZAd ZiZ at h
 split at h
 ·rename_i rest t p e rows
  obtain ⟨l,txt,rfl,⟨hp,rfl,rfl⟩,⟨pl,⟨op,rel,xs,body,at'⟩,rfl,⟨bv,hz,hn⟩,rfl⟩,aa,h⟩:=h;obtain ⟨m1,m2,m3⟩:=Zxp bv;have dx:szS wE xs+szS wL body+rel.length+1<=n:=by rw [wL,X0] at hz;omega
  refine ⟨Zo [],Xn [(13,2)],Yd [],1,true,sM,Tc rfl,?_⟩;have uk:((op=1\/op=2)/\Xj rel=true/\body.length=0)\/(3<=op/\op<=8/\rel=[]/\xs.length=2/\body.length=0)\/(op=9/\rel=[]/\xs.length=1/\0<body.length)\/(9<op/\op<=12/\rel=[]/\xs.length=2/\0<body.length):=Zxo m1;rcases uk with ⟨gt,hnm,hb⟩ | ⟨c1,c2,rfl,ca,hb⟩ | ⟨rfl,rfl,dm,hb⟩ | ⟨c1,c2,rfl,ca,hb⟩
  ·rcases gt with rfl | rfl
   ·rcases hp with rfl | rfl
    all_goals
     have hx:liT (.mk 1 rel xs body at')=rel++argT [40] [41] xs:=by rw [liT];rfl
     rw [hx] at h aa
     (try simp only [Ta,Te,Tg] at aa)
     conv=>whnf
     refine wk _ rel ⟨[rel],rfl,sM,sM,sM⟩ ?_;(conv=>whnf);refine wk _ (argT [40] [41] xs) ⟨[40],[41],pl,xs,rfl,⟨Tq.2 m2,oM,oM⟩,rfl⟩ ?_;rw [show l++(rel++argT [40] [41] xs)=l++rel++argT [40] [41] xs by simp only [To]] at h;(conv=>whnf);exact h
   rcases hp with rfl | rfl
   all_goals
    have hx:liT (.mk 2 rel xs body at')=[33]++(rel++argT [40] [41] xs):=by rw [liT];rfl
    rw [hx] at h aa
    (try simp only [Ta,Te,Tg] at aa)
    conv=>whnf
    refine wk _ [33] ⟨[[33]],rfl,sM,sM,sM⟩ ?_;(conv=>whnf);refine wk _ rel ⟨[rel],rfl,sM,sM,sM⟩ ?_;(conv=>whnf);refine wk _ (argT [40] [41] xs) ⟨[40],[41],pl,xs,rfl,⟨Tq.2 m2,oM,oM⟩,rfl⟩ ?_;rw [show l++([33]++(rel++argT [40] [41] xs))=l++[33]++rel++argT [40] [41] xs by simp only [To]] at h;(conv=>whnf);exact h
  ·obtain ⟨x0,x1,rfl⟩:=Zua ca;simp only [szS] at dx;have g0:=m2 x0 sM;have g1:=m2 x1 sM;have z0:wE x0<=n:=oM;have z1:wE x1<=n:=oM;obtain ⟨o0,t0,n0,y0,q0⟩:=x0;obtain ⟨o1,t1,n1,y1,q1⟩:=x1;obtain rfl | rfl | rfl | rfl | rfl | rfl:op=3\/op=4\/op=5\/op=6\/op=7\/op=8:=oM
   ·rcases hp with rfl | rfl
    all_goals
     have hx:liT (.mk 3 [] [(.mk o0 t0 n0 y0 q0),(.mk o1 t1 n1 y1 q1)] body at')=exW 0 (.mk o0 t0 n0 y0 q0)++([32,61,32]++exW 0 (.mk o1 t1 n1 y1 q1)):=by rw [liT,Vp,Vp];rfl
     rw [hx] at h aa
     (try simp only [Ta,Te,Tg] at aa)
     conv=>whnf
     refine ⟨_,dM,rfl,wN ?_⟩;refine wk _ (exW 0 (.mk o0 t0 n0 y0 q0)) ⟨pl,(.mk o0 t0 n0 y0 q0),0,rfl,⟨g0,oM,oM,oM,oM⟩,rfl⟩ ?_;(conv=>whnf);refine Or.inl ⟨InR.u8 dM dM,wN ?_⟩;refine ⟨dM,dM,wN ?_⟩;refine wk _ [32,61,32] ⟨[[32,61,32]],rfl,sM,sM,sM⟩ ?_;(conv=>whnf);refine ⟨_,dM,rfl,wN ?_⟩;refine wk _ (exW 0 (.mk o1 t1 n1 y1 q1)) ⟨pl,(.mk o1 t1 n1 y1 q1),0,rfl,⟨g1,oM,oM,oM,oM⟩,rfl⟩ ?_;rw [show l++(exW 0 (.mk o0 t0 n0 y0 q0)++([32,61,32]++exW 0 (.mk o1 t1 n1 y1 q1)))=l++exW 0 (.mk o0 t0 n0 y0 q0)++[32,61,32]++exW 0 (.mk o1 t1 n1 y1 q1) by simp only [To]] at h;(conv=>whnf);exact h
   ·rcases hp with rfl | rfl
    all_goals
     have hx:liT (.mk 4 [] [(.mk o0 t0 n0 y0 q0),(.mk o1 t1 n1 y1 q1)] body at')=exW 0 (.mk o0 t0 n0 y0 q0)++([32,33,61,32]++exW 0 (.mk o1 t1 n1 y1 q1)):=by rw [liT,Vp,Vp];rfl
     rw [hx] at h aa
     (try simp only [Ta,Te,Tg] at aa)
     conv=>whnf
     refine ⟨_,dM,rfl,wN ?_⟩;refine wk _ (exW 0 (.mk o0 t0 n0 y0 q0)) ⟨pl,(.mk o0 t0 n0 y0 q0),0,rfl,⟨g0,oM,oM,oM,oM⟩,rfl⟩ ?_;(conv=>whnf);refine Or.inl ⟨InR.u8 dM dM,wN ?_⟩;refine ⟨dM,dM,wN ?_⟩;refine wk _ [32,33,61,32] ⟨[[32,33,61,32]],rfl,sM,sM,sM⟩ ?_;(conv=>whnf);refine ⟨_,dM,rfl,wN ?_⟩;refine wk _ (exW 0 (.mk o1 t1 n1 y1 q1)) ⟨pl,(.mk o1 t1 n1 y1 q1),0,rfl,⟨g1,oM,oM,oM,oM⟩,rfl⟩ ?_;rw [show l++(exW 0 (.mk o0 t0 n0 y0 q0)++([32,33,61,32]++exW 0 (.mk o1 t1 n1 y1 q1)))=l++exW 0 (.mk o0 t0 n0 y0 q0)++[32,33,61,32]++exW 0 (.mk o1 t1 n1 y1 q1) by simp only [To]] at h;(conv=>whnf);exact h
   ·rcases hp with rfl | rfl
    all_goals
     have hx:liT (.mk 5 [] [(.mk o0 t0 n0 y0 q0),(.mk o1 t1 n1 y1 q1)] body at')=exW 0 (.mk o0 t0 n0 y0 q0)++([32,60,32]++exW 0 (.mk o1 t1 n1 y1 q1)):=by rw [liT,Vp,Vp];rfl
     rw [hx] at h aa
     (try simp only [Ta,Te,Tg] at aa)
     conv=>whnf
     refine ⟨_,dM,rfl,wN ?_⟩;refine wk _ (exW 0 (.mk o0 t0 n0 y0 q0)) ⟨pl,(.mk o0 t0 n0 y0 q0),0,rfl,⟨g0,oM,oM,oM,oM⟩,rfl⟩ ?_;(conv=>whnf);refine Or.inl ⟨InR.u8 dM dM,wN ?_⟩;refine ⟨dM,dM,wN ?_⟩;refine wk _ [32,60,32] ⟨[[32,60,32]],rfl,sM,sM,sM⟩ ?_;(conv=>whnf);refine ⟨_,dM,rfl,wN ?_⟩;refine wk _ (exW 0 (.mk o1 t1 n1 y1 q1)) ⟨pl,(.mk o1 t1 n1 y1 q1),0,rfl,⟨g1,oM,oM,oM,oM⟩,rfl⟩ ?_;rw [show l++(exW 0 (.mk o0 t0 n0 y0 q0)++([32,60,32]++exW 0 (.mk o1 t1 n1 y1 q1)))=l++exW 0 (.mk o0 t0 n0 y0 q0)++[32,60,32]++exW 0 (.mk o1 t1 n1 y1 q1) by simp only [To]] at h;(conv=>whnf);exact h
   ·rcases hp with rfl | rfl
    all_goals
     have hx:liT (.mk 6 [] [(.mk o0 t0 n0 y0 q0),(.mk o1 t1 n1 y1 q1)] body at')=exW 0 (.mk o0 t0 n0 y0 q0)++([32,60,61,32]++exW 0 (.mk o1 t1 n1 y1 q1)):=by rw [liT,Vp,Vp];rfl
     rw [hx] at h aa
     (try simp only [Ta,Te,Tg] at aa)
     conv=>whnf
     refine ⟨_,dM,rfl,wN ?_⟩;refine wk _ (exW 0 (.mk o0 t0 n0 y0 q0)) ⟨pl,(.mk o0 t0 n0 y0 q0),0,rfl,⟨g0,oM,oM,oM,oM⟩,rfl⟩ ?_;(conv=>whnf);refine Or.inl ⟨InR.u8 dM dM,wN ?_⟩;refine ⟨dM,dM,wN ?_⟩;refine wk _ [32,60,61,32] ⟨[[32,60,61,32]],rfl,sM,sM,sM⟩ ?_;(conv=>whnf);refine ⟨_,dM,rfl,wN ?_⟩;refine wk _ (exW 0 (.mk o1 t1 n1 y1 q1)) ⟨pl,(.mk o1 t1 n1 y1 q1),0,rfl,⟨g1,oM,oM,oM,oM⟩,rfl⟩ ?_;rw [show l++(exW 0 (.mk o0 t0 n0 y0 q0)++([32,60,61,32]++exW 0 (.mk o1 t1 n1 y1 q1)))=l++exW 0 (.mk o0 t0 n0 y0 q0)++[32,60,61,32]++exW 0 (.mk o1 t1 n1 y1 q1) by simp only [To]] at h;(conv=>whnf);exact h
   ·rcases hp with rfl | rfl
    all_goals
     have hx:liT (.mk 7 [] [(.mk o0 t0 n0 y0 q0),(.mk o1 t1 n1 y1 q1)] body at')=exW 0 (.mk o0 t0 n0 y0 q0)++([32,62,32]++exW 0 (.mk o1 t1 n1 y1 q1)):=by rw [liT,Vp,Vp];rfl
     rw [hx] at h aa
     (try simp only [Ta,Te,Tg] at aa)
     conv=>whnf
     refine ⟨_,dM,rfl,wN ?_⟩;refine wk _ (exW 0 (.mk o0 t0 n0 y0 q0)) ⟨pl,(.mk o0 t0 n0 y0 q0),0,rfl,⟨g0,oM,oM,oM,oM⟩,rfl⟩ ?_;(conv=>whnf);refine Or.inl ⟨InR.u8 dM dM,wN ?_⟩;refine ⟨dM,dM,wN ?_⟩;refine wk _ [32,62,32] ⟨[[32,62,32]],rfl,sM,sM,sM⟩ ?_;(conv=>whnf);refine ⟨_,dM,rfl,wN ?_⟩;refine wk _ (exW 0 (.mk o1 t1 n1 y1 q1)) ⟨pl,(.mk o1 t1 n1 y1 q1),0,rfl,⟨g1,oM,oM,oM,oM⟩,rfl⟩ ?_;rw [show l++(exW 0 (.mk o0 t0 n0 y0 q0)++([32,62,32]++exW 0 (.mk o1 t1 n1 y1 q1)))=l++exW 0 (.mk o0 t0 n0 y0 q0)++[32,62,32]++exW 0 (.mk o1 t1 n1 y1 q1) by simp only [To]] at h;(conv=>whnf);exact h
   rcases hp with rfl | rfl
   all_goals
    have hx:liT (.mk 8 [] [(.mk o0 t0 n0 y0 q0),(.mk o1 t1 n1 y1 q1)] body at')=exW 0 (.mk o0 t0 n0 y0 q0)++([32,62,61,32]++exW 0 (.mk o1 t1 n1 y1 q1)):=by rw [liT,Vp,Vp];rfl
    rw [hx] at h aa
    (try simp only [Ta,Te,Tg] at aa)
    conv=>whnf
    refine ⟨_,dM,rfl,wN ?_⟩;refine wk _ (exW 0 (.mk o0 t0 n0 y0 q0)) ⟨pl,(.mk o0 t0 n0 y0 q0),0,rfl,⟨g0,oM,oM,oM,oM⟩,rfl⟩ ?_;(conv=>whnf);refine Or.inl ⟨InR.u8 dM dM,wN ?_⟩;refine ⟨dM,dM,wN ?_⟩;refine wk _ [32,62,61,32] ⟨[[32,62,61,32]],rfl,sM,sM,sM⟩ ?_;(conv=>whnf);refine ⟨_,dM,rfl,wN ?_⟩;refine wk _ (exW 0 (.mk o1 t1 n1 y1 q1)) ⟨pl,(.mk o1 t1 n1 y1 q1),0,rfl,⟨g1,oM,oM,oM,oM⟩,rfl⟩ ?_;rw [show l++(exW 0 (.mk o0 t0 n0 y0 q0)++([32,62,61,32]++exW 0 (.mk o1 t1 n1 y1 q1)))=l++exW 0 (.mk o0 t0 n0 y0 q0)++[32,62,61,32]++exW 0 (.mk o1 t1 n1 y1 q1) by simp only [To]] at h;(conv=>whnf);exact h
  ·obtain ⟨x0,rfl⟩:=ZAb dm;simp only [szS] at dx;have g0:=m2 x0 sM;have z0:wE x0<=n:=oM;obtain ⟨o0,t0,n0,y0,q0⟩:=x0;rcases hp with rfl | rfl
   all_goals
    have hx:liT (.mk 9 [] [(.mk o0 t0 n0 y0 q0)] body at')=exW 0 (.mk o0 t0 n0 y0 q0)++(([32,61,32]++[99,111,117,110,116])++([32,58,32,123,32]++(Zf cmm (body.map liT)++([32,125])))):=by rw [liT,ZdE,Vp];simp [Zlt,Zsn,ZjU]
    rw [hx] at h aa
    (try simp only [Ta,Te,Tg] at aa)
    conv=>whnf
    refine ⟨_,dM,rfl,wN ?_⟩;refine wk _ (exW 0 (.mk o0 t0 n0 y0 q0)) ⟨pl,(.mk o0 t0 n0 y0 q0),0,rfl,⟨g0,oM,oM,oM,oM⟩,rfl⟩ ?_;(conv=>whnf);refine Or.inl ⟨InR.u8 dM dM,wN ?_⟩;refine ⟨dM,dM,wN ?_⟩;refine wk _ ([32,61,32]++[99,111,117,110,116]) ⟨[[32,61,32],[99,111,117,110,116]],rfl,sM,sM,sM⟩ ?_;(conv=>whnf);refine ⟨fun r hr=>?_,dM,by rw [Zb];simp,wN ?_⟩
    ·rw [Zb] at hr;simp only [Tx,TM,Tt,List.not_mem_nil,or_false] at hr;rcases hr with rfl;rfl
    refine wk _ [32,58,32,123,32] ⟨[[32,58,32,123,32]],rfl,sM,sM,sM⟩ ?_;(conv=>whnf);refine ⟨oM,l++exW 0 (.mk o0 t0 n0 y0 q0)++([32,61,32]++[99,111,117,110,116])++[32,58,32,123,32],pl,body,rfl,Zl pl body,⟨rfl,rfl,rfl,rfl⟩,⟨Tq.2 m3,oM,oM⟩,(by (try simp only [Ta,Te,Tg]);show _+(Zf cmm (body.map liT)).length<_;omega),?_⟩;(conv=>whnf);refine wk (l++exW 0 (.mk o0 t0 n0 y0 q0)++([32,61,32]++[99,111,117,110,116])++[32,58,32,123,32]++Zf cmm (body.map liT)) [32,125] ⟨[[32,125]],rfl,sM,sM,sM⟩ ?_;rw [show l++(exW 0 (.mk o0 t0 n0 y0 q0)++(([32,61,32]++[99,111,117,110,116])++([32,58,32,123,32]++(Zf cmm (body.map liT)++([32,125])))))=l++exW 0 (.mk o0 t0 n0 y0 q0)++([32,61,32]++[99,111,117,110,116])++[32,58,32,123,32]++Zf cmm (body.map liT)++[32,125] by simp only [To]] at h;(conv=>whnf);exact h
  obtain ⟨x0,x1,rfl⟩:=Zua ca;simp only [szS] at dx;have g0:=m2 x0 sM;have g1:=m2 x1 sM;have z0:wE x0<=n:=oM;have z1:wE x1<=n:=oM;obtain ⟨o0,t0,n0,y0,q0⟩:=x0;obtain ⟨o1,t1,n1,y1,q1⟩:=x1;obtain rfl | rfl | rfl:op=10\/op=11\/op=12:=oM
  ·rcases hp with rfl | rfl
   all_goals
    have hx:liT (.mk 10 [] [(.mk o0 t0 n0 y0 q0),(.mk o1 t1 n1 y1 q1)] body at')=exW 0 (.mk o0 t0 n0 y0 q0)++(([32,61,32]++[115,117,109])++([32]++(exW 0 (.mk o1 t1 n1 y1 q1)++([32,58,32,123,32]++(Zf cmm (body.map liT)++([32,125])))))):=by rw [liT,ZdE,Vp,Vp];simp [Zlt,Zsn,ZjU]
    rw [hx] at h aa
    (try simp only [Ta,Te,Tg] at aa)
    conv=>whnf
    refine ⟨_,dM,rfl,wN ?_⟩;refine wk _ (exW 0 (.mk o0 t0 n0 y0 q0)) ⟨pl,(.mk o0 t0 n0 y0 q0),0,rfl,⟨g0,oM,oM,oM,oM⟩,rfl⟩ ?_;(conv=>whnf);refine Or.inl ⟨InR.u8 dM dM,wN ?_⟩;refine ⟨dM,dM,wN ?_⟩;refine wk _ ([32,61,32]++[115,117,109]) ⟨[[32,61,32],[115,117,109]],rfl,sM,sM,sM⟩ ?_;(conv=>whnf);refine ⟨fun r hr=>?_,dM,by rw [Zb];simp,wN ?_⟩
    ·exact mq94
    refine ⟨_,dM,rfl,wN ?_⟩;refine wk _ [32] ⟨[[32]],rfl,sM,sM,sM⟩ ?_;(conv=>whnf);refine wk _ (exW 0 (.mk o1 t1 n1 y1 q1)) ⟨pl,(.mk o1 t1 n1 y1 q1),0,rfl,⟨g1,oM,oM,oM,oM⟩,rfl⟩ ?_;(conv=>whnf);refine Vh ?_;refine wk _ [32,58,32,123,32] ⟨[[32,58,32,123,32]],rfl,sM,sM,sM⟩ ?_;(conv=>whnf);refine ⟨oM,l++exW 0 (.mk o0 t0 n0 y0 q0)++([32,61,32]++[115,117,109])++[32]++exW 0 (.mk o1 t1 n1 y1 q1)++[32,58,32,123,32],pl,body,rfl,Zl pl body,⟨rfl,rfl,rfl,rfl⟩,⟨Tq.2 m3,oM,oM⟩,(by (try simp only [Ta,Te,Tg]);show _+(Zf cmm (body.map liT)).length<_;omega),?_⟩;(conv=>whnf);refine wk (l++exW 0 (.mk o0 t0 n0 y0 q0)++([32,61,32]++[115,117,109])++[32]++exW 0 (.mk o1 t1 n1 y1 q1)++[32,58,32,123,32]++Zf cmm (body.map liT)) [32,125] ⟨[[32,125]],rfl,sM,sM,sM⟩ ?_;rw [show l++(exW 0 (.mk o0 t0 n0 y0 q0)++(([32,61,32]++[115,117,109])++([32]++(exW 0 (.mk o1 t1 n1 y1 q1)++([32,58,32,123,32]++(Zf cmm (body.map liT)++([32,125])))))))=l++exW 0 (.mk o0 t0 n0 y0 q0)++([32,61,32]++[115,117,109])++[32]++exW 0 (.mk o1 t1 n1 y1 q1)++[32,58,32,123,32]++Zf cmm (body.map liT)++[32,125] by simp only [To]] at h;(conv=>whnf);exact h
  ·rcases hp with rfl | rfl
   all_goals
    have hx:liT (.mk 11 [] [(.mk o0 t0 n0 y0 q0),(.mk o1 t1 n1 y1 q1)] body at')=exW 0 (.mk o0 t0 n0 y0 q0)++(([32,61,32]++[109,105,110])++([32]++(exW 0 (.mk o1 t1 n1 y1 q1)++([32,58,32,123,32]++(Zf cmm (body.map liT)++([32,125])))))):=by rw [liT,ZdE,Vp,Vp];simp [Zlt,Zsn,ZjU]
    rw [hx] at h aa
    (try simp only [Ta,Te,Tg] at aa)
    conv=>whnf
    refine ⟨_,dM,rfl,wN ?_⟩;refine wk _ (exW 0 (.mk o0 t0 n0 y0 q0)) ⟨pl,(.mk o0 t0 n0 y0 q0),0,rfl,⟨g0,oM,oM,oM,oM⟩,rfl⟩ ?_;(conv=>whnf);refine Or.inl ⟨InR.u8 dM dM,wN ?_⟩;refine ⟨dM,dM,wN ?_⟩;refine wk _ ([32,61,32]++[109,105,110]) ⟨[[32,61,32],[109,105,110]],rfl,sM,sM,sM⟩ ?_;(conv=>whnf);refine ⟨fun r hr=>?_,dM,by rw [Zb];simp,wN ?_⟩
    ·exact mq94
    refine ⟨_,dM,rfl,wN ?_⟩;refine wk _ [32] ⟨[[32]],rfl,sM,sM,sM⟩ ?_;(conv=>whnf);refine wk _ (exW 0 (.mk o1 t1 n1 y1 q1)) ⟨pl,(.mk o1 t1 n1 y1 q1),0,rfl,⟨g1,oM,oM,oM,oM⟩,rfl⟩ ?_;(conv=>whnf);refine Vh ?_;refine wk _ [32,58,32,123,32] ⟨[[32,58,32,123,32]],rfl,sM,sM,sM⟩ ?_;(conv=>whnf);refine ⟨oM,l++exW 0 (.mk o0 t0 n0 y0 q0)++([32,61,32]++[109,105,110])++[32]++exW 0 (.mk o1 t1 n1 y1 q1)++[32,58,32,123,32],pl,body,rfl,Zl pl body,⟨rfl,rfl,rfl,rfl⟩,⟨Tq.2 m3,oM,oM⟩,(by (try simp only [Ta,Te,Tg]);show _+(Zf cmm (body.map liT)).length<_;omega),?_⟩;(conv=>whnf);refine wk (l++exW 0 (.mk o0 t0 n0 y0 q0)++([32,61,32]++[109,105,110])++[32]++exW 0 (.mk o1 t1 n1 y1 q1)++[32,58,32,123,32]++Zf cmm (body.map liT)) [32,125] ⟨[[32,125]],rfl,sM,sM,sM⟩ ?_;rw [show l++(exW 0 (.mk o0 t0 n0 y0 q0)++(([32,61,32]++[109,105,110])++([32]++(exW 0 (.mk o1 t1 n1 y1 q1)++([32,58,32,123,32]++(Zf cmm (body.map liT)++([32,125])))))))=l++exW 0 (.mk o0 t0 n0 y0 q0)++([32,61,32]++[109,105,110])++[32]++exW 0 (.mk o1 t1 n1 y1 q1)++[32,58,32,123,32]++Zf cmm (body.map liT)++[32,125] by simp only [To]] at h;(conv=>whnf);exact h
  rcases hp with rfl | rfl
  all_goals
   have hx:liT (.mk 12 [] [(.mk o0 t0 n0 y0 q0),(.mk o1 t1 n1 y1 q1)] body at')=exW 0 (.mk o0 t0 n0 y0 q0)++(([32,61,32]++[109,97,120])++([32]++(exW 0 (.mk o1 t1 n1 y1 q1)++([32,58,32,123,32]++(Zf cmm (body.map liT)++([32,125])))))):=by rw [liT,ZdE,Vp,Vp];simp [Zlt,Zsn,ZjU]
   rw [hx] at h aa
   (try simp only [Ta,Te,Tg] at aa)
   conv=>whnf
   refine ⟨_,dM,rfl,wN ?_⟩;refine wk _ (exW 0 (.mk o0 t0 n0 y0 q0)) ⟨pl,(.mk o0 t0 n0 y0 q0),0,rfl,⟨g0,oM,oM,oM,oM⟩,rfl⟩ ?_;(conv=>whnf);refine Or.inl ⟨InR.u8 dM dM,wN ?_⟩;refine ⟨dM,dM,wN ?_⟩;refine wk _ ([32,61,32]++[109,97,120]) ⟨[[32,61,32],[109,97,120]],rfl,sM,sM,sM⟩ ?_;(conv=>whnf);refine ⟨fun r hr=>?_,dM,by rw [Zb];simp,wN ?_⟩
   ·exact mq94
   refine ⟨_,dM,rfl,wN ?_⟩;refine wk _ [32] ⟨[[32]],rfl,sM,sM,sM⟩ ?_;(conv=>whnf);refine wk _ (exW 0 (.mk o1 t1 n1 y1 q1)) ⟨pl,(.mk o1 t1 n1 y1 q1),0,rfl,⟨g1,oM,oM,oM,oM⟩,rfl⟩ ?_;(conv=>whnf);refine Vh ?_;refine wk _ [32,58,32,123,32] ⟨[[32,58,32,123,32]],rfl,sM,sM,sM⟩ ?_;(conv=>whnf);refine ⟨oM,l++exW 0 (.mk o0 t0 n0 y0 q0)++([32,61,32]++[109,97,120])++[32]++exW 0 (.mk o1 t1 n1 y1 q1)++[32,58,32,123,32],pl,body,rfl,Zl pl body,⟨rfl,rfl,rfl,rfl⟩,⟨Tq.2 m3,oM,oM⟩,(by (try simp only [Ta,Te,Tg]);show _+(Zf cmm (body.map liT)).length<_;omega),?_⟩;(conv=>whnf);refine wk (l++exW 0 (.mk o0 t0 n0 y0 q0)++([32,61,32]++[109,97,120])++[32]++exW 0 (.mk o1 t1 n1 y1 q1)++[32,58,32,123,32]++Zf cmm (body.map liT)) [32,125] ⟨[[32,125]],rfl,sM,sM,sM⟩ ?_;rw [show l++(exW 0 (.mk o0 t0 n0 y0 q0)++(([32,61,32]++[109,97,120])++([32]++(exW 0 (.mk o1 t1 n1 y1 q1)++([32,58,32,123,32]++(Zf cmm (body.map liT)++([32,125])))))))=l++exW 0 (.mk o0 t0 n0 y0 q0)++([32,61,32]++[109,97,120])++[32]++exW 0 (.mk o1 t1 n1 y1 q1)++[32,58,32,123,32]++Zf cmm (body.map liT)++[32,125] by simp only [To]] at h;(conv=>whnf);exact h
 exact h.elim
def cWA (hN:NumOK w0 nG) (hL:LexC w0 nG) (n:Nat):PC w0 nG 147 (ZsA n):=Zt8 (cWE hN hL n)
def Zp1 {n:Nat} (h:PC w0 nG 149 (ZAd n)):PC w0 nG 148 (Zng n):=ZAf ⟨ZpP,h,trivial⟩
def cWL (hN:NumOK w0 nG) (hL:LexC w0 nG):∀n,PC w0 nG 149 (ZAd n)
 | 0=>ZAh ⟨Zar,cWA hN hL 0,cWE hN hL 0,ZB (Ze Tryz.func148 kR rfl),trivial⟩
 | n+1=>ZAh ⟨Zar,cWA hN hL (n+1),cWE hN hL (n+1),ZC (sp:=Zng) (Zp1 (cWL hN hL n)),trivial⟩
def ZAi (r:Ru):Bool:=XQ r && ZdH r
def Zxq {r:Ru} (h:ZAi r=true):(∀x∈r.args,ZjY x=true)/\∀x∈r.body,ZsB x=true:=by
 simp only [ZAi,XQ,ZdH,Tm] at h;obtain ⟨⟨_,h1,h2⟩,h3,h4⟩:=h;rw [Tq] at h1 h2 h3 h4;exact ⟨fun x hx=>by rw [ZjY,h1 x hx,h3 x hx];rfl,fun x hx=>by rw [ZsB,h2 x hx,h4 x hx];rfl⟩
def ZBC (n:Nat):Zp:=ZiZ (.tuple []) fun rest txt=>∃pl x,rest=[YC Zy pl x]/\(ZAi x=true/\wRu x<=n/\n<=1073741824)/\txt=ruT x
def ZCE {n:Nat}:OKw w0 nG [(77,Zev),(147,ZsA n),(148,Zng n)] 82 (ZBC n):=by
 refine pwo Tryz.func82 fun args σ K h=>?_
 unfold ZBC ZiZ at h
 split at h
 ·rename_i rest t p e rows
  obtain ⟨l,txt,rfl,⟨hp,rfl,rfl⟩,⟨pl,⟨head,xs,body,at'⟩,rfl,⟨bv,hz,hn⟩,rfl⟩,aa,h⟩:=h;obtain ⟨m2,m3⟩:=Zxq bv;simp only at m2 m3;have dx:szS wE xs+szS wL body+head.length+1<=n:=by unfold wRu at hz;simp only at hz;omega
  have cm:(Yf pl body).length=body.length:=by rw [Zl,Td]
  refine pwu [] 1 true ?_;have nq:l.length+head.length+(argT [40] [41] xs).length+10<70368744177664+10:=by
   have e:(ruT ⟨head,xs,body,at'⟩).length>=head.length+(argT [40] [41] xs).length:=by rw [ruT];simp only [Ta];omega
   omega
  rcases hp with rfl | rfl
  all_goals
   conv=>whnf
   refine wk _ head ⟨[head],rfl,sM,sM,sM⟩ ?_;(conv=>whnf);refine wk _ (argT [40] [41] xs) ⟨[40],[41],pl,xs,rfl,⟨Tq.2 m2,oM,oM⟩,rfl⟩ ?_;(conv=>whnf);refine ZEH (fun c=>wN ?_) (fun c=>wN ?_)
   ·have c:0<body.length:=by have c:((Yf pl body).length:Int)>0:=c;omega
    have hx:ruT ⟨head,xs,body,at'⟩=head++(argT [40] [41] xs++([32,58,45,32]++(Zf cmm (body.map liT)++[46]))):=by rw [ruT,Tj c,ZdE];simp
    rw [hx] at h aa;simp only [Ta,Te,Tg] at aa;refine wk _ [32,58,45,32] ⟨[[32,58,45,32]],rfl,sM,sM,sM⟩ ?_;(conv=>whnf);refine ⟨l++head++argT [40] [41] xs++[32,58,45,32],pl,body,rfl,Zl pl body,⟨rfl,rfl,rfl,rfl⟩,⟨Tq.2 m3,oM,oM⟩,(by (try simp only [Ta,Te,Tg]);show _+(Zf cmm (body.map liT)).length<_;omega),?_⟩;(conv=>whnf);refine wk (l++head++argT [40] [41] xs++[32,58,45,32]++Zf cmm (body.map liT)) [46] ⟨[[46]],rfl,sM,sM,sM⟩ ?_;simp only [<- To] at h;exact mq52
   have c:¬0<body.length:=by have c:¬((Yf pl body).length:Int)>0:=c;omega
   have hx:ruT ⟨head,xs,body,at'⟩=head++(argT [40] [41] xs++[46]):=by rw [ruT,Tf c,Sn]
   rw [hx] at h aa;simp only [Ta,Te,Tg] at aa;refine wk _ [46] ⟨[[46]],rfl,sM,sM,sM⟩ ?_;simp only [<- To] at h;exact mq52
 exact h.elim
def cWR (hN:NumOK w0 nG) (hL:LexC w0 nG) (n:Nat):PC w0 nG 82 (ZBC n):=ZCE ⟨Zar,cWA hN hL n,Zp1 (cWL hN hL n),trivial⟩
def ZsC {t:Ty} (h:Ym t=true):Xj t.name=true/\(∀f∈t.fields,YL f=true)/\(∀c∈t.cases,Xp c=true) /\
  ((t.kind=1/\Xj t.base=true/\t.fields=[]/\t.cases=[])\/(t.kind=2/\t.base=[]/\t.cases=[])\/(t.kind=3/\t.base=[]/\t.fields=[]/\t.cases≠[])):=by
 simp only [Ym,Tm] at h;obtain ⟨h1,h2,h3,h4⟩:=h;refine ⟨h2,Tq.1 h3,Tq.1 h4,?_⟩;unfold ZbT at h1
 split at h1
 ·rename_i c
  simp only [Tm,TQ] at h1;exact .inl ⟨c,h1.1,T4 h1.2.1,T4 h1.2.2⟩
 split at h1
 ·rename_i c
  simp only [Tm,TQ] at h1;exact .inr (.inl ⟨c,h1.1,T4 h1.2⟩)
 split at h1
 ·rename_i c
  simp only [Tm,TQ,T5,decide_eq_false_iff_not] at h1;exact .inr (.inr ⟨c,h1.1,T4 h1.2.1,fun e=>h1.2.2 (by rw [e];rfl)⟩)
 cases h1
def Zxr {tys:List Ty} {rels:List Re} {rules:List Ru} {comps:List Co} {inits:List Ini} {overs:List Ov} (h:Zeu (.mk tys rels rules comps inits overs)=true) :
  (∀x∈tys,Ym x=true)/\(∀x∈rels,Wd x=true)/\(∀x∈rules,XQ x=true)/\(∀x∈comps,Yg x=true)/\(∀x∈inits,WC x=true)/\∀x∈overs,W5 x=true:=by
 simp only [Zeu,WD,Tm] at h;obtain ⟨h1,h2,h3,h4,h5,h6⟩:=h;exact ⟨Tq.1 h1,Tq.1 h2,Tq.1 h3,Tq.1 h4,Tq.1 h5,Tq.1 h6⟩
end Go.PM.Lex
end

section
namespace Go.PM.Lex
open Go.Proofs Go.RowKit
variable {w0:World} {nG:Nat}
def ZAk:Tbl:=[(77,Zev)]
def ZAl {n:Nat}:PC w0 nG 145 (ZgJ (YC (fun _=>Zk)) YL fiT wFi n):=by
 refine pwt (tbl:=ZAk) ⟨Zar,trivial⟩ Tryz.func145 fun args σ K h=>?_
 unfold ZgJ at h
 split at h
 ·obtain ⟨l,pl,⟨nm,ty⟩,rfl,rfl,⟨rfl,rfl⟩,⟨bv,hz,hn⟩,aa,h⟩:=h;refine pwv [] 2 true ?_;refine ⟨l,fiT ⟨nm,ty⟩,rfl,⟨.inr rfl,rfl,rfl⟩,⟨[nm,[58,32],ty],rfl,sM,sM,by simp [fiT]⟩,aa,wN ?_⟩;exact h
 exact h.elim
def ZEi (n:Nat):PC w0 nG 144 (ZpO 145 (fun _=>Zk) YL fiT wFi n):=Zw3 ⟨ZpP,ZAl,trivial⟩
def ZsD (n:Nat):Zp:=ZiZ (.tuple []) fun rest txt=>∃(fr fin:Bs) (xs:List Fi),rest=[.d (.str fr),.d (.sl (xs.map Zk)),.d (.str fin)]/\(xs.all YL=true/\szS wFi xs<=n/\n<=1073741824)/\txt=Vo fr xs fin
def Zub {n:Nat}:PC w0 nG 78 (ZsD n):=by
 refine pwt (tbl:=[(77,Zev),(144,ZpO 145 (fun _=>Zk) YL fiT wFi n)]) ⟨Zar,ZEi n,trivial⟩ Tryz.func78 fun args σ K h=>?_
 unfold ZsD ZiZ at h
 split at h
 ·rename_i rest t p e rows
  obtain ⟨l,txt,rfl,⟨hp,rfl,rfl⟩,⟨fr,fin,xs,rfl,⟨bv,hz,hn⟩,rfl⟩,aa,h⟩:=h;have key:l++Vo fr xs fin=l++fr++Zf cmm (xs.map fiT)++fin:=by simp only [Vo,To]
  rw [key] at h;have aa:l.length+(fr.length+((Zf cmm (xs.map fiT)).length+fin.length))<70368744177664:=by have:=aa;simp only [Vo,Ta] at this;exact this
  refine pwu [] 1 true ?_;rcases hp with rfl | rfl
  all_goals
   conv=>whnf
   refine wk _ fr ⟨[fr],rfl,sM,sM,sM⟩ ?_;(conv=>whnf);refine ⟨l++fr,fun _=>0,xs,rfl,rfl,⟨rfl,rfl,rfl⟩,⟨bv,hz,hn⟩,by rw [Ta];show _+(Zf cmm (xs.map fiT)).length<_;omega,wN ?_⟩;refine wk (l++fr++Zf cmm (xs.map fiT)) fin ⟨[fin],rfl,sM,sM,sM⟩ (wN ?_);exact h
 exact h.elim
def ZAo {n:Nat}:PC w0 nG 80 (ZgJ (YC (fun _=>Zt)) Xp caT wCa n):=by
 refine pwt (tbl:=[(78,ZsD n)]) ⟨Zub,trivial⟩ Tryz.func80 fun args σ K h=>?_
 unfold ZgJ at h
 split at h
 ·obtain ⟨l,pl,⟨nm,fs⟩,rfl,rfl,⟨rfl,rfl⟩,⟨bv,hz,hn⟩,aa,h⟩:=h;have hm:fs.all YL=true:=by simp only [Xp,Tm] at bv;exact bv.2
  have hz:nm.length+szS wFi fs<=n:=by unfold wCa at hz;simp only at hz;omega
  refine pwv [] 2 true ?_;refine ⟨by simp only [Te,Tg];omega,wN ?_⟩;refine ⟨l,caT ⟨nm,fs⟩,rfl,⟨.inr rfl,rfl,rfl⟩,⟨nm++[32,123],[125],fs,rfl,⟨hm,oM,hn⟩,rfl⟩,aa,wN ?_⟩;exact h
 exact h.elim
def ZEj (n:Nat):PC w0 nG 79 (ZpO 80 (fun _=>Zt) Xp caT wCa n):=Zw5 ⟨ZpP,ZAo,trivial⟩
end Go.PM.Lex
end

section
namespace Go.PM.Lex
open Go.Proofs
variable {w0:World} {nG:Nat}
def ZBD (x:Un):Bool:=Zeu x && Zlv x
def ZAp (x:Co):Bool:=Yg x && ZpX x
def Zxs {tys:List Ty} {rels:List Re} {rules:List Ru} {comps:List Co} {inits:List Ini} {overs:List Ov} (h:ZBD (.mk tys rels rules comps inits overs)=true) :
  (∀x∈tys,Ym x=true)/\(∀x∈rels,Wd x=true)/\(∀x∈rules,ZAi x=true)/\∀x∈comps,ZAp x=true:=by
 simp only [ZBD,Tm] at h;obtain ⟨h,hr⟩:=h;obtain ⟨m1,m2,m3,m4,m5,m6⟩:=Zxr h;simp only [Zlv,Zau,Tm] at hr;have r1:=Tq.1 hr.1;have r2:=Tq.1 hr.2;exact ⟨m1,m2,fun x hx=>by rw [ZAi,m3 x hx,r1 x hx];rfl,fun x hx=>by rw [ZAp,m4 x hx,r2 x hx];rfl⟩
def Zrn (r:Ru):Bs:=ruT r++[10]
def ZAq (body:List PV->Bs->Prop):Zp:=fun args σ K=>match args,σ with
 | .ptr 0 0::rest,⟨[.cells t [p,.sl 0 e rows]],[0],1⟩=>∃l txt,rows=Zh l/\((p=.d .nilp\/p=.ptr 0 0)/\t=104/\e=5)/\body rest txt/\l.length+txt.length<70368744177664 /\
   ∀p',(p'=.d .nilp\/p'=.ptr 0 0)->K (.ret (.tuple [])) ⟨[.cells t [p',.sl 0 e (Zh (l++txt))]],[0],1⟩
 | _,_=>False
def ZBE (n:Nat):Zp:=ZAq fun rest txt=>∃pl x,rest=[YC XV pl x]/\(ZBD x=true/\wUn x<=n/\n<=1073741824/\noC x)/\txt=unT x
def ZdJ {α:Type} (T:α->Bs) {xs:List α} {i:Nat} (h:i<xs.length):((xs.take (i+1)).map T).flatten=((xs.take i).map T).flatten++T xs[i]:=by
 rw [List.take_succ_eq_append_getElem h,Sc,List.flatten_append];simp
def ZjZ {α:Type} (T:α->Bs) (xs:List α) (i:Nat):((xs.take i).map T).flatten.length<=(xs.map T).flatten.length:=by
 have e:(xs.map T).flatten=((xs.take i).map T).flatten++((xs.drop i).map T).flatten:=by rw [<- List.flatten_append,<- Sc,List.take_append_drop]
 rw [e,Ta];omega
def ZAr (n:Nat):Tbl:=[(77,Zev),(78,ZsD n),(79,ZpO 80 (fun _=>Zt) Xp caT wCa n),(82,ZBC n)]
def ZCF {n:Nat} (ht:TO w0 nG (ZAr n)):PC w0 nG 34 (ZBE n):=by
 refine ZoH ZI mixed (tbl:=ZAr n) ht Tryz.func34 rfl kR kR ?_;intro args σ K h
 unfold ZBE ZAq at h
 split at h
 ·rename_i rest t p e rows
  obtain ⟨l,txt,rfl,⟨hp,rfl,rfl⟩,⟨pl,⟨tys,rels,rules,comps,inits,overs⟩,rfl,⟨bv,hz,hn,rfl,rfl,rfl⟩,rfl⟩,aa,h⟩:=h;obtain ⟨m1,m2,m3,m4⟩:=Zxs bv;have hz:szS wTy tys+szS wRe rels+szS wRu rules+1<=n:=by rw [wUn] at hz;omega
  have hu:unT (.mk tys rels rules [] [] [])=(tys.map tyT).flatten++((rels.map reT).flatten++(rules.map Zrn).flatten):=by rw [unT,Zyz];rfl
  rw [hu] at aa;simp only [Ta] at aa;have h:∀p',(p'=.d .nilp\/p'=.ptr 0 0)->K (.ret (.tuple [])) ⟨[.cells 104 [p',.sl 0 5 (Zh (l++(tys.map tyT).flatten++(rels.map reT).flatten++(rules.map Zrn).flatten))]],[0],1⟩:=by
   rw [hu] at h;simpa only [To] using h
  have s1:=Zn wTy tys;have s2:=Zn wRe rels;have s3:=Zn wRu rules;refine ⟨Zo [(2,⟨[21],[2,3,19,20],fun vs σ=>∃(i:Nat) (P:PV),vs=[.d (.int .i64 i)]/\σ=⟨[.cells 104 [P,.sl 0 5 (Zh (l++((tys.take i).map tyT).flatten))],.cells 98 [.ptr 0 0],.cells 80 ((XV pl (.mk tys rels rules [] [] [])).map .d)],[0],1⟩/\(P=.d .nilp\/P=.ptr 0 0)/\i<=tys.length,mu1 tys.length⟩),(15,⟨[60],[2,3,58,59],fun vs σ=>∃(i:Nat) (P:PV),vs=[.d (.int .i64 i)]/\σ=⟨[.cells 104 [P,.sl 0 5 (Zh (l++(tys.map tyT).flatten++((rels.take i).map reT).flatten))],.cells 98 [.ptr 0 0],.cells 80 ((XV pl (.mk tys rels rules [] [] [])).map .d)],[0],1⟩/\(P=.d .nilp\/P=.ptr 0 0)/\i<=rels.length,mu1 rels.length⟩),(47,⟨[166],[2,3,164,165],fun vs σ=>∃(i:Nat) (P:PV),vs=[.d (.int .i64 i)]/\σ=⟨[.cells 104 [P,.sl 0 5 (Zh (l++(tys.map tyT).flatten++(rels.map reT).flatten++((rules.take i).map Zrn).flatten))],.cells 98 [.ptr 0 0],.cells 80 ((XV pl (.mk tys rels rules [] [] [])).map .d)],[0],1⟩/\(P=.d .nilp\/P=.ptr 0 0)/\i<=rules.length,mu1 rules.length⟩)],Xn [(19,4),(27,1),(37,1),(42,1)],Yd [],Yd [],Yd [],ZuR [(14,([2,3],fun vs σ=>∃P:PV,vs=[.ptr 1 0,.ptr 2 0]/\σ=⟨[.cells 104 [P,.sl 0 5 (Zh (l++(tys.map tyT).flatten))],.cells 98 [.ptr 0 0],.cells 80 ((XV pl (.mk tys rels rules [] [] [])).map .d)],[0],1⟩/\(P=.d .nilp\/P=.ptr 0 0))),(26,([2,3],fun vs σ=>∃P:PV,vs=[.ptr 1 0,.ptr 2 0]/\σ=⟨[.cells 104 [P,.sl 0 5 (Zh (l++(tys.map tyT).flatten++(rels.map reT).flatten))],.cells 98 [.ptr 0 0],.cells 80 ((XV pl (.mk tys rels rules [] [] [])).map .d)],[0],1⟩/\(P=.d .nilp\/P=.ptr 0 0)))],1,true,sM,Tc rfl,?_⟩;rcases hp with rfl | rfl
  all_goals
   conv=>whnf
   refine ⟨wN ?_,?_⟩
   ·refine ⟨⟨0,_,rfl,zN,iM,oM⟩,?_⟩;intro vs σ hI
    obtain ⟨i,P,rfl,rfl,hP,hi⟩:=hI;(conv=>whnf);refine ZEH (fun ac=>?_) (fun ac=>?_)
    ·have du:(tys.map (Zs pl)).length=tys.length:=Td ..;have ac:i<tys.length:=lzI du ac;have hg:=Zr wTy tys i ac;have cn:=ZdJ tyT ac;have ak:=ZjZ tyT tys (i+1);have cj:=TE ac;obtain ⟨L,hL⟩:∃L,l++((tys.take i).map tyT).flatten=L:=⟨_,rfl⟩
     have x8:L.length=(l).length+((tys.take i).map tyT).flatten.length:=by rw [<- hL,Ta]
     (try simp only [Ta] at x8)
     rw [cn,Ta] at ak;rw [hL];obtain ⟨x,hX⟩:∃x,tys[i]=x:=⟨_,rfl⟩
     rw [hX] at hg cj cn ak;obtain ⟨kd,nm,base,fs,cs,at'⟩:=x;have jp:l++((tys.take (i+1)).map tyT).flatten=L++tyT ⟨kd,nm,base,fs,cs,at'⟩:=by rw [cn,<- To,hL]
     have bi:(tys.map (Zs pl))[((i:Nat):Int).toNat]?=some (Zs pl ⟨kd,nm,base,fs,cs,at'⟩):=by simp [ac,hX]
     obtain ⟨q1,q2,q3,q4⟩:=ZsC (m1 _ cj);simp only at q1 q2 q3 q4;have x9:wTy ⟨kd,nm,base,fs,cs,at'⟩=1+nm.length+base.length+szS wFi fs+szS wCa cs:=rfl;have hw:nm.length+base.length+szS wFi fs+szS wCa cs<=n:=oM;(conv=>whnf);refine ⟨_,oM,bi,?_⟩
     by_cases k1:kd=1
     ·have hT:tyT ⟨kd,nm,base,fs,cs,at'⟩=[116,121,112,101,32]++(nm++(([32,60,58,32]++base)++[10])):=by rw [tyT,Tj k1]
      rw [hT] at ak;simp only [Ta,Te,Tg] at ak;rcases hP with rfl | rfl
      all_goals
       conv=>whnf
       refine ⟨L,[116,121,112,101,32]++nm,rfl,⟨iM,rfl,rfl⟩,⟨[[116,121,112,101,32],nm],rfl,sM,sM,sM⟩,(by (try simp only [Ta,Te,Tg]);omega),?_⟩;(conv=>whnf);refine ZEH (fun _=>?_) (fun g=>absurd (show (kd:Int)=1 by omega) g);(conv=>whnf);refine ⟨L++([116,121,112,101,32]++nm),[32,60,58,32]++base,rfl,⟨.inr rfl,rfl,rfl⟩,⟨[[32,60,58,32],base],rfl,sM,sM,sM⟩,(by (try simp only [Ta,Te,Tg]);omega),?_⟩;(conv=>whnf);refine ⟨L++([116,121,112,101,32]++nm)++([32,60,58,32]++base),[10],rfl,⟨.inr rfl,rfl,rfl⟩,⟨[[10]],rfl,sM,sM,sM⟩,(by (try simp only [Ta,Te,Tg]);omega),?_⟩;(conv=>whnf);refine Zi ?_;refine ⟨⟨i+1,_,rfl,(by rw [jp,hT];simp only [To];rfl),.inr rfl,oM⟩,?_⟩;exact lzM oM
     by_cases k2:kd=2
     ·have hT:tyT ⟨kd,nm,base,fs,cs,at'⟩=[116,121,112,101,32]++(nm++(Vo [32,61,32,91] fs [93]++[10])):=by rw [tyT,Tf k1,Tj k2]
      rw [hT] at ak;simp only [Ta,Te,Tg] at ak;rcases hP with rfl | rfl
      all_goals
       conv=>whnf
       refine ⟨L,[116,121,112,101,32]++nm,rfl,⟨iM,rfl,rfl⟩,⟨[[116,121,112,101,32],nm],rfl,sM,sM,sM⟩,(by (try simp only [Ta,Te,Tg]);omega),?_⟩;(conv=>whnf);refine ZEH (fun g=>absurd (show kd=1 by have g:(kd:Int)=1:=g;omega) k1) (fun _=>wN ?_);refine ZEH (fun _=>?_) (fun g=>absurd (show (kd:Int)=2 by omega) g);(conv=>whnf);refine ⟨L++([116,121,112,101,32]++nm),Vo [32,61,32,91] fs [93],rfl,⟨.inr rfl,rfl,rfl⟩,⟨[32,61,32,91],[93],fs,rfl,⟨Tq.2 q2,oM,oM⟩,rfl⟩,(by (try simp only [Ta,Te,Tg]);omega),?_⟩;(conv=>whnf);refine ⟨L++([116,121,112,101,32]++nm)++Vo [32,61,32,91] fs [93],[10],rfl,⟨.inr rfl,rfl,rfl⟩,⟨[[10]],rfl,sM,sM,sM⟩,(by (try simp only [Ta,Te,Tg]);omega),?_⟩;(conv=>whnf);refine Zi ?_;refine ⟨⟨i+1,_,rfl,(by rw [jp,hT];simp only [To];rfl),.inr rfl,oM⟩,?_⟩;exact lzM oM
     have hT:tyT ⟨kd,nm,base,fs,cs,at'⟩=[116,121,112,101,32]++(nm++([32,61,32]++(Zf [32,124,32] (cs.map caT)++[10]))):=by rw [tyT,Tf k1,Tf k2];simp only [To]
     rw [hT] at ak;simp only [Ta,Te,Tg] at ak;rcases hP with rfl | rfl
     all_goals
      conv=>whnf
      refine ⟨L,[116,121,112,101,32]++nm,rfl,⟨iM,rfl,rfl⟩,⟨[[116,121,112,101,32],nm],rfl,sM,sM,sM⟩,(by (try simp only [Ta,Te,Tg]);omega),?_⟩;(conv=>whnf);refine ZEH (fun g=>absurd (show kd=1 by have g:(kd:Int)=1:=g;omega) k1) (fun _=>wN ?_);refine ZEH (fun g=>absurd (show kd=2 by have g:(kd:Int)=2:=g;omega) k2) (fun _=>wN ?_);refine ⟨L++([116,121,112,101,32]++nm),[32,61,32],rfl,⟨.inr rfl,rfl,rfl⟩,⟨[[32,61,32]],rfl,sM,sM,sM⟩,(by (try simp only [Ta,Te,Tg]);omega),?_⟩;(conv=>whnf);refine ⟨L++([116,121,112,101,32]++nm)++[32,61,32],fun _=>0,cs,rfl,rfl,⟨rfl,rfl,rfl⟩,⟨Tq.2 q3,oM,oM⟩,(by (try simp only [Ta,Te,Tg]);show _+(Zf [32,124,32] (cs.map caT)).length<_;omega),?_⟩;(conv=>whnf);refine ⟨L++([116,121,112,101,32]++nm)++[32,61,32]++Zf [32,124,32] (cs.map caT),[10],rfl,⟨.inr rfl,rfl,rfl⟩,⟨[[10]],rfl,sM,sM,sM⟩,(by (try simp only [Ta,Te,Tg]);omega),?_⟩;(conv=>whnf);refine Zi ?_;refine ⟨⟨i+1,_,rfl,(by rw [jp,hT];simp only [To];rfl),.inr rfl,oM⟩,?_⟩;exact lzM oM
    have ac:i=tys.length:=by
     have du:(tys.map (Zs pl)).length=tys.length:=Td ..;have ac:¬(i:Int)<(tys.map (Zs pl)).length:=ac;rw [du] at ac;omega
    subst ac;rw [Sj];rcases hP with rfl | rfl
    all_goals
     conv=>whnf
     exact ⟨_,rfl,rfl,iM⟩
   intro vs σ hI
   obtain ⟨P,rfl,rfl,hP⟩:=hI;(conv=>whnf);refine ⟨?_,?_⟩
   ·rcases hP with rfl | rfl
    all_goals
     conv=>whnf
     refine ⟨⟨0,_,rfl,zN,iM,oM⟩,?_⟩;intro vs σ hI
     obtain ⟨i,P,rfl,rfl,hP,hi⟩:=hI;(conv=>whnf);refine ZEH (fun ac=>?_) (fun ac=>?_)
     ·have du:(rels.map (ZF pl)).length=rels.length:=Td ..;have ac:i<rels.length:=lzI du ac;have hg:=Zr wRe rels i ac;have cn:=ZdJ reT ac;have ak:=ZjZ reT rels (i+1);have cj:=TE ac;obtain ⟨L,hL⟩:∃L,l++(tys.map tyT).flatten++((rels.take i).map reT).flatten=L:=⟨_,rfl⟩
      have x8:L.length=(l++(tys.map tyT).flatten).length+((rels.take i).map reT).flatten.length:=by rw [<- hL,Ta]
      (try simp only [Ta] at x8)
      rw [cn,Ta] at ak;rw [hL];obtain ⟨x,hX⟩:∃x,rels[i]=x:=⟨_,rfl⟩
      rw [hX] at hg cj cn ak;obtain ⟨nm,fs,b1,b2,b3,at'⟩:=x;have jp:l++(tys.map tyT).flatten++((rels.take (i+1)).map reT).flatten=L++reT ⟨nm,fs,b1,b2,b3,at'⟩:=by rw [cn,<- To,hL]
      have bi:(rels.map (ZF pl))[((i:Nat):Int).toNat]?=some (ZF pl ⟨nm,fs,b1,b2,b3,at'⟩):=by simp [ac,hX]
      have q:=m2 _ cj;simp only [Wd,Tm] at q;obtain ⟨q1,q2⟩:=q;have q2:=Tq.1 q2;have x9:wRe ⟨nm,fs,b1,b2,b3,at'⟩=1+nm.length+szS wFi fs:=rfl;have hw:nm.length+szS wFi fs<=n:=oM;(conv=>whnf);refine ⟨_,oM,bi,?_⟩;have rz:reT ⟨nm,fs,b1,b2,b3,at'⟩=Vo ([100,101,99,108,32]++nm++[40]) fs [41]++((if b1 then [32,105,110,112,117,116] else [])++((if b2 then [32,111,117,116,112,117,116] else [])++((if b3 then [32,105,110,108,105,110,101] else [])++[10]))):=by rw [reT];simp only [To]
      rcases hP with rfl | rfl
      all_goals
       conv=>whnf
       refine ⟨by simp only [Te,Tg];omega,wN ?_⟩;refine ⟨by simp only [Ta,Te,Tg];omega,?_⟩
       cases b1 <;> cases b2 <;> cases b3
       ·have hT:=rz;simp only [if_true,Tu,if_false,Sn] at hT;rw [hT] at ak;simp only [Ta,Te,Tg] at ak;(conv=>whnf);refine ⟨L,Vo ([100,101,99,108,32]++nm++[40]) fs [41],rfl,⟨iM,rfl,rfl⟩,⟨([100,101,99,108,32]++nm++[40]),[41],fs,rfl,⟨Tq.2 q2,oM,oM⟩,rfl⟩,(by (try simp only [Ta,Te,Tg]);omega),?_⟩;(conv=>whnf);refine ⟨dM,dM,wN ?_⟩;refine Vh ?_;refine ⟨dM,dM,wN ?_⟩;refine Vh ?_;refine ⟨dM,dM,wN ?_⟩;refine Vh ?_;refine ⟨L++Vo ([100,101,99,108,32]++nm++[40]) fs [41],[10],rfl,⟨.inr rfl,rfl,rfl⟩,⟨[[10]],rfl,sM,sM,sM⟩,(by (try simp only [Ta,Te,Tg]);omega),?_⟩;exact mq30
       ·have hT:=rz;simp only [if_true,Tu,if_false,Sn] at hT;rw [hT] at ak;simp only [Ta,Te,Tg] at ak;(conv=>whnf);refine ⟨L,Vo ([100,101,99,108,32]++nm++[40]) fs [41],rfl,⟨iM,rfl,rfl⟩,⟨([100,101,99,108,32]++nm++[40]),[41],fs,rfl,⟨Tq.2 q2,oM,oM⟩,rfl⟩,(by (try simp only [Ta,Te,Tg]);omega),?_⟩;(conv=>whnf);refine ⟨dM,dM,wN ?_⟩;refine Vh ?_;refine ⟨dM,dM,wN ?_⟩;refine Vh ?_;refine ⟨dM,dM,wN ?_⟩;refine ⟨dM,dM,wN ?_⟩;refine ⟨L++Vo ([100,101,99,108,32]++nm++[40]) fs [41],[32,105,110,108,105,110,101],rfl,⟨.inr rfl,rfl,rfl⟩,⟨[[32,105,110,108,105,110,101]],rfl,sM,sM,sM⟩,(by (try simp only [Ta,Te,Tg]);omega),?_⟩;(conv=>whnf)
        (repeat (refine ⟨rfl,?_⟩;conv=>whnf))
        conv=>whnf
        refine Vh ?_;refine ⟨L++Vo ([100,101,99,108,32]++nm++[40]) fs [41]++[32,105,110,108,105,110,101],[10],rfl,⟨.inr rfl,rfl,rfl⟩,⟨[[10]],rfl,sM,sM,sM⟩,(by (try simp only [Ta,Te,Tg]);omega),?_⟩;exact mq30
       ·have hT:=rz;simp only [if_true,Tu,if_false,Sn] at hT;rw [hT] at ak;simp only [Ta,Te,Tg] at ak;(conv=>whnf);refine ⟨L,Vo ([100,101,99,108,32]++nm++[40]) fs [41],rfl,⟨iM,rfl,rfl⟩,⟨([100,101,99,108,32]++nm++[40]),[41],fs,rfl,⟨Tq.2 q2,oM,oM⟩,rfl⟩,(by (try simp only [Ta,Te,Tg]);omega),?_⟩;(conv=>whnf);refine ⟨dM,dM,wN ?_⟩;refine Vh ?_;refine ⟨dM,dM,wN ?_⟩;refine ⟨dM,dM,wN ?_⟩;refine ⟨L++Vo ([100,101,99,108,32]++nm++[40]) fs [41],[32,111,117,116,112,117,116],rfl,⟨.inr rfl,rfl,rfl⟩,⟨[[32,111,117,116,112,117,116]],rfl,sM,sM,sM⟩,(by (try simp only [Ta,Te,Tg]);omega),?_⟩;(conv=>whnf)
        (repeat (refine ⟨rfl,?_⟩;conv=>whnf))
        conv=>whnf
        refine Vh ?_;refine ⟨dM,dM,wN ?_⟩;refine Vh ?_;refine ⟨L++Vo ([100,101,99,108,32]++nm++[40]) fs [41]++[32,111,117,116,112,117,116],[10],rfl,⟨.inr rfl,rfl,rfl⟩,⟨[[10]],rfl,sM,sM,sM⟩,(by (try simp only [Ta,Te,Tg]);omega),?_⟩;exact mq30
       ·have hT:=rz;simp only [if_true,Tu,if_false,Sn] at hT;rw [hT] at ak;simp only [Ta,Te,Tg] at ak;(conv=>whnf);refine ⟨L,Vo ([100,101,99,108,32]++nm++[40]) fs [41],rfl,⟨iM,rfl,rfl⟩,⟨([100,101,99,108,32]++nm++[40]),[41],fs,rfl,⟨Tq.2 q2,oM,oM⟩,rfl⟩,(by (try simp only [Ta,Te,Tg]);omega),?_⟩;(conv=>whnf);refine ⟨dM,dM,wN ?_⟩;refine Vh ?_;refine ⟨dM,dM,wN ?_⟩;refine ⟨dM,dM,wN ?_⟩;refine ⟨L++Vo ([100,101,99,108,32]++nm++[40]) fs [41],[32,111,117,116,112,117,116],rfl,⟨.inr rfl,rfl,rfl⟩,⟨[[32,111,117,116,112,117,116]],rfl,sM,sM,sM⟩,(by (try simp only [Ta,Te,Tg]);omega),?_⟩;(conv=>whnf)
        (repeat (refine ⟨rfl,?_⟩;conv=>whnf))
        conv=>whnf
        refine Vh ?_;refine ⟨dM,dM,wN ?_⟩;refine ⟨dM,dM,wN ?_⟩;refine ⟨L++Vo ([100,101,99,108,32]++nm++[40]) fs [41]++[32,111,117,116,112,117,116],[32,105,110,108,105,110,101],rfl,⟨.inr rfl,rfl,rfl⟩,⟨[[32,105,110,108,105,110,101]],rfl,sM,sM,sM⟩,(by (try simp only [Ta,Te,Tg]);omega),?_⟩;(conv=>whnf)
        (repeat (refine ⟨rfl,?_⟩;conv=>whnf))
        conv=>whnf
        refine Vh ?_;refine ⟨L++Vo ([100,101,99,108,32]++nm++[40]) fs [41]++[32,111,117,116,112,117,116]++[32,105,110,108,105,110,101],[10],rfl,⟨.inr rfl,rfl,rfl⟩,⟨[[10]],rfl,sM,sM,sM⟩,(by (try simp only [Ta,Te,Tg]);omega),?_⟩;exact mq30
       ·have hT:=rz;simp only [if_true,Tu,if_false,Sn] at hT;rw [hT] at ak;simp only [Ta,Te,Tg] at ak;(conv=>whnf);refine ⟨L,Vo ([100,101,99,108,32]++nm++[40]) fs [41],rfl,⟨iM,rfl,rfl⟩,⟨([100,101,99,108,32]++nm++[40]),[41],fs,rfl,⟨Tq.2 q2,oM,oM⟩,rfl⟩,(by (try simp only [Ta,Te,Tg]);omega),?_⟩;(conv=>whnf);refine ⟨dM,dM,wN ?_⟩;refine ⟨dM,dM,wN ?_⟩;refine ⟨L++Vo ([100,101,99,108,32]++nm++[40]) fs [41],[32,105,110,112,117,116],rfl,⟨.inr rfl,rfl,rfl⟩,⟨[[32,105,110,112,117,116]],rfl,sM,sM,sM⟩,(by (try simp only [Ta,Te,Tg]);omega),?_⟩;(conv=>whnf)
        (repeat (refine ⟨rfl,?_⟩;conv=>whnf))
        conv=>whnf
        refine Vh ?_;refine ⟨dM,dM,wN ?_⟩;refine Vh ?_;refine ⟨dM,dM,wN ?_⟩;refine Vh ?_;refine ⟨L++Vo ([100,101,99,108,32]++nm++[40]) fs [41]++[32,105,110,112,117,116],[10],rfl,⟨.inr rfl,rfl,rfl⟩,⟨[[10]],rfl,sM,sM,sM⟩,(by (try simp only [Ta,Te,Tg]);omega),?_⟩;exact mq30
       ·have hT:=rz;simp only [if_true,Tu,if_false,Sn] at hT;rw [hT] at ak;simp only [Ta,Te,Tg] at ak;(conv=>whnf);refine ⟨L,Vo ([100,101,99,108,32]++nm++[40]) fs [41],rfl,⟨iM,rfl,rfl⟩,⟨([100,101,99,108,32]++nm++[40]),[41],fs,rfl,⟨Tq.2 q2,oM,oM⟩,rfl⟩,(by (try simp only [Ta,Te,Tg]);omega),?_⟩;(conv=>whnf);refine ⟨dM,dM,wN ?_⟩;refine ⟨dM,dM,wN ?_⟩;refine ⟨L++Vo ([100,101,99,108,32]++nm++[40]) fs [41],[32,105,110,112,117,116],rfl,⟨.inr rfl,rfl,rfl⟩,⟨[[32,105,110,112,117,116]],rfl,sM,sM,sM⟩,(by (try simp only [Ta,Te,Tg]);omega),?_⟩;(conv=>whnf)
        (repeat (refine ⟨rfl,?_⟩;conv=>whnf))
        conv=>whnf
        refine Vh ?_;refine ⟨dM,dM,wN ?_⟩;refine Vh ?_;refine ⟨dM,dM,wN ?_⟩;refine ⟨dM,dM,wN ?_⟩;refine ⟨L++Vo ([100,101,99,108,32]++nm++[40]) fs [41]++[32,105,110,112,117,116],[32,105,110,108,105,110,101],rfl,⟨.inr rfl,rfl,rfl⟩,⟨[[32,105,110,108,105,110,101]],rfl,sM,sM,sM⟩,(by (try simp only [Ta,Te,Tg]);omega),?_⟩;(conv=>whnf)
        (repeat (refine ⟨rfl,?_⟩;conv=>whnf))
        conv=>whnf
        refine Vh ?_;refine ⟨L++Vo ([100,101,99,108,32]++nm++[40]) fs [41]++[32,105,110,112,117,116]++[32,105,110,108,105,110,101],[10],rfl,⟨.inr rfl,rfl,rfl⟩,⟨[[10]],rfl,sM,sM,sM⟩,(by (try simp only [Ta,Te,Tg]);omega),?_⟩;exact mq30
       ·have hT:=rz;simp only [if_true,Tu,if_false,Sn] at hT;rw [hT] at ak;simp only [Ta,Te,Tg] at ak;(conv=>whnf);refine ⟨L,Vo ([100,101,99,108,32]++nm++[40]) fs [41],rfl,⟨iM,rfl,rfl⟩,⟨([100,101,99,108,32]++nm++[40]),[41],fs,rfl,⟨Tq.2 q2,oM,oM⟩,rfl⟩,(by (try simp only [Ta,Te,Tg]);omega),?_⟩;(conv=>whnf);refine ⟨dM,dM,wN ?_⟩;refine ⟨dM,dM,wN ?_⟩;refine ⟨L++Vo ([100,101,99,108,32]++nm++[40]) fs [41],[32,105,110,112,117,116],rfl,⟨.inr rfl,rfl,rfl⟩,⟨[[32,105,110,112,117,116]],rfl,sM,sM,sM⟩,(by (try simp only [Ta,Te,Tg]);omega),?_⟩;(conv=>whnf)
        (repeat (refine ⟨rfl,?_⟩;conv=>whnf))
        conv=>whnf
        refine Vh ?_;refine ⟨dM,dM,wN ?_⟩;refine ⟨dM,dM,wN ?_⟩;refine ⟨L++Vo ([100,101,99,108,32]++nm++[40]) fs [41]++[32,105,110,112,117,116],[32,111,117,116,112,117,116],rfl,⟨.inr rfl,rfl,rfl⟩,⟨[[32,111,117,116,112,117,116]],rfl,sM,sM,sM⟩,(by (try simp only [Ta,Te,Tg]);omega),?_⟩;(conv=>whnf)
        (repeat (refine ⟨rfl,?_⟩;conv=>whnf))
        conv=>whnf
        refine Vh ?_;refine ⟨dM,dM,wN ?_⟩;refine Vh ?_;refine ⟨L++Vo ([100,101,99,108,32]++nm++[40]) fs [41]++[32,105,110,112,117,116]++[32,111,117,116,112,117,116],[10],rfl,⟨.inr rfl,rfl,rfl⟩,⟨[[10]],rfl,sM,sM,sM⟩,(by (try simp only [Ta,Te,Tg]);omega),?_⟩;exact mq30
       have hT:=rz;simp only [if_true,Tu,if_false,Sn] at hT;rw [hT] at ak;simp only [Ta,Te,Tg] at ak;(conv=>whnf);refine ⟨L,Vo ([100,101,99,108,32]++nm++[40]) fs [41],rfl,⟨iM,rfl,rfl⟩,⟨([100,101,99,108,32]++nm++[40]),[41],fs,rfl,⟨Tq.2 q2,oM,oM⟩,rfl⟩,(by (try simp only [Ta,Te,Tg]);omega),?_⟩;(conv=>whnf);refine ⟨dM,dM,wN ?_⟩;refine ⟨dM,dM,wN ?_⟩;refine ⟨L++Vo ([100,101,99,108,32]++nm++[40]) fs [41],[32,105,110,112,117,116],rfl,⟨.inr rfl,rfl,rfl⟩,⟨[[32,105,110,112,117,116]],rfl,sM,sM,sM⟩,(by (try simp only [Ta,Te,Tg]);omega),?_⟩;(conv=>whnf)
       (repeat (refine ⟨rfl,?_⟩;conv=>whnf))
       conv=>whnf
       refine Vh ?_;refine ⟨dM,dM,wN ?_⟩;refine ⟨dM,dM,wN ?_⟩;refine ⟨L++Vo ([100,101,99,108,32]++nm++[40]) fs [41]++[32,105,110,112,117,116],[32,111,117,116,112,117,116],rfl,⟨.inr rfl,rfl,rfl⟩,⟨[[32,111,117,116,112,117,116]],rfl,sM,sM,sM⟩,(by (try simp only [Ta,Te,Tg]);omega),?_⟩;(conv=>whnf)
       (repeat (refine ⟨rfl,?_⟩;conv=>whnf))
       conv=>whnf
       refine Vh ?_;refine ⟨dM,dM,wN ?_⟩;refine ⟨dM,dM,wN ?_⟩;refine ⟨L++Vo ([100,101,99,108,32]++nm++[40]) fs [41]++[32,105,110,112,117,116]++[32,111,117,116,112,117,116],[32,105,110,108,105,110,101],rfl,⟨.inr rfl,rfl,rfl⟩,⟨[[32,105,110,108,105,110,101]],rfl,sM,sM,sM⟩,(by (try simp only [Ta,Te,Tg]);omega),?_⟩;(conv=>whnf)
       (repeat (refine ⟨rfl,?_⟩;conv=>whnf))
       conv=>whnf
       refine Vh ?_;refine ⟨L++Vo ([100,101,99,108,32]++nm++[40]) fs [41]++[32,105,110,112,117,116]++[32,111,117,116,112,117,116]++[32,105,110,108,105,110,101],[10],rfl,⟨.inr rfl,rfl,rfl⟩,⟨[[10]],rfl,sM,sM,sM⟩,(by (try simp only [Ta,Te,Tg]);omega),?_⟩;exact mq30
     have ac:i=rels.length:=by
      have du:(rels.map (ZF pl)).length=rels.length:=Td ..;have ac:¬(i:Int)<(rels.map (ZF pl)).length:=ac;rw [du] at ac;omega
     subst ac;rw [Sj];rcases hP with rfl | rfl
     all_goals
      conv=>whnf
      exact ⟨_,rfl,rfl,iM⟩
   intro vs σ hI
   obtain ⟨P,rfl,rfl,hP⟩:=hI;(conv=>whnf);rcases hP with rfl | rfl
   all_goals
    conv=>whnf
    refine ⟨⟨0,_,rfl,zN,iM,oM⟩,?_⟩;intro vs σ hI
    obtain ⟨i,P,rfl,rfl,hP,hi⟩:=hI;(conv=>whnf);refine ZEH (fun ac=>?_) (fun ac=>?_)
    ·have du:(rules.map (Zy pl)).length=rules.length:=Td ..;have ac:i<rules.length:=lzI du ac;have hg:=Zr wRu rules i ac;have cn:=ZdJ Zrn ac;have ak:=ZjZ Zrn rules (i+1);have cj:=TE ac;obtain ⟨L,hL⟩:∃L,l++(tys.map tyT).flatten++(rels.map reT).flatten++((rules.take i).map Zrn).flatten=L:=⟨_,rfl⟩
     have x8:L.length=(l++(tys.map tyT).flatten++(rels.map reT).flatten).length+((rules.take i).map Zrn).flatten.length:=by rw [<- hL,Ta]
     (try simp only [Ta] at x8)
     rw [cn,Ta] at ak;rw [hL];obtain ⟨x,hX⟩:∃x,rules[i]=x:=⟨_,rfl⟩
     rw [hX] at hg cj cn ak;obtain ⟨head,as',bd,at'⟩:=x;have jp:l++(tys.map tyT).flatten++(rels.map reT).flatten++((rules.take (i+1)).map Zrn).flatten=L++Zrn ⟨head,as',bd,at'⟩:=by rw [cn,<- To,hL]
     have bi:(rules.map (Zy pl))[((i:Nat):Int).toNat]?=some (Zy pl ⟨head,as',bd,at'⟩):=by simp [ac,hX]
     have hw:wRu ⟨head,as',bd,at'⟩<=n:=oM;have hT:Zrn ⟨head,as',bd,at'⟩=(ruT ⟨head,as',bd,at'⟩)++[10]:=rfl;rw [hT] at ak;simp only [Ta,Te,Tg] at ak;(conv=>whnf);refine ⟨_,oM,bi,?_⟩;rcases hP with rfl | rfl
     all_goals
      conv=>whnf
      refine ⟨L,(ruT ⟨head,as',bd,at'⟩),rfl,⟨iM,rfl,rfl⟩,⟨pl,⟨head,as',bd,at'⟩,rfl,⟨m3 _ cj,hw,hn⟩,rfl⟩,(by (try simp only [Ta,Te,Tg]);omega),?_⟩;(conv=>whnf);refine ⟨L++(ruT ⟨head,as',bd,at'⟩),[10],rfl,⟨.inr rfl,rfl,rfl⟩,⟨[[10]],rfl,sM,sM,sM⟩,(by (try simp only [Ta,Te,Tg]);omega),?_⟩;(conv=>whnf);refine Zi ?_;refine ⟨⟨i+1,_,rfl,(by rw [jp,hT];simp only [To];rfl),.inr rfl,oM⟩,?_⟩;exact lzM oM
    have ac:i=rules.length:=by
     have du:(rules.map (Zy pl)).length=rules.length:=Td ..;have ac:¬(i:Int)<(rules.map (Zy pl)).length:=ac;rw [du] at ac;omega
    subst ac;rw [Sj];rcases hP with rfl | rfl
    all_goals
     conv=>whnf
     exact h _ iM
 exact h.elim
def cWU (hN:NumOK w0 nG) (hL:LexC w0 nG) (n:Nat):PC w0 nG 34 (ZBE n) :=
 ZCF ⟨Zar,Zub,ZEj _,cWR hN hL _,trivial⟩
def Zxt {z:Bs} {c:UInt8} (hc:c.toNat<128):pk (c::z)=((c.toNat:Int),1):=by
 have e:Lib.decodeL (c::z)=(c.toNat,1):=by
  rw [Lib.decodeL_N];unfold Lib.decodeN;rw [Tj (by simpa using hc)];simp
 unfold pk
 rw [e,Tf sO]
structure Fol (c:UInt8) (z:Bs):Prop where
 low:c.toNat<128
 let':Zj c.toNat=false
 dig:Zq c.toNat=false
 dot:c=46->Zj (pk z).1=false
def Fol.pk {c:UInt8} {z:Bs} (h:Fol c z):Lex.pk (c::z)=((c.toNat:Int),1):=Zxt h.low
inductive Pc where
 | blank (b:UInt8) | tok (s:Bs) (t:T0)
def Pc.bs:Pc->Bs | .blank b=>[b] | .tok s _=>s
def Pc.ts:Pc->Ts | .blank _=>[] | .tok _ t=>[t]
def bsP (l:List Pc):Bs:=(l.map Pc.bs).flatten
def tsP (l:List Pc):Ts:=(l.map Pc.ts).flatten
@[simp] theorem bsP_nil:bsP []=[]:=rfl
@[simp] theorem tsP_nil:tsP []=[]:=rfl
@[simp] theorem bsP_cons (p:Pc) (l:List Pc):bsP (p::l)=p.bs++bsP l:=by simp [bsP]
@[simp] theorem tsP_cons (p:Pc) (l:List Pc):tsP (p::l)=p.ts++tsP l:=by simp [tsP]
@[simp] theorem bsP_app (l m:List Pc):bsP (l++m)=bsP l++bsP m:=by simp [bsP]
@[simp] theorem tsP_app (l m:List Pc):tsP (l++m)=tsP l++tsP m:=by simp [tsP]
def nmP (s:Bs):Pc:=.tok s (nmT s)
def sgP (s:Bs):Pc:=.tok s (sgT s)
def Znh:∀d:Fin 16,Zgn (ZiX d.val)=d.val/\Wa true (ZiX d.val)=true/\(d.val<10->Wa false (ZiX d.val)=true)/\ZiX d.val≠120:=by decide +kernel
def ZsE (base:Nat) (l:Bs) (b:UInt8):WJ base (l++[b])=WJ base l * base+Zgn b:=by simp [WJ]
def Zbj {base:Nat} (hb:base=10\/base=16):∀(f n:Nat),n<f->WJ base (JN base f n)=n/\(∀b∈JN base f n,Wa (decide (base=16)) b=true/\b≠120)/\JN base f n≠[]/\∀k,n<base ^ (k+1)->(JN base f n).length<=k+1
 | 0,n,h=>oM
 | f+1,n,h=>by
  have hd:∀d,d<base->Zgn (ZiX d)=d/\Wa (decide (base=16)) (ZiX d)=true/\ZiX d≠120:=fun d hd=>by
   obtain ⟨h1,h2,h3,h4⟩:=Znh ⟨d,oM⟩;refine ⟨h1,?_,h4⟩;rcases hb with rfl | rfl
   ·exact h3 hd
   exact h2
  rw [JN]
  by_cases c:n<base
  ·rw [Tj c];obtain ⟨h1,h2,h3⟩:=hd n c;refine ⟨by simpa [WJ] using h1,fun b hb=>?_,sM,fun k _=>sM⟩;rw [List.mem_singleton.1 hb];exact ⟨h2,h3⟩
  rw [Tf c];have ab:n / base<n:=Nat.div_lt_self oM oM;obtain ⟨i1,i2,i3,i4⟩:=Zbj hb f (n / base) oM;obtain ⟨h1,h2,h3⟩:=hd (n % base) (Nat.mod_lt _ oM);refine ⟨?_,fun b hb=>?_,sM,fun k hk=>?_⟩
  ·rw [ZsE,i1,h1,Nat.mul_comm];exact Nat.div_add_mod n base
  ·rcases TH.1 hb with hb | hb
   ·exact i2 b hb
   rw [List.mem_singleton.1 hb];exact ⟨h2,h3⟩
  cases k with
  | zero=>simp at hk;omega
  | succ k =>
  have:n / base<base ^ (k+1):=by
   rw [Nat.div_lt_iff_lt_mul oM];rw [Nat.pow_succ] at hk;exact hk
  have:=i4 k this;exact mq88
def spP:Pc:=.blank 32
def nlP:Pc:=.blank 10
@[simp] theorem bs_sp:spP.bs=[32]:=rfl
@[simp] theorem bs_nl:nlP.bs=[10]:=rfl
@[simp] theorem ts_sp:spP.ts=[]:=rfl
@[simp] theorem ts_nl:nlP.ts=[]:=rfl
@[simp] theorem bs_nm (s:Bs):(nmP s).bs=s:=rfl
@[simp] theorem bs_sg (s:Bs):(sgP s).bs=s:=rfl
@[simp] theorem ts_nm (s:Bs):(nmP s).ts=[nmT s]:=rfl
@[simp] theorem ts_sg (s:Bs):(sgP s).ts=[sgT s]:=rfl
@[simp] theorem bs_tok (s:Bs) (t:T0):(Pc.tok s t).bs=s:=rfl
@[simp] theorem ts_tok (s:Bs) (t:T0):(Pc.tok s t).ts=[t]:=rfl
def ts2 (p:Nat×List Pc):Nat×Ts:=(p.1,tsP p.2)
def ZdK:∀(f:Nat) (r out q:Bs),VO f r out=some q->q.length<=out.length+4 * r.length
 | 0,r,out,q,h=>by simp [VO] at h
 | f+1,r,out,q,h=>by
  unfold VO at h
  split at h
  ·cases h;omega
  rename_i hr
  have hd:=Lib.decodeL_le r hr;have hg:=Zgw r;split at h
  ·have:=ZdK f _ _ _ h;simp only [Ta,Te,Tg,TG] at this;omega
  split at h
  ·cases h
  have:=ZdK f _ _ _ h;have h4:=ZB2 (Lib.decodeL r).1;simp only [Ta,TG] at this;omega
def ZsF (s:Bs):(ZvQ s).length<=4 * s.length+2:=by
 unfold ZvQ Jj
 split
 ·cases hq:VO (s.length+1) s [34] with
  | none=>simp
  | some q =>
  have:=ZdK _ _ _ _ hq;simp only [Sb,Sl,Ta,Te,Tg] at this |-;omega
 simp
def ZsG {n:Int} (h0:-9223372036854775808<=n) (h1:n<9223372036854775808):(Zfo n).length<=20:=by
 unfold Zfo
 split
 ·have h:=(Zbj (base:=16) (.inr rfl) ((n+18446744073709551616).toNat+1) (n+18446744073709551616).toNat oM).2.2.2 15 (by
   have:(16:Nat) ^ (15+1)=18446744073709551616:=dM;omega)
  simp only [Ta,Te,Tg,Vn];omega
 have h:=(Zbj (base:=10) (.inl rfl) (n.toNat+1) n.toNat oM).2.2.2 18 (by
  have:(10:Nat) ^ (18+1)=10000000000000000000:=dM;omega)
 rw [Vn];omega
def ZsH (op:Nat):(VP op).length<=6:=by
 by_cases h:op<26
 ·have hk:∀o:Fin 26,(VP o.val).length<=6:=by decide
  exact hk ⟨op,h⟩
 unfold VP
 (repeat rw [Tf oM])
 decide
def Zuc (l:List (Nat×Bs)):Nat:=(l.map fun p=>p.2.length+4).sum
def Vq (l:List Bs):(Zf cmm l).length<=(l.map fun s=>s.length+4).sum:=by
 match l with
 | []=>exact T7 _
 | [x]=>simp [Zf]
 | x::y::l =>
  have ih:=Vq (y::l);rw [Zf]
  ·simp only [Ta,Tx,List.sum_cons] at ih |-;have:cmm.length=2:=rfl;omega
  intro h;cases h
def ZgM (w:Nat) (p:Nat×Bs):(Zsm w p).length<=p.2.length+2:=by
 unfold Zsm;split
 ·exact mq88
 omega
def Zp2 (w1 w2:Nat) (sep:Bs) (l:List (Nat×Bs)):(exA w1 w2 sep l).length<=Zuc l+sep.length:=by
 match l with
 | []=>simp [exA]
 | [a]=>have:=ZgM w1 a;simp only [exA,Zuc,Tx,TM,List.sum_cons,List.sum_nil];omega
 | a::b::l =>
  have h1:=ZgM w1 a;have h2:=ZgM w2 b;simp only [exA,Zuc,Tx,List.sum_cons,Ta];omega
def Zp3 (op:Nat) (t:Bs) (n:Int) (l:List (Nat×Bs)) (h0:-9223372036854775808<=n) (h1:n<9223372036854775808):(exN op t n l).length<=Zuc l+5 * t.length+30:=by
 have hw:=ZsH op;have hn:=ZsG h0 h1;have hq:=ZsF t;have hc:(Zf cmm (l.map Prod.snd)).length<=Zuc l:=by
  have:=Vq (l.map Prod.snd);rw [SE] at this;exact this
 unfold exN
 split
 ·have:=Zp2 (ZS op) (ZS op+1) ([32]++(VP op++[32])) l;simp only [Ta,Te,Tg] at this;omega
 split
 ·have:=Zp2 5 5 [] l;simp only [Ta,Tg] at this |-;omega
 split
 ·exact mq88
 split
 ·exact mq88
 split
 ·simp only [Ta,Te,Tg];split
  ·simp only [Tg];omega
  exact mq88
 split
 ·omega
 split
 ·omega
 split
 ·simp only [Te,Tg];omega
 split
 ·simp only [Te,Tg];omega
 omega
mutual
def ZdL:∀e:Ex,Zfp e=true->(exT e).length+4<=64 * wE e
 | .mk op t n l a,h=>by
  obtain ⟨r1,r2⟩:=ZdG h;have ih:=Zbk l (by rw [We];exact Tq.2 r2);have:=Zp3 op t n (ZpJ l) r1.1 r1.2;rw [exT,wE];omega
def Zbk:∀l:List Ex,Zew l=true->Zuc (ZpJ l)<=64 * wEs l
 | [],h=>by rw [ZpJ];simp [Zuc]
 | x::l,h=>by
  rw [Zew,Tm] at h;have h1:=ZdL x h.1;have h2:=Zbk l h.2;rw [ZpJ,wEs];unfold Zuc at h2 |-
  simp only [Tx,List.sum_cons];omega
end
def Zp4 {α:Type} {T:α->Bs} {w:α->Nat}:∀l:List α,(∀x∈l,(T x).length+4<=64 * w x)->(l.map fun x=>(T x).length+4).sum<=64 * szS w l
 | [],h=>T7 _
 | x::l,h=>by
  have h1:=h x sM;have h2:=Zp4 l fun y hy=>h y (Tz _ hy)
  simp only [Tx,List.sum_cons,szS];omega
def JO {α:Type} {T:α->Bs} {w:α->Nat} {l:List α} (h:∀x∈l,(T x).length+4<=64 * w x):(Zf cmm (l.map T)).length<=64 * szS w l:=by
 have h1:=Vq (l.map T);rw [SE] at h1;exact TZ h1 (Zp4 l h)
def WG {α:Type} {T:α->Bs} {w:α->Nat}:∀{l:List α},(∀x∈l,(T x).length+4<=64 * w x)->((l.map T).flatten).length<=64 * szS w l
 | [],h=>T7 _
 | x::l,h=>by
  have h1:=h x sM;have h2:=WG (l:=l) fun y hy=>h y (Tz _ hy)
  simp only [Tx,List.flatten_cons,Ta,szS];omega
def Zj0:∀{l:List Ex},(∀x∈l,Zfp x=true)->(Zlt l).length+(Zsn l.tail).length<=64 * szS wE l/\(Zlt l).length+(Zlt l.tail).length<=64 * szS wE l
 | [],h=>by simp [Zlt,Zsn]
 | x::l,h=>by
  have h1:=ZdL x (h x sM);have h2:=WG (T:=fun e=>[32]++exT e) (w:=fun e=>wE e) (l:=l) fun y hy=>by
   have:=ZdL y (h y (Tz _ hy))
   cases y with
   | mk o t n a b =>
   have hw:1<=wE (.mk o t n a b):=by rw [wE];omega
   have h3:=Zp3 o t n (ZpJ a) (ZdG (h _ (Tz _ hy))).1.1 (ZdG (h _ (Tz _ hy))).1.2;have h4:=Zbk a (by rw [We];exact Tq.2 (ZdG (h _ (Tz _ hy))).2);simp only [Ta,Te,Tg];rw [exT,wE];omega
  refine ⟨?_,?_⟩
  ·show (exT x).length+(Zsn l).length<=64 * szS wE (x::l);rw [szS];unfold Zsn
   have:szS (fun e=>wE e) l=szS wE l:=rfl;omega
  show (exT x).length+(Zlt l).length<=64 * szS wE (x::l)
  cases l with
  | nil=>rw [szS,szS];simp [Zlt];omega
  | cons y l =>
  have h5:=ZdL y (h y sM);rw [szS,szS];simp only [Zlt];omega
def Zxu (op:Nat):(ZvR op).length<=4:=by unfold ZvR;(repeat' split) <;> decide
def Zxv (op:Nat):(ZjU op).length<=5:=by unfold ZjU;(repeat' split) <;> decide
def Zin {fr fin:Bs} {l:List Ex} (h:∀x∈l,Zfp x=true):(argT fr fin l).length<=fr.length+64 * szS wE l+fin.length:=by
 have:=JO (T:=exT) (w:=wE) fun x hx=>ZdL x (h x hx)
 unfold argT Zzj
 simp only [Ta];omega
mutual
def Zxw:∀x:Li,Zi0 x=true->(liT x).length+4<=64 * wL x
 | .mk op rel args body a,h=>by
  obtain ⟨r1,r2⟩:=ZpW h;have h1:=ZgN body (by rw [WV];exact Tq.2 r2);have h2:=Zin (fr:=[40]) (fin:=[41]) r1;obtain ⟨h3,h4⟩:=Zj0 r1;have h5:=Zxu op;have h6:=Zxv op;have h7:=Vq (Zrm body);rw [liT,wL];simp only [Te,Tg] at h2;split
  ·exact mq88
  split
  ·simp only [Ta];omega
  split
  ·simp only [Ta];omega
  exact mq88
def ZgN:∀l:List Li,ZgL l=true->((Zrm l).map fun s=>s.length+4).sum<=64 * wLs l
 | [],h=>by rw [Zrm];simp
 | x::l,h=>by
  rw [ZgL,Tm] at h;have h1:=Zxw x h.1;have h2:=ZgN l h.2;rw [Zrm,wLs];simp only [Tx,List.sum_cons];omega
end
def Zxx {r:Ru} (h:ZdH r=true):(ruT r).length+10<=64 * wRu r:=by
 simp only [ZdH,Tm] at h;have r1:=Tq.1 h.1;have r2:=Tq.1 h.2;have h1:=Zin (fr:=[40]) (fin:=[41]) r1;have h2:=ZgN r.body (by rw [WV];exact h.2);have h3:=Vq (Zrm r.body);rw [X0] at h2;unfold ruT wRu
 simp only [Te,Tg] at h1;split
 ·exact mq88
 exact mq88
def Zxy (f:Fi):(fiT f).length+4<=64 * wFi f:=by
 unfold fiT wFi;simp only [Ta,Te,Tg];omega
def Zj1 (fr fin:Bs) (l:List Fi):(Vo fr l fin).length<=fr.length+64 * szS wFi l+fin.length:=by
 have:=JO (T:=fiT) (w:=wFi) (l:=l) fun x _=>Zxy x
 unfold Vo
 simp only [Ta];omega
def Zxz (c:Ca):(caT c).length+4<=64 * wCa c:=by
 have:=Zj1 (c.name++[32,123]) [125] c.fields;unfold caT wCa
 simp only [Ta,Te,Tg] at this |-;omega
def Zfr (l:List Bs):(Zf [32,124,32] l).length<=(l.map fun s=>s.length+4).sum:=by
 match l with
 | []=>exact T7 _
 | [x]=>simp [Zf]
 | x::y::l =>
  have ih:=Zfr (y::l);rw [Zf]
  ·simp only [Ta,Tx,List.sum_cons,Te,Tg] at ih |-;omega
  intro h;cases h
def ZxA (t:Ty):(tyT t).length+4<=64 * wTy t:=by
 have h1:=Zj1 [32,61,32,91] [93] t.fields;have h2:=Zfr (t.cases.map caT);rw [SE] at h2;have h3:=Zp4 (T:=caT) (w:=wCa) t.cases fun x _=>Zxz x
 have h4:(t.cases.map fun x=>(caT x).length+4).sum=(t.cases.map ((fun s:Bs=>s.length+4)∘caT)).sum:=rfl;rw [h4] at h3;unfold tyT wTy
 simp only [Te,Tg] at h1;simp only [Ta,Te,Tg];split
 ·exact mq88
 split
 ·omega
 exact mq88
def ZxB (d:Re):(reT d).length+4<=64 * wRe d:=by
 have h1:=Zj1 ([100,101,99,108,32]++(d.name++[40])) [41] d.fields;have hi:∀(b:Bool) (s:Bs),(if b then s else []).length<=s.length:=fun b s=>by cases b <;> simp
 have i1:=hi d.inn [32,105,110,112,117,116];have i2:=hi d.out [32,111,117,116,112,117,116];have i3:=hi d.inl [32,105,110,108,105,110,101];unfold reT wRe
 simp only [Ta,Te,Tg] at h1 i1 i2 i3 |-;omega
def Zj2 (l:List Bs):(Zzk l).length<=2+64 * szS wBs l:=by
 have h1:=JO (T:=fun s:Bs=>s) (w:=wBs) (l:=l) fun x _=>by unfold wBs;omega
 rw [List.map_id'] at h1;unfold Zzk
 split
 ·simp
 exact mq88
def ZxC (i:Ini):(inT i).length+4<=64 * wIn i:=by
 have:=Zj2 i.types;unfold inT wIn
 exact mq88
def ZxD (o:Ov):(ovT o).length+4<=64 * wOv o:=by
 unfold ovT wOv
 exact mq88
mutual
def ZgO:∀u:Un,Zlv u=true->(unT u).length+4<=64 * wUn u
 | .mk a b c d e f,h=>by
  simp only [Zlv,Tm] at h;have r1:=Tq.1 h.1;have h1:=WG (T:=tyT) (w:=wTy) (l:=a) fun x _=>ZxA x
  have h2:=WG (T:=reT) (w:=wRe) (l:=b) fun x _=>ZxB x
  have h3:=WG (T:=fun r=>ruT r++[10]) (w:=wRu) (l:=c) fun x hx=>by
   have:=Zxx (r1 x hx);exact mq88
  have h4:=Zlw d h.2;have h5:=WG (T:=inT) (w:=wIn) (l:=e) fun x _=>ZxC x
  have h6:=WG (T:=ovT) (w:=wOv) (l:=f) fun x _=>ZxD x
  rw [unT,wUn];simp only [Ta];omega
def ZxE:∀c:Co,ZpX c=true->(coT c).length+4<=64 * wCo c+64
 | .mk nm ps base tys u a,h=>by
  rw [ZpX] at h;have h1:=ZgO u h;have h2:=Zj2 ps;have h3:=Zj2 tys;rw [coT,wCo];split
  ·exact mq88
  exact mq88
def Zlw:∀l:List Co,ZdI l=true->((Zyz l).flatten).length<=64 * ZpL l
 | [],h=>by rw [Zyz];simp
 | x::l,h=>by
  rw [ZdI,Tm] at h;have h1:=ZxE x h.1;have h2:=Zlw l h.2;rw [Zyz,ZpL];simp only [List.flatten_cons,Ta];omega
end
def ZsI (n:Nat):Zp:=fun args σ K=>match args,σ with
 | [.agg c],⟨[],[],0⟩=>∃pl x,c=(XV pl x).map .d/\((Zeu x=true->Zlv x=true)/\wUn x<=n/\n<=16777216/\noC x) /\
   ((Zeu x=false->K (.ret (.tuple [.d (.str []),.d (.int .i64 160)])) ⟨[],[],0⟩)/\(Zeu x=true->∀r,UA 65536 16384 JE (unT x)=r->K (.ret (.tuple [.d (.str (Zbi (unT x) r).1),.d (.int .i64 (Zbi (unT x) r).2)])) ⟨[],[],0⟩))
 | _,_=>False
def ZAt {n:Nat}:OKw w0 nG [(33,YR (YC XV) Zeu wUn n),(34,ZBE n),(36,Zav),(35,Zln),(37,Zp0)] 20 (ZsI n):=by
 refine pwo Tryz.func20 fun args σ K h=>?_
 unfold ZsI at h
 split at h
 ·obtain ⟨pl,⟨u1,u2,u3,u4,u5,u6⟩,rfl,⟨vb,hz,hn,hnc⟩,ha,hb⟩:=h;refine pwv [] 0 true ?_;refine ⟨pl,(.mk u1 u2 u3 u4 u5 u6),rfl,⟨hz,oM⟩,fun b co=>?_⟩
  cases b with
  | false =>
   conv=>whnf
   exact ha co
  | true =>
  have h1:=vb co;have h2:=ZgO _ h1;have hb:=hb co;(conv=>whnf);refine ⟨[],unT (.mk u1 u2 u3 u4 u5 u6),rfl,⟨.inl rfl,rfl,rfl⟩,⟨pl,(.mk u1 u2 u3 u4 u5 u6),rfl,⟨by rw [ZBD,co,h1];rfl,hz,oM,hnc⟩,rfl⟩,by simp only [Tg];omega,fun p' iu=>?_⟩;obtain ⟨T,hT⟩:∃T,unT (.mk u1 u2 u3 u4 u5 u6)=T:=⟨_,rfl⟩
  rw [hT] at hb h2 |-;rcases iu with rfl | rfl
  all_goals
   conv=>whnf
   refine ⟨T,⟨rfl,rfl,rfl,iM,oM⟩,?_⟩;(conv=>whnf);refine ⟨oM,fun x hx=>?_⟩;have hb:=hb x hx
   cases x with
   | ok v L =>
    obtain ⟨v1,v2,v3,v4,v5,v6⟩:=v;unfold ZDr
    dsimp only;(conv=>whnf);refine ⟨T,⟨rfl,rfl,rfl,iM,oM⟩,?_⟩;(conv=>whnf);refine ⟨fun g=>absurd g dM,fun _=>wN ?_⟩;exact hb
   | err p c =>
   conv=>whnf
   refine ⟨T,⟨rfl,rfl,rfl,iM,oM⟩,?_⟩;(conv=>whnf);refine ⟨fun g=>wN ?_,fun g=>wN ?_⟩
   ·rw [Zbi,Tj oM] at hb;exact hb
   rw [Zbi,Tf oM] at hb;exact hb
 exact h.elim
def ZEk (hg:GlobOK w0 nG) (hN:NumOK w0 nG) (hL:LexC w0 nG) (n:Nat):PC w0 nG 20 (ZsI n) :=
 ZAt ⟨ZDB hL n,cWU hN hL n,Zfq,ZCj hg,Zxk,trivial⟩
def Zni {α:Type} (enc:Pl->α->List D) (c:Nat->α->Prop) (f:α->Bs×Nat) (n:Nat):Zp:=fun args σ K=>match args,σ with
 | [.agg cs],⟨[],[],0⟩=>∃pl e,cs=(enc pl e).map .d/\(c n e/\n<=16777216)/\∀s k,f e=(s,k)->K (.ret (.tuple [.d (.str s),.d (.int .i64 (k:Nat))])) ⟨[],[],0⟩
 | _,_=>False
def Zaw (x:Un):Bs×Nat:=if Zeu x=true then Zbi (unT x) (UA 65536 16384 JE (unT x)) else ([],160)
def JP (n:Nat) (x:Un):Prop:=Zlv x=true/\wUn x<=n/\(unT x).length<1073741824/\noC x
def ZxF (hg:GlobOK w0 nG) (hN:NumOK w0 nG) (hL:LexC w0 nG) (n:Nat):PC w0 nG 20 (Zni XV JP Zaw n):=(ZEk hg hN hL n).weaken1 fun args σ K h=>by
 unfold Zni at h
 unfold ZsI
 split at h
 ·obtain ⟨pl,e,h1,⟨⟨h2,h3,h4,h6⟩,h5⟩,h⟩:=h;exact ⟨pl,e,h1,⟨fun _=>h2,h3,oM,h6⟩,fun g=>h _ _ (by rw [Zaw,Tf (by rw [g];simp)]),fun g x hx=>h _ _ (by rw [Zaw,Tj g,hx])⟩
 exact h.elim
def Zp5 {α:Type} (enc:Pl->α->List D) (sz:α->Nat) (bd:Int->Int) (m:Nat):Zp:=fun args σ K=>match args,σ with
 | [.agg c,.d (.int .i64 ao)],⟨[],[],0⟩=>∃pl x B,c=(enc pl x).map .d/\((0<=ao/\ao<m)/\m<=1000000/\sz x<=B/\B<=1099511627776)/\∀r,0<=r->r<=bd ao->K (.ret (.d (.int .i64 r))) ⟨[],[],0⟩
 | _,_=>False
def Zb8 {α:Type} (enc:Pl->α->List D) (sz:α->Nat) (bd:Int->Int) (m:Nat):Zp:=fun args σ K=>match args,σ with
 | [.d (.sl r1),.d (.int .i64 ao)],⟨[],[],0⟩=>∃pl l B,r1=l.map (enc pl)/\((0<=ao/\ao<m)/\m<=1000000/\szS sz l<=B/\B<=1099511627776)/\∀r,0<=r->r<=bd ao->K (.ret (.d (.int .i64 r))) ⟨[],[],0⟩
 | _,_=>False
def bd2 (m:Int):Int:=2 * m+1
def bd3 (m:Int):Int:=3 * m+1
def bd5 (m:Int):Int:=5 * m+2
def ZAu {m:Nat}:OKw w0 nG [(17,spB (Zp5 ZQ szE bd2) m)] 17 (Zp5 ZQ szE bd2 m):=by
 refine pwo Tryz.func17 fun args σ K h=>?_
 unfold Zp5 at h
 split at h
 ·obtain ⟨pl,⟨a1,a2,a3,a4,a5⟩,B,rfl,⟨⟨z6,oz⟩,z7,hz,hB⟩,h⟩:=h
  rename_i ao
  simp only [szE] at hz;have ic:(Zm pl a4).length=a4.length:=by rw [Zb,Td]
  have hsz:=Zlp a4;unfold bd2 at h
  refine pwv [(3,⟨[6,5],[1,2],fun vs σ=>∃(i:Nat) (nn:Int),vs=[.d (.int .i64 i),.d (.int .i64 nn)]/\σ=⟨[.cells 55 ((ZQ pl (.mk a1 a2 a3 a4 a5)).map .d)],[],0⟩/\i<=a4.length/\1<=nn/\nn<=2 * ao+1,fun vs _=>match vs with | [.d (.int _ i),_]=>((a4.length:Nat) - i:Int).toNat | _=>0⟩)] 0 false ?_
  (repeat (first | (refine oiO ?_;conv=>whnf) | (refine ⟨_,oM,bi,?_⟩;conv=>whnf)))
  refine ⟨⟨0,_,rfl,rfl,oM,oM,oM⟩,?_⟩;intro vs σ hI
  obtain ⟨i,nn,rfl,rfl,hi,dk,ew⟩:=hI;(conv=>whnf);refine ZEH (fun ac=>?_) (fun ac=>?_);rotate_left
  ·exact mq144
  have ac:i<a4.length:=lzI ic ac;(conv=>whnf);refine ZEH (fun ii=>?_) (fun ii=>?_);rotate_left
  ·exact mq144
  conv=>whnf
  obtain ⟨eA,hA⟩:∃e,a4[i]=e:=⟨_,rfl⟩
  have hg:=Zlq a4 i ac;obtain ⟨b1,b2,b3,b4,b5⟩:=eA;rw [hA] at hg;have bi:(Zm pl a4)[((i:Nat):Int).toNat]?=some (ZQ pl (.mk b1 b2 b3 b4 b5)):=by rw [Zb];simp [ac,hA]
  (repeat (first | (refine oiO ?_;conv=>whnf) | (refine ⟨_,oM,bi,?_⟩;conv=>whnf)))
  refine ⟨oM,pl,.mk b1 b2 b3 b4 b5,B,rfl,⟨⟨oM,oM⟩,oM,oM,hB⟩,fun r lk lz=>wN ?_⟩;unfold bd2 at lz
  refine Zi ?_;refine Zi ?_;refine ⟨⟨i+1,_,rfl,rfl,oM,oM,oM⟩,?_⟩;show ((a4.length:Nat) - ((i:Int)+1)).toNat<((a4.length:Nat) - (i:Int)).toNat;omega
 exact h.elim
def cZE:∀m,PC w0 nG 17 (Zp5 ZQ szE bd2 m)
 | 0=>ZAu ⟨ZB (Ze Tryz.func17 kR rfl),trivial⟩
 | m+1=>ZAu ⟨ZC (sp:=Zp5 ZQ szE bd2) (cZE m),trivial⟩
def ZAv {m:Nat} :PC w0 nG 10 (Zb8 (fun _=>Zk) sz0 bd3 m):=by
 refine pwe Tryz.func10 fun args σ K h=>?_
 unfold Zb8 at h
 split at h
 ·obtain ⟨pl,l,B,rfl,⟨⟨z6,oz⟩,z7,hz,hB⟩,h⟩:=h
  rename_i ao
  have ic:(l.map Zk).length=l.length:=Td ..;have hsz:=Zn (sz0 (α:=Fi)) l;unfold bd3 at h
  refine pwv [(3,⟨[6,5],[0,1],fun vs σ=>∃(i:Nat) (nn:Int),vs=[.d (.int .i64 i),.d (.int .i64 nn)]/\σ=⟨[],[],0⟩/\i<=l.length/\0<=nn/\nn<=3 * ao+1,fun vs _=>match vs with | [.d (.int _ i),_]=>((l.length:Nat) - i:Int).toNat | _=>0⟩)] 0 false ?_;refine ⟨⟨0,0,rfl,rfl,oM,oM,oM⟩,?_⟩;intro vs σ hI
  obtain ⟨i,nn,rfl,rfl,hi,dk,ew⟩:=hI;(conv=>whnf);refine ZEH (fun ac=>?_) (fun ac=>?_);rotate_left
  ·exact mq144
  have ac:i<l.length:=lzI ic ac;(conv=>whnf);refine ZEH (fun ii=>?_) (fun ii=>?_);rotate_left
  ·exact mq144
  conv=>whnf
  obtain ⟨eA,hA⟩:∃e,l[i]=e:=⟨_,rfl⟩
  obtain ⟨b1,b2⟩:=eA;have bi:(l.map Zk)[((i:Nat):Int).toNat]?=some (Zk ⟨b1,b2⟩):=by simp [ac,hA]
  (repeat (first | (refine oiO ?_;conv=>whnf) | (refine ⟨_,oM,bi,?_⟩;conv=>whnf)))
  exact mq189
 exact h.elim
def ZAw {m:Nat}:OKw w0 nG [(17,Zp5 ZQ szE bd2 m),(18,spB (Zb8 Y5 szL bd2) m)] 18 (Zb8 Y5 szL bd2 m):=by
 refine pwo Tryz.func18 fun args σ K h=>?_
 unfold Zb8 at h
 split at h
 ·obtain ⟨pl,l,B,rfl,⟨⟨z6,oz⟩,z7,hz,hB⟩,h⟩:=h
  rename_i ao
  have ic:(l.map (Y5 pl)).length=l.length:=Td ..;have hsz:=Zn szL l;unfold bd2 at h
  refine pwv [(3,⟨[6,5],[0,1],fun vs σ=>∃(i:Nat) (nn:Int),vs=[.d (.int .i64 i),.d (.int .i64 nn)]/\σ=⟨[],[],0⟩/\i<=l.length/\0<=nn/\nn<=2 * ao+1,fun vs _=>match vs with | [.d (.int _ i),_]=>((l.length:Nat) - i:Int).toNat | _=>0⟩),(7,⟨[7,5],[0,1,6],fun vs σ=>∃(i:Nat) (nn:Int),vs=[.d (.int .i64 i),.d (.int .i64 nn)]/\σ=⟨[],[],0⟩/\i<=B/\1<=nn/\nn<=2 * ao+1,fun vs _=>match vs with | [.d (.int _ i),_]=>((B:Nat) - i:Int).toNat | _=>0⟩)] 0 false ?_;refine ⟨⟨0,0,rfl,rfl,oM,oM,oM⟩,?_⟩;intro vs σ hI
  obtain ⟨i,nn,rfl,rfl,hi,dk,ew⟩:=hI;(conv=>whnf);refine ZEH (fun ac=>?_) (fun ac=>?_);rotate_left
  ·exact mq144
  have ac:i<l.length:=lzI ic ac;(conv=>whnf);refine ZEH (fun ii=>?_) (fun ii=>?_);rotate_left
  ·exact mq144
  conv=>whnf
  obtain ⟨eA,hA⟩:∃e,l[i]=e:=⟨_,rfl⟩
  have hg:=Zr szL l i ac;obtain ⟨b1,b2,ar,b4,b5⟩:=eA;rw [hA] at hg;simp only [szL,Xi] at hg;have bi:(l.map (Y5 pl))[((i:Nat):Int).toNat]?=some (Y5 pl (.mk b1 b2 ar b4 b5)):=by simp [ac,hA]
  have vw:(Zm pl ar).length=ar.length:=by rw [Zb,Td]
  have hs4:=Zn szE ar
  (repeat (first | (refine oiO ?_;conv=>whnf) | (refine ⟨_,oM,bi,?_⟩;conv=>whnf)))
  refine ⟨⟨0,_,rfl,rfl,oM,oM,oM⟩,?_⟩;intro vs' σ' yc
  obtain ⟨j,n2,rfl,rfl,hj,yd,ye⟩:=yc;(conv=>whnf)
  (repeat (first | (refine oiO ?_;conv=>whnf) | (refine ⟨_,oM,bi,?_⟩;conv=>whnf)))
  refine ZEH (fun ik=>?_) (fun ik=>?_);rotate_left
  ·exact mq160
  have ik:j<ar.length:=lzI vw ik;(conv=>whnf);refine ZEH (fun rc=>?_) (fun rc=>?_);rotate_left
  ·exact mq160
  exact mq38
 exact h.elim
def cZL:∀m,PC w0 nG 18 (Zb8 Y5 szL bd2 m)
 | 0=>ZAw ⟨cZE 0,ZB (Ze Tryz.func18 kR rfl),trivial⟩
 | m+1=>ZAw ⟨cZE _,ZC (sp:=Zb8 Y5 szL bd2) (cZL m),trivial⟩
def ZAy {m:Nat}:OKw w0 nG [(17,Zp5 ZQ szE bd2 m),(18,Zb8 Y5 szL bd2 m)] 11 (Zb8 Zy JL bd2 m):=by
 refine pwo Tryz.func11 fun args σ K h=>?_
 unfold Zb8 at h
 split at h
 ·obtain ⟨pl,l,B,rfl,⟨⟨z6,oz⟩,z7,hz,hB⟩,h⟩:=h
  rename_i ao
  have ic:(l.map (Zy pl)).length=l.length:=Td ..;have hsz:=Zn JL l;unfold bd2 at h
  refine pwv [(3,⟨[6,5],[0,1],fun vs σ=>∃(i:Nat) (nn:Int),vs=[.d (.int .i64 i),.d (.int .i64 nn)]/\σ=⟨[],[],0⟩/\i<=l.length/\0<=nn/\nn<=2 * ao+1,fun vs _=>match vs with | [.d (.int _ i),_]=>((l.length:Nat) - i:Int).toNat | _=>0⟩),(7,⟨[7,5],[0,1,6],fun vs σ=>∃(i:Nat) (nn:Int),vs=[.d (.int .i64 i),.d (.int .i64 nn)]/\σ=⟨[],[],0⟩/\i<=B/\1<=nn/\nn<=2 * ao+1,fun vs _=>match vs with | [.d (.int _ i),_]=>((B:Nat) - i:Int).toNat | _=>0⟩)] 0 false ?_;refine ⟨⟨0,0,rfl,rfl,oM,oM,oM⟩,?_⟩;intro vs σ hI
  obtain ⟨i,nn,rfl,rfl,hi,dk,ew⟩:=hI;(conv=>whnf);refine ZEH (fun ac=>?_) (fun ac=>?_);rotate_left
  ·exact mq144
  have ac:i<l.length:=lzI ic ac;(conv=>whnf);refine ZEH (fun ii=>?_) (fun ii=>?_);rotate_left
  ·exact mq144
  conv=>whnf
  obtain ⟨eA,hA⟩:∃e,l[i]=e:=⟨_,rfl⟩
  have hg:=Zr JL l i ac;obtain ⟨b1,ar,b4,b5⟩:=eA;rw [hA] at hg;simp only [JL,Xi] at hg;have bi:(l.map (Zy pl))[((i:Nat):Int).toNat]?=some (Zy pl (⟨b1,ar,b4,b5⟩:Ru)):=by simp [ac,hA]
  have vw:(Zm pl ar).length=ar.length:=by rw [Zb,Td]
  have hs4:=Zn szE ar
  (repeat (first | (refine oiO ?_;conv=>whnf) | (refine ⟨_,oM,bi,?_⟩;conv=>whnf)))
  refine ⟨⟨0,_,rfl,rfl,oM,oM,oM⟩,?_⟩;intro vs' σ' yc
  obtain ⟨j,n2,rfl,rfl,hj,yd,ye⟩:=yc;(conv=>whnf)
  (repeat (first | (refine oiO ?_;conv=>whnf) | (refine ⟨_,oM,bi,?_⟩;conv=>whnf)))
  refine ZEH (fun ik=>?_) (fun ik=>?_);rotate_left
  ·exact mq162
  have ik:j<ar.length:=lzI vw ik;(conv=>whnf);refine ZEH (fun rc=>?_) (fun rc=>?_);rotate_left
  ·exact mq162
  exact mq38
 exact h.elim
structure Pr where
 types:List Ty
 rels:List Re
 rules:List Ru
def UC (pl:Pl) (p:Pr):List D:=[.sl (p.types.map (Zs pl)),.sl (p.rels.map (ZF pl)),.sl (p.rules.map (Zy pl))]
def ZbW (p:Pr):Nat:=1+szS Zm9 p.types+szS ZjS p.rels+szS JL p.rules
def ZAA {m:Nat}:OKw w0 nG [(10,Zb8 (fun _=>Zk) sz0 bd3 m),(11,Zb8 Zy JL bd2 m)] 4 (Zp5 UC ZbW bd5 m):=by
 refine pwo Tryz.func4 fun args σ K h=>?_
 unfold Zp5 at h
 split at h
 ·obtain ⟨pl,⟨p1,p2,p3⟩,B,rfl,⟨⟨z6,oz⟩,z7,hz,hB⟩,h⟩:=h
  rename_i ao
  simp only [ZbW] at hz;unfold bd5 at h
  have du:(p1.map (Zs pl)).length=p1.length:=Td ..;have gl:(p2.map (ZF pl)).length=p2.length:=Td ..;have l5:=Zn Zm9 p1;have ep:=Zn ZjS p2;refine pwv [(3,⟨[6,5],[1,2],fun vs σ=>∃(i:Nat) (nn:Int),vs=[.d (.int .i64 i),.d (.int .i64 nn)]/\σ=⟨[.cells 26 ((UC pl ⟨p1,p2,p3⟩).map .d)],[],0⟩/\i<=p1.length/\0<=nn/\nn<=5 * ao+2,fun vs _=>match vs with | [.d (.int _ i),_]=>((p1.length:Nat) - i:Int).toNat | _=>0⟩),(10,⟨[8,5],[1,2,6,7],fun vs σ=>∃(i:Nat) (nn:Int) (b1:Nat) (b2 b3:Bs) (b4:List Fi) (b5:List Ca) (b6:Nat),vs=[.d (.int .i64 i),.d (.int .i64 nn)]/\σ=⟨[.cells 26 ((UC pl ⟨p1,p2,p3⟩).map .d),.cells 46 ((Zs pl ⟨b1,b2,b3,b4,b5,b6⟩).map .d)],[],0⟩/\(i<=b5.length/\szS ZiW b5<=B)/\0<=nn/\nn<=5 * ao+2,fun vs _=>match vs with | [.d (.int _ i),_]=>((B:Nat) - i:Int).toNat | _=>0⟩),(14,⟨[9,5],[1,2],fun vs σ=>∃(i:Nat) (nn:Int),vs=[.d (.int .i64 i),.d (.int .i64 nn)]/\σ=⟨[.cells 26 ((UC pl ⟨p1,p2,p3⟩).map .d)],[],0⟩/\i<=p2.length/\0<=nn/\nn<=5 * ao+2,fun vs _=>match vs with | [.d (.int _ i),_]=>((p2.length:Nat) - i:Int).toNat | _=>0⟩)] 0 false ?_;refine ⟨⟨0,0,rfl,rfl,oM,oM,oM⟩,?_⟩;intro vs σ hI
  obtain ⟨i,nn,rfl,rfl,hi,dk,ew⟩:=hI;(conv=>whnf);refine ZEH (fun ac=>?_) (fun ac=>?_);rotate_left
  ·exact mq9
  have ac:i<p1.length:=lzI du ac;(conv=>whnf);refine ZEH (fun ii=>?_) (fun ii=>?_);rotate_left
  ·exact mq9
  conv=>whnf
  obtain ⟨eA,hA⟩:∃e,p1[i]=e:=⟨_,rfl⟩
  have hg:=Zr Zm9 p1 i ac;obtain ⟨b1,b2,b3,b4,b5,b6⟩:=eA;rw [hA] at hg;simp only [Zm9] at hg;have bi:(p1.map (Zs pl))[((i:Nat):Int).toNat]?=some (Zs pl ⟨b1,b2,b3,b4,b5,b6⟩):=by simp [ac,hA]
  (repeat (first | (refine oiO ?_;conv=>whnf) | (refine ⟨_,oM,bi,?_⟩;conv=>whnf)))
  refine ZEH (fun ak=>wN ?_) (fun ak=>wN ?_)
  ·(repeat (first | (refine oiO ?_;conv=>whnf) | (refine ⟨_,oM,bi,?_⟩;conv=>whnf)))
   refine ⟨pl,b4,B,rfl,⟨⟨oM,oM⟩,oM,oM,hB⟩,fun r lk lz=>wN ?_⟩;unfold bd3 at lz
   (repeat (first | (refine oiO ?_;conv=>whnf) | (refine ⟨_,oM,bi,?_⟩;conv=>whnf)))
   exact mq13
  exact mq13
 exact h.elim
def ZEl (m:Nat):PC w0 nG 4 (Zp5 UC ZbW bd5 m):=ZAA ⟨ZAv,ZAy ⟨cZE m,cZL m,trivial⟩,trivial⟩
def mvM {α:Type} (f:α->MV) (m:List (Bs×α)):List (Bs×MV):=m.map fun x=>(x.1,f x.2)
def mvI (n:Int):MV:=.one (.int .i64 n)
def mvB (b:Bool):MV:=.one (.bool b)
def mvC (c:Int×Int):MV:=.agg [.int .i64 c.1,.int .i64 c.2]
def ZK {α:Type} {f:α->MV} {k:Bs}:∀m:List (Bs×α),lkM k (mvM f m)=(lkM k m).map f
 | []=>rfl
 | (x,v)::l=>by
  have ih:=ZK (f:=f) (k:=k) l;simp only [mvM,Tx,lkM] at ih |-
  cases decide (k=x) with
  | true=>rfl
  | false=>exact ih
def VT {α:Type} {f:α->MV} {k:Bs} {v:α}:∀m:List (Bs×α),Yv k (f v) (mvM f m)=mvM f (Yv k v m)
 | []=>rfl
 | (x,u)::l=>by
  have ih:=VT (f:=f) (k:=k) (v:=v) l;simp only [mvM,Tx,Yv] at ih |-
  cases decide (k=x) with
  | true=>rfl
  | false=>simp only [ih];rfl
def Zj3 {α:Type} {f:α->MV} (m:List (Bs×α)):(mvM f m).length=m.length:=Td ..
def JQ {α:Type} {k s:Bs} {v:α}:∀m:List (Bs×α),lkM s (Yv k v m)=if s=k then some v else lkM s m
 | []=>by simp only [Yv,lkM];by_cases h:s=k <;> simp [h]
 | (x,u)::l=>by
  have ih:=JQ (k:=k) (s:=s) (v:=v) l;simp only [Yv]
  by_cases h:k=x
  ·subst h;rw [Sg rfl];simp only [lkM]
   by_cases g:s=k <;> simp [g]
  rw [decide_eq_false h];simp only [lkM,ih]
  by_cases g:s=x
  ·subst g;rw [Sg rfl];simp only;rw [Tf (fun e=>h e.symm)]
  rw [decide_eq_false g]
def putM_len {α:Type} {k:Bs} {v:α}:∀{m:List (Bs×α)},lkM k m=none->(Yv k v m).length=m.length+1
 | [],_=>rfl
 | (x,u)::l,h=>by
  simp only [lkM] at h;simp only [Yv]
  cases hd:decide (k=x) with
  | true=>rw [hd] at h;cases h
  | false=>rw [hd] at h;simp only [Te,putM_len h]
def Zud:Bs:=[110,117,109,98,101,114]
def ZBF:Bs:=[115,121,109,98,111,108]
def Zio (s:Bs):Bool:=decide (s=Zud) || decide (s=ZBF)
def Wf:Nat->List Bs->List (Bs×Int)->List (Bs×Int)
 | _,[],m=>m
 | i,s::l,m=>Wf (i+1) l (if (lkM s m).isNone=true then Yv s (i:Int) m else m)
def YS (l:List Bs):List (Bs×Int):=Wf 0 l []
def ZsJ (p:Pr):List (Bs×Int):=YS (p.types.map (·.name))
def UD (p:Pr):List (Bs×Int):=YS (p.rels.map (·.name))
def Ys (i:Nat):Nat->List Ca->List (Bs×(Int×Int))->List (Bs×(Int×Int))
 | _,[],m=>m
 | k,c::l,m=>Ys i (k+1) l (if (lkM c.name m).isNone=true then Yv c.name ((i:Int),(k:Int)) m else m)
def JR:Nat->List Ty->List (Bs×(Int×Int))->List (Bs×(Int×Int))
 | _,[],m=>m
 | i,t::l,m=>JR (i+1) l (Ys i 0 t.cases m)
def YP (p:Pr):List (Bs×(Int×Int)):=JR 0 p.types []
def Wg:List Ty->List (Bs×Int)->List (Bs×Int)
 | [],m=>m
 | t::l,m=>Wg l (if t.kind≠1/\(lkM t.name m).isNone=true then Yv t.name (m.length:Int) m else m)
def JS (p:Pr):List (Bs×Int):=Wg p.types [(Zud,0),(ZBF,1)]
def YT (p:Pr) (s:Bs):Option Bs:=match lkM s (ZsJ p) with
 | none=>none
 | some i=>if Zio s=true then none else match p.types[i.toNat]? with
  | some t=>if t.kind=1/\t.base≠[] then some t.base else none
  | none=>none
def Vr (p:Pr) (s:Bs):Bool:=(lkM s (ZsJ p)).isSome || Zio s
def ZdM {s:Bs}:∀(l:List Bs) (i:Nat) (m:List (Bs×Int)) (n:Int),lkM s (Wf i l m)=some n->lkM s m=some n\/∃k:Nat,n=i+k/\l[k]?=some s
 | [],i,m,n,h=>.inl h
 | x::l,i,m,n,h=>by
  rcases ZdM l (i+1) _ n h with h | ⟨k,h1,h2⟩
  ·split at h
   ·rw [JQ] at h;split at h
    ·rename_i e;cases h;exact .inr ⟨0,oM,by simp [e]⟩
    exact .inl h
   exact .inl h
  exact .inr ⟨k+1,oM,by simpa using h2⟩
def Zfs {s:Bs} {l:List Bs} {n:Int} (h:lkM s (YS l)=some n):∃k:Nat,n=k/\l[k]?=some s:=by
 rcases ZdM l 0 [] n h with h | ⟨k,h1,h2⟩
 ·cases h
 exact ⟨k,oM,h2⟩
def Zp6 {p:Pr} {s:Bs} {n:Int} (h:lkM s (ZsJ p)=some n):∃(k:Nat) (t:Ty),n=k/\p.types[k]?=some t/\t.name=s:=by
 exact mq147
abbrev Zip (pl:Pl) (p:Pr) (b:Nat):List PV:=[.mp b,.mp (b+1),.mp (b+2),.mp (b+3),.d (.sl (p.types.map (Zs pl))),.d (.sl (p.rels.map (ZF pl))),.d (.sl (p.rules.map (Zy pl)))]
abbrev Ziq (p:Pr):List Box:=[.dmap (mvM mvI (ZsJ p)),.dmap (mvM mvI (UD p)),.dmap (mvM mvI (JS p)),.dmap (mvM mvC (YP p))]
abbrev Zex (pl:Pl) (p:Pr):List Box:=.cells 110 (Zip pl p 1)::Ziq p
def BP (p:Pr):Prop:=ZbW p<=1073741824
def BP.len {p:Pr} (h:BP p):p.types.length<=1073741824/\p.rels.length<=1073741824/\p.rules.length<=1073741824:=by
 unfold BP ZbW at h
 have h1:=Zn Zm9 p.types;have h2:=Zn ZjS p.rels;have h3:=Zn JL p.rules;omega
def JT {α:Type} {f:α->Nat} {l:List α} {x:α} (h:x∈l):f x<szS f l:=by
 obtain ⟨i,hi,rfl⟩:=T9 h;exact Zr f l i hi
def BP.ty {p:Pr} (h:BP p) {t:Ty} (ht:t∈p.types):t.fields.length<=1073741824/\t.cases.length<=1073741824/\∀c∈t.cases,c.fields.length<=1073741824:=by
 unfold BP ZbW at h
 have h1:=JT (f:=Zm9) ht;have e1:Zm9 t=1+szS sz0 t.fields+szS ZiW t.cases:=rfl;have h2:=Zn sz0 t.fields;have h3:=Zn ZiW t.cases;refine ⟨oM,oM,fun c hc=>?_⟩;have h4:=JT (f:=ZiW) hc;have e2:ZiW c=1+szS sz0 c.fields:=rfl;have h5:=Zn sz0 c.fields;omega
def BP.re {p:Pr} (h:BP p) {d:Re} (hd:d∈p.rels):d.fields.length<=1073741824:=by
 unfold BP ZbW at h
 have h1:=JT (f:=ZjS) hd;have e1:ZjS d=1+szS sz0 d.fields:=rfl;have h2:=Zn sz0 d.fields;omega
def JU (p:Pr) (b:Bs):Nat->Bs->Bool
 | 0,_=>false
 | n+1,a=>if a=b then true else match YT p a with
  | none=>false
  | some c=>JU p b n c
def Xa (p:Pr) (a b:Bs):Bool:=JU p b (p.types.length+1) a
def U7 (p:Pr):Nat->Bs->Option Bs
 | 0,_=>none
 | n+1,a=>match YT p a with
  | none=>some a
  | some c=>U7 p n c
def ZsK (p:Pr) (a:Bs):Option Bs:=U7 p (p.types.length+1) a
def UE (p:Pr):Nat->Bs->Nat
 | 0,_=>0
 | n+1,a=>match YT p a with
  | none=>0
  | some c=>UE p n c+1
def Y0 (p:Pr) (a:Bs):Int:=(lkM ((ZsK p a).getD []) (JS p)).getD 0
def ZN (p:Pr) (l:List Fi):List Int:=l.map fun f=>Y0 p f.typ
def ZAB (p:Pr):Prop:=∀s,(ZsK p s).isSome=true
def Zft {p:Pr}:∀{n m:Nat} {a r:Bs},U7 p n a=some r->n<=m->U7 p m a=some r
 | 0,_,_,_,h,_=>by cases h
 | n+1,0,_,_,_,h=>oM
 | n+1,m+1,a,r,h,ak=>by
  simp only [U7] at h |-;split at h
  ·exact h
  exact Zft h oM
def ZsL {p:Pr} {n:Nat} {a c r:Bs} (hb:YT p a=some c) (h:U7 p n a=some r):∃m,n=m+1/\U7 p m c=some r:=by
 cases n with
 | zero=>cases h
 | succ m=>refine ⟨m,rfl,?_⟩;simpa only [U7,hb] using h
def ZsM {p:Pr} {a c r:Bs} (hb:YT p a=some c) (h:ZsK p a=some r):ZsK p c=some r:=by
 obtain ⟨m,h1,h2⟩:=ZsL hb h;exact Zft h2 oM
def ZsN {p:Pr} {a:Bs} (hb:YT p a=none):ZsK p a=some a:=by simp only [ZsK,U7,hb]
def Zlx {p:Pr}:∀{n:Nat} {a c r:Bs},U7 p n a=some r->YT p a=some c->∀m,n<=m->UE p m c<UE p m a
 | 0,_,_,_,h,_,_,_=>by cases h
 | n+1,a,c,r,h,hb,m,hm=>by
  obtain ⟨k,rfl⟩:∃k,m=k+1:=⟨m - 1,oM⟩
  simp only [U7,hb] at h;have e:UE p (k+1) a=UE p k c+1:=by simp only [UE,hb]
  rw [e]
  cases hc:YT p c with
  | none=>simp only [UE,hc];omega
  | some d =>
  have e2:UE p (k+1) c=UE p k d+1:=by simp only [UE,hc]
  rw [e2];have:=Zlx h hc k oM;omega
def Zax (body:List PV->Pl->Pr->(PEnd->Prop)->Prop):Zp:=fun args σ K=>match args,σ with
 | .ptr 0 0::rest,⟨bx,[],0⟩=>∃pl p,bx=Zex pl p/\BP p/\body rest pl p fun pe=>K pe ⟨bx,[],0⟩
 | _,_=>False
def Zj4:Zp:=fun args σ K=>match args,σ with
 | [.d (.str s)],⟨[],[],0⟩=>∀b,Zio s=b->K (.ret (.d (.bool b))) ⟨[],[],0⟩
 | _,_=>False
def Zly:PC w0 nG 89 Zj4:=by
 refine pwe Tryz.func89 fun args σ K h=>?_
 unfold Zj4 at h
 split at h
 ·rename_i s
  refine pwv [] 0 false ?_;refine ZEH (fun h1=>wN ?_) (fun h1=>wN ?_)
  ·exact h _ (by simp [Zio,show s=Zud from h1])
  exact h _ (by simp [Zio,show ¬s=Zud from h1];rfl)
 exact h.elim
def Zfu:Zp:=Zax fun rest pl p K=>match rest with
 | [.d (.str s)]=>∀x,YT p s=x->K (.ret (.tuple [.d (.str (x.getD [])),.d (.bool x.isSome)]))
 | _=>False
def Zp7:Tbl:=[(89,Zj4)]
def ZxG (ht:TO w0 nG Zp7):PC w0 nG 46 Zfu:=by
 refine pwt ht Tryz.func46 fun args σ K h=>?_
 unfold Zfu Zax at h
 split at h
 ·obtain ⟨pl,p,rfl,hp,h⟩:=h;split at h
  ·rename_i s
   refine pwv [] 5 false ?_;refine ZEP (fun v hv=>?_) (fun hv=>?_);rotate_left
   ·rw [ZK,Option.map_eq_none_iff] at hv;(conv=>whnf);exact h none (by simp only [YT,hv])
   rw [ZK] at hv;obtain ⟨n,hn,rfl⟩:=TC.1 hv;obtain ⟨k,⟨t1,t2,t3,t4,t5,t6⟩,rfl,ht,av⟩:=Zp6 hn;have hk:p.types[(k:Int).toNat]?=some ⟨t1,t2,t3,t4,t5,t6⟩:=by rw [Tl];exact ht
   have hr:(p.types.map (Zs pl))[(k:Int).toNat]?=some (Zs pl ⟨t1,t2,t3,t4,t5,t6⟩):=by rw [Th,hk];rfl
   conv=>whnf
   intro b hb
   cases b with
   | true =>
    conv=>whnf
    exact h none (by simp only [YT,hn,hb,if_true])
   | false =>
   conv=>whnf
   refine ⟨_,oM,hr,wN ?_⟩;refine ZEJ (fun hc=>wN ?_) (fun hc=>wN ?_)
   ·exact h none (by simp only [YT,hn,hb,hk];rw [Tf sM,Tf];intro g;exact hc (by simp only [g.1];rfl))
   refine ⟨_,oM,hr,wN ?_⟩;refine ⟨_,oM,hr,wN ?_⟩;have cz:t1=1:=by have hc:(t1:Int)=1:=hc;omega
   cases t3 with
   | nil=>exact h none (by simp only [YT,hn,hb,hk];rw [Tf sM,Tf sM])
   | cons x t3=>exact h (some (x::t3)) (by simp only [YT,hn,hb,hk];rw [Tf sM,Tj ⟨cz,sM⟩])
  exact h.elim
 exact h.elim
def Zay:Zp:=Zax fun rest pl p K=>match rest with
 | [.d (.str s)]=>∀b,Vr p s=b->K (.ret (.d (.bool b)))
 | _=>False
def Zp8:OKw w0 nG Zp7 45 Zay:=by
 refine pwo Tryz.func45 fun args σ K h=>?_
 unfold Zay Zax at h
 split at h
 ·obtain ⟨pl,p,rfl,hp,h⟩:=h;split at h
  ·rename_i s
   refine pwv [] 5 false ?_;refine ZEP (fun v hv=>?_) (fun hv=>wN ?_)
   ·rw [ZK] at hv;obtain ⟨n,hn,rfl⟩:=TC.1 hv;(conv=>whnf);exact h true (by simp [Vr,hn])
   rw [ZK,Option.map_eq_none_iff] at hv;intro b hb
   conv=>whnf
   exact h b (by simp [Vr,hv,hb])
  exact h.elim
 exact h.elim
def VU:Zp:=Zax fun rest pl p K=>match rest with
 | [.d (.str s)]=>ZAB p/\∀n,Y0 p s=n->K (.ret (.d (.int .i64 n)))
 | _=>False
def Zlz:Tbl:=[(46,Zfu)]
def Zp9:OKw w0 nG Zlz 51 VU:=by
 refine pwo Tryz.func51 fun args σ K h=>?_
 unfold VU Zax at h
 split at h
 ·obtain ⟨pl,p,rfl,hp,h⟩:=h;split at h
  ·rename_i s
   obtain ⟨he,h⟩:=h;obtain ⟨r,hr⟩:=Sv.1 (he s);refine pwv [(1,⟨[1],[0],fun vs σ=>∃a,vs=[.d (.str a)]/\σ=⟨Zex pl p,[],0⟩/\ZsK p a=some r,fun vs _=>match vs with | [.d (.str a)]=>UE p (p.types.length+1) a | _=>0⟩)] 5 false ?_;refine ⟨⟨s,rfl,rfl,hr⟩,?_⟩
   rintro vs σ1 ⟨a,rfl,rfl,ha⟩
   conv=>whnf
   refine ⟨pl,p,rfl,hp,fun x hx=>?_⟩
   cases x with
   | none =>
    have mz:r=a:=by rw [ZsN hx] at ha;exact (Option.some.inj ha).symm
    subst mz;(conv=>whnf);refine ZEP (fun v hv=>?_) (fun hv=>wN ?_)
    ·rw [ZK] at hv;obtain ⟨n,hn,rfl⟩:=TC.1 hv;(conv=>whnf);exact h n (by simp [Y0,hr,hn])
    rw [ZK,Option.map_eq_none_iff] at hv;exact h 0 (by simp [Y0,hr,hv])
   | some c =>
   conv=>whnf
   exact ⟨⟨c,rfl,rfl,ZsM hx ha⟩,Zlx ha hx _ (Tr _)⟩
  exact h.elim
 exact h.elim
def ZgP:Zp:=Zax fun rest pl p K=>match rest with
 | [.d (.str a),.d (.str b)]=>∀x,Xa p a b=x->K (.ret (.d (.bool x)))
 | _=>False
def Zqa:OKw w0 nG Zlz 96 ZgP:=by
 refine pwo Tryz.func96 fun args σ K h=>?_
 unfold ZgP Zax at h
 split at h
 ·obtain ⟨pl,p,rfl,hp,h⟩:=h;split at h
  ·rename_i s b
   have ab:=hp.len.1;have hl:(p.types.map (Zs pl)).length=p.types.length:=Td ..;refine pwu [(2,⟨[1,16],[0,2,15],fun vs σ=>∃a j,vs=[.d (.str a),.d (.int .i64 j)]/\σ=⟨Zex pl p,[],0⟩/\(0<=j/\j<=p.types.length+1)/\JU p b (p.types.length+1 - j.toNat) a=Xa p s b,
    fun vs _=>match vs with | [_,.d (.int _ j)]=>((p.types.length:Int)+1 - j).toNat | _=>0⟩)] 5 false ?_
   conv=>whnf
   refine Zi ?_;refine ⟨⟨s,0,rfl,rfl,⟨oM,oM⟩,rfl⟩,?_⟩
   rintro vs σ1 ⟨a,j,rfl,rfl,⟨sa,hj1⟩,ha⟩
   conv=>whnf
   refine ZEH (fun hc=>?_) (fun hc=>?_);rotate_left
   ·conv=>whnf
    rw [show p.types.length+1 - j.toNat=0 by omega] at ha;exact h false (by rw [<- ha];rfl)
   obtain ⟨q,hq⟩:∃q,p.types.length+1 - j.toNat=q+1:=⟨p.types.length - j.toNat,oM⟩
   rw [hq] at ha;simp only [JU] at ha;(conv=>whnf);refine ZEH (fun vb=>wN ?_) (fun vb=>wN ?_)
   ·rw [Tj vb] at ha;exact h true ha.symm
   rw [Tf vb] at ha;refine ⟨pl,p,rfl,hp,fun x hx=>?_⟩;rw [hx] at ha
   cases x with
   | none =>
    conv=>whnf
    exact h false ha.symm
   | some c =>
   conv=>whnf
   refine Zi ?_;refine ⟨⟨c,j+1,rfl,rfl,⟨oM,oM⟩,?_⟩,?_⟩
   ·rw [show p.types.length+1 - (j+1).toNat=q by omega];exact ha
   show ((p.types.length:Int)+1 - (j+1)).toNat<((p.types.length:Int)+1 - j).toNat;omega
  exact h.elim
 exact h.elim
abbrev Zqb (pl:Pl) (p:Pr):List Box:=.cells 58 [.ptr 1 0]::.cells 110 (Zip pl p 2)::Ziq p
def Znj {α:Type} (enc:α->List D) (cond:α->Prop) (q:Pr->α->Bool):Zp:=fun args σ K=>match args,σ with
 | [.agg c,.ptr 0 0],⟨bx,[],0⟩=>∃pl p x,bx=Zqb pl p/\c=(enc x).map .d/\(BP p/\cond x)/\∀b,q p x=b->K (.ret (.d (.bool b))) ⟨bx,[],0⟩
 | _,_=>False
def Zj5 {α:Type} (q:α->Bool):Nat->List α->Int
 | _,[]=>-1
 | i,x::l=>if q x=true then i else Zj5 q (i+1) l
def ZgQ {α:Type} {q:α->Bool}:∀(l:List α) (i:Nat),(0<=Zj5 q i l)↔l.any q=true
 | [],i=>by simp [Zj5]
 | x::l,i=>by
  simp only [Zj5,List.any_cons]
  cases hq:q x with
  | true=>simp
  | false=>simpa using ZgQ l (i+1)
def Zfv {α:Type} (clo:FuncId) (enc:α->List D) (cond:α->Prop) (q:Pr->α->Bool):Zp:=fun args σ K=>match args,σ with
 | [.d (.sl rows),.func g [] [.ptr 0 0]],⟨bx,[],0⟩=>∃pl p l,bx=Zqb pl p/\rows=l.map enc/\(g=clo/\BP p/\l.length<=1073741824/\∀x∈l,cond x)/\∀i,Zj5 (q p) 0 l=i->K (.ret (.d (.int .i64 i))) ⟨bx,[],0⟩
 | _,_=>False
def Zfw {α:Type} (clo:FuncId) (enc:α->List D) (cond:α->Prop) (q:Pr->α->Bool):Zp:=fun args σ K=>match args,σ with
 | [.d (.sl rows),.func g [] [.ptr 0 0]],⟨bx,[],0⟩=>∃pl p,∃l:List α,bx=Zqb pl p/\rows=l.map enc/\(g=clo/\BP p/\l.length<=1073741824/\∀x∈l,cond x)/\∀b,l.any (q p)=b->K (.ret (.d (.bool b))) ⟨bx,[],0⟩
 | _,_=>False
def Vt (p:Pr) (l:List Fi):Bool:=!(l.any fun f=>!Vr p f.typ)
def Zbl:{α:Type}->α->Prop:=fun _=>True
def Zfx (c:Ca):Prop:=c.fields.length<=1073741824
def ZsP:OKw w0 nG [(45,Zay)] 88 (Znj Zk Zbl (fun p (f:Fi)=>!Vr p f.typ)):=by
 refine pwo Tryz.func88 fun args σ K h=>?_
 unfold Znj at h
 split at h
 ·obtain ⟨pl,p,⟨f1,f2⟩,rfl,rfl,⟨hp,ul⟩,h⟩:=h;refine pwv [] 6 false ?_;refine ⟨pl,p,rfl,hp,fun b hb=>wN ?_⟩;exact h _ (by simp only [hb])
 exact h.elim
def ZsR:OKw w0 nG [(88,Znj Zk Zbl (fun p (f:Fi)=>!Vr p f.typ))] 164 (Zfv 88 Zk Zbl (fun p (f:Fi)=>!Vr p f.typ)):=by
 refine pwo Tryz.func164 fun args σ K h=>?_
 unfold Zfv at h
 split at h
 ·obtain ⟨pl,p,l,rfl,rfl,⟨rfl,hp,aa,ky⟩,h⟩:=h;have hl:(l.map Zk).length=l.length:=Td ..;refine pwu [(2,⟨[8],[0,1,7],fun vs σ=>∃j:Nat,vs=[.d (.int .i64 j)]/\σ=⟨Zqb pl p,[],0⟩/\j<=l.length/\Zj5 ((fun p (f:Fi)=>!Vr p f.typ) p) j (l.drop j)=Zj5 ((fun p (f:Fi)=>!Vr p f.typ) p) 0 l,
   mu1 l.length⟩)] 6 false ?_
  conv=>whnf
  refine ⟨⟨0,rfl,rfl,oM,rfl⟩,?_⟩
  rintro vs σ1 ⟨j,rfl,rfl,hj,ha⟩
  conv=>whnf
  refine ZEH (fun hc=>?_) (fun hc=>?_);rotate_left
  ·conv=>whnf
   rw [Tv oM] at ha;exact h (-1) ha.symm
  have ab:j<l.length:=oM;rw [Tn ab] at ha;have hr:(l.map Zk)[(j:Int).toNat]?=some (Zk l[j]):=by rw [Tl,Th,Tb ab];rfl
  have ul:=ky _ (TE ab);generalize l[j]=x at ha hr ul;obtain ⟨f1,f2⟩:=x;exact mq196
 exact h.elim
def ZsT:OKw w0 nG [(164,Zfv 88 Zk Zbl (fun p (f:Fi)=>!Vr p f.typ))] 87 (Zfw 88 Zk Zbl (fun p (f:Fi)=>!Vr p f.typ)):=by
 refine pwo Tryz.func87 fun args σ K h=>?_
 exact mq72
def ZdN:Zp:=Zax fun rest pl p K=>match rest with
 | [.d (.sl rows)]=>∃l:List Fi,rows=l.map Zk/\l.length<=1073741824/\∀b,Vt p l=b->K (.ret (.d (.bool b)))
 | _=>False
def ZsV:OKw w0 nG [(87,Zfw 88 Zk Zbl (fun p (f:Fi)=>!Vr p f.typ))] 44 ZdN:=by
 refine pwo Tryz.func44 fun args σ K h=>?_
 unfold ZdN Zax at h
 split at h
 ·obtain ⟨pl,p,rfl,hp,h⟩:=h;split at h
  ·obtain ⟨l,rfl,aa,h⟩:=h;refine pwv [] 5 false ?_;refine ⟨pl,p,l,rfl,rfl,⟨rfl,hp,aa,fun _ _=>trivial⟩,fun b hb=>wN ?_⟩;exact h _ (by simp only [Vt,hb])
  exact h.elim
 exact h.elim
def ZsX:OKw w0 nG [(44,ZdN)] 43 (Znj Zt Zfx (fun p (c:Ca)=>!Vt p c.fields)):=by
 refine pwo Tryz.func43 fun args σ K h=>?_
 unfold Znj at h
 split at h
 ·obtain ⟨pl,p,⟨c1,c2⟩,rfl,rfl,⟨hp,ul⟩,h⟩:=h;refine pwv [] 6 false ?_;refine ⟨pl,p,rfl,hp,c2,rfl,ul,fun b hb=>wN ?_⟩;exact h _ (by simp only [hb])
 exact h.elim
def ZsZ:OKw w0 nG [(43,Znj Zt Zfx (fun p (c:Ca)=>!Vt p c.fields))] 86 (Zfv 43 Zt Zfx (fun p (c:Ca)=>!Vt p c.fields)):=by
 refine pwo Tryz.func86 fun args σ K h=>?_
 unfold Zfv at h
 split at h
 ·obtain ⟨pl,p,l,rfl,rfl,⟨rfl,hp,aa,ky⟩,h⟩:=h;have hl:(l.map Zt).length=l.length:=Td ..;refine pwu [(2,⟨[8],[0,1,7],fun vs σ=>∃j:Nat,vs=[.d (.int .i64 j)]/\σ=⟨Zqb pl p,[],0⟩/\j<=l.length/\Zj5 ((fun p (c:Ca)=>!Vt p c.fields) p) j (l.drop j)=Zj5 ((fun p (c:Ca)=>!Vt p c.fields) p) 0 l,
   mu1 l.length⟩)] 6 false ?_
  conv=>whnf
  refine ⟨⟨0,rfl,rfl,oM,rfl⟩,?_⟩
  rintro vs σ1 ⟨j,rfl,rfl,hj,ha⟩
  conv=>whnf
  refine ZEH (fun hc=>?_) (fun hc=>?_);rotate_left
  ·conv=>whnf
   rw [Tv oM] at ha;exact h (-1) ha.symm
  have ab:j<l.length:=oM;rw [Tn ab] at ha;have hr:(l.map Zt)[(j:Int).toNat]?=some (Zt l[j]):=by rw [Tl,Th,Tb ab];rfl
  have ul:=ky _ (TE ab);generalize l[j]=x at ha hr ul;obtain ⟨c1,c2⟩:=x;exact mq196
 exact h.elim
def Zs1:OKw w0 nG [(86,Zfv 43 Zt Zfx (fun p (c:Ca)=>!Vt p c.fields))] 42 (Zfw 43 Zt Zfx (fun p (c:Ca)=>!Vt p c.fields)):=by
 refine pwo Tryz.func42 fun args σ K h=>?_
 exact mq72
def XW (l:List Int):List (List D):=l.map fun n=>[.int .i64 n]
def Zaz:Zp:=Zax fun rest pl p K=>match rest with
 | [.d (.sl rows)]=>∃l:List Fi,rows=l.map Zk/\(ZAB p/\l.length<=1073741824)/\K (.ret (.d (.sl (XW (ZN p l)))))
 | _=>False
def Znl (ht:TO w0 nG [(51,VU)]):PC w0 nG 97 Zaz:=by
 refine pwt ht Tryz.func97 fun args σ K h=>?_
 unfold Zaz Zax at h
 split at h
 ·obtain ⟨pl,p,rfl,hp,h⟩:=h;split at h
  ·obtain ⟨l,rfl,⟨he,aa⟩,h⟩:=h;have hl:(l.map Zk).length=l.length:=Td ..;refine pwu [(3,⟨[5,10],[0,8,9],fun vs σ=>∃j:Nat,vs=[.sl 0 3 (XW (ZN p (l.take j))),.d (.int .i64 j)]/\σ=⟨Zex pl p,[0],1⟩/\j<=l.length,
    mu2 l.length⟩)] 5 false ?_
   conv=>whnf
   refine ⟨⟨0,rfl,rfl,oM⟩,?_⟩
   rintro vs σ1 ⟨j,rfl,rfl,hj⟩
   conv=>whnf
   refine ZEH (fun hc=>?_) (fun hc=>?_);rotate_left
   ·exact mq110
   have ab:j<l.length:=oM;have ht:ZN p (l.take (j+1))=ZN p (l.take j)++[Y0 p l[j].typ]:=by simp only [ZN,List.take_succ,Tb ab,Option.toList_some,Sc,Tx,TM]
   have hr:(l.map Zk)[(j:Int).toNat]?=some (Zk l[j]):=by rw [Tl,Th,Tb ab];rfl
   have yg:(XW (ZN p (l.take j))).length=j:=by simp [XW,ZN];omega
   generalize l[j]=x at ht hr;obtain ⟨f1,f2⟩:=x;(conv=>whnf);refine ⟨_,oM,hr,wN ?_⟩;refine ⟨pl,p,rfl,hp,he,fun n hn=>wN ?_⟩;refine ⟨fun r hr=>by simp at hr;subst hr;rfl,?_,?_,?_⟩
   ·show ((XW (ZN p (l.take j))).length+1) * 8<=2 ^ 47;omega
   ·show (XW (ZN p (l.take j))).length+1<=2 ^ 47;omega
   conv=>whnf
   refine Zi ?_;refine ⟨⟨j+1,?_,rfl,oM⟩,?_⟩
   ·rw [ht,hn];simp only [XW,Sc,Tx,TM];rfl
   show ((l.length:Int) - ((j:Int)+1)).toNat<((l.length:Int) - (j:Int)).toNat;omega
  exact h.elim
 exact h.elim
def VV {s:Bs}:∀(l:List Bs) (i:Nat) (m:List (Bs×Int)),Wf i (l++[s]) m=if (lkM s (Wf i l m)).isNone=true then Yv s ((i:Int)+l.length) (Wf i l m) else Wf i l m
 | [],i,m=>by simp [Wf]
 | x::l,i,m=>by
  simp only [Sf,Wf,VV l (i+1),Te];rw [show ((i+1:Nat):Int)+(l.length:Int)=(i:Int)+((l.length+1:Nat):Int) by omega]
  try rfl
def UX {α:Type} (enc:Pl->α->List D) (nm:α->Bs):Zp:=fun args σ K=>match args,σ with
 | [.agg c],⟨[],[],0⟩=>∃pl x,c=(enc pl x).map .d/\K (.ret (.d (.str (nm x)))) ⟨[],[],0⟩
 | _,_=>False
def UY {α:Type} (clo:FuncId) (enc:Pl->α->List D) (nm:α->Bs):Zp:=fun args σ K=>match args,σ with
 | [.d (.sl rows),.func g [] []],⟨[],[],0⟩=>∃pl,∃l:List α,rows=l.map (enc pl)/\(g=clo/\l.length<=1073741824)/\K (.ret (.mp 0)) ⟨[.dmap (mvM mvI (YS (l.map nm)))],[],0⟩
 | _,_=>False
def Zj6:PC w0 nG 39 (UX Zs (·.name)):=by
 refine pwe Tryz.func39 fun args σ K h=>?_
 exact mq122
def Zj8:OKw w0 nG [(39,UX Zs (·.name))] 38 (UY 39 Zs (·.name)):=by
 refine pwo Tryz.func38 fun args σ K h=>?_
 unfold UY at h
 split at h
 ·obtain ⟨pl,l,rfl,⟨rfl,aa⟩,h⟩:=h;have hl:(l.map (Zs pl)).length=l.length:=Td ..;refine pwu [(3,⟨[13],[1,5,11,12],fun vs σ=>∃j:Nat,vs=[.d (.int .i64 j)]/\σ=⟨[.dmap (mvM mvI (YS ((l.take j).map (·.name))))],[],0⟩/\j<=l.length,
   mu1 l.length⟩)] 1 false ?_
  conv=>whnf
  refine ⟨⟨0,rfl,rfl,oM⟩,?_⟩
  rintro vs σ1 ⟨j,rfl,rfl,hj⟩
  conv=>whnf
  refine ZEH (fun hc=>?_) (fun hc=>?_);rotate_left
  ·exact mq110
  have ab:j<l.length:=oM;have hs:YS ((l.take (j+1)).map (·.name))=if (lkM l[j].name (YS ((l.take j).map (·.name)))).isNone=true then Yv l[j].name (j:Int) (YS ((l.take j).map (·.name))) else YS ((l.take j).map (·.name)):=by
   exact mq113
  have hr:(l.map (Zs pl))[(j:Int).toNat]?=some (Zs pl l[j]):=by rw [Tl,Th,Tb ab];rfl
  exact mq31
 exact h.elim
def Zj9:PC w0 nG 41 (UX ZF (·.name)):=by
 refine pwe Tryz.func41 fun args σ K h=>?_
 exact mq122
def Zkb:OKw w0 nG [(41,UX ZF (·.name))] 40 (UY 41 ZF (·.name)):=by
 refine pwo Tryz.func40 fun args σ K h=>?_
 unfold UY at h
 split at h
 ·obtain ⟨pl,l,rfl,⟨rfl,aa⟩,h⟩:=h;have hl:(l.map (ZF pl)).length=l.length:=Td ..;refine pwu [(3,⟨[13],[1,5,11,12],fun vs σ=>∃j:Nat,vs=[.d (.int .i64 j)]/\σ=⟨[.dmap (mvM mvI (YS ((l.take j).map (·.name))))],[],0⟩/\j<=l.length,
   mu1 l.length⟩)] 1 false ?_
  conv=>whnf
  refine ⟨⟨0,rfl,rfl,oM⟩,?_⟩
  rintro vs σ1 ⟨j,rfl,rfl,hj⟩
  conv=>whnf
  refine ZEH (fun hc=>?_) (fun hc=>?_);rotate_left
  ·exact mq110
  have ab:j<l.length:=oM;have hs:YS ((l.take (j+1)).map (·.name))=if (lkM l[j].name (YS ((l.take j).map (·.name)))).isNone=true then Yv l[j].name (j:Int) (YS ((l.take j).map (·.name))) else YS ((l.take j).map (·.name)):=by
   exact mq113
  have hr:(l.map (ZF pl))[(j:Int).toNat]?=some (ZF pl l[j]):=by rw [Tl,Th,Tb ab];rfl
  exact mq31
 exact h.elim
def ZbX {i:Nat} {c:Ca}:∀(l:List Ca) (k:Nat) (m:List (Bs×(Int×Int))),Ys i k (l++[c]) m=if (lkM c.name (Ys i k l m)).isNone=true then Yv c.name ((i:Int),((k+l.length:Nat):Int)) (Ys i k l m) else Ys i k l m
 | [],k,m=>rfl
 | x::l,k,m=>by
  simp only [Sf,Ys,ZbX l (k+1),Te];rw [show k+1+l.length=k+(l.length+1) by omega]
  try rfl
def ZbY {t:Ty}:∀(l:List Ty) (i:Nat) (m:List (Bs×(Int×Int))),JR i (l++[t]) m=Ys (i+l.length) 0 t.cases (JR i l m)
 | [],i,m=>rfl
 | x::l,i,m=>by
  simp only [Sf,JR,ZbY l (i+1),Te];rw [show i+1+l.length=i+(l.length+1) by omega]
def ZaA {t:Ty}:∀(l:List Ty) (m:List (Bs×Int)),Wg (l++[t]) m=if t.kind≠1/\(lkM t.name (Wg l m)).isNone=true then Yv t.name ((Wg l m).length:Int) (Wg l m) else Wg l m
 | [],m=>rfl
 | x::l,m=>by simp only [Sf,Wg,ZaA l];rfl
abbrev Zkc (pl:Pl) (p:Pr):List PV:=[.d (.sl (p.types.map (Zs pl))),.d (.sl (p.rels.map (ZF pl))),.d (.sl (p.rules.map (Zy pl)))]
abbrev Zqc (pl:Pl) (p:Pr) (cs:List (Bs×(Int×Int))) (sh:List (Bs×Int)):List Box:=[.cells 26 (Zkc pl p),.dmap (mvM mvC cs),.dmap (mvM mvI sh),
 .cells 110 ([.mp 4,.mp 5,.mp 2,.mp 1]++Zkc pl p),.dmap (mvM mvI (ZsJ p)),.dmap (mvM mvI (UD p))]
def Zcs:Zp:=fun args σ K=>match args,σ with
 | [.agg c],⟨[],[],0⟩=>∃pl p,c=(UC pl p).map .d/\BP p/\K (.ret (.ptr 3 0)) ⟨Zqc pl p (YP p) (JS p),[],0⟩
 | _,_=>False
def Zir:Tbl:=[(38,UY 39 Zs (·.name)),(40,UY 41 ZF (·.name))]
abbrev Zkd (p:Pr) (j:Nat):List (Bs×(Int×Int)):=JR 0 (p.types.take j) []
abbrev Znm (p:Pr) (j:Nat):List (Bs×Int):=Wg (p.types.take j) [(Zud,0),(ZBF,1)]
def Zqd (ht:TO w0 nG Zir):PC w0 nG 21 Zcs:=by
 refine Wu ZI mixed (tbl:=Zir) ht Tryz.func21 rfl kR kR ?_;intro args σ K h
 unfold Zcs at h
 split at h
 ·obtain ⟨pl,p,rfl,hp,h⟩:=h;have aa:=hp.len;have hl:(p.types.map (Zs pl)).length=p.types.length:=Td ..;refine ⟨Zo [(5,⟨[33],[3,31,32],fun vs σ=>∃j:Nat,vs=[.d (.int .i64 j)]/\σ=⟨Zqc pl p (Zkd p j) (Znm p j),[],0⟩/\j<=p.types.length,
    fun vs _=>match vs with | [.d (.int _ j)]=>((p.types.length:Int) - j).toNat | _=>0⟩),
   (8,⟨[41],[3,4,5,31,32,33,39,40],fun vs σ=>∃(j k:Nat) (t:Ty),vs=[.ptr 3 0,.d (.int .i64 j),.ptr 6 0,.d (.sl (p.types.map (Zs pl))),.d (.int .i64 (p.types.map (Zs pl)).length),.d (.int .i64 j),.d (.sl (t.cases.map Zt)),.d (.int .i64 (t.cases.map Zt).length),.d (.int .i64 k)] /\
     σ=⟨Zqc pl p (Ys j 0 (t.cases.take k) (Zkd p j)) (Znm p j)++[.cells 46 ((Zs pl t).map .d)],[],0⟩/\k<=t.cases.length/\p.types[j]?=some t/\t.cases.length<=1073741824,
    fun vs _=>match vs with | [_,_,_,_,_,_,_,.d (.int _ n),.d (.int _ k)]=>(n - k).toNat | _=>0⟩)],Xn [],Yd [8],6,false,sM,Tc rfl,?_⟩
  conv=>whnf
  refine ⟨pl,p.types,rfl,⟨rfl,aa.1⟩,wN ?_⟩;refine ⟨pl,p.rels,rfl,⟨rfl,aa.2.1⟩,wN ?_⟩;refine ⟨⟨0,rfl,rfl,oM⟩,?_⟩
  rintro vs σ1 ⟨j,rfl,rfl,hj⟩
  conv=>whnf
  refine ZEH (fun hc=>?_) (fun hc=>?_);rotate_left
  ·have e1:Zkd p j=YP p:=by unfold Zkd;rw [List.take_of_length_le oM];rfl
   have e2:Znm p j=JS p:=by unfold Znm;rw [List.take_of_length_le oM];rfl
   conv=>whnf
   rw [<- e1,<- e2] at h;exact h
  have ab:j<p.types.length:=oM;have cn:p.types.take (j+1)=p.types.take j++[p.types[j]]:=by rw [List.take_add_one,Tb ab];rfl
  have dj:Zkd p (j+1)=Ys j 0 p.types[j].cases (Zkd p j):=by unfold Zkd;rw [cn,ZbY,List.length_take,Nat.min_eq_left oM,Sa]
  have j6:Znm p (j+1)=if p.types[j].kind≠1/\(lkM p.types[j].name (Znm p j)).isNone=true then Yv p.types[j].name ((Znm p j).length:Int) (Znm p j) else Znm p j:=by unfold Znm;rw [cn,ZaA]
  have ht:p.types[j]?=some p.types[j]:=Tb ab;have oe:=(hp.ty (TE ab)).2.1;have hr:(p.types.map (Zs pl))[(j:Int).toNat]?=some (Zs pl p.types[j]):=by rw [Tl,Th,ht];rfl
  generalize p.types[j]=t at dj j6 ht hr oe;obtain ⟨t1,t2,t3,t4,t5,t6⟩:=t;have uj:(t5.map Zt).length=t5.length:=Td ..;(conv=>whnf);refine ⟨_,oM,hr,wN ?_⟩;refine ⟨⟨j,0,⟨t1,t2,t3,t4,t5,t6⟩,rfl,rfl,oM,ht,oe⟩,?_⟩
  rintro vs σ2 ⟨j',k,t',bo,rfl,hk,kl,-⟩
  have ej:(some (PV.d (.int .i64 (j:Int))):Option PV)=some (.d (.int .i64 (j':Int))):=congrArg (fun l:List PV=>l[5]?) bo;obtain rfl:j=j':=by have ej:=Option.some.inj ej;injection ej with ej;injection ej with _ ej;omega
  obtain rfl:(⟨t1,t2,t3,t4,t5,t6⟩:Ty)=t':=Option.some.inj (ht.symm.trans kl);have bo:vs=[.d (.int .i64 k)]:=congrArg (List.drop 8) bo;subst bo;(conv=>whnf);refine ZEH (fun bw=>?_) (fun bw=>?_)
  ·have aq:k<t5.length:=by have bw:(k:Int)<((t5.map Zt).length:Int):=bw;omega
   have ou:Ys j 0 (t5.take (k+1)) (Zkd p j)=if (lkM t5[k].name (Ys j 0 (t5.take k) (Zkd p j))).isNone=true then Yv t5[k].name ((j:Int),(k:Int)) (Ys j 0 (t5.take k) (Zkd p j)) else Ys j 0 (t5.take k) (Zkd p j):=by
    rw [List.take_add_one,Tb aq];show Ys j 0 (t5.take k++[t5[k]]) _=_;rw [ZbX,List.length_take,Nat.min_eq_left oM,Sa]
   have dc:(t5.map Zt)[(k:Int).toNat]?=some (Zt t5[k]):=by rw [Tl,Th,Tb aq];rfl
   generalize t5[k]=c at ou dc;obtain ⟨c1,c2⟩:=c;(conv=>whnf);refine ⟨_,oM,dc,wN ?_⟩;refine ZEP (fun v hv=>?_) (fun hv=>wN ?_)
   ·rw [ZK] at hv;obtain ⟨n,hn,rfl⟩:=TC.1 hv;rw [Tf (by rw [show lkM _ _=some n from hn];simp)] at ou;(conv=>whnf)
    (repeat (refine ⟨rfl,?_⟩;conv=>whnf))
    refine Zi ?_;exact ⟨⟨j,k+1,⟨t1,t2,t3,t4,t5,t6⟩,rfl,by simp only [ou];rfl,by simp only;omega,ht,oe⟩,by show (((t5.map Zt).length:Int) - ((k:Int)+1)).toNat<(((t5.map Zt).length:Int) - (k:Int)).toNat;omega⟩
   rw [ZK,Option.map_eq_none_iff] at hv;rw [Tj (by rw [show lkM _ _=none from hv];rfl)] at ou;have e:mvM mvC (Ys j 0 (t5.take (k+1)) (Zkd p j))=Yv c1 (.agg [.int .i64 j,.int .i64 k]) (mvM mvC (Ys j 0 (t5.take k) (Zkd p j))):=by rw [ou,<- VT];rfl
   (repeat (refine ⟨rfl,?_⟩;conv=>whnf))
   refine Zi ?_;exact ⟨⟨j,k+1,⟨t1,t2,t3,t4,t5,t6⟩,rfl,by rw [<- e];rfl,by simp only;omega,ht,oe⟩,by show (((t5.map Zt).length:Int) - ((k:Int)+1)).toNat<(((t5.map Zt).length:Int) - (k:Int)).toNat;omega⟩
  have jy:k=t5.length:=by have bw:¬(k:Int)<((t5.map Zt).length:Int):=bw;have hk:k<=t5.length:=hk;omega
  subst jy;have e1:Zkd p (j+1)=Ys j 0 (t5.take t5.length) (Zkd p j):=by rw [dj,Sj]
  conv=>whnf
  refine ZEP (fun v hv=>?_) (fun hv=>wN ?_)
  ·rw [ZK] at hv;obtain ⟨n,hn,rfl⟩:=TC.1 hv;rw [Tf (by rw [show lkM _ _=some n from hn];simp)] at j6;(conv=>whnf);refine ZEJ (fun ec=>wN ?_) (fun ec=>wN ?_)
   ·exact mq63
   exact mq63
  rw [ZK,Option.map_eq_none_iff] at hv;refine ZEJ (fun ec=>wN ?_) (fun ec=>wN ?_)
  ·rw [Tj ⟨fun g=>ec (by simp only [show t1=1 from g];rfl),by rw [show lkM _ _=none from hv];rfl⟩] at j6;have e2:mvM mvI (Znm p (j+1))=Yv t2 (.one (.int .i64 ((mvM mvI (Znm p j)).length:Int))) (mvM mvI (Znm p j)):=by rw [j6,<- VT,Zj3];rfl
   (repeat (refine ⟨rfl,?_⟩;conv=>whnf))
   refine Zi ?_;exact ⟨⟨j+1,rfl,by rw [e1,<- e2];rfl,oM⟩,by show ((p.types.length:Int) - ((j:Int)+1)).toNat<((p.types.length:Int) - (j:Int)).toNat;omega⟩
  rw [Tf (fun g=>g.1 (by have ec:(t1:Int)=1:=ec;show t1=1;omega))] at j6;exact mq63
 exact h.elim
abbrev BM:=List (Bs×Bool)
def has (k:Bs) (m:BM):Bool:=(lkM k m).getD false
def ZxH:List Ca->Bool->BM->Bool×BM
 | [],b,m=>(b,m)
 | c::l,b,m=>ZxH l (b || has c.name m) (Yv c.name true m)
def ZaB:List Ty->BM->BM->Option Nat
 | [],_,_=>none
 | t::l,n,m=>if (ZxH t.cases (has t.name n) m).1=true then some t.at' else ZaB l (Yv t.name true n) (ZxH t.cases (has t.name n) m).2
def Zey (p:Pr) (t:Ty):Bool:=t.cases.any (fun c=>!Vt p c.fields) || (!Vt p t.fields || (decide (t.kind=1) && !Vr p t.base))
def Zb9 (p:Pr):List Ty->Option Nat
 | []=>none
 | t::l=>if Zey p t=true then some t.at' else Zb9 p l
def Jk (p:Pr) (s:Bs):Nat->Bs->Bool
 | 0,_=>false
 | n+1,a=>match YT p a with
  | none=>false
  | some c=>if c=s then true else Jk p s n c
def ZgR (p:Pr) (t:Ty):Bool:=Jk p t.name (p.types.length+1) t.name
def JV (p:Pr):List Ty->Option Nat
 | []=>none
 | t::l=>if ZgR p t=true then some t.at' else JV p l
def Zca (p:Pr):Nat->List Re->Option (Nat×Nat)
 | _,[]=>none
 | i,d::l=>if (lkM d.name (UD p)).getD 0≠(i:Int) then some (d.at',170) else if Vt p d.fields=false then some (d.at',180) else if (d.inl && (d.inn || d.out))=true then some (d.at',185) else Zca p (i+1) l
def Zfy:BM:=[(Zud,true),(ZBF,true)]
def Zeg (p:Pr):Option (Nat×Nat):=match ZaB p.types Zfy [] with
 | some a=>some (a,170)
 | none=>match Zb9 p p.types with
  | some a=>some (a,180)
  | none=>match JV p p.types with
   | some a=>some (a,172)
   | none=>Zca p 0 p.rels
def ZBG (pl:Pl):Option (Nat×Nat)->List PV
 | none=>[.d (.int .i64 0),.d (.int .i64 0)]
 | some (a,e)=>[.d (.int .i64 (pl a)),.d (.int .i64 e)]
def Zs2:Zp:=Zax fun rest pl p K=>match rest with
 | []=>∀x,Zeg p=x->K (.ret (.agg (ZBG pl x)))
 | _=>False
abbrev ZBH (pl:Pl) (p:Pr) (x y:List (Bs×MV)):List Box:=Zex pl p++[.cells 58 [.ptr 0 0],.cells 60 [.d (.int .i64 0),.d (.int .i64 0)],.dmap x,.dmap y]
abbrev dSt (pl:Pl) (p:Pr) (n m:BM):List Box:=ZBH pl p (mvM mvB n) (mvM mvB m)
def Zue:Tbl:=[(42,Zfw 43 Zt Zfx (fun p (c:Ca)=>!Vt p c.fields)),(44,ZdN),(45,Zay),(46,Zfu)]
def optK.bool {k:Bs} {m:BM} {A:MV->Prop} (h:A (mvB (has k m))):optK (lkM k (mvM mvB m)) A (A (mvB false)):=by
 rw [ZK];unfold has at h
 cases hk:lkM k m with
 | none=>rw [hk] at h;exact h
 | some b=>rw [hk] at h;exact h
def ZAC (ht:TO w0 nG Zue):PC w0 nG 22 Zs2:=by
 refine Wu ZI mixed (tbl:=Zue) ht Tryz.func22 rfl kR kR ?_;intro args σ K h
 unfold Zs2 Zax at h
 split at h
 ·obtain ⟨pl,p,rfl,hp,h⟩:=h;split at h
  ·have aa:=hp.len;have hl:(p.types.map (Zs pl)).length=p.types.length:=Td ..;have yg:(p.rels.map (ZF pl)).length=p.rels.length:=Td ..;refine ⟨Zo [(3,⟨[30],[1,2,3,4,28,29],fun vs σ=>∃(j:Nat) (n m:BM),vs=[.d (.int .i64 j)]/\σ=⟨dSt pl p n m,[],0⟩/\j<=p.types.length/\ZaB (p.types.drop j) n m=ZaB p.types Zfy [],
     fun vs _=>match vs with | [.d (.int _ j)]=>((p.types.length:Int) - j).toNat | _=>0⟩),
    (7,⟨[7,41],[1,2,3,4,6,28,29,30,39,40],fun vs σ=>∃(j k:Nat) (t:Ty) (n m:BM) (b:Bool),vs=[.ptr 5 0,.ptr 6 0,.mp 7,.mp 8,.ptr 9 0,.d (.sl (p.types.map (Zs pl))),.d (.int .i64 (p.types.map (Zs pl)).length),.d (.int .i64 j),.d (.sl (t.cases.map Zt)),.d (.int .i64 (t.cases.map Zt).length),.d (.bool b),.d (.int .i64 k)] /\
      σ=⟨dSt pl p n m++[.cells 46 ((Zs pl t).map .d)],[],0⟩/\k<=t.cases.length/\p.types[j]?=some t /\
      (if (ZxH (t.cases.drop k) b m).1=true then some t.at' else ZaB (p.types.drop (j+1)) (Yv t.name true n) (ZxH (t.cases.drop k) b m).2)=ZaB p.types Zfy [],
     fun vs _=>match vs with | [_,_,_,_,_,_,_,_,_,.d (.int _ n),_,.d (.int _ k)]=>(n - k).toNat | _=>0⟩),
    (17,⟨[70],[1,2,68,69],fun vs σ=>∃(j:Nat) (n m:BM),vs=[.d (.int .i64 j)]/\σ=⟨dSt pl p n m,[],0⟩/\j<=p.types.length/\Zb9 p (p.types.drop j)=Zb9 p p.types,
     fun vs _=>match vs with | [.d (.int _ j)]=>((p.types.length:Int) - j).toNat | _=>0⟩),
    (24,⟨[108],[1,2,106,107],fun vs σ=>∃(j:Nat) (n m:BM),vs=[.d (.int .i64 j)]/\σ=⟨dSt pl p n m,[],0⟩/\j<=p.types.length/\JV p (p.types.drop j)=JV p p.types,
     fun vs _=>match vs with | [.d (.int _ j)]=>((p.types.length:Int) - j).toNat | _=>0⟩),
    (27,⟨[15,16],[1,2,14,106,107,108],fun vs σ=>∃(j k:Nat) (a:Bs) (t:Ty) (n m:BM),vs=[.ptr 5 0,.ptr 6 0,.ptr 9 0,.d (.sl (p.types.map (Zs pl))),.d (.int .i64 (p.types.map (Zs pl)).length),.d (.int .i64 j),.d (.str a),.d (.int .i64 k)] /\
      σ=⟨dSt pl p n m++[.cells 46 ((Zs pl t).map .d)],[],0⟩/\k<=p.types.length+1/\p.types[j]?=some t/\Jk p t.name (p.types.length+1 - k) a=ZgR p t,
     fun vs _=>match vs with | [_,_,_,_,.d (.int _ n),_,_,.d (.int _ k)]=>(n+1 - k).toNat | _=>0⟩),
    (36,⟨[147],[1,2,145,146],fun vs σ=>∃(j:Nat) (n m:BM),vs=[.d (.int .i64 j)]/\σ=⟨dSt pl p n m,[],0⟩/\j<=p.rels.length/\Zca p j (p.rels.drop j)=Zca p 0 p.rels,
     fun vs _=>match vs with | [.d (.int _ j)]=>((p.rels.length:Int) - j).toNat | _=>0⟩)],Xn [],Yd [7,27],5,false,sM,Tc rfl,?_⟩
   conv=>whnf
   refine ⟨⟨0,Zfy,[],rfl,rfl,oM,rfl⟩,?_⟩
   rintro vs σ1 ⟨j,n,m,rfl,rfl,hj,ha⟩
   conv=>whnf
   refine ZEH (fun hc=>?_) (fun hc=>?_)
   ·have ab:j<p.types.length:=by omega
    rw [Tn ab] at ha;simp only [ZaB] at ha;have ht:p.types[j]?=some p.types[j]:=Tb ab;have oe:=(hp.ty (TE ab)).2.1;have hr:(p.types.map (Zs pl))[(j:Int).toNat]?=some (Zs pl p.types[j]):=by rw [Tl,Th,ht];rfl
    generalize p.types[j]=t at ha ht hr oe;obtain ⟨t1,t2,t3,t4,t5,t6⟩:=t;have uj:(t5.map Zt).length=t5.length:=Td ..;(conv=>whnf);refine ⟨_,oM,hr,wN ?_⟩;refine optK.bool (wN ?_);refine ⟨⟨j,0,⟨t1,t2,t3,t4,t5,t6⟩,n,m,has t2 n,rfl,rfl,oM,ht,ha⟩,?_⟩
    clear ha
    rintro vs σ2 ⟨j',k,t',n,m,b,bo,rfl,hk,kl,ha⟩
    have ej:(some (PV.d (.int .i64 (j:Int))):Option PV)=some (.d (.int .i64 (j':Int))):=congrArg (fun l:List PV=>l[7]?) bo;obtain rfl:j=j':=by have ej:=Option.some.inj ej;injection ej with ej;injection ej with _ ej;omega
    obtain rfl:(⟨t1,t2,t3,t4,t5,t6⟩:Ty)=t':=Option.some.inj (ht.symm.trans kl);have bo:vs=[.d (.bool b),.d (.int .i64 k)]:=congrArg (List.drop 10) bo;subst bo;(conv=>whnf);refine ZEH (fun bw=>?_) (fun bw=>?_)
    ·have aq:k<t5.length:=by have bw:(k:Int)<((t5.map Zt).length:Int):=bw;omega
     have hd:t5.drop k=t5[k]::t5.drop (k+1):=Tn aq;have dc:(t5.map Zt)[(k:Int).toNat]?=some (Zt t5[k]):=by rw [Tl,Th,Tb aq];rfl
     simp only at ha;rw [hd] at ha
     clear hd
     generalize t5[k]=c at ha dc;obtain ⟨c1,c2⟩:=c;simp only [ZxH] at ha;(conv=>whnf);refine ⟨_,oM,dc,?_⟩;have hμ:((((t5.map Zt).length:Int) - ((k:Int)+1)).toNat<(((t5.map Zt).length:Int) - (k:Int)).toNat):=oM
     cases b with
     | true =>
      conv=>whnf
      refine Zi ?_;exact ⟨⟨j,k+1,⟨t1,t2,t3,t4,t5,t6⟩,n,Yv c1 true m,true,rfl,congrArg (fun x=>(⟨ZBH pl p (mvM mvB n) x++[.cells 46 ((Zs pl ⟨t1,t2,t3,t4,t5,t6⟩).map .d)],[],0⟩:St)) (VT (f:=mvB) (k:=c1) (v:=true) m),by simp only;omega,ht,ha⟩,hμ⟩
     | false =>
     conv=>whnf
     refine optK.bool (wN ?_);refine Zi ?_;exact ⟨⟨j,k+1,⟨t1,t2,t3,t4,t5,t6⟩,n,Yv c1 true m,has c1 m,rfl,congrArg (fun x=>(⟨ZBH pl p (mvM mvB n) x++[.cells 46 ((Zs pl ⟨t1,t2,t3,t4,t5,t6⟩).map .d)],[],0⟩:St)) (VT (f:=mvB) (k:=c1) (v:=true) m),by simp only;omega,ht,ha⟩,hμ⟩
    have jy:k=t5.length:=by have bw:¬(k:Int)<((t5.map Zt).length:Int):=bw;have hk:k<=t5.length:=hk;omega
    subst jy;simp only [SL,ZxH] at ha
    cases b with
    | true =>
     rw [Tj rfl] at ha;(conv=>whnf);exact h (some (t6,170)) (by simp only [Zeg,<- ha])
    | false =>
    rw [Tf sM] at ha;(conv=>whnf);refine Zi ?_;exact ⟨⟨j+1,Yv t2 true n,m,rfl,congrArg (fun x=>(⟨ZBH pl p x (mvM mvB m),[],0⟩:St)) (VT (f:=mvB) (k:=t2) (v:=true) n),oM,ha⟩,by show ((p.types.length:Int) - ((j:Int)+1)).toNat<((p.types.length:Int) - (j:Int)).toNat;omega⟩
   have sa:j=p.types.length:=oM;subst sa;rw [SL] at ha;have dy:ZaB p.types Zfy []=none:=ha.symm
   clear ha
   conv=>whnf
   refine ⟨⟨0,n,m,rfl,rfl,oM,rfl⟩,?_⟩
   clear n m
   rintro vs σ1 ⟨j,n,m,rfl,rfl,hj,ha⟩
   conv=>whnf
   refine ZEH (fun hc=>?_) (fun hc=>?_)
   ·have ab:j<p.types.length:=by omega
    rw [Tn ab] at ha;simp only [Zb9] at ha;have yj:=hp.ty (TE ab);have hr:(p.types.map (Zs pl))[(j:Int).toNat]?=some (Zs pl p.types[j]):=by rw [Tl,Th,Tb ab];rfl
    generalize p.types[j]=t at ha hr yj;obtain ⟨t1,t2,t3,t4,t5,t6⟩:=t;simp only at yj;have yes:Zey p ⟨t1,t2,t3,t4,t5,t6⟩=true->K (.ret (.agg (ZBG pl (some (t6,180))))) ⟨Zex pl p,[],0⟩:=fun g=>by
     rw [Tj g] at ha;exact h (some (t6,180)) (by simp only [Zeg,dy,<- ha])
    have no:Zey p ⟨t1,t2,t3,t4,t5,t6⟩=false->Zb9 p (p.types.drop (j+1))=Zb9 p p.types:=fun g=>by
     rw [Tf (by rw [g];simp)] at ha;exact ha
    have hμ:((p.types.length:Int) - ((j:Int)+1)).toNat<((p.types.length:Int) - (j:Int)).toNat:=oM
    clear ha h
    conv=>whnf
    refine ⟨_,oM,hr,wN ?_⟩;refine ⟨pl,p,t5,rfl,rfl,⟨rfl,hp,yj.2.1,yj.2.2⟩,fun b hb=>?_⟩
    cases b with
    | true =>
     conv=>whnf
     exact yes (by simp only [Zey];rw [hb];rfl)
    | false =>
    conv=>whnf
    refine ⟨pl,p,rfl,hp,t4,rfl,yj.1,fun b f6=>?_⟩
    cases b with
    | false =>
     conv=>whnf
     exact yes (by simp only [Zey];rw [hb,f6];rfl)
    | true =>
    conv=>whnf
    refine ZEH (fun ec=>wN ?_) (fun ec=>wN ?_)
    ·have ec:t1=1:=by have ec:(t1:Int)=1:=ec;omega
     refine ⟨pl,p,rfl,hp,fun b ju=>?_⟩
     cases b with
     | false =>
      conv=>whnf
      exact yes (by simp only [Zey];rw [hb,f6,ju,ec];rfl)
     | true =>
     conv=>whnf
     refine Zi ?_;exact ⟨⟨j+1,n,m,rfl,rfl,oM,no (by simp only [Zey];rw [hb,f6,ju,ec];rfl)⟩,hμ⟩
    have ec:¬t1=1:=fun g=>ec (by simp only [g];rfl)
    refine Zi ?_;exact ⟨⟨j+1,n,m,rfl,rfl,oM,no (by simp only [Zey];rw [hb,f6,decide_eq_false ec];rfl)⟩,hμ⟩
   have sa:j=p.types.length:=oM;subst sa;rw [SL] at ha;have cg:Zb9 p p.types=none:=ha.symm
   clear ha
   conv=>whnf
   refine ⟨⟨0,n,m,rfl,rfl,oM,rfl⟩,?_⟩
   clear n m
   rintro vs σ1 ⟨j,n,m,rfl,rfl,hj,ha⟩
   conv=>whnf
   refine ZEH (fun hc=>?_) (fun hc=>?_)
   ·have ab:j<p.types.length:=by omega
    rw [Tn ab] at ha;simp only [JV] at ha;have ht:p.types[j]?=some p.types[j]:=Tb ab;have hr:(p.types.map (Zs pl))[(j:Int).toNat]?=some (Zs pl p.types[j]):=by rw [Tl,Th,ht];rfl
    generalize p.types[j]=t at ha ht hr;obtain ⟨t1,t2,t3,t4,t5,t6⟩:=t;have yes:ZgR p ⟨t1,t2,t3,t4,t5,t6⟩=true->K (.ret (.agg (ZBG pl (some (t6,172))))) ⟨Zex pl p,[],0⟩:=fun g=>by
     rw [Tj g] at ha;exact h (some (t6,172)) (by simp only [Zeg,dy,cg,<- ha])
    have no:ZgR p ⟨t1,t2,t3,t4,t5,t6⟩=false->JV p (p.types.drop (j+1))=JV p p.types:=fun g=>by
     rw [Tf (by rw [g];simp)] at ha;exact ha
    have hμ:((p.types.length:Int) - ((j:Int)+1)).toNat<((p.types.length:Int) - (j:Int)).toNat:=oM
    clear ha h
    conv=>whnf
    refine ⟨_,oM,hr,wN ?_⟩;refine ⟨⟨j,0,t2,⟨t1,t2,t3,t4,t5,t6⟩,n,m,rfl,rfl,oM,ht,rfl⟩,?_⟩
    rintro vs σ2 ⟨j',k,a,t',n,m,bo,rfl,hk,kl,ha⟩
    have ej:(some (PV.d (.int .i64 (j:Int))):Option PV)=some (.d (.int .i64 (j':Int))):=congrArg (fun l:List PV=>l[5]?) bo;obtain rfl:j=j':=by have ej:=Option.some.inj ej;injection ej with ej;injection ej with _ ej;omega
    obtain rfl:(⟨t1,t2,t3,t4,t5,t6⟩:Ty)=t':=Option.some.inj (ht.symm.trans kl);have bo:vs=[.d (.str a),.d (.int .i64 k)]:=congrArg (List.drop 6) bo;subst bo;simp only at ha;(conv=>whnf);refine ZEH (fun bw=>?_) (fun bw=>?_);rotate_left
    ·rw [show p.types.length+1 - k=0 by omega] at ha;(conv=>whnf);refine Zi ?_;exact ⟨⟨j+1,n,m,rfl,rfl,oM,no ha.symm⟩,hμ⟩
    obtain ⟨q,hq⟩:∃q,p.types.length+1 - k=q+1:=⟨p.types.length - k,oM⟩
    rw [hq] at ha;simp only [Jk] at ha;(conv=>whnf);refine ⟨pl,p,rfl,hp,fun x hx=>?_⟩;rw [hx] at ha
    cases x with
    | none =>
     conv=>whnf
     refine Zi ?_;exact ⟨⟨j+1,n,m,rfl,rfl,oM,no ha.symm⟩,hμ⟩
    | some c =>
    simp only at ha;(conv=>whnf);refine ZEH (fun dj=>wN ?_) (fun dj=>wN ?_)
    ·rw [Tj (show c=t2 from dj)] at ha;exact yes ha.symm
    rw [Tf (show ¬c=t2 from dj)] at ha;refine Zi ?_;exact ⟨⟨j,k+1,c,⟨t1,t2,t3,t4,t5,t6⟩,n,m,rfl,rfl,oM,ht,by rw [show p.types.length+1 - (k+1)=q by omega];exact ha⟩,by show (((p.types.map (Zs pl)).length:Int)+1 - ((k:Int)+1)).toNat<(((p.types.map (Zs pl)).length:Int)+1 - (k:Int)).toNat;omega⟩
   have sa:j=p.types.length:=oM;subst sa;rw [SL] at ha;have sk:JV p p.types=none:=ha.symm
   clear ha
   have hdF:Zeg p=Zca p 0 p.rels:=by simp only [Zeg,dy,cg,sk]
   conv=>whnf
   refine ⟨⟨0,n,m,rfl,rfl,oM,rfl⟩,?_⟩
   clear n m
   rintro vs σ1 ⟨j,n,m,rfl,rfl,hj,ha⟩
   conv=>whnf
   refine ZEH (fun hc=>?_) (fun hc=>?_)
   ·have ab:j<p.rels.length:=by omega
    rw [Tn ab] at ha;simp only [Zca] at ha;have jo:=hp.re (TE ab);have hr:(p.rels.map (ZF pl))[(j:Int).toNat]?=some (ZF pl p.rels[j]):=by rw [Tl,Th,Tb ab];rfl
    generalize p.rels[j]=d at ha hr jo;obtain ⟨d1,d2,d3,d4,d5,d6⟩:=d;simp only at jo ha;have yes:∀e,Zca p 0 p.rels=some (d6,e)->K (.ret (.agg (ZBG pl (some (d6,e))))) ⟨Zex pl p,[],0⟩:=fun e g=>h _ (by rw [hdF,g])
    have hμ:((p.rels.length:Int) - ((j:Int)+1)).toNat<((p.rels.length:Int) - (j:Int)).toNat:=oM
    clear h
    have yk:∀A:MV->Prop,A (mvI ((lkM d1 (UD p)).getD 0))->optK (lkM d1 (mvM mvI (UD p))) A (A (mvI 0)):=fun A g=>by
     rw [ZK]
     cases hk:lkM d1 (UD p) with
     | none=>rw [hk] at g;exact g
     | some b=>rw [hk] at g;exact g
    conv=>whnf
    refine ⟨_,oM,hr,wN ?_⟩;refine yk _ (wN ?_);refine ZEJ (fun h1=>wN ?_) (fun h1=>wN ?_)
    ·rw [Tj h1] at ha;exact yes 170 ha.symm
    rw [Tf (fun g=>g h1)] at ha;refine ⟨pl,p,rfl,hp,d2,rfl,jo,fun b hb=>?_⟩
    cases b with
    | false =>
     rw [Tj hb] at ha;(conv=>whnf);exact yes 180 ha.symm
    | true =>
    rw [Tf (by rw [hb];simp)] at ha;(conv=>whnf)
    cases d5 with
    | false =>
     rw [Tf sM] at ha;(conv=>whnf);refine Zi ?_;exact ⟨⟨j+1,n,m,rfl,rfl,oM,ha⟩,hμ⟩
    | true =>
    cases d3 with
    | true =>
     rw [Tj sM] at ha;(conv=>whnf);exact yes 185 ha.symm
    | false =>
    cases d4 with
    | true =>
     rw [Tj sM] at ha;(conv=>whnf);exact yes 185 ha.symm
    | false =>
    rw [Tf sM] at ha;(conv=>whnf);refine Zi ?_;exact ⟨⟨j+1,n,m,rfl,rfl,oM,ha⟩,hμ⟩
   have sa:j=p.rels.length:=oM;subst sa;rw [SL] at ha;(conv=>whnf);exact h none (by rw [hdF,<- ha];rfl)
  exact h.elim
 exact h.elim
def prU (p:Pr):Un:=.mk p.types p.rels p.rules [] [] []
abbrev Zuf (pl:Pl) (p:Pr) (b:Nat):List Box:=[.cells 26 (Zkc pl p),.dmap (mvM mvC (YP p)),.dmap (mvM mvI (JS p)),
 .cells 110 ([.mp (b+4),.mp (b+5),.mp (b+2),.mp (b+1)]++Zkc pl p),.dmap (mvM mvI (ZsJ p)),.dmap (mvM mvI (UD p))]
abbrev ZCI (pl:Pl) (p:Pr):List Box:=.cells 26 (Zkc pl p)::.cells 60 [.d (.int .i64 0),.d (.int .i64 0)]::Zuf pl p 2
def ZlA {p:Pr} {a e:Nat}:∀(l:List Re) (i:Nat),Zca p i l=some (a,e)->e≠0
 | [],_,h=>by cases h
 | d::l,i,h=>by
  simp only [Zca] at h;split at h
  ·cases h;decide
  split at h
  ·cases h;decide
  split at h
  ·cases h;decide
  exact ZlA l _ h
def Zqe {p:Pr} {a e:Nat} (h:Zeg p=some (a,e)):e≠0:=by
 unfold Zeg at h
 split at h
 ·cases h;decide
 split at h
 ·cases h;decide
 split at h
 ·cases h;decide
 exact ZlA _ _ h
abbrev Vs:=List (Bs×Int)
abbrev VS:=Vs×Bool
def Zez (p:Pr) (n:Int):Option Ty:=p.types.find? fun t=>decide (t.kind=2) && (decide (0<=n) && decide ((lkM t.name (JS p)).getD 0=n))
def Zcb (p:Pr) (s:Bs):Option (Ty×Ca):=match lkM s (YP p) with
 | none=>none
 | some (i,k)=>match p.types[i.toNat]? with
  | none=>none
  | some t=>match t.cases[k.toNat]? with
   | none=>none
   | some c=>some (t,c)
def Zz (p:Pr) (op:Nat) (text:Bs) (Zcc:Nat) (n:Int):List Int :=
 if op=7 then (match Zcb p text with | some tc=>ZN p tc.2.fields | none=>[])
 else if op=6 then (match Zez p n with | some t=>ZN p t.fields | none=>[])
 else if op=20 then [1,1] else if op=21\/op=23\/op=25 then [1] else if op=22 then [1,0,0] else List.replicate Zcc 0
def Zbm (p:Pr) (vs:Vs) (op:Nat) (text:Bs):Int :=
 if op=1 then (lkM text vs).getD (-1)
 else if op=7 then (match Zcb p text with | some tc=>Y0 p tc.1.name | none=>-1)
 else if op=6\/op=5\/op=2 then -1 else if op=4\/op=20\/op=22\/op=24 then 1 else 0
def ZnK (t:Bs) (n:Int) (s:VS):VS :=
 if (lkM t s.1).isNone=true\/((lkM t s.1).getD 0=-1/\n≠-1) then (Yv t n s.1,s.2 || decide (n≠-1)) else s
mutual
def gvE (p:Pr):Ex->Int->VS->VS
 | .mk op text _ args _,n,s=>if op=1 then ZnK text n s
  else gvEs p args (if (Zz p op text args.length n).length=args.length then Zz p op text args.length n else List.replicate args.length (-1)) s
def gvEs (p:Pr):List Ex->List Int->VS->VS
 | e::es,n::ns,s=>gvEs p es ns (gvE p e n s)
 | _,_,s=>s
end
def YM (p:Pr) (name:Bs) (Zcc:Nat):List Int:=match lkM name (UD p) with
 | none=>List.replicate Zcc (-1)
 | some i=>match p.rels[i.toNat]? with
  | none=>List.replicate Zcc (-1)
  | some d=>if d.fields.length=Zcc then ZN p d.fields else List.replicate Zcc (-1)
def Zqf (p:Pr) (vs:Vs):Ex->Int
 | .mk op text _ _ _=>Zbm p vs op text
def Xt (p:Pr) (vs:Vs):List Ex->Int
 | a::b::_=>if Zqf p vs a≠-1 then Zqf p vs a else Zqf p vs b
 | _=>-1
mutual
def gvL (p:Pr):Li->VS->VS
 | .mk op rel args body _,s=>if op<=2 then gvEs p args (YM p rel args.length) s
  else if op<=8 then gvEs p args [Xt p s.1 args,Xt p s.1 args] s
  else gvLs p body (gvEs p args (List.replicate args.length 0) s)
def gvLs (p:Pr):List Li->VS->VS
 | [],s=>s
 | x::l,s=>gvLs p l (gvL p x s)
end
def XR (p:Pr) (r:Ru) (v:Vs):VS:=gvLs p r.body (gvEs p r.args (YM p r.head r.args.length) (v,false))
def YD (p:Pr) (r:Ru):Nat->Vs->Option Vs
 | 0,_=>none
 | n+1,v=>if (XR p r v).2=true then YD p r n (XR p r v).1 else some (XR p r v).1
abbrev Flt:=Option (Nat×Nat)
mutual
def rtE (p:Pr) (vs:Vs):Ex->Int->Flt
 | .mk op text _ args a,n =>
  if op=7/\(lkM text (YP p)).isNone=true then some (a,184)
  else if (Zbm p vs op text≠-1/\n≠-1/\Zbm p vs op text≠n)\/((op=6\/op=5)/\(Zez p n).isNone=true)\/(op=1/\Zbm p vs op text=-1) then some (a,183)
  else if (Zz p op text args.length n).length≠args.length then some (a,182)
  else UZ p vs args (Zz p op text args.length n)
def UZ (p:Pr) (vs:Vs):List Ex->List Int->Flt
 | e::es,n::ns=>match rtE p vs e n with
  | some f=>some f
  | none=>UZ p vs es ns
 | _,_=>none
end
def Zke (p:Pr) (vs:Vs) (name:Bs) (args:List Ex) (a:Nat) (head:Bool):Flt:=match lkM name (UD p) with
 | none=>some (a,181)
 | some i=>match p.rels[i.toNat]? with
  | none=>none
  | some d=>if (head && d.inn)=true then some (a,185) else if d.fields.length≠args.length then some (a,182) else UZ p vs args (YM p name args.length)
mutual
def rtL (p:Pr) (vs:Vs):Li->Flt
 | .mk op rel args body a=>if op<=2 then Zke p vs rel args a false
  else if op<=8 then (match UZ p vs args [Xt p vs args,Xt p vs args] with
   | some f=>some f
   | none=>if 5<=op/\Xt p vs args≠0/\Xt p vs args≠1 then some (a,183) else none)
  else match UZ p vs args (List.replicate args.length 0) with
   | some f=>some f
   | none=>Zct p vs body
def Zct (p:Pr) (vs:Vs):List Li->Flt
 | []=>none
 | x::l=>match rtL p vs x with
  | some f=>some f
  | none=>Zct p vs l
end
def Z4 (p:Pr) (op:Nat) (text:Bs) (kind:Bs):List Fi :=
 if op=7 then (match Zcb p text with | some tc=>tc.2.fields | none=>[])
 else if op=6 then (match Zez p (Y0 p kind) with | some t=>t.fields | none=>[]) else []
mutual
def wiE (p:Pr):Ex->Bs->List (Ex×Bs)
 | .mk op text n args a,kind=>(.mk op text n args a,kind)::U0 p args (Z4 p op text kind)
def U0 (p:Pr):List Ex->List Fi->List (Ex×Bs)
 | e::es,f::fs=>wiE p e f.typ++U0 p es fs
 | _,_=>[]
end
def Zis (p:Pr) (name:Bs):List Fi:=match lkM name (UD p) with
 | none=>(match p.rels[0]? with | some d=>d.fields | none=>[])
 | some i=>match p.rels[i.toNat]? with | some d=>d.fields | none=>[]
def X1 (p:Pr):Li->List (Ex×Bs)
 | .mk op rel args _ _=>if op=1 then U0 p args (Zis p rel) else []
def ZaC (p:Pr) (l:List Li):List (Bs×Bs):=(l.flatMap (X1 p)).filterMap fun x=>match x with
 | (.mk op text _ _ _,k)=>if op=1 then some (text,k) else none
def Wh (p:Pr) (kn:List (Bs×Bs)):List (Ex×Bs)->Flt
 | []=>none
 | (.mk op text _ _ a,k)::l =>
  if (YT p k).isSome=true/\(8<=op\/(op=1/\(kn.any fun y=>decide (y.1=text) && Xa p y.2 k)=false)) then some (a,183) else Wh p kn l
def Jl (p:Pr) (r:Ru):Flt:=Wh p (ZaC p r.body) (U0 p r.args (Zis p r.head))
def WX (p:Pr) (r:Ru) (vs:Vs):Flt:=if 64<vs.length then some (r.at',3) else match Zke p vs r.head r.args r.at' true with
 | some f=>some f
 | none=>match Zct p vs r.body with
  | some f=>some f
  | none=>Jl p r
mutual
def nvE:Ex->List Bs
 | .mk op text _ args _=>if op=1 then [text] else Znn args
def Znn:List Ex->List Bs
 | []=>[]
 | e::l=>nvE e++Znn l
end
mutual
def nvL:Li->List Bs
 | .mk _ _ args body _=>Znn args++ZnL body
def ZnL:List Li->List Bs
 | []=>[]
 | x::l=>nvL x++ZnL l
end
def nvR (r:Ru):List Bs:=Znn r.args++ZnL r.body
def Xq (p:Pr) (r:Ru):Vs:=(YD p r ((nvR r).length+1) []).getD []
def Yx (p:Pr):List Ru->Flt
 | []=>none
 | r::l=>match WX p r (Xq p r) with
  | some f=>some f
  | none=>Yx p l
def Zfz (pl:Pl) (p:Pr):Int×Int:=if (Zaw (prU p)).2≠0 then (0,(Zaw (prU p)).2) else match Zeg p with
 | some (a,e)=>(pl a,e)
 | none=>match Yx p p.rules with
  | some (a,e)=>(pl a,e)
  | none=>(0,0)
end Go.PM.Lex
end
