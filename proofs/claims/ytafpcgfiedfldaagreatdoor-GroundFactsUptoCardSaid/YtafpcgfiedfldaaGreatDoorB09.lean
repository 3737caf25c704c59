/- A part of the proof: plain logic, contracts and laws over the given program. -/
import Derived.Lib.LaidTab
import Derived.Test.YtafpcgfiedfldaaGreatDoorB08
set_option linter.unusedVariables false
set_option linter.unusedSimpArgs false
set_option linter.all false
set_option maxRecDepth 100000
set_option maxHeartbeats 16000000
noncomputable section
section
namespace Go.PM.Lex
open Go.Proofs
variable {w0:World} {nG:Nat}
def Zs0 (x:Li):Bool:=YI x && ZnD x
def ZxJ {op:Nat} {rel:Bs} {args:List Ex} {body:List Li} {a:Nat} (h:Zs0 (.mk op rel args body a)=true):YY op rel args.length body.length=true/\(∀x∈args,Zkm x=true)/\∀x∈body,Zs0 x=true:=by
 simp only [Zs0,Tn] at h;obtain ⟨h1,h2⟩:=h;obtain ⟨m1,m2,m3⟩:=ZxH h1;obtain ⟨r1,r2⟩:=Zqe h2;exact ⟨m1,fun x hx=>by rw [Zkm,m2 x hx,r1 x hx];rfl,fun x hx=>by rw [Zs0,m3 x hx,r2 x hx];rfl⟩
def ZAP (n:Nat):Zo:=Zjm (.tuple []) fun rest txt=>∃pl x,rest=[YH YT pl x]/\(Zs0 x=true/\wL x<=n/\n<=1073741824)/\txt=liT x
def ZnG (n:Nat):Zo:=fun args σ K=>match args,σ with
 | [.ptr 0 0,.d (.sl r),.d (.str bt),.func g [.ptr 0 0] []],⟨[.cells t [p,.sl 0 e rows]],[0],1⟩=>∃l pl xs,rows=Zk l/\r=xs.map (YT pl)/\(p=.ptr 0 0/\t=97/\e=5/\g=153)/\(xs.all Zs0=true/\szS wL xs<=n/\n<=1073741824)/\l.length+(Zg bt (xs.map liT)).length<70368744177664 /\
   K (.ret (.tuple [])) ⟨[.cells t [.ptr 0 0,.sl 0 e (Zk (l++Zg bt (xs.map liT)))]],[0],1⟩
 | _,_=>False
def ZAR {n:Nat}:OKw w0 nG [(147,ZgY),(153,ZAP n)] 152 (ZnG n):=by
 refine pwo Tryz.func152 fun args σ K h=>?_
 unfold ZnG at h
 split at h
 ·rename_i r bt g t p e rows
  obtain ⟨l,pl,xs,rfl,rfl,⟨rfl,rfl,rfl,rfl⟩,⟨bw,hz,hn⟩,hlen,h⟩:=h;have dt:(xs.map (YT pl)).length=xs.length:=Td ..;have hsz:=Zp wL xs;refine pwv [(1,⟨[12],[0,1,2,3,10,11],fun vs σ=>∃i:Nat,vs=[.d (.int .i64 i)]/\σ=⟨[.cells 97 [.ptr 0 0,.sl 0 5 (Zk (l++Zg bt ((xs.take i).map liT)))]],[0],1⟩/\i<=xs.length,mu1 xs.length⟩)] 1 true ?_;refine ⟨⟨0,rfl,(by simp only [Sg,TN,Zg,T1];rfl),oM⟩,?_⟩;intro vs σ hI
  obtain ⟨i,rfl,rfl,hi⟩:=hI;(conv=>whnf);refine ZFs (fun ab=>wN ?_) (fun ab=>?_)
  ·have ab:i<xs.length:=lzI dt ab;have hg:=Zs wL xs i ab;have eu:Zs0 xs[i]=true:=Tq.1 bw _ (TC ab);have cn:=VM bt liT ab;have aj:=Zan bt liT xs (i+1);obtain ⟨eA,hA⟩:∃x,xs[i]=x:=⟨_,rfl⟩
   obtain ⟨a1,a2,a3,a4,a5⟩:=eA;rw [hA] at hg eu cn;have bi:(xs.map (YT pl))[((i:Nat):Int).toNat]?=some (YT pl (.mk a1 a2 a3 a4 a5)):=by simp [ab,hA]
   refine ⟨_,oM,bi,wN ?_⟩;refine ZFs (fun h0=>wN ?_) (fun h0=>?_)
   ·have h0:0<i:=by omega
    rw [Tf oM] at cn;rw [cn] at aj;simp only [Tb] at aj;refine wk _ bt ⟨rfl,rfl⟩ (wN ?_);refine wk _ (liT (.mk a1 a2 a3 a4 a5)) ⟨pl,(.mk a1 a2 a3 a4 a5),rfl,⟨eu,oM,oM⟩,rfl⟩ (wN ?_);exact mq78
   obtain rfl:i=0:=by omega
   rw [Tk rfl] at cn;rw [cn] at aj;(conv=>whnf);refine ⟨l++Zg bt ((xs.take 0).map liT),liT (.mk a1 a2 a3 a4 a5),rfl,⟨.inr rfl,rfl,rfl⟩,⟨pl,(.mk a1 a2 a3 a4 a5),rfl,⟨eu,oM,oM⟩,rfl⟩,by simp only [Sg,TN,Zg,Tb,Tg];omega,wN ?_⟩;exact mq73
  exact mq185
 exact h.elim
def ZAS (n:Nat):Tbl:=[(84,ZeP),(151,ZsZ n),(204,ZsY n),(152,spB ZnG n)]
def ZAT {n:Nat} (ht:TO w0 nG (ZAS n)):PC w0 nG 153 (ZAP n):=by
 refine XQ Zy mixed (tbl:=ZAS n) ht Tryz.func153 rfl kR kR ?_;intro args σ K h
 unfold ZAP Zjm at h
 split at h
 ·rename_i rest t p e rows
  obtain ⟨l,txt,rfl,⟨hp,rfl,rfl⟩,⟨pl,⟨op,rel,xs,body,at'⟩,rfl,⟨bw,hz,hn⟩,rfl⟩,hlen,h⟩:=h;obtain ⟨m1,m2,m3⟩:=ZxJ bw;have dw:szS wE xs+szS wL body+rel.length+1<=n:=by rw [wL,Ux] at hz;omega
  refine ⟨Zj [],Xo [(13,2)],Ye [],1,true,sM,Tc rfl,?_⟩;have ur:((op=1\/op=2)/\Xk rel=true/\body.length=0)\/(3<=op/\op<=8/\rel=[]/\xs.length=2/\body.length=0)\/(op=9/\rel=[]/\xs.length=1/\0<body.length)\/(9<op/\op<=12/\rel=[]/\xs.length=2/\0<body.length):=ZxI m1;rcases ur with ⟨eg,hnm,hb⟩ | ⟨c1,c2,rfl,bo,hb⟩ | ⟨rfl,rfl,dl,hb⟩ | ⟨c1,c2,rfl,bo,hb⟩
  ·rcases eg with rfl | rfl
   ·rcases hp with rfl | rfl
    all_goals
     have hx:liT (.mk 1 rel xs body at')=rel++argT [40] [41] xs:=by rw [liT];rfl
     rw [hx] at h hlen
     (try simp only [Tb,Te,Tg] at hlen)
     conv=>whnf
     refine wk _ rel ⟨[rel],rfl,sM,sM,sM⟩ ?_;(conv=>whnf);refine wk _ (argT [40] [41] xs) ⟨[40],[41],pl,xs,rfl,⟨Tq.2 m2,oM,oM⟩,rfl⟩ ?_;rw [show l++(rel++argT [40] [41] xs)=l++rel++argT [40] [41] xs by simp only [To]] at h;(conv=>whnf);exact h
   rcases hp with rfl | rfl
   all_goals
    have hx:liT (.mk 2 rel xs body at')=[33]++(rel++argT [40] [41] xs):=by rw [liT];rfl
    rw [hx] at h hlen
    (try simp only [Tb,Te,Tg] at hlen)
    conv=>whnf
    refine wk _ [33] ⟨[[33]],rfl,sM,sM,sM⟩ ?_;(conv=>whnf);refine wk _ rel ⟨[rel],rfl,sM,sM,sM⟩ ?_;(conv=>whnf);refine wk _ (argT [40] [41] xs) ⟨[40],[41],pl,xs,rfl,⟨Tq.2 m2,oM,oM⟩,rfl⟩ ?_;rw [show l++([33]++(rel++argT [40] [41] xs))=l++[33]++rel++argT [40] [41] xs by simp only [To]] at h;(conv=>whnf);exact h
  ·obtain ⟨x0,x1,rfl⟩:=Zuw bo;simp only [szS] at dw;have g0:=m2 x0 sM;have g1:=m2 x1 sM;have z0:wE x0<=n:=oM;have z1:wE x1<=n:=oM;obtain ⟨o0,t0,n0,y0,q0⟩:=x0;obtain ⟨o1,t1,n1,y1,q1⟩:=x1;obtain rfl | rfl | rfl | rfl | rfl | rfl:op=3\/op=4\/op=5\/op=6\/op=7\/op=8:=oM
   ·rcases hp with rfl | rfl
    all_goals
     have hx:liT (.mk 3 [] [(.mk o0 t0 n0 y0 q0),(.mk o1 t1 n1 y1 q1)] body at')=exW 0 (.mk o0 t0 n0 y0 q0)++([32,61,32]++exW 0 (.mk o1 t1 n1 y1 q1)):=by rw [liT,Vj,Vj];rfl
     rw [hx] at h hlen
     (try simp only [Tb,Te,Tg] at hlen)
     conv=>whnf
     refine ⟨_,dM,rfl,wN ?_⟩;refine wk _ (exW 0 (.mk o0 t0 n0 y0 q0)) ⟨pl,(.mk o0 t0 n0 y0 q0),0,rfl,⟨g0,oM,oM,oM,oM⟩,rfl⟩ ?_;(conv=>whnf);refine Or.inl ⟨InR.u8 dM dM,wN ?_⟩;refine ⟨dM,dM,wN ?_⟩;refine wk _ [32,61,32] ⟨[[32,61,32]],rfl,sM,sM,sM⟩ ?_;(conv=>whnf);refine ⟨_,dM,rfl,wN ?_⟩;refine wk _ (exW 0 (.mk o1 t1 n1 y1 q1)) ⟨pl,(.mk o1 t1 n1 y1 q1),0,rfl,⟨g1,oM,oM,oM,oM⟩,rfl⟩ ?_;rw [show l++(exW 0 (.mk o0 t0 n0 y0 q0)++([32,61,32]++exW 0 (.mk o1 t1 n1 y1 q1)))=l++exW 0 (.mk o0 t0 n0 y0 q0)++[32,61,32]++exW 0 (.mk o1 t1 n1 y1 q1) by simp only [To]] at h;(conv=>whnf);exact h
   ·rcases hp with rfl | rfl
    all_goals
     have hx:liT (.mk 4 [] [(.mk o0 t0 n0 y0 q0),(.mk o1 t1 n1 y1 q1)] body at')=exW 0 (.mk o0 t0 n0 y0 q0)++([32,33,61,32]++exW 0 (.mk o1 t1 n1 y1 q1)):=by rw [liT,Vj,Vj];rfl
     rw [hx] at h hlen
     (try simp only [Tb,Te,Tg] at hlen)
     conv=>whnf
     refine ⟨_,dM,rfl,wN ?_⟩;refine wk _ (exW 0 (.mk o0 t0 n0 y0 q0)) ⟨pl,(.mk o0 t0 n0 y0 q0),0,rfl,⟨g0,oM,oM,oM,oM⟩,rfl⟩ ?_;(conv=>whnf);refine Or.inl ⟨InR.u8 dM dM,wN ?_⟩;refine ⟨dM,dM,wN ?_⟩;refine wk _ [32,33,61,32] ⟨[[32,33,61,32]],rfl,sM,sM,sM⟩ ?_;(conv=>whnf);refine ⟨_,dM,rfl,wN ?_⟩;refine wk _ (exW 0 (.mk o1 t1 n1 y1 q1)) ⟨pl,(.mk o1 t1 n1 y1 q1),0,rfl,⟨g1,oM,oM,oM,oM⟩,rfl⟩ ?_;rw [show l++(exW 0 (.mk o0 t0 n0 y0 q0)++([32,33,61,32]++exW 0 (.mk o1 t1 n1 y1 q1)))=l++exW 0 (.mk o0 t0 n0 y0 q0)++[32,33,61,32]++exW 0 (.mk o1 t1 n1 y1 q1) by simp only [To]] at h;(conv=>whnf);exact h
   ·rcases hp with rfl | rfl
    all_goals
     have hx:liT (.mk 5 [] [(.mk o0 t0 n0 y0 q0),(.mk o1 t1 n1 y1 q1)] body at')=exW 0 (.mk o0 t0 n0 y0 q0)++([32,60,32]++exW 0 (.mk o1 t1 n1 y1 q1)):=by rw [liT,Vj,Vj];rfl
     rw [hx] at h hlen
     (try simp only [Tb,Te,Tg] at hlen)
     conv=>whnf
     refine ⟨_,dM,rfl,wN ?_⟩;refine wk _ (exW 0 (.mk o0 t0 n0 y0 q0)) ⟨pl,(.mk o0 t0 n0 y0 q0),0,rfl,⟨g0,oM,oM,oM,oM⟩,rfl⟩ ?_;(conv=>whnf);refine Or.inl ⟨InR.u8 dM dM,wN ?_⟩;refine ⟨dM,dM,wN ?_⟩;refine wk _ [32,60,32] ⟨[[32,60,32]],rfl,sM,sM,sM⟩ ?_;(conv=>whnf);refine ⟨_,dM,rfl,wN ?_⟩;refine wk _ (exW 0 (.mk o1 t1 n1 y1 q1)) ⟨pl,(.mk o1 t1 n1 y1 q1),0,rfl,⟨g1,oM,oM,oM,oM⟩,rfl⟩ ?_;rw [show l++(exW 0 (.mk o0 t0 n0 y0 q0)++([32,60,32]++exW 0 (.mk o1 t1 n1 y1 q1)))=l++exW 0 (.mk o0 t0 n0 y0 q0)++[32,60,32]++exW 0 (.mk o1 t1 n1 y1 q1) by simp only [To]] at h;(conv=>whnf);exact h
   ·rcases hp with rfl | rfl
    all_goals
     have hx:liT (.mk 6 [] [(.mk o0 t0 n0 y0 q0),(.mk o1 t1 n1 y1 q1)] body at')=exW 0 (.mk o0 t0 n0 y0 q0)++([32,60,61,32]++exW 0 (.mk o1 t1 n1 y1 q1)):=by rw [liT,Vj,Vj];rfl
     rw [hx] at h hlen
     (try simp only [Tb,Te,Tg] at hlen)
     conv=>whnf
     refine ⟨_,dM,rfl,wN ?_⟩;refine wk _ (exW 0 (.mk o0 t0 n0 y0 q0)) ⟨pl,(.mk o0 t0 n0 y0 q0),0,rfl,⟨g0,oM,oM,oM,oM⟩,rfl⟩ ?_;(conv=>whnf);refine Or.inl ⟨InR.u8 dM dM,wN ?_⟩;refine ⟨dM,dM,wN ?_⟩;refine wk _ [32,60,61,32] ⟨[[32,60,61,32]],rfl,sM,sM,sM⟩ ?_;(conv=>whnf);refine ⟨_,dM,rfl,wN ?_⟩;refine wk _ (exW 0 (.mk o1 t1 n1 y1 q1)) ⟨pl,(.mk o1 t1 n1 y1 q1),0,rfl,⟨g1,oM,oM,oM,oM⟩,rfl⟩ ?_;rw [show l++(exW 0 (.mk o0 t0 n0 y0 q0)++([32,60,61,32]++exW 0 (.mk o1 t1 n1 y1 q1)))=l++exW 0 (.mk o0 t0 n0 y0 q0)++[32,60,61,32]++exW 0 (.mk o1 t1 n1 y1 q1) by simp only [To]] at h;(conv=>whnf);exact h
   ·rcases hp with rfl | rfl
    all_goals
     have hx:liT (.mk 7 [] [(.mk o0 t0 n0 y0 q0),(.mk o1 t1 n1 y1 q1)] body at')=exW 0 (.mk o0 t0 n0 y0 q0)++([32,62,32]++exW 0 (.mk o1 t1 n1 y1 q1)):=by rw [liT,Vj,Vj];rfl
     rw [hx] at h hlen
     (try simp only [Tb,Te,Tg] at hlen)
     conv=>whnf
     refine ⟨_,dM,rfl,wN ?_⟩;refine wk _ (exW 0 (.mk o0 t0 n0 y0 q0)) ⟨pl,(.mk o0 t0 n0 y0 q0),0,rfl,⟨g0,oM,oM,oM,oM⟩,rfl⟩ ?_;(conv=>whnf);refine Or.inl ⟨InR.u8 dM dM,wN ?_⟩;refine ⟨dM,dM,wN ?_⟩;refine wk _ [32,62,32] ⟨[[32,62,32]],rfl,sM,sM,sM⟩ ?_;(conv=>whnf);refine ⟨_,dM,rfl,wN ?_⟩;refine wk _ (exW 0 (.mk o1 t1 n1 y1 q1)) ⟨pl,(.mk o1 t1 n1 y1 q1),0,rfl,⟨g1,oM,oM,oM,oM⟩,rfl⟩ ?_;rw [show l++(exW 0 (.mk o0 t0 n0 y0 q0)++([32,62,32]++exW 0 (.mk o1 t1 n1 y1 q1)))=l++exW 0 (.mk o0 t0 n0 y0 q0)++[32,62,32]++exW 0 (.mk o1 t1 n1 y1 q1) by simp only [To]] at h;(conv=>whnf);exact h
   rcases hp with rfl | rfl
   all_goals
    have hx:liT (.mk 8 [] [(.mk o0 t0 n0 y0 q0),(.mk o1 t1 n1 y1 q1)] body at')=exW 0 (.mk o0 t0 n0 y0 q0)++([32,62,61,32]++exW 0 (.mk o1 t1 n1 y1 q1)):=by rw [liT,Vj,Vj];rfl
    rw [hx] at h hlen
    (try simp only [Tb,Te,Tg] at hlen)
    conv=>whnf
    refine ⟨_,dM,rfl,wN ?_⟩;refine wk _ (exW 0 (.mk o0 t0 n0 y0 q0)) ⟨pl,(.mk o0 t0 n0 y0 q0),0,rfl,⟨g0,oM,oM,oM,oM⟩,rfl⟩ ?_;(conv=>whnf);refine Or.inl ⟨InR.u8 dM dM,wN ?_⟩;refine ⟨dM,dM,wN ?_⟩;refine wk _ [32,62,61,32] ⟨[[32,62,61,32]],rfl,sM,sM,sM⟩ ?_;(conv=>whnf);refine ⟨_,dM,rfl,wN ?_⟩;refine wk _ (exW 0 (.mk o1 t1 n1 y1 q1)) ⟨pl,(.mk o1 t1 n1 y1 q1),0,rfl,⟨g1,oM,oM,oM,oM⟩,rfl⟩ ?_;rw [show l++(exW 0 (.mk o0 t0 n0 y0 q0)++([32,62,61,32]++exW 0 (.mk o1 t1 n1 y1 q1)))=l++exW 0 (.mk o0 t0 n0 y0 q0)++[32,62,61,32]++exW 0 (.mk o1 t1 n1 y1 q1) by simp only [To]] at h;(conv=>whnf);exact h
  ·obtain ⟨x0,rfl⟩:=ZAN dl;simp only [szS] at dw;have g0:=m2 x0 sM;have z0:wE x0<=n:=oM;obtain ⟨o0,t0,n0,y0,q0⟩:=x0;rcases hp with rfl | rfl
   all_goals
    have hx:liT (.mk 9 [] [(.mk o0 t0 n0 y0 q0)] body at')=exW 0 (.mk o0 t0 n0 y0 q0)++(([32,61,32]++[99,111,117,110,116])++([32,58,32,123,32]++(Zg cmm (body.map liT)++([32,125])))):=by rw [liT,ZdI,Vj];simp [ZlR,ZsL,Zkh]
    rw [hx] at h hlen
    (try simp only [Tb,Te,Tg] at hlen)
    conv=>whnf
    refine ⟨_,dM,rfl,wN ?_⟩;refine wk _ (exW 0 (.mk o0 t0 n0 y0 q0)) ⟨pl,(.mk o0 t0 n0 y0 q0),0,rfl,⟨g0,oM,oM,oM,oM⟩,rfl⟩ ?_;(conv=>whnf);refine Or.inl ⟨InR.u8 dM dM,wN ?_⟩;refine ⟨dM,dM,wN ?_⟩;refine wk _ ([32,61,32]++[99,111,117,110,116]) ⟨[[32,61,32],[99,111,117,110,116]],rfl,sM,sM,sM⟩ ?_;(conv=>whnf);refine ⟨fun r hr=>?_,dM,by rw [Zb];simp,wN ?_⟩
    ·rw [Zb] at hr;simp only [TE,TN,Tu,List.not_mem_nil,or_false] at hr;rcases hr with rfl;rfl
    refine wk _ [32,58,32,123,32] ⟨[[32,58,32,123,32]],rfl,sM,sM,sM⟩ ?_;(conv=>whnf);refine ⟨oM,l++exW 0 (.mk o0 t0 n0 y0 q0)++([32,61,32]++[99,111,117,110,116])++[32,58,32,123,32],pl,body,rfl,Zm pl body,⟨rfl,rfl,rfl,rfl⟩,⟨Tq.2 m3,oM,oM⟩,(by (try simp only [Tb,Te,Tg]);show _+(Zg cmm (body.map liT)).length<_;omega),?_⟩;(conv=>whnf);refine wk (l++exW 0 (.mk o0 t0 n0 y0 q0)++([32,61,32]++[99,111,117,110,116])++[32,58,32,123,32]++Zg cmm (body.map liT)) [32,125] ⟨[[32,125]],rfl,sM,sM,sM⟩ ?_;rw [show l++(exW 0 (.mk o0 t0 n0 y0 q0)++(([32,61,32]++[99,111,117,110,116])++([32,58,32,123,32]++(Zg cmm (body.map liT)++([32,125])))))=l++exW 0 (.mk o0 t0 n0 y0 q0)++([32,61,32]++[99,111,117,110,116])++[32,58,32,123,32]++Zg cmm (body.map liT)++[32,125] by simp only [To]] at h;(conv=>whnf);exact h
  obtain ⟨x0,x1,rfl⟩:=Zuw bo;simp only [szS] at dw;have g0:=m2 x0 sM;have g1:=m2 x1 sM;have z0:wE x0<=n:=oM;have z1:wE x1<=n:=oM;obtain ⟨o0,t0,n0,y0,q0⟩:=x0;obtain ⟨o1,t1,n1,y1,q1⟩:=x1;obtain rfl | rfl | rfl:op=10\/op=11\/op=12:=oM
  ·rcases hp with rfl | rfl
   all_goals
    have hx:liT (.mk 10 [] [(.mk o0 t0 n0 y0 q0),(.mk o1 t1 n1 y1 q1)] body at')=exW 0 (.mk o0 t0 n0 y0 q0)++(([32,61,32]++[115,117,109])++([32]++(exW 0 (.mk o1 t1 n1 y1 q1)++([32,58,32,123,32]++(Zg cmm (body.map liT)++([32,125])))))):=by rw [liT,ZdI,Vj,Vj];simp [ZlR,ZsL,Zkh]
    rw [hx] at h hlen
    (try simp only [Tb,Te,Tg] at hlen)
    conv=>whnf
    refine ⟨_,dM,rfl,wN ?_⟩;refine wk _ (exW 0 (.mk o0 t0 n0 y0 q0)) ⟨pl,(.mk o0 t0 n0 y0 q0),0,rfl,⟨g0,oM,oM,oM,oM⟩,rfl⟩ ?_;(conv=>whnf);refine Or.inl ⟨InR.u8 dM dM,wN ?_⟩;refine ⟨dM,dM,wN ?_⟩;refine wk _ ([32,61,32]++[115,117,109]) ⟨[[32,61,32],[115,117,109]],rfl,sM,sM,sM⟩ ?_;(conv=>whnf);refine ⟨fun r hr=>?_,dM,by rw [Zb];simp,wN ?_⟩
    ·exact mq101
    refine ⟨_,dM,rfl,wN ?_⟩;refine wk _ [32] ⟨[[32]],rfl,sM,sM,sM⟩ ?_;(conv=>whnf);refine wk _ (exW 0 (.mk o1 t1 n1 y1 q1)) ⟨pl,(.mk o1 t1 n1 y1 q1),0,rfl,⟨g1,oM,oM,oM,oM⟩,rfl⟩ ?_;(conv=>whnf);refine X6 ?_;refine wk _ [32,58,32,123,32] ⟨[[32,58,32,123,32]],rfl,sM,sM,sM⟩ ?_;(conv=>whnf);refine ⟨oM,l++exW 0 (.mk o0 t0 n0 y0 q0)++([32,61,32]++[115,117,109])++[32]++exW 0 (.mk o1 t1 n1 y1 q1)++[32,58,32,123,32],pl,body,rfl,Zm pl body,⟨rfl,rfl,rfl,rfl⟩,⟨Tq.2 m3,oM,oM⟩,(by (try simp only [Tb,Te,Tg]);show _+(Zg cmm (body.map liT)).length<_;omega),?_⟩;(conv=>whnf);refine wk (l++exW 0 (.mk o0 t0 n0 y0 q0)++([32,61,32]++[115,117,109])++[32]++exW 0 (.mk o1 t1 n1 y1 q1)++[32,58,32,123,32]++Zg cmm (body.map liT)) [32,125] ⟨[[32,125]],rfl,sM,sM,sM⟩ ?_;rw [show l++(exW 0 (.mk o0 t0 n0 y0 q0)++(([32,61,32]++[115,117,109])++([32]++(exW 0 (.mk o1 t1 n1 y1 q1)++([32,58,32,123,32]++(Zg cmm (body.map liT)++([32,125])))))))=l++exW 0 (.mk o0 t0 n0 y0 q0)++([32,61,32]++[115,117,109])++[32]++exW 0 (.mk o1 t1 n1 y1 q1)++[32,58,32,123,32]++Zg cmm (body.map liT)++[32,125] by simp only [To]] at h;(conv=>whnf);exact h
  ·rcases hp with rfl | rfl
   all_goals
    have hx:liT (.mk 11 [] [(.mk o0 t0 n0 y0 q0),(.mk o1 t1 n1 y1 q1)] body at')=exW 0 (.mk o0 t0 n0 y0 q0)++(([32,61,32]++[109,105,110])++([32]++(exW 0 (.mk o1 t1 n1 y1 q1)++([32,58,32,123,32]++(Zg cmm (body.map liT)++([32,125])))))):=by rw [liT,ZdI,Vj,Vj];simp [ZlR,ZsL,Zkh]
    rw [hx] at h hlen
    (try simp only [Tb,Te,Tg] at hlen)
    conv=>whnf
    refine ⟨_,dM,rfl,wN ?_⟩;refine wk _ (exW 0 (.mk o0 t0 n0 y0 q0)) ⟨pl,(.mk o0 t0 n0 y0 q0),0,rfl,⟨g0,oM,oM,oM,oM⟩,rfl⟩ ?_;(conv=>whnf);refine Or.inl ⟨InR.u8 dM dM,wN ?_⟩;refine ⟨dM,dM,wN ?_⟩;refine wk _ ([32,61,32]++[109,105,110]) ⟨[[32,61,32],[109,105,110]],rfl,sM,sM,sM⟩ ?_;(conv=>whnf);refine ⟨fun r hr=>?_,dM,by rw [Zb];simp,wN ?_⟩
    ·exact mq101
    refine ⟨_,dM,rfl,wN ?_⟩;refine wk _ [32] ⟨[[32]],rfl,sM,sM,sM⟩ ?_;(conv=>whnf);refine wk _ (exW 0 (.mk o1 t1 n1 y1 q1)) ⟨pl,(.mk o1 t1 n1 y1 q1),0,rfl,⟨g1,oM,oM,oM,oM⟩,rfl⟩ ?_;(conv=>whnf);refine X6 ?_;refine wk _ [32,58,32,123,32] ⟨[[32,58,32,123,32]],rfl,sM,sM,sM⟩ ?_;(conv=>whnf);refine ⟨oM,l++exW 0 (.mk o0 t0 n0 y0 q0)++([32,61,32]++[109,105,110])++[32]++exW 0 (.mk o1 t1 n1 y1 q1)++[32,58,32,123,32],pl,body,rfl,Zm pl body,⟨rfl,rfl,rfl,rfl⟩,⟨Tq.2 m3,oM,oM⟩,(by (try simp only [Tb,Te,Tg]);show _+(Zg cmm (body.map liT)).length<_;omega),?_⟩;(conv=>whnf);refine wk (l++exW 0 (.mk o0 t0 n0 y0 q0)++([32,61,32]++[109,105,110])++[32]++exW 0 (.mk o1 t1 n1 y1 q1)++[32,58,32,123,32]++Zg cmm (body.map liT)) [32,125] ⟨[[32,125]],rfl,sM,sM,sM⟩ ?_;rw [show l++(exW 0 (.mk o0 t0 n0 y0 q0)++(([32,61,32]++[109,105,110])++([32]++(exW 0 (.mk o1 t1 n1 y1 q1)++([32,58,32,123,32]++(Zg cmm (body.map liT)++([32,125])))))))=l++exW 0 (.mk o0 t0 n0 y0 q0)++([32,61,32]++[109,105,110])++[32]++exW 0 (.mk o1 t1 n1 y1 q1)++[32,58,32,123,32]++Zg cmm (body.map liT)++[32,125] by simp only [To]] at h;(conv=>whnf);exact h
  rcases hp with rfl | rfl
  all_goals
   have hx:liT (.mk 12 [] [(.mk o0 t0 n0 y0 q0),(.mk o1 t1 n1 y1 q1)] body at')=exW 0 (.mk o0 t0 n0 y0 q0)++(([32,61,32]++[109,97,120])++([32]++(exW 0 (.mk o1 t1 n1 y1 q1)++([32,58,32,123,32]++(Zg cmm (body.map liT)++([32,125])))))):=by rw [liT,ZdI,Vj,Vj];simp [ZlR,ZsL,Zkh]
   rw [hx] at h hlen
   (try simp only [Tb,Te,Tg] at hlen)
   conv=>whnf
   refine ⟨_,dM,rfl,wN ?_⟩;refine wk _ (exW 0 (.mk o0 t0 n0 y0 q0)) ⟨pl,(.mk o0 t0 n0 y0 q0),0,rfl,⟨g0,oM,oM,oM,oM⟩,rfl⟩ ?_;(conv=>whnf);refine Or.inl ⟨InR.u8 dM dM,wN ?_⟩;refine ⟨dM,dM,wN ?_⟩;refine wk _ ([32,61,32]++[109,97,120]) ⟨[[32,61,32],[109,97,120]],rfl,sM,sM,sM⟩ ?_;(conv=>whnf);refine ⟨fun r hr=>?_,dM,by rw [Zb];simp,wN ?_⟩
   ·exact mq101
   refine ⟨_,dM,rfl,wN ?_⟩;refine wk _ [32] ⟨[[32]],rfl,sM,sM,sM⟩ ?_;(conv=>whnf);refine wk _ (exW 0 (.mk o1 t1 n1 y1 q1)) ⟨pl,(.mk o1 t1 n1 y1 q1),0,rfl,⟨g1,oM,oM,oM,oM⟩,rfl⟩ ?_;(conv=>whnf);refine X6 ?_;refine wk _ [32,58,32,123,32] ⟨[[32,58,32,123,32]],rfl,sM,sM,sM⟩ ?_;(conv=>whnf);refine ⟨oM,l++exW 0 (.mk o0 t0 n0 y0 q0)++([32,61,32]++[109,97,120])++[32]++exW 0 (.mk o1 t1 n1 y1 q1)++[32,58,32,123,32],pl,body,rfl,Zm pl body,⟨rfl,rfl,rfl,rfl⟩,⟨Tq.2 m3,oM,oM⟩,(by (try simp only [Tb,Te,Tg]);show _+(Zg cmm (body.map liT)).length<_;omega),?_⟩;(conv=>whnf);refine wk (l++exW 0 (.mk o0 t0 n0 y0 q0)++([32,61,32]++[109,97,120])++[32]++exW 0 (.mk o1 t1 n1 y1 q1)++[32,58,32,123,32]++Zg cmm (body.map liT)) [32,125] ⟨[[32,125]],rfl,sM,sM,sM⟩ ?_;rw [show l++(exW 0 (.mk o0 t0 n0 y0 q0)++(([32,61,32]++[109,97,120])++([32]++(exW 0 (.mk o1 t1 n1 y1 q1)++([32,58,32,123,32]++(Zg cmm (body.map liT)++([32,125])))))))=l++exW 0 (.mk o0 t0 n0 y0 q0)++([32,61,32]++[109,97,120])++[32]++exW 0 (.mk o1 t1 n1 y1 q1)++[32,58,32,123,32]++Zg cmm (body.map liT)++[32,125] by simp only [To]] at h;(conv=>whnf);exact h
 exact h.elim
def cWA (hN:NumOK w0 nG) (hL:LexC w0 nG) (n:Nat):PC w0 nG 151 (ZsZ n):=Zuu (cWE hN hL n)
def Zqj {n:Nat} (h:PC w0 nG 153 (ZAP n)):PC w0 nG 152 (ZnG n):=ZAR ⟨Zp7,h,trivial⟩
def cWL (hN:NumOK w0 nG) (hL:LexC w0 nG):∀n,PC w0 nG 153 (ZAP n)
 | 0=>ZAT ⟨Zal,cWA hN hL 0,cWE hN hL 0,ZA (Zf Tryz.func152 kR rfl),trivial⟩
 | n+1=>ZAT ⟨Zal,cWA hN hL (n+1),cWE hN hL (n+1),ZB (sp:=ZnG) (Zqj (cWL hN hL n)),trivial⟩
def ZAU (r:Ru):Bool:=XO r && ZdL r
def ZxK {r:Ru} (h:ZAU r=true):(∀x∈r.args,Zkm x=true)/\∀x∈r.body,Zs0 x=true:=by
 simp only [ZAU,XO,ZdL,Tn] at h;obtain ⟨⟨_,h1,h2⟩,h3,h4⟩:=h;rw [Tq] at h1 h2 h3 h4;exact ⟨fun x hx=>by rw [Zkm,h1 x hx,h3 x hx];rfl,fun x hx=>by rw [Zs0,h2 x hx,h4 x hx];rfl⟩
def ZCg (n:Nat):Zo:=Zjm (.tuple []) fun rest txt=>∃pl x,rest=[YH ZC pl x]/\(ZAU x=true/\wRu x<=n/\n<=1073741824)/\txt=ruT x
def ZDk {n:Nat}:OKw w0 nG [(84,ZeP),(151,ZsZ n),(152,ZnG n)] 89 (ZCg n):=by
 refine pwo Tryz.func89 fun args σ K h=>?_
 unfold ZCg Zjm at h
 split at h
 ·rename_i rest t p e rows
  obtain ⟨l,txt,rfl,⟨hp,rfl,rfl⟩,⟨pl,⟨head,xs,body,at'⟩,rfl,⟨bw,hz,hn⟩,rfl⟩,hlen,h⟩:=h;obtain ⟨m2,m3⟩:=ZxK bw;simp only at m2 m3;have dw:szS wE xs+szS wL body+head.length+1<=n:=by unfold wRu at hz;simp only at hz;omega
  have cj:(ZQ pl body).length=body.length:=by rw [Zm,Td]
  refine pwu [] 1 true ?_;have nz:l.length+head.length+(argT [40] [41] xs).length+10<70368744177664+10:=by
   have e:(ruT ⟨head,xs,body,at'⟩).length>=head.length+(argT [40] [41] xs).length:=by rw [ruT];simp only [Tb];omega
   omega
  rcases hp with rfl | rfl
  all_goals
   conv=>whnf
   refine wk _ head ⟨[head],rfl,sM,sM,sM⟩ ?_;(conv=>whnf);refine wk _ (argT [40] [41] xs) ⟨[40],[41],pl,xs,rfl,⟨Tq.2 m2,oM,oM⟩,rfl⟩ ?_;(conv=>whnf);refine ZFs (fun c=>wN ?_) (fun c=>wN ?_)
   ·have c:0<body.length:=by have c:((ZQ pl body).length:Int)>0:=c;omega
    have hx:ruT ⟨head,xs,body,at'⟩=head++(argT [40] [41] xs++([32,58,45,32]++(Zg cmm (body.map liT)++[46]))):=by rw [ruT,Tk c,ZdI];simp
    rw [hx] at h hlen;simp only [Tb,Te,Tg] at hlen;refine wk _ [32,58,45,32] ⟨[[32,58,45,32]],rfl,sM,sM,sM⟩ ?_;(conv=>whnf);refine ⟨l++head++argT [40] [41] xs++[32,58,45,32],pl,body,rfl,Zm pl body,⟨rfl,rfl,rfl,rfl⟩,⟨Tq.2 m3,oM,oM⟩,(by (try simp only [Tb,Te,Tg]);show _+(Zg cmm (body.map liT)).length<_;omega),?_⟩;(conv=>whnf);refine wk (l++head++argT [40] [41] xs++[32,58,45,32]++Zg cmm (body.map liT)) [46] ⟨[[46]],rfl,sM,sM,sM⟩ ?_;simp only [<- To] at h;exact mq51
   have c:¬0<body.length:=by have c:¬((ZQ pl body).length:Int)>0:=c;omega
   have hx:ruT ⟨head,xs,body,at'⟩=head++(argT [40] [41] xs++[46]):=by rw [ruT,Tf c,Si]
   rw [hx] at h hlen;simp only [Tb,Te,Tg] at hlen;refine wk _ [46] ⟨[[46]],rfl,sM,sM,sM⟩ ?_;simp only [<- To] at h;exact mq51
 exact h.elim
def cWR (hN:NumOK w0 nG) (hL:LexC w0 nG) (n:Nat):PC w0 nG 89 (ZCg n):=ZDk ⟨Zal,cWA hN hL n,Zqj (cWL hN hL n),trivial⟩
def Zs1 {t:Ty} (h:Yn t=true):Xk t.name=true/\(∀f∈t.fields,YQ f=true)/\(∀c∈t.cases,Xq c=true) /\
  ((t.kind=1/\Xk t.base=true/\t.fields=[]/\t.cases=[])\/(t.kind=2/\t.base=[]/\t.cases=[])\/(t.kind=3/\t.base=[]/\t.fields=[]/\t.cases≠[])):=by
 simp only [Yn,Tn] at h;obtain ⟨h1,h2,h3,h4⟩:=h;refine ⟨h2,Tq.1 h3,Tq.1 h4,?_⟩;unfold ZbW at h1
 split at h1
 ·rename_i c
  simp only [Tn,TQ] at h1;exact .inl ⟨c,h1.1,T3 h1.2.1,T3 h1.2.2⟩
 split at h1
 ·rename_i c
  simp only [Tn,TQ] at h1;exact .inr (.inl ⟨c,h1.1,T3 h1.2⟩)
 split at h1
 ·rename_i c
  simp only [Tn,TQ,T4,decide_eq_false_iff_not] at h1;exact .inr (.inr ⟨c,h1.1,T3 h1.2.1,fun e=>h1.2.2 (by rw [e];rfl)⟩)
 cases h1
def ZxL {tys:List Ty} {rels:List Re} {rules:List Ru} {comps:List Co} {inits:List Ini} {overs:List Ov} (h:ZeO (.mk tys rels rules comps inits overs)=true) :
  (∀x∈tys,Yn x=true)/\(∀x∈rels,Wa x=true)/\(∀x∈rules,XO x=true)/\(∀x∈comps,Yg x=true)/\(∀x∈inits,Wu x=true)/\∀x∈overs,WX x=true:=by
 simp only [ZeO,Wv,Tn] at h;obtain ⟨h1,h2,h3,h4,h5,h6⟩:=h;exact ⟨Tq.1 h1,Tq.1 h2,Tq.1 h3,Tq.1 h4,Tq.1 h5,Tq.1 h6⟩
end Go.PM.Lex
end

section
namespace Go.PM.Lex
open Go.Proofs Go.RowKit
variable {w0:World} {nG:Nat}
def ZAW:Tbl:=[(84,ZeP)]
def ZAX {n:Nat}:PC w0 nG 149 (ZgX (YH (fun _=>Zn)) YQ fiT wFi n):=by
 refine pwt (tbl:=ZAW) ⟨Zal,trivial⟩ Tryz.func149 fun args σ K h=>?_
 unfold ZgX at h
 split at h
 ·obtain ⟨l,pl,⟨nm,ty⟩,rfl,rfl,⟨rfl,rfl⟩,⟨bw,hz,hn⟩,hlen,h⟩:=h;refine pwv [] 2 true ?_;refine ⟨l,fiT ⟨nm,ty⟩,rfl,⟨.inr rfl,rfl,rfl⟩,⟨[nm,[58,32],ty],rfl,sM,sM,by simp [fiT]⟩,hlen,wN ?_⟩;exact h
 exact h.elim
def ZE7 (n:Nat):PC w0 nG 148 (Zp6 149 (fun _=>Zn) YQ fiT wFi n):=Zxn ⟨Zp7,ZAX,trivial⟩
def Zs2 (n:Nat):Zo:=Zjm (.tuple []) fun rest txt=>∃(fr fin:Bs) (xs:List Fi),rest=[.d (.str fr),.d (.sl (xs.map Zn)),.d (.str fin)]/\(xs.all YQ=true/\szS wFi xs<=n/\n<=1073741824)/\txt=Vi fr xs fin
def Zux {n:Nat}:PC w0 nG 85 (Zs2 n):=by
 refine pwt (tbl:=[(84,ZeP),(148,Zp6 149 (fun _=>Zn) YQ fiT wFi n)]) ⟨Zal,ZE7 n,trivial⟩ Tryz.func85 fun args σ K h=>?_
 unfold Zs2 Zjm at h
 split at h
 ·rename_i rest t p e rows
  obtain ⟨l,txt,rfl,⟨hp,rfl,rfl⟩,⟨fr,fin,xs,rfl,⟨bw,hz,hn⟩,rfl⟩,hlen,h⟩:=h;have key:l++Vi fr xs fin=l++fr++Zg cmm (xs.map fiT)++fin:=by simp only [Vi,To]
  rw [key] at h;have hlen:l.length+(fr.length+((Zg cmm (xs.map fiT)).length+fin.length))<70368744177664:=by have:=hlen;simp only [Vi,Tb] at this;exact this
  refine pwu [] 1 true ?_;rcases hp with rfl | rfl
  all_goals
   conv=>whnf
   refine wk _ fr ⟨[fr],rfl,sM,sM,sM⟩ ?_;(conv=>whnf);refine ⟨l++fr,fun _=>0,xs,rfl,rfl,⟨rfl,rfl,rfl⟩,⟨bw,hz,hn⟩,by rw [Tb];show _+(Zg cmm (xs.map fiT)).length<_;omega,wN ?_⟩;refine wk (l++fr++Zg cmm (xs.map fiT)) fin ⟨[fin],rfl,sM,sM,sM⟩ (wN ?_);exact h
 exact h.elim
def ZA0 {n:Nat}:PC w0 nG 87 (ZgX (YH (fun _=>Zt)) Xq caT wCa n):=by
 refine pwt (tbl:=[(85,Zs2 n)]) ⟨Zux,trivial⟩ Tryz.func87 fun args σ K h=>?_
 unfold ZgX at h
 split at h
 ·obtain ⟨l,pl,⟨nm,fs⟩,rfl,rfl,⟨rfl,rfl⟩,⟨bw,hz,hn⟩,hlen,h⟩:=h;have hm:fs.all YQ=true:=by simp only [Xq,Tn] at bw;exact bw.2
  have hz:nm.length+szS wFi fs<=n:=by unfold wCa at hz;simp only at hz;omega
  refine pwv [] 2 true ?_;refine ⟨by simp only [Te,Tg];omega,wN ?_⟩;refine ⟨l,caT ⟨nm,fs⟩,rfl,⟨.inr rfl,rfl,rfl⟩,⟨nm++[32,123],[125],fs,rfl,⟨hm,oM,hn⟩,rfl⟩,hlen,wN ?_⟩;exact h
 exact h.elim
def ZE8 (n:Nat):PC w0 nG 86 (Zp6 87 (fun _=>Zt) Xq caT wCa n):=Zxp ⟨Zp7,ZA0,trivial⟩
end Go.PM.Lex
end

section
namespace Go.PM.Lex
open Go.Proofs
variable {w0:World} {nG:Nat}
def ZCh (x:Un):Bool:=ZeO x && ZlT x
def ZA1 (x:Co):Bool:=Yg x && Zqf x
def ZxM {tys:List Ty} {rels:List Re} {rules:List Ru} {comps:List Co} {inits:List Ini} {overs:List Ov} (h:ZCh (.mk tys rels rules comps inits overs)=true) :
  (∀x∈tys,Yn x=true)/\(∀x∈rels,Wa x=true)/\(∀x∈rules,ZAU x=true)/\∀x∈comps,ZA1 x=true:=by
 simp only [ZCh,Tn] at h;obtain ⟨h,hr⟩:=h;obtain ⟨m1,m2,m3,m4,m5,m6⟩:=ZxL h;simp only [ZlT,Zao,Tn] at hr;have r1:=Tq.1 hr.1;have r2:=Tq.1 hr.2;exact ⟨m1,m2,fun x hx=>by rw [ZAU,m3 x hx,r1 x hx];rfl,fun x hx=>by rw [ZA1,m4 x hx,r2 x hx];rfl⟩
def ZrK (r:Ru):Bs:=ruT r++[10]
def ZA2 (body:List PV->Bs->Prop):Zo:=fun args σ K=>match args,σ with
 | .ptr 0 0::rest,⟨[.cells t [p,.sl 0 e rows]],[0],1⟩=>∃l txt,rows=Zk l/\((p=.d .nilp\/p=.ptr 0 0)/\t=97/\e=5)/\body rest txt/\l.length+txt.length<70368744177664 /\
   ∀p',(p'=.d .nilp\/p'=.ptr 0 0)->K (.ret (.tuple [])) ⟨[.cells t [p',.sl 0 e (Zk (l++txt))]],[0],1⟩
 | _,_=>False
def ZCi (n:Nat):Zo:=ZA2 fun rest txt=>∃pl x,rest=[YH XT pl x]/\(ZCh x=true/\wUn x<=n/\n<=1073741824/\noC x)/\txt=unT x
def ZdO {α:Type} (T:α->Bs) {xs:List α} {i:Nat} (h:i<xs.length):((xs.take (i+1)).map T).flatten=((xs.take i).map T).flatten++T xs[i]:=by
 rw [List.take_succ_eq_append_getElem h,So,List.flatten_append];simp
def Zkn {α:Type} (T:α->Bs) (xs:List α) (i:Nat):((xs.take i).map T).flatten.length<=(xs.map T).flatten.length:=by
 have e:(xs.map T).flatten=((xs.take i).map T).flatten++((xs.drop i).map T).flatten:=by rw [<- List.flatten_append,<- So,List.take_append_drop]
 rw [e,Tb];omega
def ZA3 (n:Nat):Tbl:=[(84,ZeP),(85,Zs2 n),(86,Zp6 87 (fun _=>Zt) Xq caT wCa n),(89,ZCg n)]
def ZDl {n:Nat} (ht:TO w0 nG (ZA3 n)):PC w0 nG 32 (ZCi n):=by
 refine Zo2 Zy mixed (tbl:=ZA3 n) ht Tryz.func32 rfl kR kR ?_;intro args σ K h
 unfold ZCi ZA2 at h
 split at h
 ·rename_i rest t p e rows
  obtain ⟨l,txt,rfl,⟨hp,rfl,rfl⟩,⟨pl,⟨tys,rels,rules,comps,inits,overs⟩,rfl,⟨bw,hz,hn,rfl,rfl,rfl⟩,rfl⟩,hlen,h⟩:=h;obtain ⟨m1,m2,m3,m4⟩:=ZxM bw;have hz:szS wTy tys+szS wRe rels+szS wRu rules+1<=n:=by rw [wUn] at hz;omega
  have hu:unT (.mk tys rels rules [] [] [])=(tys.map tyT).flatten++((rels.map reT).flatten++(rules.map ZrK).flatten):=by rw [unT,Zy7];rfl
  rw [hu] at hlen;simp only [Tb] at hlen;have h:∀p',(p'=.d .nilp\/p'=.ptr 0 0)->K (.ret (.tuple [])) ⟨[.cells 97 [p',.sl 0 5 (Zk (l++(tys.map tyT).flatten++(rels.map reT).flatten++(rules.map ZrK).flatten))]],[0],1⟩:=by
   rw [hu] at h;simpa only [To] using h
  have s1:=Zp wTy tys;have s2:=Zp wRe rels;have s3:=Zp wRu rules;refine ⟨Zj [(2,⟨[21],[2,3,19,20],fun vs σ=>∃(i:Nat) (P:PV),vs=[.d (.int .i64 i)]/\σ=⟨[.cells 97 [P,.sl 0 5 (Zk (l++((tys.take i).map tyT).flatten))],.cells 91 [.ptr 0 0],.cells 65 ((XT pl (.mk tys rels rules [] [] [])).map .d)],[0],1⟩/\(P=.d .nilp\/P=.ptr 0 0)/\i<=tys.length,mu1 tys.length⟩),(15,⟨[60],[2,3,58,59],fun vs σ=>∃(i:Nat) (P:PV),vs=[.d (.int .i64 i)]/\σ=⟨[.cells 97 [P,.sl 0 5 (Zk (l++(tys.map tyT).flatten++((rels.take i).map reT).flatten))],.cells 91 [.ptr 0 0],.cells 65 ((XT pl (.mk tys rels rules [] [] [])).map .d)],[0],1⟩/\(P=.d .nilp\/P=.ptr 0 0)/\i<=rels.length,mu1 rels.length⟩),(47,⟨[166],[2,3,164,165],fun vs σ=>∃(i:Nat) (P:PV),vs=[.d (.int .i64 i)]/\σ=⟨[.cells 97 [P,.sl 0 5 (Zk (l++(tys.map tyT).flatten++(rels.map reT).flatten++((rules.take i).map ZrK).flatten))],.cells 91 [.ptr 0 0],.cells 65 ((XT pl (.mk tys rels rules [] [] [])).map .d)],[0],1⟩/\(P=.d .nilp\/P=.ptr 0 0)/\i<=rules.length,mu1 rules.length⟩)],Xo [(19,4),(27,1),(37,1),(42,1)],Ye [],Ye [],Ye [],Zvd [(14,([2,3],fun vs σ=>∃P:PV,vs=[.ptr 1 0,.ptr 2 0]/\σ=⟨[.cells 97 [P,.sl 0 5 (Zk (l++(tys.map tyT).flatten))],.cells 91 [.ptr 0 0],.cells 65 ((XT pl (.mk tys rels rules [] [] [])).map .d)],[0],1⟩/\(P=.d .nilp\/P=.ptr 0 0))),(26,([2,3],fun vs σ=>∃P:PV,vs=[.ptr 1 0,.ptr 2 0]/\σ=⟨[.cells 97 [P,.sl 0 5 (Zk (l++(tys.map tyT).flatten++(rels.map reT).flatten))],.cells 91 [.ptr 0 0],.cells 65 ((XT pl (.mk tys rels rules [] [] [])).map .d)],[0],1⟩/\(P=.d .nilp\/P=.ptr 0 0)))],1,true,sM,Tc rfl,?_⟩;rcases hp with rfl | rfl
  all_goals
   conv=>whnf
   refine ⟨wN ?_,?_⟩
   ·refine ⟨⟨0,_,rfl,zN,iM,oM⟩,?_⟩;intro vs σ hI
    obtain ⟨i,P,rfl,rfl,hP,hi⟩:=hI;(conv=>whnf);refine ZFs (fun ab=>?_) (fun ab=>?_)
    ·have dt:(tys.map (Zr pl)).length=tys.length:=Td ..;have ab:i<tys.length:=lzI dt ab;have hg:=Zs wTy tys i ab;have cn:=ZdO tyT ab;have aj:=Zkn tyT tys (i+1);have cx:=TC ab;obtain ⟨L,hL⟩:∃L,l++((tys.take i).map tyT).flatten=L:=⟨_,rfl⟩
     have ye:L.length=(l).length+((tys.take i).map tyT).flatten.length:=by rw [<- hL,Tb]
     (try simp only [Tb] at ye)
     rw [cn,Tb] at aj;rw [hL];obtain ⟨x,hX⟩:∃x,tys[i]=x:=⟨_,rfl⟩
     rw [hX] at hg cx cn aj;obtain ⟨kd,nm,base,fs,cs,at'⟩:=x;have ju:l++((tys.take (i+1)).map tyT).flatten=L++tyT ⟨kd,nm,base,fs,cs,at'⟩:=by rw [cn,<- To,hL]
     have bi:(tys.map (Zr pl))[((i:Nat):Int).toNat]?=some (Zr pl ⟨kd,nm,base,fs,cs,at'⟩):=by simp [ab,hX]
     obtain ⟨q1,q2,q3,q4⟩:=Zs1 (m1 _ cx);simp only at q1 q2 q3 q4;have yg:wTy ⟨kd,nm,base,fs,cs,at'⟩=1+nm.length+base.length+szS wFi fs+szS wCa cs:=rfl;have hw:nm.length+base.length+szS wFi fs+szS wCa cs<=n:=oM;(conv=>whnf);refine ⟨_,oM,bi,?_⟩
     by_cases k1:kd=1
     ·have hT:tyT ⟨kd,nm,base,fs,cs,at'⟩=[116,121,112,101,32]++(nm++(([32,60,58,32]++base)++[10])):=by rw [tyT,Tk k1]
      rw [hT] at aj;simp only [Tb,Te,Tg] at aj;rcases hP with rfl | rfl
      all_goals
       conv=>whnf
       refine ⟨L,[116,121,112,101,32]++nm,rfl,⟨iM,rfl,rfl⟩,⟨[[116,121,112,101,32],nm],rfl,sM,sM,sM⟩,(by (try simp only [Tb,Te,Tg]);omega),?_⟩;(conv=>whnf);refine ZFs (fun _=>?_) (fun g=>absurd (show (kd:Int)=1 by omega) g);(conv=>whnf);refine ⟨L++([116,121,112,101,32]++nm),[32,60,58,32]++base,rfl,⟨.inr rfl,rfl,rfl⟩,⟨[[32,60,58,32],base],rfl,sM,sM,sM⟩,(by (try simp only [Tb,Te,Tg]);omega),?_⟩;(conv=>whnf);refine ⟨L++([116,121,112,101,32]++nm)++([32,60,58,32]++base),[10],rfl,⟨.inr rfl,rfl,rfl⟩,⟨[[10]],rfl,sM,sM,sM⟩,(by (try simp only [Tb,Te,Tg]);omega),?_⟩;(conv=>whnf);refine Zi ?_;refine ⟨⟨i+1,_,rfl,(by rw [ju,hT];simp only [To];rfl),.inr rfl,oM⟩,?_⟩;exact lzM oM
     by_cases k2:kd=2
     ·have hT:tyT ⟨kd,nm,base,fs,cs,at'⟩=[116,121,112,101,32]++(nm++(Vi [32,61,32,91] fs [93]++[10])):=by rw [tyT,Tf k1,Tk k2]
      rw [hT] at aj;simp only [Tb,Te,Tg] at aj;rcases hP with rfl | rfl
      all_goals
       conv=>whnf
       refine ⟨L,[116,121,112,101,32]++nm,rfl,⟨iM,rfl,rfl⟩,⟨[[116,121,112,101,32],nm],rfl,sM,sM,sM⟩,(by (try simp only [Tb,Te,Tg]);omega),?_⟩;(conv=>whnf);refine ZFs (fun g=>absurd (show kd=1 by have g:(kd:Int)=1:=g;omega) k1) (fun _=>wN ?_);refine ZFs (fun _=>?_) (fun g=>absurd (show (kd:Int)=2 by omega) g);(conv=>whnf);refine ⟨L++([116,121,112,101,32]++nm),Vi [32,61,32,91] fs [93],rfl,⟨.inr rfl,rfl,rfl⟩,⟨[32,61,32,91],[93],fs,rfl,⟨Tq.2 q2,oM,oM⟩,rfl⟩,(by (try simp only [Tb,Te,Tg]);omega),?_⟩;(conv=>whnf);refine ⟨L++([116,121,112,101,32]++nm)++Vi [32,61,32,91] fs [93],[10],rfl,⟨.inr rfl,rfl,rfl⟩,⟨[[10]],rfl,sM,sM,sM⟩,(by (try simp only [Tb,Te,Tg]);omega),?_⟩;(conv=>whnf);refine Zi ?_;refine ⟨⟨i+1,_,rfl,(by rw [ju,hT];simp only [To];rfl),.inr rfl,oM⟩,?_⟩;exact lzM oM
     have hT:tyT ⟨kd,nm,base,fs,cs,at'⟩=[116,121,112,101,32]++(nm++([32,61,32]++(Zg [32,124,32] (cs.map caT)++[10]))):=by rw [tyT,Tf k1,Tf k2];simp only [To]
     rw [hT] at aj;simp only [Tb,Te,Tg] at aj;rcases hP with rfl | rfl
     all_goals
      conv=>whnf
      refine ⟨L,[116,121,112,101,32]++nm,rfl,⟨iM,rfl,rfl⟩,⟨[[116,121,112,101,32],nm],rfl,sM,sM,sM⟩,(by (try simp only [Tb,Te,Tg]);omega),?_⟩;(conv=>whnf);refine ZFs (fun g=>absurd (show kd=1 by have g:(kd:Int)=1:=g;omega) k1) (fun _=>wN ?_);refine ZFs (fun g=>absurd (show kd=2 by have g:(kd:Int)=2:=g;omega) k2) (fun _=>wN ?_);refine ⟨L++([116,121,112,101,32]++nm),[32,61,32],rfl,⟨.inr rfl,rfl,rfl⟩,⟨[[32,61,32]],rfl,sM,sM,sM⟩,(by (try simp only [Tb,Te,Tg]);omega),?_⟩;(conv=>whnf);refine ⟨L++([116,121,112,101,32]++nm)++[32,61,32],fun _=>0,cs,rfl,rfl,⟨rfl,rfl,rfl⟩,⟨Tq.2 q3,oM,oM⟩,(by (try simp only [Tb,Te,Tg]);show _+(Zg [32,124,32] (cs.map caT)).length<_;omega),?_⟩;(conv=>whnf);refine ⟨L++([116,121,112,101,32]++nm)++[32,61,32]++Zg [32,124,32] (cs.map caT),[10],rfl,⟨.inr rfl,rfl,rfl⟩,⟨[[10]],rfl,sM,sM,sM⟩,(by (try simp only [Tb,Te,Tg]);omega),?_⟩;(conv=>whnf);refine Zi ?_;refine ⟨⟨i+1,_,rfl,(by rw [ju,hT];simp only [To];rfl),.inr rfl,oM⟩,?_⟩;exact lzM oM
    have ab:i=tys.length:=by
     have dt:(tys.map (Zr pl)).length=tys.length:=Td ..;have ab:¬(i:Int)<(tys.map (Zr pl)).length:=ab;rw [dt] at ab;omega
    subst ab;rw [Sf];rcases hP with rfl | rfl
    all_goals
     conv=>whnf
     exact ⟨_,rfl,rfl,iM⟩
   intro vs σ hI
   obtain ⟨P,rfl,rfl,hP⟩:=hI;(conv=>whnf);refine ⟨?_,?_⟩
   ·rcases hP with rfl | rfl
    all_goals
     conv=>whnf
     refine ⟨⟨0,_,rfl,zN,iM,oM⟩,?_⟩;intro vs σ hI
     obtain ⟨i,P,rfl,rfl,hP,hi⟩:=hI;(conv=>whnf);refine ZFs (fun ab=>?_) (fun ab=>?_)
     ·have dt:(rels.map (ZH pl)).length=rels.length:=Td ..;have ab:i<rels.length:=lzI dt ab;have hg:=Zs wRe rels i ab;have cn:=ZdO reT ab;have aj:=Zkn reT rels (i+1);have cx:=TC ab;obtain ⟨L,hL⟩:∃L,l++(tys.map tyT).flatten++((rels.take i).map reT).flatten=L:=⟨_,rfl⟩
      have ye:L.length=(l++(tys.map tyT).flatten).length+((rels.take i).map reT).flatten.length:=by rw [<- hL,Tb]
      (try simp only [Tb] at ye)
      rw [cn,Tb] at aj;rw [hL];obtain ⟨x,hX⟩:∃x,rels[i]=x:=⟨_,rfl⟩
      rw [hX] at hg cx cn aj;obtain ⟨nm,fs,b1,b2,b3,at'⟩:=x;have ju:l++(tys.map tyT).flatten++((rels.take (i+1)).map reT).flatten=L++reT ⟨nm,fs,b1,b2,b3,at'⟩:=by rw [cn,<- To,hL]
      have bi:(rels.map (ZH pl))[((i:Nat):Int).toNat]?=some (ZH pl ⟨nm,fs,b1,b2,b3,at'⟩):=by simp [ab,hX]
      have q:=m2 _ cx;simp only [Wa,Tn] at q;obtain ⟨q1,q2⟩:=q;have q2:=Tq.1 q2;have yg:wRe ⟨nm,fs,b1,b2,b3,at'⟩=1+nm.length+szS wFi fs:=rfl;have hw:nm.length+szS wFi fs<=n:=oM;(conv=>whnf);refine ⟨_,oM,bi,?_⟩;have sj:reT ⟨nm,fs,b1,b2,b3,at'⟩=Vi ([100,101,99,108,32]++nm++[40]) fs [41]++((if b1 then [32,105,110,112,117,116] else [])++((if b2 then [32,111,117,116,112,117,116] else [])++((if b3 then [32,105,110,108,105,110,101] else [])++[10]))):=by rw [reT];simp only [To]
      rcases hP with rfl | rfl
      all_goals
       conv=>whnf
       refine ⟨by simp only [Te,Tg];omega,wN ?_⟩;refine ⟨by simp only [Tb,Te,Tg];omega,?_⟩
       cases b1 <;> cases b2 <;> cases b3
       ·have hT:=sj;simp only [if_true,Tv,if_false,Si] at hT;rw [hT] at aj;simp only [Tb,Te,Tg] at aj;(conv=>whnf);refine ⟨L,Vi ([100,101,99,108,32]++nm++[40]) fs [41],rfl,⟨iM,rfl,rfl⟩,⟨([100,101,99,108,32]++nm++[40]),[41],fs,rfl,⟨Tq.2 q2,oM,oM⟩,rfl⟩,(by (try simp only [Tb,Te,Tg]);omega),?_⟩;(conv=>whnf);refine ⟨dM,dM,wN ?_⟩;refine X6 ?_;refine ⟨dM,dM,wN ?_⟩;refine X6 ?_;refine ⟨dM,dM,wN ?_⟩;refine X6 ?_;refine ⟨L++Vi ([100,101,99,108,32]++nm++[40]) fs [41],[10],rfl,⟨.inr rfl,rfl,rfl⟩,⟨[[10]],rfl,sM,sM,sM⟩,(by (try simp only [Tb,Te,Tg]);omega),?_⟩;exact mq32
       ·have hT:=sj;simp only [if_true,Tv,if_false,Si] at hT;rw [hT] at aj;simp only [Tb,Te,Tg] at aj;(conv=>whnf);refine ⟨L,Vi ([100,101,99,108,32]++nm++[40]) fs [41],rfl,⟨iM,rfl,rfl⟩,⟨([100,101,99,108,32]++nm++[40]),[41],fs,rfl,⟨Tq.2 q2,oM,oM⟩,rfl⟩,(by (try simp only [Tb,Te,Tg]);omega),?_⟩;(conv=>whnf);refine ⟨dM,dM,wN ?_⟩;refine X6 ?_;refine ⟨dM,dM,wN ?_⟩;refine X6 ?_;refine ⟨dM,dM,wN ?_⟩;refine ⟨dM,dM,wN ?_⟩;refine ⟨L++Vi ([100,101,99,108,32]++nm++[40]) fs [41],[32,105,110,108,105,110,101],rfl,⟨.inr rfl,rfl,rfl⟩,⟨[[32,105,110,108,105,110,101]],rfl,sM,sM,sM⟩,(by (try simp only [Tb,Te,Tg]);omega),?_⟩;(conv=>whnf)
        (repeat (refine ⟨rfl,?_⟩;conv=>whnf))
        conv=>whnf
        refine X6 ?_;refine ⟨L++Vi ([100,101,99,108,32]++nm++[40]) fs [41]++[32,105,110,108,105,110,101],[10],rfl,⟨.inr rfl,rfl,rfl⟩,⟨[[10]],rfl,sM,sM,sM⟩,(by (try simp only [Tb,Te,Tg]);omega),?_⟩;exact mq32
       ·have hT:=sj;simp only [if_true,Tv,if_false,Si] at hT;rw [hT] at aj;simp only [Tb,Te,Tg] at aj;(conv=>whnf);refine ⟨L,Vi ([100,101,99,108,32]++nm++[40]) fs [41],rfl,⟨iM,rfl,rfl⟩,⟨([100,101,99,108,32]++nm++[40]),[41],fs,rfl,⟨Tq.2 q2,oM,oM⟩,rfl⟩,(by (try simp only [Tb,Te,Tg]);omega),?_⟩;(conv=>whnf);refine ⟨dM,dM,wN ?_⟩;refine X6 ?_;refine ⟨dM,dM,wN ?_⟩;refine ⟨dM,dM,wN ?_⟩;refine ⟨L++Vi ([100,101,99,108,32]++nm++[40]) fs [41],[32,111,117,116,112,117,116],rfl,⟨.inr rfl,rfl,rfl⟩,⟨[[32,111,117,116,112,117,116]],rfl,sM,sM,sM⟩,(by (try simp only [Tb,Te,Tg]);omega),?_⟩;(conv=>whnf)
        (repeat (refine ⟨rfl,?_⟩;conv=>whnf))
        conv=>whnf
        refine X6 ?_;refine ⟨dM,dM,wN ?_⟩;refine X6 ?_;refine ⟨L++Vi ([100,101,99,108,32]++nm++[40]) fs [41]++[32,111,117,116,112,117,116],[10],rfl,⟨.inr rfl,rfl,rfl⟩,⟨[[10]],rfl,sM,sM,sM⟩,(by (try simp only [Tb,Te,Tg]);omega),?_⟩;exact mq32
       ·have hT:=sj;simp only [if_true,Tv,if_false,Si] at hT;rw [hT] at aj;simp only [Tb,Te,Tg] at aj;(conv=>whnf);refine ⟨L,Vi ([100,101,99,108,32]++nm++[40]) fs [41],rfl,⟨iM,rfl,rfl⟩,⟨([100,101,99,108,32]++nm++[40]),[41],fs,rfl,⟨Tq.2 q2,oM,oM⟩,rfl⟩,(by (try simp only [Tb,Te,Tg]);omega),?_⟩;(conv=>whnf);refine ⟨dM,dM,wN ?_⟩;refine X6 ?_;refine ⟨dM,dM,wN ?_⟩;refine ⟨dM,dM,wN ?_⟩;refine ⟨L++Vi ([100,101,99,108,32]++nm++[40]) fs [41],[32,111,117,116,112,117,116],rfl,⟨.inr rfl,rfl,rfl⟩,⟨[[32,111,117,116,112,117,116]],rfl,sM,sM,sM⟩,(by (try simp only [Tb,Te,Tg]);omega),?_⟩;(conv=>whnf)
        (repeat (refine ⟨rfl,?_⟩;conv=>whnf))
        conv=>whnf
        refine X6 ?_;refine ⟨dM,dM,wN ?_⟩;refine ⟨dM,dM,wN ?_⟩;refine ⟨L++Vi ([100,101,99,108,32]++nm++[40]) fs [41]++[32,111,117,116,112,117,116],[32,105,110,108,105,110,101],rfl,⟨.inr rfl,rfl,rfl⟩,⟨[[32,105,110,108,105,110,101]],rfl,sM,sM,sM⟩,(by (try simp only [Tb,Te,Tg]);omega),?_⟩;(conv=>whnf)
        (repeat (refine ⟨rfl,?_⟩;conv=>whnf))
        conv=>whnf
        refine X6 ?_;refine ⟨L++Vi ([100,101,99,108,32]++nm++[40]) fs [41]++[32,111,117,116,112,117,116]++[32,105,110,108,105,110,101],[10],rfl,⟨.inr rfl,rfl,rfl⟩,⟨[[10]],rfl,sM,sM,sM⟩,(by (try simp only [Tb,Te,Tg]);omega),?_⟩;exact mq32
       ·have hT:=sj;simp only [if_true,Tv,if_false,Si] at hT;rw [hT] at aj;simp only [Tb,Te,Tg] at aj;(conv=>whnf);refine ⟨L,Vi ([100,101,99,108,32]++nm++[40]) fs [41],rfl,⟨iM,rfl,rfl⟩,⟨([100,101,99,108,32]++nm++[40]),[41],fs,rfl,⟨Tq.2 q2,oM,oM⟩,rfl⟩,(by (try simp only [Tb,Te,Tg]);omega),?_⟩;(conv=>whnf);refine ⟨dM,dM,wN ?_⟩;refine ⟨dM,dM,wN ?_⟩;refine ⟨L++Vi ([100,101,99,108,32]++nm++[40]) fs [41],[32,105,110,112,117,116],rfl,⟨.inr rfl,rfl,rfl⟩,⟨[[32,105,110,112,117,116]],rfl,sM,sM,sM⟩,(by (try simp only [Tb,Te,Tg]);omega),?_⟩;(conv=>whnf)
        (repeat (refine ⟨rfl,?_⟩;conv=>whnf))
        conv=>whnf
        refine X6 ?_;refine ⟨dM,dM,wN ?_⟩;refine X6 ?_;refine ⟨dM,dM,wN ?_⟩;refine X6 ?_;refine ⟨L++Vi ([100,101,99,108,32]++nm++[40]) fs [41]++[32,105,110,112,117,116],[10],rfl,⟨.inr rfl,rfl,rfl⟩,⟨[[10]],rfl,sM,sM,sM⟩,(by (try simp only [Tb,Te,Tg]);omega),?_⟩;exact mq32
       ·have hT:=sj;simp only [if_true,Tv,if_false,Si] at hT;rw [hT] at aj;simp only [Tb,Te,Tg] at aj;(conv=>whnf);refine ⟨L,Vi ([100,101,99,108,32]++nm++[40]) fs [41],rfl,⟨iM,rfl,rfl⟩,⟨([100,101,99,108,32]++nm++[40]),[41],fs,rfl,⟨Tq.2 q2,oM,oM⟩,rfl⟩,(by (try simp only [Tb,Te,Tg]);omega),?_⟩;(conv=>whnf);refine ⟨dM,dM,wN ?_⟩;refine ⟨dM,dM,wN ?_⟩;refine ⟨L++Vi ([100,101,99,108,32]++nm++[40]) fs [41],[32,105,110,112,117,116],rfl,⟨.inr rfl,rfl,rfl⟩,⟨[[32,105,110,112,117,116]],rfl,sM,sM,sM⟩,(by (try simp only [Tb,Te,Tg]);omega),?_⟩;(conv=>whnf)
        (repeat (refine ⟨rfl,?_⟩;conv=>whnf))
        conv=>whnf
        refine X6 ?_;refine ⟨dM,dM,wN ?_⟩;refine X6 ?_;refine ⟨dM,dM,wN ?_⟩;refine ⟨dM,dM,wN ?_⟩;refine ⟨L++Vi ([100,101,99,108,32]++nm++[40]) fs [41]++[32,105,110,112,117,116],[32,105,110,108,105,110,101],rfl,⟨.inr rfl,rfl,rfl⟩,⟨[[32,105,110,108,105,110,101]],rfl,sM,sM,sM⟩,(by (try simp only [Tb,Te,Tg]);omega),?_⟩;(conv=>whnf)
        (repeat (refine ⟨rfl,?_⟩;conv=>whnf))
        conv=>whnf
        refine X6 ?_;refine ⟨L++Vi ([100,101,99,108,32]++nm++[40]) fs [41]++[32,105,110,112,117,116]++[32,105,110,108,105,110,101],[10],rfl,⟨.inr rfl,rfl,rfl⟩,⟨[[10]],rfl,sM,sM,sM⟩,(by (try simp only [Tb,Te,Tg]);omega),?_⟩;exact mq32
       ·have hT:=sj;simp only [if_true,Tv,if_false,Si] at hT;rw [hT] at aj;simp only [Tb,Te,Tg] at aj;(conv=>whnf);refine ⟨L,Vi ([100,101,99,108,32]++nm++[40]) fs [41],rfl,⟨iM,rfl,rfl⟩,⟨([100,101,99,108,32]++nm++[40]),[41],fs,rfl,⟨Tq.2 q2,oM,oM⟩,rfl⟩,(by (try simp only [Tb,Te,Tg]);omega),?_⟩;(conv=>whnf);refine ⟨dM,dM,wN ?_⟩;refine ⟨dM,dM,wN ?_⟩;refine ⟨L++Vi ([100,101,99,108,32]++nm++[40]) fs [41],[32,105,110,112,117,116],rfl,⟨.inr rfl,rfl,rfl⟩,⟨[[32,105,110,112,117,116]],rfl,sM,sM,sM⟩,(by (try simp only [Tb,Te,Tg]);omega),?_⟩;(conv=>whnf)
        (repeat (refine ⟨rfl,?_⟩;conv=>whnf))
        conv=>whnf
        refine X6 ?_;refine ⟨dM,dM,wN ?_⟩;refine ⟨dM,dM,wN ?_⟩;refine ⟨L++Vi ([100,101,99,108,32]++nm++[40]) fs [41]++[32,105,110,112,117,116],[32,111,117,116,112,117,116],rfl,⟨.inr rfl,rfl,rfl⟩,⟨[[32,111,117,116,112,117,116]],rfl,sM,sM,sM⟩,(by (try simp only [Tb,Te,Tg]);omega),?_⟩;(conv=>whnf)
        (repeat (refine ⟨rfl,?_⟩;conv=>whnf))
        conv=>whnf
        refine X6 ?_;refine ⟨dM,dM,wN ?_⟩;refine X6 ?_;refine ⟨L++Vi ([100,101,99,108,32]++nm++[40]) fs [41]++[32,105,110,112,117,116]++[32,111,117,116,112,117,116],[10],rfl,⟨.inr rfl,rfl,rfl⟩,⟨[[10]],rfl,sM,sM,sM⟩,(by (try simp only [Tb,Te,Tg]);omega),?_⟩;exact mq32
       have hT:=sj;simp only [if_true,Tv,if_false,Si] at hT;rw [hT] at aj;simp only [Tb,Te,Tg] at aj;(conv=>whnf);refine ⟨L,Vi ([100,101,99,108,32]++nm++[40]) fs [41],rfl,⟨iM,rfl,rfl⟩,⟨([100,101,99,108,32]++nm++[40]),[41],fs,rfl,⟨Tq.2 q2,oM,oM⟩,rfl⟩,(by (try simp only [Tb,Te,Tg]);omega),?_⟩;(conv=>whnf);refine ⟨dM,dM,wN ?_⟩;refine ⟨dM,dM,wN ?_⟩;refine ⟨L++Vi ([100,101,99,108,32]++nm++[40]) fs [41],[32,105,110,112,117,116],rfl,⟨.inr rfl,rfl,rfl⟩,⟨[[32,105,110,112,117,116]],rfl,sM,sM,sM⟩,(by (try simp only [Tb,Te,Tg]);omega),?_⟩;(conv=>whnf)
       (repeat (refine ⟨rfl,?_⟩;conv=>whnf))
       conv=>whnf
       refine X6 ?_;refine ⟨dM,dM,wN ?_⟩;refine ⟨dM,dM,wN ?_⟩;refine ⟨L++Vi ([100,101,99,108,32]++nm++[40]) fs [41]++[32,105,110,112,117,116],[32,111,117,116,112,117,116],rfl,⟨.inr rfl,rfl,rfl⟩,⟨[[32,111,117,116,112,117,116]],rfl,sM,sM,sM⟩,(by (try simp only [Tb,Te,Tg]);omega),?_⟩;(conv=>whnf)
       (repeat (refine ⟨rfl,?_⟩;conv=>whnf))
       conv=>whnf
       refine X6 ?_;refine ⟨dM,dM,wN ?_⟩;refine ⟨dM,dM,wN ?_⟩;refine ⟨L++Vi ([100,101,99,108,32]++nm++[40]) fs [41]++[32,105,110,112,117,116]++[32,111,117,116,112,117,116],[32,105,110,108,105,110,101],rfl,⟨.inr rfl,rfl,rfl⟩,⟨[[32,105,110,108,105,110,101]],rfl,sM,sM,sM⟩,(by (try simp only [Tb,Te,Tg]);omega),?_⟩;(conv=>whnf)
       (repeat (refine ⟨rfl,?_⟩;conv=>whnf))
       conv=>whnf
       refine X6 ?_;refine ⟨L++Vi ([100,101,99,108,32]++nm++[40]) fs [41]++[32,105,110,112,117,116]++[32,111,117,116,112,117,116]++[32,105,110,108,105,110,101],[10],rfl,⟨.inr rfl,rfl,rfl⟩,⟨[[10]],rfl,sM,sM,sM⟩,(by (try simp only [Tb,Te,Tg]);omega),?_⟩;exact mq32
     have ab:i=rels.length:=by
      have dt:(rels.map (ZH pl)).length=rels.length:=Td ..;have ab:¬(i:Int)<(rels.map (ZH pl)).length:=ab;rw [dt] at ab;omega
     subst ab;rw [Sf];rcases hP with rfl | rfl
     all_goals
      conv=>whnf
      exact ⟨_,rfl,rfl,iM⟩
   intro vs σ hI
   obtain ⟨P,rfl,rfl,hP⟩:=hI;(conv=>whnf);rcases hP with rfl | rfl
   all_goals
    conv=>whnf
    refine ⟨⟨0,_,rfl,zN,iM,oM⟩,?_⟩;intro vs σ hI
    obtain ⟨i,P,rfl,rfl,hP,hi⟩:=hI;(conv=>whnf);refine ZFs (fun ab=>?_) (fun ab=>?_)
    ·have dt:(rules.map (ZC pl)).length=rules.length:=Td ..;have ab:i<rules.length:=lzI dt ab;have hg:=Zs wRu rules i ab;have cn:=ZdO ZrK ab;have aj:=Zkn ZrK rules (i+1);have cx:=TC ab;obtain ⟨L,hL⟩:∃L,l++(tys.map tyT).flatten++(rels.map reT).flatten++((rules.take i).map ZrK).flatten=L:=⟨_,rfl⟩
     have ye:L.length=(l++(tys.map tyT).flatten++(rels.map reT).flatten).length+((rules.take i).map ZrK).flatten.length:=by rw [<- hL,Tb]
     (try simp only [Tb] at ye)
     rw [cn,Tb] at aj;rw [hL];obtain ⟨x,hX⟩:∃x,rules[i]=x:=⟨_,rfl⟩
     rw [hX] at hg cx cn aj;obtain ⟨head,as',bd,at'⟩:=x;have ju:l++(tys.map tyT).flatten++(rels.map reT).flatten++((rules.take (i+1)).map ZrK).flatten=L++ZrK ⟨head,as',bd,at'⟩:=by rw [cn,<- To,hL]
     have bi:(rules.map (ZC pl))[((i:Nat):Int).toNat]?=some (ZC pl ⟨head,as',bd,at'⟩):=by simp [ab,hX]
     have hw:wRu ⟨head,as',bd,at'⟩<=n:=oM;have hT:ZrK ⟨head,as',bd,at'⟩=(ruT ⟨head,as',bd,at'⟩)++[10]:=rfl;rw [hT] at aj;simp only [Tb,Te,Tg] at aj;(conv=>whnf);refine ⟨_,oM,bi,?_⟩;rcases hP with rfl | rfl
     all_goals
      conv=>whnf
      refine ⟨L,(ruT ⟨head,as',bd,at'⟩),rfl,⟨iM,rfl,rfl⟩,⟨pl,⟨head,as',bd,at'⟩,rfl,⟨m3 _ cx,hw,hn⟩,rfl⟩,(by (try simp only [Tb,Te,Tg]);omega),?_⟩;(conv=>whnf);refine ⟨L++(ruT ⟨head,as',bd,at'⟩),[10],rfl,⟨.inr rfl,rfl,rfl⟩,⟨[[10]],rfl,sM,sM,sM⟩,(by (try simp only [Tb,Te,Tg]);omega),?_⟩;(conv=>whnf);refine Zi ?_;refine ⟨⟨i+1,_,rfl,(by rw [ju,hT];simp only [To];rfl),.inr rfl,oM⟩,?_⟩;exact lzM oM
    have ab:i=rules.length:=by
     have dt:(rules.map (ZC pl)).length=rules.length:=Td ..;have ab:¬(i:Int)<(rules.map (ZC pl)).length:=ab;rw [dt] at ab;omega
    subst ab;rw [Sf];rcases hP with rfl | rfl
    all_goals
     conv=>whnf
     exact h _ iM
 exact h.elim
def cWU (hN:NumOK w0 nG) (hL:LexC w0 nG) (n:Nat):PC w0 nG 32 (ZCi n) :=
 ZDl ⟨Zal,Zux,ZE8 _,cWR hN hL _,trivial⟩
def ZxN {z:Bs} {c:UInt8} (hc:c.toNat<128):pk (c::z)=((c.toNat:Int),1):=by
 have e:Lib.decodeL (c::z)=(c.toNat,1):=by
  rw [Lib.decodeL_N];unfold Lib.decodeN;rw [Tk (by simpa using hc)];simp
 unfold pk
 rw [e,Tf sO]
structure Fol (c:UInt8) (z:Bs):Prop where
 low:c.toNat<128
 let':Zl c.toNat=false
 dig:Zq c.toNat=false
 dot:c=46->Zl (pk z).1=false
def Fol.pk {c:UInt8} {z:Bs} (h:Fol c z):Lex.pk (c::z)=((c.toNat:Int),1):=ZxN h.low
inductive Pc where
 | blank (b:UInt8) | tok (s:Bs) (t:T0)
def Pc.bs:Pc->Bs | .blank b=>[b] | .tok s _=>s
def Pc.ts:Pc->Ts | .blank _=>[] | .tok _ t=>[t]
def bsP (l:List Pc):Bs:=(l.map Pc.bs).flatten
def tsP (l:List Pc):Ts:=(l.map Pc.ts).flatten
@[simp] theorem bsP_nil:bsP []=[]:=rfl
@[simp] theorem tsP_nil:tsP []=[]:=rfl
@[simp] theorem bsP_cons (p:Pc) (l:List Pc):bsP (p::l)=p.bs++bsP l:=by simp [bsP]
@[simp] theorem tsP_cons (p:Pc) (l:List Pc):tsP (p::l)=p.ts++tsP l:=by simp [tsP]
@[simp] theorem bsP_app (l m:List Pc):bsP (l++m)=bsP l++bsP m:=by simp [bsP]
@[simp] theorem tsP_app (l m:List Pc):tsP (l++m)=tsP l++tsP m:=by simp [tsP]
def nmP (s:Bs):Pc:=.tok s (nmT s)
def sgP (s:Bs):Pc:=.tok s (sgT s)
def ZnH:∀d:Fin 16,ZgB (Zjk d.val)=d.val/\X7 true (Zjk d.val)=true/\(d.val<10->X7 false (Zjk d.val)=true)/\Zjk d.val≠120:=by decide +kernel
def Zs3 (base:Nat) (l:Bs) (b:UInt8):WC base (l++[b])=WC base l * base+ZgB b:=by simp [WC]
def Zbf {base:Nat} (hb:base=10\/base=16):∀(f n:Nat),n<f->WC base (JI base f n)=n/\(∀b∈JI base f n,X7 (decide (base=16)) b=true/\b≠120)/\JI base f n≠[]/\∀k,n<base ^ (k+1)->(JI base f n).length<=k+1
 | 0,n,h=>oM
 | f+1,n,h=>by
  have hd:∀d,d<base->ZgB (Zjk d)=d/\X7 (decide (base=16)) (Zjk d)=true/\Zjk d≠120:=fun d hd=>by
   obtain ⟨h1,h2,h3,h4⟩:=ZnH ⟨d,oM⟩;refine ⟨h1,?_,h4⟩;rcases hb with rfl | rfl
   ·exact h3 hd
   exact h2
  rw [JI]
  by_cases c:n<base
  ·rw [Tk c];obtain ⟨h1,h2,h3⟩:=hd n c;refine ⟨by simpa [WC] using h1,fun b hb=>?_,sM,fun k _=>sM⟩;rw [List.mem_singleton.1 hb];exact ⟨h2,h3⟩
  rw [Tf c];have aa:n / base<n:=Nat.div_lt_self oM oM;obtain ⟨i1,i2,i3,i4⟩:=Zbf hb f (n / base) oM;obtain ⟨h1,h2,h3⟩:=hd (n % base) (Nat.mod_lt _ oM);refine ⟨?_,fun b hb=>?_,sM,fun k hk=>?_⟩
  ·rw [Zs3,i1,h1,Nat.mul_comm];exact Nat.div_add_mod n base
  ·rcases TM.1 hb with hb | hb
   ·exact i2 b hb
   rw [List.mem_singleton.1 hb];exact ⟨h2,h3⟩
  cases k with
  | zero=>simp at hk;omega
  | succ k =>
  have:n / base<base ^ (k+1):=by
   rw [Nat.div_lt_iff_lt_mul oM];rw [Nat.pow_succ] at hk;exact hk
  have:=i4 k this;exact mq103
def spP:Pc:=.blank 32
def nlP:Pc:=.blank 10
@[simp] theorem bs_sp:spP.bs=[32]:=rfl
@[simp] theorem bs_nl:nlP.bs=[10]:=rfl
@[simp] theorem ts_sp:spP.ts=[]:=rfl
@[simp] theorem ts_nl:nlP.ts=[]:=rfl
@[simp] theorem bs_nm (s:Bs):(nmP s).bs=s:=rfl
@[simp] theorem bs_sg (s:Bs):(sgP s).bs=s:=rfl
@[simp] theorem ts_nm (s:Bs):(nmP s).ts=[nmT s]:=rfl
@[simp] theorem ts_sg (s:Bs):(sgP s).ts=[sgT s]:=rfl
@[simp] theorem bs_tok (s:Bs) (t:T0):(Pc.tok s t).bs=s:=rfl
@[simp] theorem ts_tok (s:Bs) (t:T0):(Pc.tok s t).ts=[t]:=rfl
def ts2 (p:Nat×List Pc):Nat×Ts:=(p.1,tsP p.2)
def ZdP:∀(f:Nat) (r out q:Bs),VJ f r out=some q->q.length<=out.length+4 * r.length
 | 0,r,out,q,h=>by simp [VJ] at h
 | f+1,r,out,q,h=>by
  unfold VJ at h
  split at h
  ·cases h;omega
  rename_i hr
  have hd:=Lib.decodeL_le r hr;have hg:=ZgK r;split at h
  ·have:=ZdP f _ _ _ h;simp only [Tb,Te,Tg,TG] at this;omega
  split at h
  ·cases h
  have:=ZdP f _ _ _ h;have h4:=ZCI (Lib.decodeL r).1;simp only [Tb,TG] at this;omega
def Zs4 (s:Bs):(Zwa s).length<=4 * s.length+2:=by
 unfold Zwa Jb
 split
 ·cases hq:VJ (s.length+1) s [34] with
  | none=>simp
  | some q =>
  have:=ZdP _ _ _ _ hq;simp only [Se,Sp,Tb,Te,Tg] at this |-;omega
 simp
def Zs5 {n:Int} (h0:-9223372036854775808<=n) (h1:n<9223372036854775808):(ZfD n).length<=20:=by
 unfold ZfD
 split
 ·have h:=(Zbf (base:=16) (.inr rfl) ((n+18446744073709551616).toNat+1) (n+18446744073709551616).toNat oM).2.2.2 15 (by
   have:(16:Nat) ^ (15+1)=18446744073709551616:=dM;omega)
  simp only [Tb,Te,Tg,Vh];omega
 have h:=(Zbf (base:=10) (.inl rfl) (n.toNat+1) n.toNat oM).2.2.2 18 (by
  have:(10:Nat) ^ (18+1)=10000000000000000000:=dM;omega)
 rw [Vh];omega
def Zs6 (op:Nat):(VK op).length<=6:=by
 by_cases h:op<26
 ·have hk:∀o:Fin 26,(VK o.val).length<=6:=by decide
  exact hk ⟨op,h⟩
 unfold VK
 (repeat rw [Tf oM])
 decide
def Zuy (l:List (Nat×Bs)):Nat:=(l.map fun p=>p.2.length+4).sum
def Vk (l:List Bs):(Zg cmm l).length<=(l.map fun s=>s.length+4).sum:=by
 match l with
 | []=>exact T6 _
 | [x]=>simp [Zg]
 | x::y::l =>
  have ih:=Vk (y::l);rw [Zg]
  ·simp only [Tb,TE,List.sum_cons] at ih |-;have:cmm.length=2:=rfl;omega
  intro h;cases h
def ZgZ (w:Nat) (p:Nat×Bs):(ZsK w p).length<=p.2.length+2:=by
 unfold ZsK;split
 ·exact mq103
 omega
def Zqk (w1 w2:Nat) (sep:Bs) (l:List (Nat×Bs)):(exA w1 w2 sep l).length<=Zuy l+sep.length:=by
 match l with
 | []=>simp [exA]
 | [a]=>have:=ZgZ w1 a;simp only [exA,Zuy,TE,TN,List.sum_cons,List.sum_nil];omega
 | a::b::l =>
  have h1:=ZgZ w1 a;have h2:=ZgZ w2 b;simp only [exA,Zuy,TE,List.sum_cons,Tb];omega
def Zql (op:Nat) (t:Bs) (n:Int) (l:List (Nat×Bs)) (h0:-9223372036854775808<=n) (h1:n<9223372036854775808):(exN op t n l).length<=Zuy l+5 * t.length+30:=by
 have hw:=Zs6 op;have hn:=Zs5 h0 h1;have hq:=Zs4 t;have hc:(Zg cmm (l.map Prod.snd)).length<=Zuy l:=by
  have:=Vk (l.map Prod.snd);rw [List.map_map] at this;exact this
 unfold exN
 split
 ·have:=Zqk (ZT op) (ZT op+1) ([32]++(VK op++[32])) l;simp only [Tb,Te,Tg] at this;omega
 split
 ·have:=Zqk 5 5 [] l;simp only [Tb,Tg] at this |-;omega
 split
 ·exact mq103
 split
 ·exact mq103
 split
 ·simp only [Tb,Te,Tg];split
  ·simp only [Tg];omega
  exact mq103
 split
 ·omega
 split
 ·omega
 split
 ·simp only [Te,Tg];omega
 split
 ·simp only [Te,Tg];omega
 omega
mutual
def ZdQ:∀e:Ex,ZiA e=true->(exT e).length+4<=64 * wE e
 | .mk op t n l a,h=>by
  obtain ⟨r1,r2⟩:=ZdK h;have ih:=Zbg l (by rw [VN];exact Tq.2 r2);have:=Zql op t n (Zp2 l) r1.1 r1.2;rw [exT,wE];omega
def Zbg:∀l:List Ex,Zkl l=true->Zuy (Zp2 l)<=64 * wEs l
 | [],h=>by rw [Zp2];simp [Zuy]
 | x::l,h=>by
  rw [Zkl,Tn] at h;have h1:=ZdQ x h.1;have h2:=Zbg l h.2;rw [Zp2,wEs];unfold Zuy at h2 |-
  simp only [TE,List.sum_cons];omega
end
def Zqm {α:Type} {T:α->Bs} {w:α->Nat}:∀l:List α,(∀x∈l,(T x).length+4<=64 * w x)->(l.map fun x=>(T x).length+4).sum<=64 * szS w l
 | [],h=>T6 _
 | x::l,h=>by
  have h1:=h x sM;have h2:=Zqm l fun y hy=>h y (Tx _ hy)
  simp only [TE,List.sum_cons,szS];omega
def JJ {α:Type} {T:α->Bs} {w:α->Nat} {l:List α} (h:∀x∈l,(T x).length+4<=64 * w x):(Zg cmm (l.map T)).length<=64 * szS w l:=by
 have h1:=Vk (l.map T);rw [List.map_map] at h1;exact TZ h1 (Zqm l h)
def Wx {α:Type} {T:α->Bs} {w:α->Nat}:∀{l:List α},(∀x∈l,(T x).length+4<=64 * w x)->((l.map T).flatten).length<=64 * szS w l
 | [],h=>T6 _
 | x::l,h=>by
  have h1:=h x sM;have h2:=Wx (l:=l) fun y hy=>h y (Tx _ hy)
  simp only [TE,List.flatten_cons,Tb,szS];omega
def Zko:∀{l:List Ex},(∀x∈l,ZiA x=true)->(ZlR l).length+(ZsL l.tail).length<=64 * szS wE l/\(ZlR l).length+(ZlR l.tail).length<=64 * szS wE l
 | [],h=>by simp [ZlR,ZsL]
 | x::l,h=>by
  have h1:=ZdQ x (h x sM);have h2:=Wx (T:=fun e=>[32]++exT e) (w:=fun e=>wE e) (l:=l) fun y hy=>by
   have:=ZdQ y (h y (Tx _ hy))
   cases y with
   | mk o t n a b =>
   have hw:1<=wE (.mk o t n a b):=by rw [wE];omega
   have h3:=Zql o t n (Zp2 a) (ZdK (h _ (Tx _ hy))).1.1 (ZdK (h _ (Tx _ hy))).1.2;have h4:=Zbg a (by rw [VN];exact Tq.2 (ZdK (h _ (Tx _ hy))).2);simp only [Tb,Te,Tg];rw [exT,wE];omega
  refine ⟨?_,?_⟩
  ·show (exT x).length+(ZsL l).length<=64 * szS wE (x::l);rw [szS];unfold ZsL
   have:szS (fun e=>wE e) l=szS wE l:=rfl;omega
  show (exT x).length+(ZlR l).length<=64 * szS wE (x::l)
  cases l with
  | nil=>rw [szS,szS];simp [ZlR];omega
  | cons y l =>
  have h5:=ZdQ y (h y sM);rw [szS,szS];simp only [ZlR];omega
def ZxO (op:Nat):(Zwb op).length<=4:=by unfold Zwb;(repeat' split) <;> decide
def ZxP (op:Nat):(Zkh op).length<=5:=by unfold Zkh;(repeat' split) <;> decide
def ZiB {fr fin:Bs} {l:List Ex} (h:∀x∈l,ZiA x=true):(argT fr fin l).length<=fr.length+64 * szS wE l+fin.length:=by
 have:=JJ (T:=exT) (w:=wE) fun x hx=>ZdQ x (h x hx)
 unfold argT ZzV
 simp only [Tb];omega
mutual
def ZxQ:∀x:Li,ZnD x=true->(liT x).length+4<=64 * wL x
 | .mk op rel args body a,h=>by
  obtain ⟨r1,r2⟩:=Zqe h;have h1:=Zg0 body (by rw [UR];exact Tq.2 r2);have h2:=ZiB (fr:=[40]) (fin:=[41]) r1;obtain ⟨h3,h4⟩:=Zko r1;have h5:=ZxO op;have h6:=ZxP op;have h7:=Vk (ZrJ body);rw [liT,wL];simp only [Te,Tg] at h2;split
  ·exact mq103
  split
  ·simp only [Tb];omega
  split
  ·simp only [Tb];omega
  exact mq103
def Zg0:∀l:List Li,ZnE l=true->((ZrJ l).map fun s=>s.length+4).sum<=64 * wLs l
 | [],h=>by rw [ZrJ];simp
 | x::l,h=>by
  rw [ZnE,Tn] at h;have h1:=ZxQ x h.1;have h2:=Zg0 l h.2;rw [ZrJ,wLs];simp only [TE,List.sum_cons];omega
end
def ZxR {r:Ru} (h:ZdL r=true):(ruT r).length+10<=64 * wRu r:=by
 simp only [ZdL,Tn] at h;have r1:=Tq.1 h.1;have r2:=Tq.1 h.2;have h1:=ZiB (fr:=[40]) (fin:=[41]) r1;have h2:=Zg0 r.body (by rw [UR];exact h.2);have h3:=Vk (ZrJ r.body);rw [Ux] at h2;unfold ruT wRu
 simp only [Te,Tg] at h1;split
 ·exact mq103
 exact mq103
def ZxS (f:Fi):(fiT f).length+4<=64 * wFi f:=by
 unfold fiT wFi;simp only [Tb,Te,Tg];omega
def Zkp (fr fin:Bs) (l:List Fi):(Vi fr l fin).length<=fr.length+64 * szS wFi l+fin.length:=by
 have:=JJ (T:=fiT) (w:=wFi) (l:=l) fun x _=>ZxS x
 unfold Vi
 simp only [Tb];omega
def ZxT (c:Ca):(caT c).length+4<=64 * wCa c:=by
 have:=Zkp (c.name++[32,123]) [125] c.fields;unfold caT wCa
 simp only [Tb,Te,Tg] at this |-;omega
def ZfF (l:List Bs):(Zg [32,124,32] l).length<=(l.map fun s=>s.length+4).sum:=by
 match l with
 | []=>exact T6 _
 | [x]=>simp [Zg]
 | x::y::l =>
  have ih:=ZfF (y::l);rw [Zg]
  ·simp only [Tb,TE,List.sum_cons,Te,Tg] at ih |-;omega
  intro h;cases h
def ZxU (t:Ty):(tyT t).length+4<=64 * wTy t:=by
 have h1:=Zkp [32,61,32,91] [93] t.fields;have h2:=ZfF (t.cases.map caT);rw [List.map_map] at h2;have h3:=Zqm (T:=caT) (w:=wCa) t.cases fun x _=>ZxT x
 have h4:(t.cases.map fun x=>(caT x).length+4).sum=(t.cases.map ((fun s:Bs=>s.length+4)∘caT)).sum:=rfl;rw [h4] at h3;unfold tyT wTy
 simp only [Te,Tg] at h1;simp only [Tb,Te,Tg];split
 ·exact mq103
 split
 ·omega
 exact mq103
def ZxV (d:Re):(reT d).length+4<=64 * wRe d:=by
 have h1:=Zkp ([100,101,99,108,32]++(d.name++[40])) [41] d.fields;have hi:∀(b:Bool) (s:Bs),(if b then s else []).length<=s.length:=fun b s=>by cases b <;> simp
 have i1:=hi d.inn [32,105,110,112,117,116];have i2:=hi d.out [32,111,117,116,112,117,116];have i3:=hi d.inl [32,105,110,108,105,110,101];unfold reT wRe
 simp only [Tb,Te,Tg] at h1 i1 i2 i3 |-;omega
def Zkq (l:List Bs):(ZzW l).length<=2+64 * szS wBs l:=by
 have h1:=JJ (T:=fun s:Bs=>s) (w:=wBs) (l:=l) fun x _=>by unfold wBs;omega
 rw [List.map_id'] at h1;unfold ZzW
 split
 ·simp
 exact mq103
def ZxW (i:Ini):(inT i).length+4<=64 * wIn i:=by
 have:=Zkq i.types;unfold inT wIn
 exact mq103
def ZxX (o:Ov):(ovT o).length+4<=64 * wOv o:=by
 unfold ovT wOv
 exact mq103
mutual
def Zg1:∀u:Un,ZlT u=true->(unT u).length+4<=64 * wUn u
 | .mk a b c d e f,h=>by
  simp only [ZlT,Tn] at h;have r1:=Tq.1 h.1;have h1:=Wx (T:=tyT) (w:=wTy) (l:=a) fun x _=>ZxU x
  have h2:=Wx (T:=reT) (w:=wRe) (l:=b) fun x _=>ZxV x
  have h3:=Wx (T:=fun r=>ruT r++[10]) (w:=wRu) (l:=c) fun x hx=>by
   have:=ZxR (r1 x hx);exact mq103
  have h4:=ZlU d h.2;have h5:=Wx (T:=inT) (w:=wIn) (l:=e) fun x _=>ZxW x
  have h6:=Wx (T:=ovT) (w:=wOv) (l:=f) fun x _=>ZxX x
  rw [unT,wUn];simp only [Tb];omega
def ZxY:∀c:Co,Zqf c=true->(coT c).length+4<=64 * wCo c+64
 | .mk nm ps base tys u a,h=>by
  rw [Zqf] at h;have h1:=Zg1 u h;have h2:=Zkq ps;have h3:=Zkq tys;rw [coT,wCo];split
  ·exact mq103
  exact mq103
def ZlU:∀l:List Co,ZdM l=true->((Zy7 l).flatten).length<=64 * ZsM l
 | [],h=>by rw [Zy7];simp
 | x::l,h=>by
  rw [ZdM,Tn] at h;have h1:=ZxY x h.1;have h2:=ZlU l h.2;rw [Zy7,ZsM];simp only [List.flatten_cons,Tb];omega
end
def Zs7 (n:Nat):Zo:=fun args σ K=>match args,σ with
 | [.agg c],⟨[],[],0⟩=>∃pl x,c=(XT pl x).map .d/\((ZeO x=true->ZlT x=true)/\wUn x<=n/\n<=16777216/\noC x) /\
   ((ZeO x=false->K (.ret (.tuple [.d (.str []),.d (.int .i64 160)])) ⟨[],[],0⟩)/\(ZeO x=true->∀r,JG 65536 16384 Za4 (unT x)=r->K (.ret (.tuple [.d (.str (ZdN (unT x) r).1),.d (.int .i64 (ZdN (unT x) r).2)])) ⟨[],[],0⟩))
 | _,_=>False
def ZA5 {n:Nat}:OKw w0 nG [(31,YW (YH XT) ZeO wUn n),(32,ZCi n),(34,Zap),(33,ZlO),(35,Zqi)] 17 (Zs7 n):=by
 refine pwo Tryz.func17 fun args σ K h=>?_
 unfold Zs7 at h
 split at h
 ·obtain ⟨pl,⟨u1,u2,u3,u4,u5,u6⟩,rfl,⟨vi,hz,hn,hnc⟩,ha,hb⟩:=h;refine pwv [] 0 true ?_;refine ⟨pl,(.mk u1 u2 u3 u4 u5 u6),rfl,⟨hz,oM⟩,fun b co=>?_⟩
  cases b with
  | false =>
   conv=>whnf
   exact ha co
  | true =>
  have h1:=vi co;have h2:=Zg1 _ h1;have hb:=hb co;(conv=>whnf);refine ⟨[],unT (.mk u1 u2 u3 u4 u5 u6),rfl,⟨.inl rfl,rfl,rfl⟩,⟨pl,(.mk u1 u2 u3 u4 u5 u6),rfl,⟨by rw [ZCh,co,h1];rfl,hz,oM,hnc⟩,rfl⟩,by simp only [Tg];omega,fun p' jd=>?_⟩;obtain ⟨T,hT⟩:∃T,unT (.mk u1 u2 u3 u4 u5 u6)=T:=⟨_,rfl⟩
  rw [hT] at hb h2 |-;rcases jd with rfl | rfl
  all_goals
   conv=>whnf
   refine ⟨T,⟨rfl,rfl,rfl,iM,oM⟩,?_⟩;(conv=>whnf);refine ⟨oM,fun x hx=>?_⟩;have hb:=hb x hx
   cases x with
   | ok v L =>
    obtain ⟨v1,v2,v3,v4,v5,v6⟩:=v;unfold ZEc
    dsimp only;(conv=>whnf);refine ⟨T,⟨rfl,rfl,rfl,iM,oM⟩,?_⟩;(conv=>whnf);refine ⟨fun g=>absurd g dM,fun _=>wN ?_⟩;exact hb
   | err p c =>
   conv=>whnf
   refine ⟨T,⟨rfl,rfl,rfl,iM,oM⟩,?_⟩;(conv=>whnf);refine ⟨fun g=>wN ?_,fun g=>wN ?_⟩
   ·rw [ZdN,Tk oM] at hb;exact hb
   rw [ZdN,Tf oM] at hb;exact hb
 exact h.elim
def ZE9 (hg:GlobOK w0 nG) (hN:NumOK w0 nG) (hL:LexC w0 nG) (n:Nat):PC w0 nG 17 (Zs7 n) :=
 ZA5 ⟨ZEm hL n,cWU hN hL n,ZfE,ZCZ hg,ZxE,trivial⟩
def ZnI {α:Type} (enc:Pl->α->List D) (c:Nat->α->Prop) (f:α->Bs×Nat) (n:Nat):Zo:=fun args σ K=>match args,σ with
 | [.agg cs],⟨[],[],0⟩=>∃pl e,cs=(enc pl e).map .d/\(c n e/\n<=16777216)/\∀s k,f e=(s,k)->K (.ret (.tuple [.d (.str s),.d (.int .i64 (k:Nat))])) ⟨[],[],0⟩
 | _,_=>False
def ZfG (x:Un):Bs×Nat:=if ZeO x=true then ZdN (unT x) (JG 65536 16384 Za4 (unT x)) else ([],160)
def Zaq (n:Nat) (x:Un):Prop:=ZlT x=true/\wUn x<=n/\(unT x).length<1073741824/\noC x
def ZxZ (hg:GlobOK w0 nG) (hN:NumOK w0 nG) (hL:LexC w0 nG) (n:Nat):PC w0 nG 17 (ZnI XT Zaq ZfG n):=(ZE9 hg hN hL n).weaken1 fun args σ K h=>by
 unfold ZnI at h
 unfold Zs7
 split at h
 ·obtain ⟨pl,e,h1,⟨⟨h2,h3,h4,h6⟩,h5⟩,h⟩:=h;exact ⟨pl,e,h1,⟨fun _=>h2,h3,oM,h6⟩,fun g=>h _ _ (by rw [ZfG,Tf (by rw [g];simp)]),fun g x hx=>h _ _ (by rw [ZfG,Tk g,hx])⟩
 exact h.elim
def Zqn {α:Type} (enc:Pl->α->List D) (sz:α->Nat) (bd:Int->Int) (m:Nat):Zo:=fun args σ K=>match args,σ with
 | [.agg c,.d (.int .i64 ao)],⟨[],[],0⟩=>∃pl x B,c=(enc pl x).map .d/\((0<=ao/\ao<m)/\m<=1000000/\sz x<=B/\B<=1099511627776)/\∀r,0<=r->r<=bd ao->K (.ret (.d (.int .i64 r))) ⟨[],[],0⟩
 | _,_=>False
def Zcc {α:Type} (enc:Pl->α->List D) (sz:α->Nat) (bd:Int->Int) (m:Nat):Zo:=fun args σ K=>match args,σ with
 | [.d (.sl r1),.d (.int .i64 ao)],⟨[],[],0⟩=>∃pl l B,r1=l.map (enc pl)/\((0<=ao/\ao<m)/\m<=1000000/\szS sz l<=B/\B<=1099511627776)/\∀r,0<=r->r<=bd ao->K (.ret (.d (.int .i64 r))) ⟨[],[],0⟩
 | _,_=>False
def bd2 (m:Int):Int:=2 * m+1
def bd3 (m:Int):Int:=3 * m+1
def bd5 (m:Int):Int:=5 * m+2
def ZA6 {m:Nat}:OKw w0 nG [(14,spB (Zqn ZE szE bd2) m)] 14 (Zqn ZE szE bd2 m):=by
 refine pwo Tryz.func14 fun args σ K h=>?_
 unfold Zqn at h
 split at h
 ·obtain ⟨pl,⟨a1,a2,a3,a4,a5⟩,B,rfl,⟨⟨we,np⟩,zy,hz,hB⟩,h⟩:=h
  rename_i ao
  simp only [szE] at hz;have ir:(Ze pl a4).length=a4.length:=by rw [Zb,Td]
  have hsz:=YP a4;unfold bd2 at h
  refine pwv [(3,⟨[6,5],[1,2],fun vs σ=>∃(i:Nat) (nn:Int),vs=[.d (.int .i64 i),.d (.int .i64 nn)]/\σ=⟨[.cells 50 ((ZE pl (.mk a1 a2 a3 a4 a5)).map .d)],[],0⟩/\i<=a4.length/\1<=nn/\nn<=2 * ao+1,fun vs _=>match vs with | [.d (.int _ i),_]=>((a4.length:Nat) - i:Int).toNat | _=>0⟩)] 0 false ?_
  (repeat (first | (refine oiO ?_;conv=>whnf) | (refine ⟨_,oM,bi,?_⟩;conv=>whnf)))
  refine ⟨⟨0,_,rfl,rfl,oM,oM,oM⟩,?_⟩;intro vs σ hI
  obtain ⟨i,nn,rfl,rfl,hi,dj,fd⟩:=hI;(conv=>whnf);refine ZFs (fun ab=>?_) (fun ab=>?_);rotate_left
  ·exact mq154
  have ab:i<a4.length:=lzI ir ab;(conv=>whnf);refine ZFs (fun iu=>?_) (fun iu=>?_);rotate_left
  ·exact mq154
  conv=>whnf
  obtain ⟨eA,hA⟩:∃e,a4[i]=e:=⟨_,rfl⟩
  have hg:=Yh a4 i ab;obtain ⟨b1,b2,b3,b4,b5⟩:=eA;rw [hA] at hg;have bi:(Ze pl a4)[((i:Nat):Int).toNat]?=some (ZE pl (.mk b1 b2 b3 b4 b5)):=by rw [Zb];simp [ab,hA]
  (repeat (first | (refine oiO ?_;conv=>whnf) | (refine ⟨_,oM,bi,?_⟩;conv=>whnf)))
  refine ⟨oM,pl,.mk b1 b2 b3 b4 b5,B,rfl,⟨⟨oM,oM⟩,oM,oM,hB⟩,fun r lq l7=>wN ?_⟩;unfold bd2 at l7
  refine Zi ?_;refine Zi ?_;refine ⟨⟨i+1,_,rfl,rfl,oM,oM,oM⟩,?_⟩;show ((a4.length:Nat) - ((i:Int)+1)).toNat<((a4.length:Nat) - (i:Int)).toNat;omega
 exact h.elim
def cZE:∀m,PC w0 nG 14 (Zqn ZE szE bd2 m)
 | 0=>ZA6 ⟨ZA (Zf Tryz.func14 kR rfl),trivial⟩
 | m+1=>ZA6 ⟨ZB (sp:=Zqn ZE szE bd2) (cZE m),trivial⟩
def ZA7 {m:Nat} :PC w0 nG 9 (Zcc (fun _=>Zn) sz0 bd3 m):=by
 refine pwe Tryz.func9 fun args σ K h=>?_
 unfold Zcc at h
 split at h
 ·obtain ⟨pl,l,B,rfl,⟨⟨we,np⟩,zy,hz,hB⟩,h⟩:=h
  rename_i ao
  have ir:(l.map Zn).length=l.length:=Td ..;have hsz:=Zp (sz0 (α:=Fi)) l;unfold bd3 at h
  refine pwv [(3,⟨[6,5],[0,1],fun vs σ=>∃(i:Nat) (nn:Int),vs=[.d (.int .i64 i),.d (.int .i64 nn)]/\σ=⟨[],[],0⟩/\i<=l.length/\0<=nn/\nn<=3 * ao+1,fun vs _=>match vs with | [.d (.int _ i),_]=>((l.length:Nat) - i:Int).toNat | _=>0⟩)] 0 false ?_;refine ⟨⟨0,0,rfl,rfl,oM,oM,oM⟩,?_⟩;intro vs σ hI
  obtain ⟨i,nn,rfl,rfl,hi,dj,fd⟩:=hI;(conv=>whnf);refine ZFs (fun ab=>?_) (fun ab=>?_);rotate_left
  ·exact mq154
  have ab:i<l.length:=lzI ir ab;(conv=>whnf);refine ZFs (fun iu=>?_) (fun iu=>?_);rotate_left
  ·exact mq154
  conv=>whnf
  obtain ⟨eA,hA⟩:∃e,l[i]=e:=⟨_,rfl⟩
  obtain ⟨b1,b2⟩:=eA;have bi:(l.map Zn)[((i:Nat):Int).toNat]?=some (Zn ⟨b1,b2⟩):=by simp [ab,hA]
  (repeat (first | (refine oiO ?_;conv=>whnf) | (refine ⟨_,oM,bi,?_⟩;conv=>whnf)))
  exact mq201
 exact h.elim
def ZA8 {m:Nat}:OKw w0 nG [(14,Zqn ZE szE bd2 m),(15,spB (Zcc YT szL bd2) m)] 15 (Zcc YT szL bd2 m):=by
 refine pwo Tryz.func15 fun args σ K h=>?_
 unfold Zcc at h
 split at h
 ·obtain ⟨pl,l,B,rfl,⟨⟨we,np⟩,zy,hz,hB⟩,h⟩:=h
  rename_i ao
  have ir:(l.map (YT pl)).length=l.length:=Td ..;have hsz:=Zp szL l;unfold bd2 at h
  refine pwv [(3,⟨[6,5],[0,1],fun vs σ=>∃(i:Nat) (nn:Int),vs=[.d (.int .i64 i),.d (.int .i64 nn)]/\σ=⟨[],[],0⟩/\i<=l.length/\0<=nn/\nn<=2 * ao+1,fun vs _=>match vs with | [.d (.int _ i),_]=>((l.length:Nat) - i:Int).toNat | _=>0⟩),(7,⟨[7,5],[0,1,6],fun vs σ=>∃(i:Nat) (nn:Int),vs=[.d (.int .i64 i),.d (.int .i64 nn)]/\σ=⟨[],[],0⟩/\i<=B/\1<=nn/\nn<=2 * ao+1,fun vs _=>match vs with | [.d (.int _ i),_]=>((B:Nat) - i:Int).toNat | _=>0⟩)] 0 false ?_;refine ⟨⟨0,0,rfl,rfl,oM,oM,oM⟩,?_⟩;intro vs σ hI
  obtain ⟨i,nn,rfl,rfl,hi,dj,fd⟩:=hI;(conv=>whnf);refine ZFs (fun ab=>?_) (fun ab=>?_);rotate_left
  ·exact mq154
  have ab:i<l.length:=lzI ir ab;(conv=>whnf);refine ZFs (fun iu=>?_) (fun iu=>?_);rotate_left
  ·exact mq154
  conv=>whnf
  obtain ⟨eA,hA⟩:∃e,l[i]=e:=⟨_,rfl⟩
  have hg:=Zs szL l i ab;obtain ⟨b1,b2,ar,b4,b5⟩:=eA;rw [hA] at hg;simp only [szL,Xj] at hg;have bi:(l.map (YT pl))[((i:Nat):Int).toNat]?=some (YT pl (.mk b1 b2 ar b4 b5)):=by simp [ab,hA]
  have wd:(Ze pl ar).length=ar.length:=by rw [Zb,Td]
  have hs4:=Zp szE ar
  (repeat (first | (refine oiO ?_;conv=>whnf) | (refine ⟨_,oM,bi,?_⟩;conv=>whnf)))
  refine ⟨⟨0,_,rfl,rfl,oM,oM,oM⟩,?_⟩;intro vs' σ' yj
  obtain ⟨j,n2,rfl,rfl,hj,yk,ym⟩:=yj;(conv=>whnf)
  (repeat (first | (refine oiO ?_;conv=>whnf) | (refine ⟨_,oM,bi,?_⟩;conv=>whnf)))
  refine ZFs (fun iv=>?_) (fun iv=>?_);rotate_left
  ·exact mq171
  have iv:j<ar.length:=lzI wd iv;(conv=>whnf);refine ZFs (fun rq=>?_) (fun rq=>?_);rotate_left
  ·exact mq171
  exact mq40
 exact h.elim
def cZL:∀m,PC w0 nG 15 (Zcc YT szL bd2 m)
 | 0=>ZA8 ⟨cZE 0,ZA (Zf Tryz.func15 kR rfl),trivial⟩
 | m+1=>ZA8 ⟨cZE _,ZB (sp:=Zcc YT szL bd2) (cZL m),trivial⟩
def ZBa {m:Nat}:OKw w0 nG [(14,Zqn ZE szE bd2 m),(15,Zcc YT szL bd2 m)] 10 (Zcc ZC V8 bd2 m):=by
 refine pwo Tryz.func10 fun args σ K h=>?_
 unfold Zcc at h
 split at h
 ·obtain ⟨pl,l,B,rfl,⟨⟨we,np⟩,zy,hz,hB⟩,h⟩:=h
  rename_i ao
  have ir:(l.map (ZC pl)).length=l.length:=Td ..;have hsz:=Zp V8 l;unfold bd2 at h
  refine pwv [(3,⟨[6,5],[0,1],fun vs σ=>∃(i:Nat) (nn:Int),vs=[.d (.int .i64 i),.d (.int .i64 nn)]/\σ=⟨[],[],0⟩/\i<=l.length/\0<=nn/\nn<=2 * ao+1,fun vs _=>match vs with | [.d (.int _ i),_]=>((l.length:Nat) - i:Int).toNat | _=>0⟩),(7,⟨[7,5],[0,1,6],fun vs σ=>∃(i:Nat) (nn:Int),vs=[.d (.int .i64 i),.d (.int .i64 nn)]/\σ=⟨[],[],0⟩/\i<=B/\1<=nn/\nn<=2 * ao+1,fun vs _=>match vs with | [.d (.int _ i),_]=>((B:Nat) - i:Int).toNat | _=>0⟩)] 0 false ?_;refine ⟨⟨0,0,rfl,rfl,oM,oM,oM⟩,?_⟩;intro vs σ hI
  obtain ⟨i,nn,rfl,rfl,hi,dj,fd⟩:=hI;(conv=>whnf);refine ZFs (fun ab=>?_) (fun ab=>?_);rotate_left
  ·exact mq154
  have ab:i<l.length:=lzI ir ab;(conv=>whnf);refine ZFs (fun iu=>?_) (fun iu=>?_);rotate_left
  ·exact mq154
  conv=>whnf
  obtain ⟨eA,hA⟩:∃e,l[i]=e:=⟨_,rfl⟩
  have hg:=Zs V8 l i ab;obtain ⟨b1,ar,b4,b5⟩:=eA;rw [hA] at hg;simp only [V8,Xj] at hg;have bi:(l.map (ZC pl))[((i:Nat):Int).toNat]?=some (ZC pl (⟨b1,ar,b4,b5⟩:Ru)):=by simp [ab,hA]
  have wd:(Ze pl ar).length=ar.length:=by rw [Zb,Td]
  have hs4:=Zp szE ar
  (repeat (first | (refine oiO ?_;conv=>whnf) | (refine ⟨_,oM,bi,?_⟩;conv=>whnf)))
  refine ⟨⟨0,_,rfl,rfl,oM,oM,oM⟩,?_⟩;intro vs' σ' yj
  obtain ⟨j,n2,rfl,rfl,hj,yk,ym⟩:=yj;(conv=>whnf)
  (repeat (first | (refine oiO ?_;conv=>whnf) | (refine ⟨_,oM,bi,?_⟩;conv=>whnf)))
  refine ZFs (fun iv=>?_) (fun iv=>?_);rotate_left
  ·exact mq173
  have iv:j<ar.length:=lzI wd iv;(conv=>whnf);refine ZFs (fun rq=>?_) (fun rq=>?_);rotate_left
  ·exact mq173
  exact mq40
 exact h.elim
structure Pr where
 types:List Ty
 rels:List Re
 rules:List Ru
def V5 (pl:Pl) (p:Pr):List D:=[.sl (p.types.map (Zr pl)),.sl (p.rels.map (ZH pl)),.sl (p.rules.map (ZC pl))]
def ZaE (p:Pr):Nat:=1+szS Znx p.types+szS Zkf p.rels+szS V8 p.rules
def ZBc {m:Nat}:OKw w0 nG [(9,Zcc (fun _=>Zn) sz0 bd3 m),(10,Zcc ZC V8 bd2 m)] 4 (Zqn V5 ZaE bd5 m):=by
 refine pwo Tryz.func4 fun args σ K h=>?_
 unfold Zqn at h
 split at h
 ·obtain ⟨pl,⟨p1,p2,p3⟩,B,rfl,⟨⟨we,np⟩,zy,hz,hB⟩,h⟩:=h
  rename_i ao
  simp only [ZaE] at hz;unfold bd5 at h
  have dt:(p1.map (Zr pl)).length=p1.length:=Td ..;have gu:(p2.map (ZH pl)).length=p2.length:=Td ..;have pa:=Zp Znx p1;have fj:=Zp Zkf p2;refine pwv [(3,⟨[6,5],[1,2],fun vs σ=>∃(i:Nat) (nn:Int),vs=[.d (.int .i64 i),.d (.int .i64 nn)]/\σ=⟨[.cells 26 ((V5 pl ⟨p1,p2,p3⟩).map .d)],[],0⟩/\i<=p1.length/\0<=nn/\nn<=5 * ao+2,fun vs _=>match vs with | [.d (.int _ i),_]=>((p1.length:Nat) - i:Int).toNat | _=>0⟩),(10,⟨[8,5],[1,2,6,7],fun vs σ=>∃(i:Nat) (nn:Int) (b1:Nat) (b2 b3:Bs) (b4:List Fi) (b5:List Ca) (b6:Nat),vs=[.d (.int .i64 i),.d (.int .i64 nn)]/\σ=⟨[.cells 26 ((V5 pl ⟨p1,p2,p3⟩).map .d),.cells 41 ((Zr pl ⟨b1,b2,b3,b4,b5,b6⟩).map .d)],[],0⟩/\(i<=b5.length/\szS Zjj b5<=B)/\0<=nn/\nn<=5 * ao+2,fun vs _=>match vs with | [.d (.int _ i),_]=>((B:Nat) - i:Int).toNat | _=>0⟩),(14,⟨[9,5],[1,2],fun vs σ=>∃(i:Nat) (nn:Int),vs=[.d (.int .i64 i),.d (.int .i64 nn)]/\σ=⟨[.cells 26 ((V5 pl ⟨p1,p2,p3⟩).map .d)],[],0⟩/\i<=p2.length/\0<=nn/\nn<=5 * ao+2,fun vs _=>match vs with | [.d (.int _ i),_]=>((p2.length:Nat) - i:Int).toNat | _=>0⟩)] 0 false ?_;refine ⟨⟨0,0,rfl,rfl,oM,oM,oM⟩,?_⟩;intro vs σ hI
  obtain ⟨i,nn,rfl,rfl,hi,dj,fd⟩:=hI;(conv=>whnf);refine ZFs (fun ab=>?_) (fun ab=>?_);rotate_left
  ·exact mq9
  have ab:i<p1.length:=lzI dt ab;(conv=>whnf);refine ZFs (fun iu=>?_) (fun iu=>?_);rotate_left
  ·exact mq9
  conv=>whnf
  obtain ⟨eA,hA⟩:∃e,p1[i]=e:=⟨_,rfl⟩
  have hg:=Zs Znx p1 i ab;obtain ⟨b1,b2,b3,b4,b5,b6⟩:=eA;rw [hA] at hg;simp only [Znx] at hg;have bi:(p1.map (Zr pl))[((i:Nat):Int).toNat]?=some (Zr pl ⟨b1,b2,b3,b4,b5,b6⟩):=by simp [ab,hA]
  (repeat (first | (refine oiO ?_;conv=>whnf) | (refine ⟨_,oM,bi,?_⟩;conv=>whnf)))
  refine ZFs (fun aj=>wN ?_) (fun aj=>wN ?_)
  ·(repeat (first | (refine oiO ?_;conv=>whnf) | (refine ⟨_,oM,bi,?_⟩;conv=>whnf)))
   refine ⟨pl,b4,B,rfl,⟨⟨oM,oM⟩,oM,oM,hB⟩,fun r lq l7=>wN ?_⟩;unfold bd3 at l7
   (repeat (first | (refine oiO ?_;conv=>whnf) | (refine ⟨_,oM,bi,?_⟩;conv=>whnf)))
   exact mq13
  exact mq13
 exact h.elim
def ZFa (m:Nat):PC w0 nG 4 (Zqn V5 ZaE bd5 m):=ZBc ⟨ZA7,ZBa ⟨cZE m,cZL m,trivial⟩,trivial⟩
def mvM {α:Type} (f:α->MV) (m:List (Bs×α)):List (Bs×MV):=m.map fun x=>(x.1,f x.2)
def mvI (n:Int):MV:=.one (.int .i64 n)
def mvB (b:Bool):MV:=.one (.bool b)
def mvC (c:Int×Int):MV:=.agg [.int .i64 c.1,.int .i64 c.2]
def ZJ {α:Type} {f:α->MV} {k:Bs}:∀m:List (Bs×α),lkM k (mvM f m)=(lkM k m).map f
 | []=>rfl
 | (x,v)::l=>by
  have ih:=ZJ (f:=f) (k:=k) l;simp only [mvM,TE,lkM] at ih |-
  cases decide (k=x) with
  | true=>rfl
  | false=>exact ih
def Wy {α:Type} {f:α->MV} {k:Bs} {v:α}:∀m:List (Bs×α),Yo k (f v) (mvM f m)=mvM f (Yo k v m)
 | []=>rfl
 | (x,u)::l=>by
  have ih:=Wy (f:=f) (k:=k) (v:=v) l;simp only [mvM,TE,Yo] at ih |-
  cases decide (k=x) with
  | true=>rfl
  | false=>simp only [ih];rfl
def Zkr {α:Type} {f:α->MV} (m:List (Bs×α)):(mvM f m).length=m.length:=Td ..
def JK {α:Type} {k s:Bs} {v:α}:∀m:List (Bs×α),lkM s (Yo k v m)=if s=k then some v else lkM s m
 | []=>by simp only [Yo,lkM];by_cases h:s=k <;> simp [h]
 | (x,u)::l=>by
  have ih:=JK (k:=k) (s:=s) (v:=v) l;simp only [Yo]
  by_cases h:k=x
  ·subst h;rw [Sa rfl];simp only [lkM]
   by_cases g:s=k <;> simp [g]
  rw [decide_eq_false h];simp only [lkM,ih]
  by_cases g:s=x
  ·subst g;rw [Sa rfl];simp only;rw [Tf (fun e=>h e.symm)]
  rw [decide_eq_false g]
def putM_len {α:Type} {k:Bs} {v:α}:∀{m:List (Bs×α)},lkM k m=none->(Yo k v m).length=m.length+1
 | [],_=>rfl
 | (x,u)::l,h=>by
  simp only [lkM] at h;simp only [Yo]
  cases hd:decide (k=x) with
  | true=>rw [hd] at h;cases h
  | false=>rw [hd] at h;simp only [Te,putM_len h]
def Zs8:Bs:=[110,117,109,98,101,114]
def ZCj:Bs:=[115,121,109,98,111,108]
def ZiC (s:Bs):Bool:=decide (s=Zs8) || decide (s=ZCj)
def Wb:Nat->List Bs->List (Bs×Int)->List (Bs×Int)
 | _,[],m=>m
 | i,s::l,m=>Wb (i+1) l (if (lkM s m).isNone=true then Yo s (i:Int) m else m)
def YX (l:List Bs):List (Bs×Int):=Wb 0 l []
def Zs9 (p:Pr):List (Bs×Int):=YX (p.types.map (·.name))
def JL (p:Pr):List (Bs×Int):=YX (p.rels.map (·.name))
def Yw (i:Nat):Nat->List Ca->List (Bs×(Int×Int))->List (Bs×(Int×Int))
 | _,[],m=>m
 | k,c::l,m=>Yw i (k+1) l (if (lkM c.name m).isNone=true then Yo c.name ((i:Int),(k:Int)) m else m)
def JM:Nat->List Ty->List (Bs×(Int×Int))->List (Bs×(Int×Int))
 | _,[],m=>m
 | i,t::l,m=>JM (i+1) l (Yw i 0 t.cases m)
def Xb (p:Pr):List (Bs×(Int×Int)):=JM 0 p.types []
def Wc:List Ty->List (Bs×Int)->List (Bs×Int)
 | [],m=>m
 | t::l,m=>Wc l (if t.kind≠1/\(lkM t.name m).isNone=true then Yo t.name (m.length:Int) m else m)
def JN (p:Pr):List (Bs×Int):=Wc p.types [(Zs8,0),(ZCj,1)]
def XU (p:Pr) (s:Bs):Option Bs:=match lkM s (Zs9 p) with
 | none=>none
 | some i=>if ZiC s=true then none else match p.types[i.toNat]? with
  | some t=>if t.kind=1/\t.base≠[] then some t.base else none
  | none=>none
def Vl (p:Pr) (s:Bs):Bool:=(lkM s (Zs9 p)).isSome || ZiC s
def ZdR {s:Bs}:∀(l:List Bs) (i:Nat) (m:List (Bs×Int)) (n:Int),lkM s (Wb i l m)=some n->lkM s m=some n\/∃k:Nat,n=i+k/\l[k]?=some s
 | [],i,m,n,h=>.inl h
 | x::l,i,m,n,h=>by
  rcases ZdR l (i+1) _ n h with h | ⟨k,h1,h2⟩
  ·split at h
   ·rw [JK] at h;split at h
    ·rename_i e;cases h;exact .inr ⟨0,oM,by simp [e]⟩
    exact .inl h
   exact .inl h
  exact .inr ⟨k+1,oM,by simpa using h2⟩
def ZfH {s:Bs} {l:List Bs} {n:Int} (h:lkM s (YX l)=some n):∃k:Nat,n=k/\l[k]?=some s:=by
 rcases ZdR l 0 [] n h with h | ⟨k,h1,h2⟩
 ·cases h
 exact ⟨k,oM,h2⟩
def Zqo {p:Pr} {s:Bs} {n:Int} (h:lkM s (Zs9 p)=some n):∃(k:Nat) (t:Ty),n=k/\p.types[k]?=some t/\t.name=s:=by
 exact mq158
abbrev ZiD (pl:Pl) (p:Pr) (b:Nat):List PV:=[.mp b,.mp (b+1),.mp (b+2),.mp (b+3),.d (.sl (p.types.map (Zr pl))),.d (.sl (p.rels.map (ZH pl))),.d (.sl (p.rules.map (ZC pl)))]
abbrev ZiE (p:Pr):List Box:=[.dmap (mvM mvI (Zs9 p)),.dmap (mvM mvI (JL p)),.dmap (mvM mvI (JN p)),.dmap (mvM mvC (Xb p))]
abbrev ZeQ (pl:Pl) (p:Pr):List Box:=.cells 104 (ZiD pl p 1)::ZiE p
def BP (p:Pr):Prop:=ZaE p<=1073741824
def BP.len {p:Pr} (h:BP p):p.types.length<=1073741824/\p.rels.length<=1073741824/\p.rules.length<=1073741824:=by
 unfold BP ZaE at h
 have h1:=Zp Znx p.types;have h2:=Zp Zkf p.rels;have h3:=Zp V8 p.rules;omega
def Zbh {α:Type} {f:α->Nat} {l:List α} {x:α} (h:x∈l):f x<szS f l:=by
 obtain ⟨i,hi,rfl⟩:=Sd h;exact Zs f l i hi
def BP.ty {p:Pr} (h:BP p) {t:Ty} (ht:t∈p.types):t.fields.length<=1073741824/\t.cases.length<=1073741824/\∀c∈t.cases,c.fields.length<=1073741824:=by
 unfold BP ZaE at h
 have h1:=Zbh (f:=Znx) ht;have e1:Znx t=1+szS sz0 t.fields+szS Zjj t.cases:=rfl;have h2:=Zp sz0 t.fields;have h3:=Zp Zjj t.cases;refine ⟨oM,oM,fun c hc=>?_⟩;have h4:=Zbh (f:=Zjj) hc;have e2:Zjj c=1+szS sz0 c.fields:=rfl;have h5:=Zp sz0 c.fields;omega
def BP.re {p:Pr} (h:BP p) {d:Re} (hd:d∈p.rels):d.fields.length<=1073741824:=by
 unfold BP ZaE at h
 have h1:=Zbh (f:=Zkf) hd;have e1:Zkf d=1+szS sz0 d.fields:=rfl;have h2:=Zp sz0 d.fields;omega
def Zg2 (p:Pr) (b:Bs):Nat->Bs->Bool
 | 0,_=>false
 | n+1,a=>if a=b then true else match XU p a with
  | none=>false
  | some c=>Zg2 p b n c
def WO (p:Pr) (a b:Bs):Bool:=Zg2 p b (p.types.length+1) a
def Zbi (p:Pr):Nat->Bs->Option Bs
 | 0,_=>none
 | n+1,a=>match XU p a with
  | none=>some a
  | some c=>Zbi p n c
def Zuz (p:Pr) (a:Bs):Option Bs:=Zbi p (p.types.length+1) a
def Uz (p:Pr):Nat->Bs->Nat
 | 0,_=>0
 | n+1,a=>match XU p a with
  | none=>0
  | some c=>Uz p n c+1
def Xs (p:Pr) (a:Bs):Int:=(lkM ((Zuz p a).getD []) (JN p)).getD 0
def ZX (p:Pr) (l:List Fi):List Int:=l.map fun f=>Xs p f.typ
def ZBd (p:Pr):Prop:=∀s,(Zuz p s).isSome=true
def ZfI {p:Pr}:∀{n m:Nat} {a r:Bs},Zbi p n a=some r->n<=m->Zbi p m a=some r
 | 0,_,_,_,h,_=>by cases h
 | n+1,0,_,_,_,h=>oM
 | n+1,m+1,a,r,h,aj=>by
  simp only [Zbi] at h |-;split at h
  ·exact h
  exact ZfI h oM
def Zta {p:Pr} {n:Nat} {a c r:Bs} (hb:XU p a=some c) (h:Zbi p n a=some r):∃m,n=m+1/\Zbi p m c=some r:=by
 cases n with
 | zero=>cases h
 | succ m=>refine ⟨m,rfl,?_⟩;simpa only [Zbi,hb] using h
def Ztb {p:Pr} {a c r:Bs} (hb:XU p a=some c) (h:Zuz p a=some r):Zuz p c=some r:=by
 obtain ⟨m,h1,h2⟩:=Zta hb h;exact ZfI h2 oM
def Ztc {p:Pr} {a:Bs} (hb:XU p a=none):Zuz p a=some a:=by simp only [Zuz,Zbi,hb]
def ZlV {p:Pr}:∀{n:Nat} {a c r:Bs},Zbi p n a=some r->XU p a=some c->∀m,n<=m->Uz p m c<Uz p m a
 | 0,_,_,_,h,_,_,_=>by cases h
 | n+1,a,c,r,h,hb,m,hm=>by
  obtain ⟨k,rfl⟩:∃k,m=k+1:=⟨m - 1,oM⟩
  simp only [Zbi,hb] at h;have e:Uz p (k+1) a=Uz p k c+1:=by simp only [Uz,hb]
  rw [e]
  cases hc:XU p c with
  | none=>simp only [Uz,hc];omega
  | some d =>
  have e2:Uz p (k+1) c=Uz p k d+1:=by simp only [Uz,hc]
  rw [e2];have:=ZlV h hc k oM;omega
def Zar (body:List PV->Pl->Pr->(PEnd->Prop)->Prop):Zo:=fun args σ K=>match args,σ with
 | .ptr 0 0::rest,⟨bx,[],0⟩=>∃pl p,bx=ZeQ pl p/\BP p/\body rest pl p fun pe=>K pe ⟨bx,[],0⟩
 | _,_=>False
def Zks:Zo:=fun args σ K=>match args,σ with
 | [.d (.str s)],⟨[],[],0⟩=>∀b,ZiC s=b->K (.ret (.d (.bool b))) ⟨[],[],0⟩
 | _,_=>False
def ZlW:PC w0 nG 96 Zks:=by
 refine pwe Tryz.func96 fun args σ K h=>?_
 unfold Zks at h
 split at h
 ·rename_i s
  refine pwv [] 0 false ?_;refine ZFs (fun h1=>wN ?_) (fun h1=>wN ?_)
  ·exact h _ (by simp [ZiC,show s=Zs8 from h1])
  exact h _ (by simp [ZiC,show ¬s=Zs8 from h1];rfl)
 exact h.elim
def ZfJ:Zo:=Zar fun rest pl p K=>match rest with
 | [.d (.str s)]=>∀x,XU p s=x->K (.ret (.tuple [.d (.str (x.getD [])),.d (.bool x.isSome)]))
 | _=>False
def Zqp:Tbl:=[(96,Zks)]
def Zx0 (ht:TO w0 nG Zqp):PC w0 nG 44 ZfJ:=by
 refine pwt ht Tryz.func44 fun args σ K h=>?_
 unfold ZfJ Zar at h
 split at h
 ·obtain ⟨pl,p,rfl,hp,h⟩:=h;split at h
  ·rename_i s
   refine pwv [] 5 false ?_;refine ZFB (fun v hv=>?_) (fun hv=>?_);rotate_left
   ·rw [ZJ,Option.map_eq_none_iff] at hv;(conv=>whnf);exact h none (by simp only [XU,hv])
   rw [ZJ] at hv;obtain ⟨n,hn,rfl⟩:=TD.1 hv;obtain ⟨k,⟨t1,t2,t3,t4,t5,t6⟩,rfl,ht,ak⟩:=Zqo hn;have hk:p.types[(k:Int).toNat]?=some ⟨t1,t2,t3,t4,t5,t6⟩:=by rw [Tj];exact ht
   have hr:(p.types.map (Zr pl))[(k:Int).toNat]?=some (Zr pl ⟨t1,t2,t3,t4,t5,t6⟩):=by rw [Th,hk];rfl
   conv=>whnf
   intro b hb
   cases b with
   | true =>
    conv=>whnf
    exact h none (by simp only [XU,hn,hb,if_true])
   | false =>
   conv=>whnf
   refine ⟨_,oM,hr,wN ?_⟩;refine ZFv (fun hc=>wN ?_) (fun hc=>wN ?_)
   ·exact h none (by simp only [XU,hn,hb,hk];rw [Tf sM,Tf];intro g;exact hc (by simp only [g.1];rfl))
   refine ⟨_,oM,hr,wN ?_⟩;refine ⟨_,oM,hr,wN ?_⟩;have cz:t1=1:=by have hc:(t1:Int)=1:=hc;omega
   cases t3 with
   | nil=>exact h none (by simp only [XU,hn,hb,hk];rw [Tf sM,Tf sM])
   | cons x t3=>exact h (some (x::t3)) (by simp only [XU,hn,hb,hk];rw [Tf sM,Tk ⟨cz,sM⟩])
  exact h.elim
 exact h.elim
def Zas:Zo:=Zar fun rest pl p K=>match rest with
 | [.d (.str s)]=>∀b,Vl p s=b->K (.ret (.d (.bool b)))
 | _=>False
def Zqq:OKw w0 nG Zqp 43 Zas:=by
 refine pwo Tryz.func43 fun args σ K h=>?_
 unfold Zas Zar at h
 split at h
 ·obtain ⟨pl,p,rfl,hp,h⟩:=h;split at h
  ·rename_i s
   refine pwv [] 5 false ?_;refine ZFB (fun v hv=>?_) (fun hv=>wN ?_)
   ·rw [ZJ] at hv;obtain ⟨n,hn,rfl⟩:=TD.1 hv;(conv=>whnf);exact h true (by simp [Vl,hn])
   rw [ZJ,Option.map_eq_none_iff] at hv;intro b hb
   conv=>whnf
   exact h b (by simp [Vl,hv,hb])
  exact h.elim
 exact h.elim
def VO:Zo:=Zar fun rest pl p K=>match rest with
 | [.d (.str s)]=>ZBd p/\∀n,Xs p s=n->K (.ret (.d (.int .i64 n)))
 | _=>False
def ZlX:Tbl:=[(44,ZfJ)]
def Zqr:OKw w0 nG ZlX 97 VO:=by
 refine pwo Tryz.func97 fun args σ K h=>?_
 unfold VO Zar at h
 split at h
 ·obtain ⟨pl,p,rfl,hp,h⟩:=h;split at h
  ·rename_i s
   obtain ⟨he,h⟩:=h;obtain ⟨r,hr⟩:=Su.1 (he s);refine pwv [(1,⟨[1],[0],fun vs σ=>∃a,vs=[.d (.str a)]/\σ=⟨ZeQ pl p,[],0⟩/\Zuz p a=some r,fun vs _=>match vs with | [.d (.str a)]=>Uz p (p.types.length+1) a | _=>0⟩)] 5 false ?_;refine ⟨⟨s,rfl,rfl,hr⟩,?_⟩
   rintro vs σ1 ⟨a,rfl,rfl,ha⟩
   conv=>whnf
   refine ⟨pl,p,rfl,hp,fun x hx=>?_⟩
   cases x with
   | none =>
    have nc:r=a:=by rw [Ztc hx] at ha;exact (Option.some.inj ha).symm
    subst nc;(conv=>whnf);refine ZFB (fun v hv=>?_) (fun hv=>wN ?_)
    ·rw [ZJ] at hv;obtain ⟨n,hn,rfl⟩:=TD.1 hv;(conv=>whnf);exact h n (by simp [Xs,hr,hn])
    rw [ZJ,Option.map_eq_none_iff] at hv;exact h 0 (by simp [Xs,hr,hv])
   | some c =>
   conv=>whnf
   exact ⟨⟨c,rfl,rfl,Ztb hx ha⟩,ZlV ha hx _ (Tt _)⟩
  exact h.elim
 exact h.elim
def Zg3:Zo:=Zar fun rest pl p K=>match rest with
 | [.d (.str a),.d (.str b)]=>∀x,WO p a b=x->K (.ret (.d (.bool x)))
 | _=>False
def Zqs:OKw w0 nG ZlX 106 Zg3:=by
 refine pwo Tryz.func106 fun args σ K h=>?_
 unfold Zg3 Zar at h
 split at h
 ·obtain ⟨pl,p,rfl,hp,h⟩:=h;split at h
  ·rename_i s b
   have aa:=hp.len.1;have hl:(p.types.map (Zr pl)).length=p.types.length:=Td ..;refine pwu [(2,⟨[1,16],[0,2,15],fun vs σ=>∃a j,vs=[.d (.str a),.d (.int .i64 j)]/\σ=⟨ZeQ pl p,[],0⟩/\(0<=j/\j<=p.types.length+1)/\Zg2 p b (p.types.length+1 - j.toNat) a=WO p s b,
    fun vs _=>match vs with | [_,.d (.int _ j)]=>((p.types.length:Int)+1 - j).toNat | _=>0⟩)] 5 false ?_
   conv=>whnf
   refine Zi ?_;refine ⟨⟨s,0,rfl,rfl,⟨oM,oM⟩,rfl⟩,?_⟩
   rintro vs σ1 ⟨a,j,rfl,rfl,⟨sk,hj1⟩,ha⟩
   conv=>whnf
   refine ZFs (fun hc=>?_) (fun hc=>?_);rotate_left
   ·conv=>whnf
    rw [show p.types.length+1 - j.toNat=0 by omega] at ha;exact h false (by rw [<- ha];rfl)
   obtain ⟨q,hq⟩:∃q,p.types.length+1 - j.toNat=q+1:=⟨p.types.length - j.toNat,oM⟩
   rw [hq] at ha;simp only [Zg2] at ha;(conv=>whnf);refine ZFs (fun vi=>wN ?_) (fun vi=>wN ?_)
   ·rw [Tk vi] at ha;exact h true ha.symm
   rw [Tf vi] at ha;refine ⟨pl,p,rfl,hp,fun x hx=>?_⟩;rw [hx] at ha
   cases x with
   | none =>
    conv=>whnf
    exact h false ha.symm
   | some c =>
   conv=>whnf
   refine Zi ?_;refine ⟨⟨c,j+1,rfl,rfl,⟨oM,oM⟩,?_⟩,?_⟩
   ·rw [show p.types.length+1 - (j+1).toNat=q by omega];exact ha
   show ((p.types.length:Int)+1 - (j+1)).toNat<((p.types.length:Int)+1 - j).toNat;omega
  exact h.elim
 exact h.elim
abbrev Zqt (pl:Pl) (p:Pr):List Box:=.cells 51 [.ptr 1 0]::.cells 104 (ZiD pl p 2)::ZiE p
def ZnJ {α:Type} (enc:α->List D) (cond:α->Prop) (q:Pr->α->Bool):Zo:=fun args σ K=>match args,σ with
 | [.agg c,.ptr 0 0],⟨bx,[],0⟩=>∃pl p x,bx=Zqt pl p/\c=(enc x).map .d/\(BP p/\cond x)/\∀b,q p x=b->K (.ret (.d (.bool b))) ⟨bx,[],0⟩
 | _,_=>False
def Zg4 {α:Type} (q:α->Bool):Nat->List α->Int
 | _,[]=>-1
 | i,x::l=>if q x=true then i else Zg4 q (i+1) l
def ZdS {α:Type} {q:α->Bool}:∀(l:List α) (i:Nat),(0<=Zg4 q i l)↔l.any q=true
 | [],i=>by simp [Zg4]
 | x::l,i=>by
  simp only [Zg4,SF]
  cases hq:q x with
  | true=>simp
  | false=>simpa using ZdS l (i+1)
def ZfK {α:Type} (clo:FuncId) (enc:α->List D) (cond:α->Prop) (q:Pr->α->Bool):Zo:=fun args σ K=>match args,σ with
 | [.d (.sl rows),.func g [] [.ptr 0 0]],⟨bx,[],0⟩=>∃pl p l,bx=Zqt pl p/\rows=l.map enc/\(g=clo/\BP p/\l.length<=1073741824/\∀x∈l,cond x)/\∀i,Zg4 (q p) 0 l=i->K (.ret (.d (.int .i64 i))) ⟨bx,[],0⟩
 | _,_=>False
def ZfL {α:Type} (clo:FuncId) (enc:α->List D) (cond:α->Prop) (q:Pr->α->Bool):Zo:=fun args σ K=>match args,σ with
 | [.d (.sl rows),.func g [] [.ptr 0 0]],⟨bx,[],0⟩=>∃pl p,∃l:List α,bx=Zqt pl p/\rows=l.map enc/\(g=clo/\BP p/\l.length<=1073741824/\∀x∈l,cond x)/\∀b,l.any (q p)=b->K (.ret (.d (.bool b))) ⟨bx,[],0⟩
 | _,_=>False
def Vm (p:Pr) (l:List Fi):Bool:=!(l.any fun f=>!Vl p f.typ)
def Zbj:{α:Type}->α->Prop:=fun _=>True
def ZfM (c:Ca):Prop:=c.fields.length<=1073741824
def Zte:OKw w0 nG [(43,Zas)] 95 (ZnJ Zn Zbj (fun p (f:Fi)=>!Vl p f.typ)):=by
 refine pwo Tryz.func95 fun args σ K h=>?_
 unfold ZnJ at h
 split at h
 ·obtain ⟨pl,p,⟨f1,f2⟩,rfl,rfl,⟨hp,ut⟩,h⟩:=h;refine pwv [] 6 false ?_;refine ⟨pl,p,rfl,hp,fun b hb=>wN ?_⟩;exact h _ (by simp only [hb])
 exact h.elim
def Ztg:OKw w0 nG [(95,ZnJ Zn Zbj (fun p (f:Fi)=>!Vl p f.typ))] 168 (ZfK 95 Zn Zbj (fun p (f:Fi)=>!Vl p f.typ)):=by
 refine pwo Tryz.func168 fun args σ K h=>?_
 unfold ZfK at h
 split at h
 ·obtain ⟨pl,p,l,rfl,rfl,⟨rfl,hp,hlen,ld⟩,h⟩:=h;have hl:(l.map Zn).length=l.length:=Td ..;refine pwu [(2,⟨[8],[0,1,7],fun vs σ=>∃j:Nat,vs=[.d (.int .i64 j)]/\σ=⟨Zqt pl p,[],0⟩/\j<=l.length/\Zg4 ((fun p (f:Fi)=>!Vl p f.typ) p) j (l.drop j)=Zg4 ((fun p (f:Fi)=>!Vl p f.typ) p) 0 l,
   mu1 l.length⟩)] 6 false ?_
  conv=>whnf
  refine ⟨⟨0,rfl,rfl,oM,rfl⟩,?_⟩
  rintro vs σ1 ⟨j,rfl,rfl,hj,ha⟩
  conv=>whnf
  refine ZFs (fun hc=>?_) (fun hc=>?_);rotate_left
  ·conv=>whnf
   rw [Tr oM] at ha;exact h (-1) ha.symm
  have aa:j<l.length:=oM;rw [Tm aa] at ha;have hr:(l.map Zn)[(j:Int).toNat]?=some (Zn l[j]):=by rw [Tj,Th,Ta aa];rfl
  have ut:=ld _ (TC aa);generalize l[j]=x at ha hr ut;obtain ⟨f1,f2⟩:=x;exact mq208
 exact h.elim
def Zti:OKw w0 nG [(168,ZfK 95 Zn Zbj (fun p (f:Fi)=>!Vl p f.typ))] 94 (ZfL 95 Zn Zbj (fun p (f:Fi)=>!Vl p f.typ)):=by
 refine pwo Tryz.func94 fun args σ K h=>?_
 exact mq80
def ZdT:Zo:=Zar fun rest pl p K=>match rest with
 | [.d (.sl rows)]=>∃l:List Fi,rows=l.map Zn/\l.length<=1073741824/\∀b,Vm p l=b->K (.ret (.d (.bool b)))
 | _=>False
def Ztk:OKw w0 nG [(94,ZfL 95 Zn Zbj (fun p (f:Fi)=>!Vl p f.typ))] 42 ZdT:=by
 refine pwo Tryz.func42 fun args σ K h=>?_
 unfold ZdT Zar at h
 split at h
 ·obtain ⟨pl,p,rfl,hp,h⟩:=h;split at h
  ·obtain ⟨l,rfl,hlen,h⟩:=h;refine pwv [] 5 false ?_;refine ⟨pl,p,l,rfl,rfl,⟨rfl,hp,hlen,fun _ _=>trivial⟩,fun b hb=>wN ?_⟩;exact h _ (by simp only [Vm,hb])
  exact h.elim
 exact h.elim
def Ztm:OKw w0 nG [(42,ZdT)] 41 (ZnJ Zt ZfM (fun p (c:Ca)=>!Vm p c.fields)):=by
 refine pwo Tryz.func41 fun args σ K h=>?_
 unfold ZnJ at h
 split at h
 ·obtain ⟨pl,p,⟨c1,c2⟩,rfl,rfl,⟨hp,ut⟩,h⟩:=h;refine pwv [] 6 false ?_;refine ⟨pl,p,rfl,hp,c2,rfl,ut,fun b hb=>wN ?_⟩;exact h _ (by simp only [hb])
 exact h.elim
def Zto:OKw w0 nG [(41,ZnJ Zt ZfM (fun p (c:Ca)=>!Vm p c.fields))] 93 (ZfK 41 Zt ZfM (fun p (c:Ca)=>!Vm p c.fields)):=by
 refine pwo Tryz.func93 fun args σ K h=>?_
 unfold ZfK at h
 split at h
 ·obtain ⟨pl,p,l,rfl,rfl,⟨rfl,hp,hlen,ld⟩,h⟩:=h;have hl:(l.map Zt).length=l.length:=Td ..;refine pwu [(2,⟨[8],[0,1,7],fun vs σ=>∃j:Nat,vs=[.d (.int .i64 j)]/\σ=⟨Zqt pl p,[],0⟩/\j<=l.length/\Zg4 ((fun p (c:Ca)=>!Vm p c.fields) p) j (l.drop j)=Zg4 ((fun p (c:Ca)=>!Vm p c.fields) p) 0 l,
   mu1 l.length⟩)] 6 false ?_
  conv=>whnf
  refine ⟨⟨0,rfl,rfl,oM,rfl⟩,?_⟩
  rintro vs σ1 ⟨j,rfl,rfl,hj,ha⟩
  conv=>whnf
  refine ZFs (fun hc=>?_) (fun hc=>?_);rotate_left
  ·conv=>whnf
   rw [Tr oM] at ha;exact h (-1) ha.symm
  have aa:j<l.length:=oM;rw [Tm aa] at ha;have hr:(l.map Zt)[(j:Int).toNat]?=some (Zt l[j]):=by rw [Tj,Th,Ta aa];rfl
  have ut:=ld _ (TC aa);generalize l[j]=x at ha hr ut;obtain ⟨c1,c2⟩:=x;exact mq208
 exact h.elim
def Ztq:OKw w0 nG [(93,ZfK 41 Zt ZfM (fun p (c:Ca)=>!Vm p c.fields))] 40 (ZfL 41 Zt ZfM (fun p (c:Ca)=>!Vm p c.fields)):=by
 refine pwo Tryz.func40 fun args σ K h=>?_
 exact mq80
def Vn (l:List Int):List (List D):=l.map fun n=>[.int .i64 n]
def Zat:Zo:=Zar fun rest pl p K=>match rest with
 | [.d (.sl rows)]=>∃l:List Fi,rows=l.map Zn/\(ZBd p/\l.length<=1073741824)/\K (.ret (.d (.sl (Vn (ZX p l)))))
 | _=>False
def ZnL (ht:TO w0 nG [(97,VO)]):PC w0 nG 169 Zat:=by
 refine pwt ht Tryz.func169 fun args σ K h=>?_
 unfold Zat Zar at h
 split at h
 ·obtain ⟨pl,p,rfl,hp,h⟩:=h;split at h
  ·obtain ⟨l,rfl,⟨he,hlen⟩,h⟩:=h;have hl:(l.map Zn).length=l.length:=Td ..;refine pwu [(3,⟨[5,10],[0,8,9],fun vs σ=>∃j:Nat,vs=[.sl 0 3 (Vn (ZX p (l.take j))),.d (.int .i64 j)]/\σ=⟨ZeQ pl p,[0],1⟩/\j<=l.length,
    mu2 l.length⟩)] 5 false ?_
   conv=>whnf
   refine ⟨⟨0,rfl,rfl,oM⟩,?_⟩
   rintro vs σ1 ⟨j,rfl,rfl,hj⟩
   conv=>whnf
   refine ZFs (fun hc=>?_) (fun hc=>?_);rotate_left
   ·conv=>whnf
    rw [List.take_of_length_le oM];exact h
   have aa:j<l.length:=oM;have ht:ZX p (l.take (j+1))=ZX p (l.take j)++[Xs p l[j].typ]:=by simp only [ZX,List.take_succ,Ta aa,Option.toList_some,So,TE,TN]
   have hr:(l.map Zn)[(j:Int).toNat]?=some (Zn l[j]):=by rw [Tj,Th,Ta aa];rfl
   have hlr:(Vn (ZX p (l.take j))).length=j:=by simp [Vn,ZX];omega
   generalize l[j]=x at ht hr;obtain ⟨f1,f2⟩:=x;(conv=>whnf);refine ⟨_,oM,hr,wN ?_⟩;refine ⟨pl,p,rfl,hp,he,fun n hn=>wN ?_⟩;refine ⟨fun r hr=>by simp at hr;subst hr;rfl,?_,?_,?_⟩
   ·show ((Vn (ZX p (l.take j))).length+1) * 8<=2 ^ 47;omega
   ·show (Vn (ZX p (l.take j))).length+1<=2 ^ 47;omega
   conv=>whnf
   refine Zi ?_;refine ⟨⟨j+1,?_,rfl,oM⟩,?_⟩
   ·rw [ht,hn];simp only [Vn,So,TE,TN];rfl
   show ((l.length:Int) - ((j:Int)+1)).toNat<((l.length:Int) - (j:Int)).toNat;omega
  exact h.elim
 exact h.elim
def VP {s:Bs}:∀(l:List Bs) (i:Nat) (m:List (Bs×Int)),Wb i (l++[s]) m=if (lkM s (Wb i l m)).isNone=true then Yo s ((i:Int)+l.length) (Wb i l m) else Wb i l m
 | [],i,m=>by simp [Wb]
 | x::l,i,m=>by
  simp only [T7,Wb,VP l (i+1),Te];rw [show ((i+1:Nat):Int)+(l.length:Int)=(i:Int)+((l.length+1:Nat):Int) by omega]
  try rfl
def US {α:Type} (enc:Pl->α->List D) (nm:α->Bs):Zo:=fun args σ K=>match args,σ with
 | [.agg c],⟨[],[],0⟩=>∃pl x,c=(enc pl x).map .d/\K (.ret (.d (.str (nm x)))) ⟨[],[],0⟩
 | _,_=>False
def UT {α:Type} (clo:FuncId) (enc:Pl->α->List D) (nm:α->Bs):Zo:=fun args σ K=>match args,σ with
 | [.d (.sl rows),.func g [] []],⟨[],[],0⟩=>∃pl,∃l:List α,rows=l.map (enc pl)/\(g=clo/\l.length<=1073741824)/\K (.ret (.mp 0)) ⟨[.dmap (mvM mvI (YX (l.map nm)))],[],0⟩
 | _,_=>False
def Zkt:PC w0 nG 37 (US Zr (·.name)):=by
 refine pwe Tryz.func37 fun args σ K h=>?_
 exact mq130
def Zkv:OKw w0 nG [(37,US Zr (·.name))] 36 (UT 37 Zr (·.name)):=by
 refine pwo Tryz.func36 fun args σ K h=>?_
 unfold UT at h
 split at h
 ·obtain ⟨pl,l,rfl,⟨rfl,hlen⟩,h⟩:=h;have hl:(l.map (Zr pl)).length=l.length:=Td ..;refine pwu [(3,⟨[13],[1,5,11,12],fun vs σ=>∃j:Nat,vs=[.d (.int .i64 j)]/\σ=⟨[.dmap (mvM mvI (YX ((l.take j).map (·.name))))],[],0⟩/\j<=l.length,
   mu1 l.length⟩)] 1 false ?_
  conv=>whnf
  refine ⟨⟨0,rfl,rfl,oM⟩,?_⟩
  rintro vs σ1 ⟨j,rfl,rfl,hj⟩
  conv=>whnf
  refine ZFs (fun hc=>?_) (fun hc=>?_);rotate_left
  ·conv=>whnf
   rw [List.take_of_length_le oM];exact h
  have aa:j<l.length:=oM;have hs:YX ((l.take (j+1)).map (·.name))=if (lkM l[j].name (YX ((l.take j).map (·.name)))).isNone=true then Yo l[j].name (j:Int) (YX ((l.take j).map (·.name))) else YX ((l.take j).map (·.name)):=by
   exact mq121
  have hr:(l.map (Zr pl))[(j:Int).toNat]?=some (Zr pl l[j]):=by rw [Tj,Th,Ta aa];rfl
  exact mq33
 exact h.elim
def Zkw:PC w0 nG 39 (US ZH (·.name)):=by
 refine pwe Tryz.func39 fun args σ K h=>?_
 exact mq130
def Zky:OKw w0 nG [(39,US ZH (·.name))] 38 (UT 39 ZH (·.name)):=by
 refine pwo Tryz.func38 fun args σ K h=>?_
 unfold UT at h
 split at h
 ·obtain ⟨pl,l,rfl,⟨rfl,hlen⟩,h⟩:=h;have hl:(l.map (ZH pl)).length=l.length:=Td ..;refine pwu [(3,⟨[13],[1,5,11,12],fun vs σ=>∃j:Nat,vs=[.d (.int .i64 j)]/\σ=⟨[.dmap (mvM mvI (YX ((l.take j).map (·.name))))],[],0⟩/\j<=l.length,
   mu1 l.length⟩)] 1 false ?_
  conv=>whnf
  refine ⟨⟨0,rfl,rfl,oM⟩,?_⟩
  rintro vs σ1 ⟨j,rfl,rfl,hj⟩
  conv=>whnf
  refine ZFs (fun hc=>?_) (fun hc=>?_);rotate_left
  ·conv=>whnf
   rw [List.take_of_length_le oM];exact h
  have aa:j<l.length:=oM;have hs:YX ((l.take (j+1)).map (·.name))=if (lkM l[j].name (YX ((l.take j).map (·.name)))).isNone=true then Yo l[j].name (j:Int) (YX ((l.take j).map (·.name))) else YX ((l.take j).map (·.name)):=by
   exact mq121
  have hr:(l.map (ZH pl))[(j:Int).toNat]?=some (ZH pl l[j]):=by rw [Tj,Th,Ta aa];rfl
  exact mq33
 exact h.elim
def ZbZ {i:Nat} {c:Ca}:∀(l:List Ca) (k:Nat) (m:List (Bs×(Int×Int))),Yw i k (l++[c]) m=if (lkM c.name (Yw i k l m)).isNone=true then Yo c.name ((i:Int),((k+l.length:Nat):Int)) (Yw i k l m) else Yw i k l m
 | [],k,m=>rfl
 | x::l,k,m=>by
  simp only [T7,Yw,ZbZ l (k+1),Te];rw [show k+1+l.length=k+(l.length+1) by omega]
  try rfl
def Zb0 {t:Ty}:∀(l:List Ty) (i:Nat) (m:List (Bs×(Int×Int))),JM i (l++[t]) m=Yw (i+l.length) 0 t.cases (JM i l m)
 | [],i,m=>rfl
 | x::l,i,m=>by
  simp only [T7,JM,Zb0 l (i+1),Te];rw [show i+1+l.length=i+(l.length+1) by omega]
def Zau {t:Ty}:∀(l:List Ty) (m:List (Bs×Int)),Wc (l++[t]) m=if t.kind≠1/\(lkM t.name (Wc l m)).isNone=true then Yo t.name ((Wc l m).length:Int) (Wc l m) else Wc l m
 | [],m=>rfl
 | x::l,m=>by simp only [T7,Wc,Zau l];rfl
abbrev Zqu (pl:Pl) (p:Pr):List PV:=[.d (.sl (p.types.map (Zr pl))),.d (.sl (p.rels.map (ZH pl))),.d (.sl (p.rules.map (ZC pl)))]
abbrev Zqv (pl:Pl) (p:Pr) (cs:List (Bs×(Int×Int))) (sh:List (Bs×Int)):List Box:=[.cells 26 (Zqu pl p),.dmap (mvM mvC cs),.dmap (mvM mvI sh),
 .cells 104 ([.mp 4,.mp 5,.mp 2,.mp 1]++Zqu pl p),.dmap (mvM mvI (Zs9 p)),.dmap (mvM mvI (JL p))]
def Zcv:Zo:=fun args σ K=>match args,σ with
 | [.agg c],⟨[],[],0⟩=>∃pl p,c=(V5 pl p).map .d/\BP p/\K (.ret (.ptr 3 0)) ⟨Zqv pl p (Xb p) (JN p),[],0⟩
 | _,_=>False
def ZiF:Tbl:=[(36,UT 37 Zr (·.name)),(38,UT 39 ZH (·.name))]
abbrev Zkz (p:Pr) (j:Nat):List (Bs×(Int×Int)):=JM 0 (p.types.take j) []
abbrev ZnM (p:Pr) (j:Nat):List (Bs×Int):=Wc (p.types.take j) [(Zs8,0),(ZCj,1)]
def Zqw (ht:TO w0 nG ZiF):PC w0 nG 18 Zcv:=by
 refine XQ Zy mixed (tbl:=ZiF) ht Tryz.func18 rfl kR kR ?_;intro args σ K h
 unfold Zcv at h
 split at h
 ·obtain ⟨pl,p,rfl,hp,h⟩:=h;have hlen:=hp.len;have hl:(p.types.map (Zr pl)).length=p.types.length:=Td ..;refine ⟨Zj [(5,⟨[33],[3,31,32],fun vs σ=>∃j:Nat,vs=[.d (.int .i64 j)]/\σ=⟨Zqv pl p (Zkz p j) (ZnM p j),[],0⟩/\j<=p.types.length,
    fun vs _=>match vs with | [.d (.int _ j)]=>((p.types.length:Int) - j).toNat | _=>0⟩),
   (8,⟨[41],[3,4,5,31,32,33,39,40],fun vs σ=>∃(j k:Nat) (t:Ty),vs=[.ptr 3 0,.d (.int .i64 j),.ptr 6 0,.d (.sl (p.types.map (Zr pl))),.d (.int .i64 (p.types.map (Zr pl)).length),.d (.int .i64 j),.d (.sl (t.cases.map Zt)),.d (.int .i64 (t.cases.map Zt).length),.d (.int .i64 k)] /\
     σ=⟨Zqv pl p (Yw j 0 (t.cases.take k) (Zkz p j)) (ZnM p j)++[.cells 41 ((Zr pl t).map .d)],[],0⟩/\k<=t.cases.length/\p.types[j]?=some t/\t.cases.length<=1073741824,
    fun vs _=>match vs with | [_,_,_,_,_,_,_,.d (.int _ n),.d (.int _ k)]=>(n - k).toNat | _=>0⟩)],Xo [],Ye [8],6,false,sM,Tc rfl,?_⟩
  conv=>whnf
  refine ⟨pl,p.types,rfl,⟨rfl,hlen.1⟩,wN ?_⟩;refine ⟨pl,p.rels,rfl,⟨rfl,hlen.2.1⟩,wN ?_⟩;refine ⟨⟨0,rfl,rfl,oM⟩,?_⟩
  rintro vs σ1 ⟨j,rfl,rfl,hj⟩
  conv=>whnf
  refine ZFs (fun hc=>?_) (fun hc=>?_);rotate_left
  ·have e1:Zkz p j=Xb p:=by unfold Zkz;rw [List.take_of_length_le oM];rfl
   have e2:ZnM p j=JN p:=by unfold ZnM;rw [List.take_of_length_le oM];rfl
   conv=>whnf
   rw [<- e1,<- e2] at h;exact h
  have aa:j<p.types.length:=oM;have cn:p.types.take (j+1)=p.types.take j++[p.types[j]]:=by rw [List.take_add_one,Ta aa];rfl
  have dh:Zkz p (j+1)=Yw j 0 p.types[j].cases (Zkz p j):=by unfold Zkz;rw [cn,Zb0,List.length_take,Nat.min_eq_left oM,T5]
  have kc:ZnM p (j+1)=if p.types[j].kind≠1/\(lkM p.types[j].name (ZnM p j)).isNone=true then Yo p.types[j].name ((ZnM p j).length:Int) (ZnM p j) else ZnM p j:=by unfold ZnM;rw [cn,Zau]
  have ht:p.types[j]?=some p.types[j]:=Ta aa;have ot:=(hp.ty (TC aa)).2.1;have hr:(p.types.map (Zr pl))[(j:Int).toNat]?=some (Zr pl p.types[j]):=by rw [Tj,Th,ht];rfl
  generalize p.types[j]=t at dh kc ht hr ot;obtain ⟨t1,t2,t3,t4,t5,t6⟩:=t;have uq:(t5.map Zt).length=t5.length:=Td ..;(conv=>whnf);refine ⟨_,oM,hr,wN ?_⟩;refine ⟨⟨j,0,⟨t1,t2,t3,t4,t5,t6⟩,rfl,rfl,oM,ht,ot⟩,?_⟩
  rintro vs σ2 ⟨j',k,t',be,rfl,hk,ku,-⟩
  have ej:(some (PV.d (.int .i64 (j:Int))):Option PV)=some (.d (.int .i64 (j':Int))):=congrArg (fun l:List PV=>l[5]?) be;obtain rfl:j=j':=by have ej:=Option.some.inj ej;injection ej with ej;injection ej with _ ej;omega
  obtain rfl:(⟨t1,t2,t3,t4,t5,t6⟩:Ty)=t':=Option.some.inj (ht.symm.trans ku);have be:vs=[.d (.int .i64 k)]:=congrArg (List.drop 8) be;subst be;(conv=>whnf);refine ZFs (fun bm=>?_) (fun bm=>?_)
  ·have aq:k<t5.length:=by have bm:(k:Int)<((t5.map Zt).length:Int):=bm;omega
   have o4:Yw j 0 (t5.take (k+1)) (Zkz p j)=if (lkM t5[k].name (Yw j 0 (t5.take k) (Zkz p j))).isNone=true then Yo t5[k].name ((j:Int),(k:Int)) (Yw j 0 (t5.take k) (Zkz p j)) else Yw j 0 (t5.take k) (Zkz p j):=by
    rw [List.take_add_one,Ta aq];show Yw j 0 (t5.take k++[t5[k]]) _=_;rw [ZbZ,List.length_take,Nat.min_eq_left oM,T5]
   have dc:(t5.map Zt)[(k:Int).toNat]?=some (Zt t5[k]):=by rw [Tj,Th,Ta aq];rfl
   generalize t5[k]=c at o4 dc;obtain ⟨c1,c2⟩:=c;(conv=>whnf);refine ⟨_,oM,dc,wN ?_⟩;refine ZFB (fun v hv=>?_) (fun hv=>wN ?_)
   ·rw [ZJ] at hv;obtain ⟨n,hn,rfl⟩:=TD.1 hv;rw [Tf (by rw [show lkM _ _=some n from hn];simp)] at o4;(conv=>whnf)
    (repeat (refine ⟨rfl,?_⟩;conv=>whnf))
    refine Zi ?_;exact ⟨⟨j,k+1,⟨t1,t2,t3,t4,t5,t6⟩,rfl,by simp only [o4];rfl,by simp only;omega,ht,ot⟩,by show (((t5.map Zt).length:Int) - ((k:Int)+1)).toNat<(((t5.map Zt).length:Int) - (k:Int)).toNat;omega⟩
   rw [ZJ,Option.map_eq_none_iff] at hv;rw [Tk (by rw [show lkM _ _=none from hv];rfl)] at o4;have e:mvM mvC (Yw j 0 (t5.take (k+1)) (Zkz p j))=Yo c1 (.agg [.int .i64 j,.int .i64 k]) (mvM mvC (Yw j 0 (t5.take k) (Zkz p j))):=by rw [o4,<- Wy];rfl
   (repeat (refine ⟨rfl,?_⟩;conv=>whnf))
   refine Zi ?_;exact ⟨⟨j,k+1,⟨t1,t2,t3,t4,t5,t6⟩,rfl,by rw [<- e];rfl,by simp only;omega,ht,ot⟩,by show (((t5.map Zt).length:Int) - ((k:Int)+1)).toNat<(((t5.map Zt).length:Int) - (k:Int)).toNat;omega⟩
  have j7:k=t5.length:=by have bm:¬(k:Int)<((t5.map Zt).length:Int):=bm;have hk:k<=t5.length:=hk;omega
  subst j7;have e1:Zkz p (j+1)=Yw j 0 (t5.take t5.length) (Zkz p j):=by rw [dh,Sf]
  conv=>whnf
  refine ZFB (fun v hv=>?_) (fun hv=>wN ?_)
  ·rw [ZJ] at hv;obtain ⟨n,hn,rfl⟩:=TD.1 hv;rw [Tf (by rw [show lkM _ _=some n from hn];simp)] at kc;(conv=>whnf);refine ZFv (fun ee=>wN ?_) (fun ee=>wN ?_)
   ·exact mq70
   exact mq70
  rw [ZJ,Option.map_eq_none_iff] at hv;refine ZFv (fun ee=>wN ?_) (fun ee=>wN ?_)
  ·rw [Tk ⟨fun g=>ee (by simp only [show t1=1 from g];rfl),by rw [show lkM _ _=none from hv];rfl⟩] at kc;have e2:mvM mvI (ZnM p (j+1))=Yo t2 (.one (.int .i64 ((mvM mvI (ZnM p j)).length:Int))) (mvM mvI (ZnM p j)):=by rw [kc,<- Wy,Zkr];rfl
   (repeat (refine ⟨rfl,?_⟩;conv=>whnf))
   refine Zi ?_;exact ⟨⟨j+1,rfl,by rw [e1,<- e2];rfl,oM⟩,by show ((p.types.length:Int) - ((j:Int)+1)).toNat<((p.types.length:Int) - (j:Int)).toNat;omega⟩
  rw [Tf (fun g=>g.1 (by have ee:(t1:Int)=1:=ee;show t1=1;omega))] at kc;exact mq70
 exact h.elim
abbrev BM:=List (Bs×Bool)
def has (k:Bs) (m:BM):Bool:=(lkM k m).getD false
def Zx1:List Ca->Bool->BM->Bool×BM
 | [],b,m=>(b,m)
 | c::l,b,m=>Zx1 l (b || has c.name m) (Yo c.name true m)
def Zav:List Ty->BM->BM->Option Nat
 | [],_,_=>none
 | t::l,n,m=>if (Zx1 t.cases (has t.name n) m).1=true then some t.at' else Zav l (Yo t.name true n) (Zx1 t.cases (has t.name n) m).2
def ZiG (p:Pr) (t:Ty):Bool:=t.cases.any (fun c=>!Vm p c.fields) || (!Vm p t.fields || (decide (t.kind=1) && !Vl p t.base))
def Zg5 (p:Pr):List Ty->Option Nat
 | []=>none
 | t::l=>if ZiG p t=true then some t.at' else Zg5 p l
def ZdU (p:Pr) (s:Bs):Nat->Bs->Bool
 | 0,_=>false
 | n+1,a=>match XU p a with
  | none=>false
  | some c=>if c=s then true else ZdU p s n c
def ZkA (p:Pr) (t:Ty):Bool:=ZdU p t.name (p.types.length+1) t.name
def Zcd (p:Pr):List Ty->Option Nat
 | []=>none
 | t::l=>if ZkA p t=true then some t.at' else Zcd p l
def Zg6 (p:Pr):Nat->List Re->Option (Nat×Nat)
 | _,[]=>none
 | i,d::l=>if (lkM d.name (JL p)).getD 0≠(i:Int) then some (d.at',170) else if Vm p d.fields=false then some (d.at',180) else if (d.inl && (d.inn || d.out))=true then some (d.at',185) else Zg6 p (i+1) l
def ZfN:BM:=[(Zs8,true),(ZCj,true)]
def ZiH (p:Pr):Option (Nat×Nat):=match Zav p.types ZfN [] with
 | some a=>some (a,170)
 | none=>match Zg5 p p.types with
  | some a=>some (a,180)
  | none=>match Zcd p p.types with
   | some a=>some (a,172)
   | none=>Zg6 p 0 p.rels
def ZCk (pl:Pl):Option (Nat×Nat)->List PV
 | none=>[.d (.int .i64 0),.d (.int .i64 0)]
 | some (a,e)=>[.d (.int .i64 (pl a)),.d (.int .i64 e)]
def Ztr:Zo:=Zar fun rest pl p K=>match rest with
 | []=>∀x,ZiH p=x->K (.ret (.agg (ZCk pl x)))
 | _=>False
abbrev ZCl (pl:Pl) (p:Pr) (x y:List (Bs×MV)):List Box:=ZeQ pl p++[.cells 51 [.ptr 0 0],.cells 53 [.d (.int .i64 0),.d (.int .i64 0)],.dmap x,.dmap y]
abbrev dSt (pl:Pl) (p:Pr) (n m:BM):List Box:=ZCl pl p (mvM mvB n) (mvM mvB m)
def ZuA:Tbl:=[(40,ZfL 41 Zt ZfM (fun p (c:Ca)=>!Vm p c.fields)),(42,ZdT),(43,Zas),(44,ZfJ)]
def optK.bool {k:Bs} {m:BM} {A:MV->Prop} (h:A (mvB (has k m))):optK (lkM k (mvM mvB m)) A (A (mvB false)):=by
 rw [ZJ];unfold has at h
 cases hk:lkM k m with
 | none=>rw [hk] at h;exact h
 | some b=>rw [hk] at h;exact h
def ZBe (ht:TO w0 nG ZuA):PC w0 nG 19 Ztr:=by
 refine XQ Zy mixed (tbl:=ZuA) ht Tryz.func19 rfl kR kR ?_;intro args σ K h
 unfold Ztr Zar at h
 split at h
 ·obtain ⟨pl,p,rfl,hp,h⟩:=h;split at h
  ·have hlen:=hp.len;have hl:(p.types.map (Zr pl)).length=p.types.length:=Td ..;have hlr:(p.rels.map (ZH pl)).length=p.rels.length:=Td ..;refine ⟨Zj [(3,⟨[30],[1,2,3,4,28,29],fun vs σ=>∃(j:Nat) (n m:BM),vs=[.d (.int .i64 j)]/\σ=⟨dSt pl p n m,[],0⟩/\j<=p.types.length/\Zav (p.types.drop j) n m=Zav p.types ZfN [],
     fun vs _=>match vs with | [.d (.int _ j)]=>((p.types.length:Int) - j).toNat | _=>0⟩),
    (7,⟨[7,41],[1,2,3,4,6,28,29,30,39,40],fun vs σ=>∃(j k:Nat) (t:Ty) (n m:BM) (b:Bool),vs=[.ptr 5 0,.ptr 6 0,.mp 7,.mp 8,.ptr 9 0,.d (.sl (p.types.map (Zr pl))),.d (.int .i64 (p.types.map (Zr pl)).length),.d (.int .i64 j),.d (.sl (t.cases.map Zt)),.d (.int .i64 (t.cases.map Zt).length),.d (.bool b),.d (.int .i64 k)] /\
      σ=⟨dSt pl p n m++[.cells 41 ((Zr pl t).map .d)],[],0⟩/\k<=t.cases.length/\p.types[j]?=some t /\
      (if (Zx1 (t.cases.drop k) b m).1=true then some t.at' else Zav (p.types.drop (j+1)) (Yo t.name true n) (Zx1 (t.cases.drop k) b m).2)=Zav p.types ZfN [],
     fun vs _=>match vs with | [_,_,_,_,_,_,_,_,_,.d (.int _ n),_,.d (.int _ k)]=>(n - k).toNat | _=>0⟩),
    (17,⟨[70],[1,2,68,69],fun vs σ=>∃(j:Nat) (n m:BM),vs=[.d (.int .i64 j)]/\σ=⟨dSt pl p n m,[],0⟩/\j<=p.types.length/\Zg5 p (p.types.drop j)=Zg5 p p.types,
     fun vs _=>match vs with | [.d (.int _ j)]=>((p.types.length:Int) - j).toNat | _=>0⟩),
    (24,⟨[108],[1,2,106,107],fun vs σ=>∃(j:Nat) (n m:BM),vs=[.d (.int .i64 j)]/\σ=⟨dSt pl p n m,[],0⟩/\j<=p.types.length/\Zcd p (p.types.drop j)=Zcd p p.types,
     fun vs _=>match vs with | [.d (.int _ j)]=>((p.types.length:Int) - j).toNat | _=>0⟩),
    (27,⟨[15,16],[1,2,14,106,107,108],fun vs σ=>∃(j k:Nat) (a:Bs) (t:Ty) (n m:BM),vs=[.ptr 5 0,.ptr 6 0,.ptr 9 0,.d (.sl (p.types.map (Zr pl))),.d (.int .i64 (p.types.map (Zr pl)).length),.d (.int .i64 j),.d (.str a),.d (.int .i64 k)] /\
      σ=⟨dSt pl p n m++[.cells 41 ((Zr pl t).map .d)],[],0⟩/\k<=p.types.length+1/\p.types[j]?=some t/\ZdU p t.name (p.types.length+1 - k) a=ZkA p t,
     fun vs _=>match vs with | [_,_,_,_,.d (.int _ n),_,_,.d (.int _ k)]=>(n+1 - k).toNat | _=>0⟩),
    (36,⟨[147],[1,2,145,146],fun vs σ=>∃(j:Nat) (n m:BM),vs=[.d (.int .i64 j)]/\σ=⟨dSt pl p n m,[],0⟩/\j<=p.rels.length/\Zg6 p j (p.rels.drop j)=Zg6 p 0 p.rels,
     fun vs _=>match vs with | [.d (.int _ j)]=>((p.rels.length:Int) - j).toNat | _=>0⟩)],Xo [],Ye [7,27],5,false,sM,Tc rfl,?_⟩
   conv=>whnf
   refine ⟨⟨0,ZfN,[],rfl,rfl,oM,rfl⟩,?_⟩
   rintro vs σ1 ⟨j,n,m,rfl,rfl,hj,ha⟩
   conv=>whnf
   refine ZFs (fun hc=>?_) (fun hc=>?_)
   ·have aa:j<p.types.length:=by omega
    rw [Tm aa] at ha;simp only [Zav] at ha;have ht:p.types[j]?=some p.types[j]:=Ta aa;have ot:=(hp.ty (TC aa)).2.1;have hr:(p.types.map (Zr pl))[(j:Int).toNat]?=some (Zr pl p.types[j]):=by rw [Tj,Th,ht];rfl
    generalize p.types[j]=t at ha ht hr ot;obtain ⟨t1,t2,t3,t4,t5,t6⟩:=t;have uq:(t5.map Zt).length=t5.length:=Td ..;(conv=>whnf);refine ⟨_,oM,hr,wN ?_⟩;refine optK.bool (wN ?_);refine ⟨⟨j,0,⟨t1,t2,t3,t4,t5,t6⟩,n,m,has t2 n,rfl,rfl,oM,ht,ha⟩,?_⟩
    clear ha
    rintro vs σ2 ⟨j',k,t',n,m,b,be,rfl,hk,ku,ha⟩
    have ej:(some (PV.d (.int .i64 (j:Int))):Option PV)=some (.d (.int .i64 (j':Int))):=congrArg (fun l:List PV=>l[7]?) be;obtain rfl:j=j':=by have ej:=Option.some.inj ej;injection ej with ej;injection ej with _ ej;omega
    obtain rfl:(⟨t1,t2,t3,t4,t5,t6⟩:Ty)=t':=Option.some.inj (ht.symm.trans ku);have be:vs=[.d (.bool b),.d (.int .i64 k)]:=congrArg (List.drop 10) be;subst be;(conv=>whnf);refine ZFs (fun bm=>?_) (fun bm=>?_)
    ·have aq:k<t5.length:=by have bm:(k:Int)<((t5.map Zt).length:Int):=bm;omega
     have hd:t5.drop k=t5[k]::t5.drop (k+1):=Tm aq;have dc:(t5.map Zt)[(k:Int).toNat]?=some (Zt t5[k]):=by rw [Tj,Th,Ta aq];rfl
     simp only at ha;rw [hd] at ha
     clear hd
     generalize t5[k]=c at ha dc;obtain ⟨c1,c2⟩:=c;simp only [Zx1] at ha;(conv=>whnf);refine ⟨_,oM,dc,?_⟩;have hμ:((((t5.map Zt).length:Int) - ((k:Int)+1)).toNat<(((t5.map Zt).length:Int) - (k:Int)).toNat):=oM
     cases b with
     | true =>
      conv=>whnf
      refine Zi ?_;exact ⟨⟨j,k+1,⟨t1,t2,t3,t4,t5,t6⟩,n,Yo c1 true m,true,rfl,congrArg (fun x=>(⟨ZCl pl p (mvM mvB n) x++[.cells 41 ((Zr pl ⟨t1,t2,t3,t4,t5,t6⟩).map .d)],[],0⟩:St)) (Wy (f:=mvB) (k:=c1) (v:=true) m),by simp only;omega,ht,ha⟩,hμ⟩
     | false =>
     conv=>whnf
     refine optK.bool (wN ?_);refine Zi ?_;exact ⟨⟨j,k+1,⟨t1,t2,t3,t4,t5,t6⟩,n,Yo c1 true m,has c1 m,rfl,congrArg (fun x=>(⟨ZCl pl p (mvM mvB n) x++[.cells 41 ((Zr pl ⟨t1,t2,t3,t4,t5,t6⟩).map .d)],[],0⟩:St)) (Wy (f:=mvB) (k:=c1) (v:=true) m),by simp only;omega,ht,ha⟩,hμ⟩
    have j7:k=t5.length:=by have bm:¬(k:Int)<((t5.map Zt).length:Int):=bm;have hk:k<=t5.length:=hk;omega
    subst j7;simp only [SN,Zx1] at ha
    cases b with
    | true =>
     rw [Tk rfl] at ha;(conv=>whnf);exact h (some (t6,170)) (by simp only [ZiH,<- ha])
    | false =>
    rw [Tf sM] at ha;(conv=>whnf);refine Zi ?_;exact ⟨⟨j+1,Yo t2 true n,m,rfl,congrArg (fun x=>(⟨ZCl pl p x (mvM mvB m),[],0⟩:St)) (Wy (f:=mvB) (k:=t2) (v:=true) n),oM,ha⟩,by show ((p.types.length:Int) - ((j:Int)+1)).toNat<((p.types.length:Int) - (j:Int)).toNat;omega⟩
   have sk:j=p.types.length:=oM;subst sk;rw [SN] at ha;have dx:Zav p.types ZfN []=none:=ha.symm
   clear ha
   conv=>whnf
   refine ⟨⟨0,n,m,rfl,rfl,oM,rfl⟩,?_⟩
   clear n m
   rintro vs σ1 ⟨j,n,m,rfl,rfl,hj,ha⟩
   conv=>whnf
   refine ZFs (fun hc=>?_) (fun hc=>?_)
   ·have aa:j<p.types.length:=by omega
    rw [Tm aa] at ha;simp only [Zg5] at ha;have yo:=hp.ty (TC aa);have hr:(p.types.map (Zr pl))[(j:Int).toNat]?=some (Zr pl p.types[j]):=by rw [Tj,Th,Ta aa];rfl
    generalize p.types[j]=t at ha hr yo;obtain ⟨t1,t2,t3,t4,t5,t6⟩:=t;simp only at yo;have yes:ZiG p ⟨t1,t2,t3,t4,t5,t6⟩=true->K (.ret (.agg (ZCk pl (some (t6,180))))) ⟨ZeQ pl p,[],0⟩:=fun g=>by
     rw [Tk g] at ha;exact h (some (t6,180)) (by simp only [ZiH,dx,<- ha])
    have no:ZiG p ⟨t1,t2,t3,t4,t5,t6⟩=false->Zg5 p (p.types.drop (j+1))=Zg5 p p.types:=fun g=>by
     rw [Tf (by rw [g];simp)] at ha;exact ha
    have hμ:((p.types.length:Int) - ((j:Int)+1)).toNat<((p.types.length:Int) - (j:Int)).toNat:=oM
    clear ha h
    conv=>whnf
    refine ⟨_,oM,hr,wN ?_⟩;refine ⟨pl,p,t5,rfl,rfl,⟨rfl,hp,yo.2.1,yo.2.2⟩,fun b hb=>?_⟩
    cases b with
    | true =>
     conv=>whnf
     exact yes (by simp only [ZiG];rw [hb];rfl)
    | false =>
    conv=>whnf
    refine ⟨pl,p,rfl,hp,t4,rfl,yo.1,fun b ga=>?_⟩
    cases b with
    | false =>
     conv=>whnf
     exact yes (by simp only [ZiG];rw [hb,ga];rfl)
    | true =>
    conv=>whnf
    refine ZFs (fun ee=>wN ?_) (fun ee=>wN ?_)
    ·have ee:t1=1:=by have ee:(t1:Int)=1:=ee;omega
     refine ⟨pl,p,rfl,hp,fun b jy=>?_⟩
     cases b with
     | false =>
      conv=>whnf
      exact yes (by simp only [ZiG];rw [hb,ga,jy,ee];rfl)
     | true =>
     conv=>whnf
     refine Zi ?_;exact ⟨⟨j+1,n,m,rfl,rfl,oM,no (by simp only [ZiG];rw [hb,ga,jy,ee];rfl)⟩,hμ⟩
    have ee:¬t1=1:=fun g=>ee (by simp only [g];rfl)
    refine Zi ?_;exact ⟨⟨j+1,n,m,rfl,rfl,oM,no (by simp only [ZiG];rw [hb,ga,decide_eq_false ee];rfl)⟩,hμ⟩
   have sk:j=p.types.length:=oM;subst sk;rw [SN] at ha;have cd:Zg5 p p.types=none:=ha.symm
   clear ha
   conv=>whnf
   refine ⟨⟨0,n,m,rfl,rfl,oM,rfl⟩,?_⟩
   clear n m
   rintro vs σ1 ⟨j,n,m,rfl,rfl,hj,ha⟩
   conv=>whnf
   refine ZFs (fun hc=>?_) (fun hc=>?_)
   ·have aa:j<p.types.length:=by omega
    rw [Tm aa] at ha;simp only [Zcd] at ha;have ht:p.types[j]?=some p.types[j]:=Ta aa;have hr:(p.types.map (Zr pl))[(j:Int).toNat]?=some (Zr pl p.types[j]):=by rw [Tj,Th,ht];rfl
    generalize p.types[j]=t at ha ht hr;obtain ⟨t1,t2,t3,t4,t5,t6⟩:=t;have yes:ZkA p ⟨t1,t2,t3,t4,t5,t6⟩=true->K (.ret (.agg (ZCk pl (some (t6,172))))) ⟨ZeQ pl p,[],0⟩:=fun g=>by
     rw [Tk g] at ha;exact h (some (t6,172)) (by simp only [ZiH,dx,cd,<- ha])
    have no:ZkA p ⟨t1,t2,t3,t4,t5,t6⟩=false->Zcd p (p.types.drop (j+1))=Zcd p p.types:=fun g=>by
     rw [Tf (by rw [g];simp)] at ha;exact ha
    have hμ:((p.types.length:Int) - ((j:Int)+1)).toNat<((p.types.length:Int) - (j:Int)).toNat:=oM
    clear ha h
    conv=>whnf
    refine ⟨_,oM,hr,wN ?_⟩;refine ⟨⟨j,0,t2,⟨t1,t2,t3,t4,t5,t6⟩,n,m,rfl,rfl,oM,ht,rfl⟩,?_⟩
    rintro vs σ2 ⟨j',k,a,t',n,m,be,rfl,hk,ku,ha⟩
    have ej:(some (PV.d (.int .i64 (j:Int))):Option PV)=some (.d (.int .i64 (j':Int))):=congrArg (fun l:List PV=>l[5]?) be;obtain rfl:j=j':=by have ej:=Option.some.inj ej;injection ej with ej;injection ej with _ ej;omega
    obtain rfl:(⟨t1,t2,t3,t4,t5,t6⟩:Ty)=t':=Option.some.inj (ht.symm.trans ku);have be:vs=[.d (.str a),.d (.int .i64 k)]:=congrArg (List.drop 6) be;subst be;simp only at ha;(conv=>whnf);refine ZFs (fun bm=>?_) (fun bm=>?_);rotate_left
    ·rw [show p.types.length+1 - k=0 by omega] at ha;(conv=>whnf);refine Zi ?_;exact ⟨⟨j+1,n,m,rfl,rfl,oM,no ha.symm⟩,hμ⟩
    obtain ⟨q,hq⟩:∃q,p.types.length+1 - k=q+1:=⟨p.types.length - k,oM⟩
    rw [hq] at ha;simp only [ZdU] at ha;(conv=>whnf);refine ⟨pl,p,rfl,hp,fun x hx=>?_⟩;rw [hx] at ha
    cases x with
    | none =>
     conv=>whnf
     refine Zi ?_;exact ⟨⟨j+1,n,m,rfl,rfl,oM,no ha.symm⟩,hμ⟩
    | some c =>
    simp only at ha;(conv=>whnf);refine ZFs (fun dh=>wN ?_) (fun dh=>wN ?_)
    ·rw [Tk (show c=t2 from dh)] at ha;exact yes ha.symm
    rw [Tf (show ¬c=t2 from dh)] at ha;refine Zi ?_;exact ⟨⟨j,k+1,c,⟨t1,t2,t3,t4,t5,t6⟩,n,m,rfl,rfl,oM,ht,by rw [show p.types.length+1 - (k+1)=q by omega];exact ha⟩,by show (((p.types.map (Zr pl)).length:Int)+1 - ((k:Int)+1)).toNat<(((p.types.map (Zr pl)).length:Int)+1 - (k:Int)).toNat;omega⟩
   have sk:j=p.types.length:=oM;subst sk;rw [SN] at ha;have ny:Zcd p p.types=none:=ha.symm
   clear ha
   have hdF:ZiH p=Zg6 p 0 p.rels:=by simp only [ZiH,dx,cd,ny]
   conv=>whnf
   refine ⟨⟨0,n,m,rfl,rfl,oM,rfl⟩,?_⟩
   clear n m
   rintro vs σ1 ⟨j,n,m,rfl,rfl,hj,ha⟩
   conv=>whnf
   refine ZFs (fun hc=>?_) (fun hc=>?_)
   ·have aa:j<p.rels.length:=by omega
    rw [Tm aa] at ha;simp only [Zg6] at ha;have jt:=hp.re (TC aa);have hr:(p.rels.map (ZH pl))[(j:Int).toNat]?=some (ZH pl p.rels[j]):=by rw [Tj,Th,Ta aa];rfl
    generalize p.rels[j]=d at ha hr jt;obtain ⟨d1,d2,d3,d4,d5,d6⟩:=d;simp only at jt ha;have yes:∀e,Zg6 p 0 p.rels=some (d6,e)->K (.ret (.agg (ZCk pl (some (d6,e))))) ⟨ZeQ pl p,[],0⟩:=fun e g=>h _ (by rw [hdF,g])
    have hμ:((p.rels.length:Int) - ((j:Int)+1)).toNat<((p.rels.length:Int) - (j:Int)).toNat:=oM
    clear h
    have yq:∀A:MV->Prop,A (mvI ((lkM d1 (JL p)).getD 0))->optK (lkM d1 (mvM mvI (JL p))) A (A (mvI 0)):=fun A g=>by
     rw [ZJ]
     cases hk:lkM d1 (JL p) with
     | none=>rw [hk] at g;exact g
     | some b=>rw [hk] at g;exact g
    conv=>whnf
    refine ⟨_,oM,hr,wN ?_⟩;refine yq _ (wN ?_);refine ZFv (fun h1=>wN ?_) (fun h1=>wN ?_)
    ·rw [Tk h1] at ha;exact yes 170 ha.symm
    rw [Tf (fun g=>g h1)] at ha;refine ⟨pl,p,rfl,hp,d2,rfl,jt,fun b hb=>?_⟩
    cases b with
    | false =>
     rw [Tk hb] at ha;(conv=>whnf);exact yes 180 ha.symm
    | true =>
    rw [Tf (by rw [hb];simp)] at ha;(conv=>whnf)
    cases d5 with
    | false =>
     rw [Tf sM] at ha;(conv=>whnf);refine Zi ?_;exact ⟨⟨j+1,n,m,rfl,rfl,oM,ha⟩,hμ⟩
    | true =>
    cases d3 with
    | true =>
     rw [Tk sM] at ha;(conv=>whnf);exact yes 185 ha.symm
    | false =>
    cases d4 with
    | true =>
     rw [Tk sM] at ha;(conv=>whnf);exact yes 185 ha.symm
    | false =>
    rw [Tf sM] at ha;(conv=>whnf);refine Zi ?_;exact ⟨⟨j+1,n,m,rfl,rfl,oM,ha⟩,hμ⟩
   have sk:j=p.rels.length:=oM;subst sk;rw [SN] at ha;(conv=>whnf);exact h none (by rw [hdF,<- ha];rfl)
  exact h.elim
 exact h.elim
def prU (p:Pr):Un:=.mk p.types p.rels p.rules [] [] []
abbrev ZBf (pl:Pl) (p:Pr) (b:Nat):List Box:=[.cells 26 (Zqu pl p),.dmap (mvM mvC (Xb p)),.dmap (mvM mvI (JN p)),
 .cells 104 ([.mp (b+4),.mp (b+5),.mp (b+2),.mp (b+1)]++Zqu pl p),.dmap (mvM mvI (Zs9 p)),.dmap (mvM mvI (JL p))]
abbrev ZDo (pl:Pl) (p:Pr):List Box:=.cells 26 (Zqu pl p)::.cells 53 [.d (.int .i64 0),.d (.int .i64 0)]::ZBf pl p 2
def ZlY {p:Pr} {a e:Nat}:∀(l:List Re) (i:Nat),Zg6 p i l=some (a,e)->e≠0
 | [],_,h=>by cases h
 | d::l,i,h=>by
  simp only [Zg6] at h;split at h
  ·cases h;decide
  split at h
  ·cases h;decide
  split at h
  ·cases h;decide
  exact ZlY l _ h
def Zx2 {p:Pr} {a e:Nat} (h:ZiH p=some (a,e)):e≠0:=by
 unfold ZiH at h
 split at h
 ·cases h;decide
 split at h
 ·cases h;decide
 split at h
 ·cases h;decide
 exact ZlY _ _ h
abbrev Vs:=List (Bs×Int)
abbrev VS:=Vs×Bool
def Zg7 (p:Pr) (n:Int):Option Ty:=p.types.find? fun t=>decide (t.kind=2) && (decide (0<=n) && decide ((lkM t.name (JN p)).getD 0=n))
def ZiI (p:Pr) (s:Bs):Option (Ty×Ca):=match lkM s (Xb p) with
 | none=>none
 | some (i,k)=>match p.types[i.toNat]? with
  | none=>none
  | some t=>match t.cases[k.toNat]? with
   | none=>none
   | some c=>some (t,c)
def ZK (p:Pr) (op:Nat) (text:Bs) (Zcf:Nat) (n:Int):List Int :=
 if op=7 then (match ZiI p text with | some tc=>ZX p tc.2.fields | none=>[])
 else if op=6 then (match Zg7 p n with | some t=>ZX p t.fields | none=>[])
 else if op=20 then [1,1] else if op=21\/op=23\/op=25 then [1] else if op=22 then [1,0,0] else List.replicate Zcf 0
def ZeR (p:Pr) (vs:Vs) (op:Nat) (text:Bs):Int :=
 if op=1 then (lkM text vs).getD (-1)
 else if op=7 then (match ZiI p text with | some tc=>Xs p tc.1.name | none=>-1)
 else if op=6\/op=5\/op=2 then -1 else if op=4\/op=20\/op=22\/op=24 then 1 else 0
def Zx3 (t:Bs) (n:Int) (s:VS):VS :=
 if (lkM t s.1).isNone=true\/((lkM t s.1).getD 0=-1/\n≠-1) then (Yo t n s.1,s.2 || decide (n≠-1)) else s
mutual
def gvE (p:Pr):Ex->Int->VS->VS
 | .mk op text _ args _,n,s=>if op=1 then Zx3 text n s
  else Zbk p args (if (ZK p op text args.length n).length=args.length then ZK p op text args.length n else List.replicate args.length (-1)) s
def Zbk (p:Pr):List Ex->List Int->VS->VS
 | e::es,n::ns,s=>Zbk p es ns (gvE p e n s)
 | _,_,s=>s
end
def Y7 (p:Pr) (name:Bs) (Zcf:Nat):List Int:=match lkM name (JL p) with
 | none=>List.replicate Zcf (-1)
 | some i=>match p.rels[i.toNat]? with
  | none=>List.replicate Zcf (-1)
  | some d=>if d.fields.length=Zcf then ZX p d.fields else List.replicate Zcf (-1)
def Zza (p:Pr) (vs:Vs):Ex->Int
 | .mk op text _ _ _=>ZeR p vs op text
def Jd (p:Pr) (vs:Vs):List Ex->Int
 | a::b::_=>if Zza p vs a≠-1 then Zza p vs a else Zza p vs b
 | _=>-1
mutual
def gvL (p:Pr):Li->VS->VS
 | .mk op rel args body _,s=>if op<=2 then Zbk p args (Y7 p rel args.length) s
  else if op<=8 then Zbk p args [Jd p s.1 args,Jd p s.1 args] s
  else Zqx p body (Zbk p args (List.replicate args.length 0) s)
def Zqx (p:Pr):List Li->VS->VS
 | [],s=>s
 | x::l,s=>Zqx p l (gvL p x s)
end
def Je (p:Pr) (r:Ru) (v:Vs):VS:=Zqx p r.body (Zbk p r.args (Y7 p r.head r.args.length) (v,false))
def JO (p:Pr) (r:Ru):Nat->Vs->Option Vs
 | 0,_=>none
 | n+1,v=>if (Je p r v).2=true then JO p r n (Je p r v).1 else some (Je p r v).1
abbrev Flt:=Option (Nat×Nat)
mutual
def rtE (p:Pr) (vs:Vs):Ex->Int->Flt
 | .mk op text _ args a,n =>
  if op=7/\(lkM text (Xb p)).isNone=true then some (a,184)
  else if (ZeR p vs op text≠-1/\n≠-1/\ZeR p vs op text≠n)\/((op=6\/op=5)/\(Zg7 p n).isNone=true)\/(op=1/\ZeR p vs op text=-1) then some (a,183)
  else if (ZK p op text args.length n).length≠args.length then some (a,182)
  else ZaF p vs args (ZK p op text args.length n)
def ZaF (p:Pr) (vs:Vs):List Ex->List Int->Flt
 | e::es,n::ns=>match rtE p vs e n with
  | some f=>some f
  | none=>ZaF p vs es ns
 | _,_=>none
end
def Zts (p:Pr) (vs:Vs) (name:Bs) (args:List Ex) (a:Nat) (head:Bool):Flt:=match lkM name (JL p) with
 | none=>some (a,181)
 | some i=>match p.rels[i.toNat]? with
  | none=>none
  | some d=>if (head && d.inn)=true then some (a,185) else if d.fields.length≠args.length then some (a,182) else ZaF p vs args (Y7 p name args.length)
mutual
def rtL (p:Pr) (vs:Vs):Li->Flt
 | .mk op rel args body a=>if op<=2 then Zts p vs rel args a false
  else if op<=8 then (match ZaF p vs args [Jd p vs args,Jd p vs args] with
   | some f=>some f
   | none=>if 5<=op/\Jd p vs args≠0/\Jd p vs args≠1 then some (a,183) else none)
  else match ZaF p vs args (List.replicate args.length 0) with
   | some f=>some f
   | none=>Zhx p vs body
def Zhx (p:Pr) (vs:Vs):List Li->Flt
 | []=>none
 | x::l=>match rtL p vs x with
  | some f=>some f
  | none=>Zhx p vs l
end
def Yz (p:Pr) (op:Nat) (text:Bs) (kind:Bs):List Fi :=
 if op=7 then (match ZiI p text with | some tc=>tc.2.fields | none=>[])
 else if op=6 then (match Zg7 p (Xs p kind) with | some t=>t.fields | none=>[]) else []
mutual
def wiE (p:Pr):Ex->Bs->List (Ex×Bs)
 | .mk op text n args a,kind=>(.mk op text n args a,kind)::ZaG p args (Yz p op text kind)
def ZaG (p:Pr):List Ex->List Fi->List (Ex×Bs)
 | e::es,f::fs=>wiE p e f.typ++ZaG p es fs
 | _,_=>[]
end
def ZnN (p:Pr) (name:Bs):List Fi:=match lkM name (JL p) with
 | none=>(match p.rels[0]? with | some d=>d.fields | none=>[])
 | some i=>match p.rels[i.toNat]? with | some d=>d.fields | none=>[]
def VX (p:Pr):Li->List (Ex×Bs)
 | .mk op rel args _ _=>if op=1 then ZaG p args (ZnN p rel) else []
def ZiJ (p:Pr) (l:List Li):List (Bs×Bs):=(l.flatMap (VX p)).filterMap fun x=>match x with
 | (.mk op text _ _ _,k)=>if op=1 then some (text,k) else none
def V6 (p:Pr) (kn:List (Bs×Bs)):List (Ex×Bs)->Flt
 | []=>none
 | (.mk op text _ _ a,k)::l =>
  if (XU p k).isSome=true/\(8<=op\/(op=1/\(kn.any fun y=>decide (y.1=text) && WO p y.2 k)=false)) then some (a,183) else V6 p kn l
def ZlZ (p:Pr) (r:Ru):Flt:=V6 p (ZiJ p r.body) (ZaG p r.args (ZnN p r.head))
def ZiK (p:Pr) (r:Ru) (vs:Vs):Flt:=if 64<vs.length then some (r.at',3) else match Zts p vs r.head r.args r.at' true with
 | some f=>some f
 | none=>match Zhx p vs r.body with
  | some f=>some f
  | none=>ZlZ p r
mutual
def nvE:Ex->List Bs
 | .mk op text _ args _=>if op=1 then [text] else Zqy args
def Zqy:List Ex->List Bs
 | []=>[]
 | e::l=>nvE e++Zqy l
end
mutual
def nvL:Li->List Bs
 | .mk _ _ args body _=>Zqy args++Zce body
def Zce:List Li->List Bs
 | []=>[]
 | x::l=>nvL x++Zce l
end
def nvR (r:Ru):List Bs:=Zqy r.args++Zce r.body
def ZeS (p:Pr) (r:Ru):Vs:=(JO p r ((nvR r).length+1) []).getD []
def Jf (p:Pr):List Ru->Flt
 | []=>none
 | r::l=>match ZiK p r (ZeS p r) with
  | some f=>some f
  | none=>Jf p l
def ZrL (pl:Pl) (p:Pr):Int×Int:=if (ZfG (prU p)).2≠0 then (0,(ZfG (prU p)).2) else match ZiH p with
 | some (a,e)=>(pl a,e)
 | none=>match Jf p p.rules with
  | some (a,e)=>(pl a,e)
  | none=>(0,0)
end Go.PM.Lex
end
