/- A part of the proof: plain logic, contracts and laws over the given program. -/
import Derived.Lib.LaidTab
import Derived.Test.YtbdleclcgopcdaaGreatDoorB08
set_option linter.unusedVariables false
set_option linter.unusedSimpArgs false
set_option linter.all false
set_option maxRecDepth 100000
set_option maxHeartbeats 16000000
noncomputable section
section
namespace Go.PM.Lex
open Go.Proofs
variable {w0:World} {nG:Nat}
def ZtA (x:Li):Bool:=YG x && ZnX x
def Zyr {op:Nat} {rel:Bs} {args:List Ex} {body:List Li} {a:Nat} (h:ZtA (.mk op rel args body a)=true):YW op rel args.length body.length=true/\(∀x∈args,Zkw x=true)/\∀x∈body,ZtA x=true:=by
 simp only [ZtA,Tn] at h;obtain ⟨h1,h2⟩:=h;obtain ⟨m1,m2,m3⟩:=Zyp h1;obtain ⟨r1,r2⟩:=ZqG h2;exact ⟨m1,fun x hx=>by rw [Zkw,m2 x hx,r1 x hx];rfl,fun x hx=>by rw [ZtA,m3 x hx,r2 x hx];rfl⟩
def ZBz (n:Nat):Zn:=Zju (.tuple []) fun rest txt=>∃pl x,rest=[YF YN pl x]/\(ZtA x=true/\wL x<=n/\n<=1073741824)/\txt=liT x
def Zn0 (n:Nat):Zn:=fun args σ K=>match args,σ with
 | [.ptr 0 0,.d (.sl r),.d (.str bt),.func g [.ptr 0 0] []],⟨[.cells t [p,.sl 0 e rows]],[0],1⟩=>∃l pl xs,rows=Zk l/\r=xs.map (YN pl)/\(p=.ptr 0 0/\t=136/\e=5/\g=190)/\(xs.all ZtA=true/\szS wL xs<=n/\n<=1073741824)/\l.length+(Zg bt (xs.map liT)).length<70368744177664 /\
   K (.ret (.tuple [])) ⟨[.cells t [.ptr 0 0,.sl 0 e (Zk (l++Zg bt (xs.map liT)))]],[0],1⟩
 | _,_=>False
def ZBB {n:Nat}:OKw w0 nG [(184,ZgS),(190,ZBz n)] 189 (Zn0 n):=by
 refine pwo Tryz.func189 fun args σ K h=>?_
 unfold Zn0 at h
 split at h
 ·rename_i r bt g t p e rows
  obtain ⟨l,pl,xs,rfl,rfl,⟨rfl,rfl,rfl,rfl⟩,⟨bv,hz,hn⟩,hlen,h⟩:=h;have dv:(xs.map (YN pl)).length=xs.length:=Td ..;have hsz:=Zq wL xs;refine pwv [(1,⟨[12],[0,1,2,3,10,11],fun vs σ=>∃i:Nat,vs=[.d (.int .i64 i)]/\σ=⟨[.cells 136 [.ptr 0 0,.sl 0 5 (Zk (l++Zg bt ((xs.take i).map liT)))]],[0],1⟩/\i<=xs.length,mu1 xs.length⟩)] 1 true ?_;refine ⟨⟨0,rfl,(by simp only [Sj,TQ,Zg,T1];rfl),oM⟩,?_⟩;intro vs σ hI
  obtain ⟨i,rfl,rfl,hi⟩:=hI;(conv=>whnf);refine ZFU (fun ab=>wN ?_) (fun ab=>?_)
  ·have ab:i<xs.length:=lzI dv ab;have hg:=Zz wL xs i ab;have ew:ZtA xs[i]=true:=Tr.1 bv _ (TC ab);have cp:=VL bt liT ab;have aj:=Zam bt liT xs (i+1);obtain ⟨eA,hA⟩:∃x,xs[i]=x:=⟨_,rfl⟩
   obtain ⟨a1,a2,a3,a4,a5⟩:=eA;rw [hA] at hg ew cp;have ca:(xs.map (YN pl))[((i:Nat):Int).toNat]?=some (YN pl (.mk a1 a2 a3 a4 a5)):=by simp [ab,hA]
   refine ⟨_,oM,ca,wN ?_⟩;refine ZFU (fun h0=>wN ?_) (fun h0=>?_)
   ·have h0:0<i:=by omega
    rw [Tf oM] at cp;rw [cp] at aj;simp only [Tb] at aj;refine wk _ bt ⟨rfl,rfl⟩ (wN ?_);refine wk _ (liT (.mk a1 a2 a3 a4 a5)) ⟨pl,(.mk a1 a2 a3 a4 a5),rfl,⟨ew,oM,oM⟩,rfl⟩ (wN ?_);exact mq76
   obtain rfl:i=0:=by omega
   rw [Tk rfl] at cp;rw [cp] at aj;(conv=>whnf);refine ⟨l++Zg bt ((xs.take 0).map liT),liT (.mk a1 a2 a3 a4 a5),rfl,⟨.inr rfl,rfl,rfl⟩,⟨pl,(.mk a1 a2 a3 a4 a5),rfl,⟨ew,oM,oM⟩,rfl⟩,by simp only [Sj,TQ,Zg,Tb,Tg];omega,wN ?_⟩;exact mq71
  exact mq179
 exact h.elim
def ZBC (n:Nat):Tbl:=[(127,Zey),(188,Ztz n),(239,Zty n),(189,spB Zn0 n)]
def ZBD {n:Nat} (ht:TO w0 nG (ZBC n)):PC w0 nG 190 (ZBz n):=by
 refine XN Zx mixed (tbl:=ZBC n) ht Tryz.func190 rfl kR kR ?_;intro args σ K h
 unfold ZBz Zju at h
 split at h
 ·rename_i rest t p e rows
  obtain ⟨l,txt,rfl,⟨hp,rfl,rfl⟩,⟨pl,⟨op,rel,xs,body,at'⟩,rfl,⟨bv,hz,hn⟩,rfl⟩,hlen,h⟩:=h;obtain ⟨m1,m2,m3⟩:=Zyr bv;have dw:szS wE xs+szS wL body+rel.length+1<=n:=by rw [wL,ZdE] at hz;omega
  refine ⟨Zj [],Xk [(13,2)],Yh [],1,true,sM,Tc rfl,?_⟩;have um:((op=1\/op=2)/\Xg rel=true/\body.length=0)\/(3<=op/\op<=8/\rel=[]/\xs.length=2/\body.length=0)\/(op=9/\rel=[]/\xs.length=1/\0<body.length)\/(9<op/\op<=12/\rel=[]/\xs.length=2/\0<body.length):=Zyq m1;rcases um with ⟨em,hnm,hb⟩ | ⟨c1,c2,rfl,bm,hb⟩ | ⟨rfl,rfl,dh,hb⟩ | ⟨c1,c2,rfl,bm,hb⟩
  ·rcases em with rfl | rfl
   ·rcases hp with rfl | rfl
    all_goals
     have hx:liT (.mk 1 rel xs body at')=rel++argT [40] [41] xs:=by rw [liT];rfl
     rw [hx] at h hlen
     (try simp only [Tb,Te,Tg] at hlen)
     conv=>whnf
     refine wk _ rel ⟨[rel],rfl,sM,sM,sM⟩ ?_;(conv=>whnf);refine wk _ (argT [40] [41] xs) ⟨[40],[41],pl,xs,rfl,⟨Tr.2 m2,oM,oM⟩,rfl⟩ ?_;rw [show l++(rel++argT [40] [41] xs)=l++rel++argT [40] [41] xs by simp only [To]] at h;(conv=>whnf);exact h
   rcases hp with rfl | rfl
   all_goals
    have hx:liT (.mk 2 rel xs body at')=[33]++(rel++argT [40] [41] xs):=by rw [liT];rfl
    rw [hx] at h hlen
    (try simp only [Tb,Te,Tg] at hlen)
    conv=>whnf
    refine wk _ [33] ⟨[[33]],rfl,sM,sM,sM⟩ ?_;(conv=>whnf);refine wk _ rel ⟨[rel],rfl,sM,sM,sM⟩ ?_;(conv=>whnf);refine wk _ (argT [40] [41] xs) ⟨[40],[41],pl,xs,rfl,⟨Tr.2 m2,oM,oM⟩,rfl⟩ ?_;rw [show l++([33]++(rel++argT [40] [41] xs))=l++[33]++rel++argT [40] [41] xs by simp only [To]] at h;(conv=>whnf);exact h
  ·obtain ⟨x0,x1,rfl⟩:=Zu9 bm;simp only [szS] at dw;have g0:=m2 x0 sM;have g1:=m2 x1 sM;have z0:wE x0<=n:=oM;have z1:wE x1<=n:=oM;obtain ⟨o0,t0,n0,y0,q0⟩:=x0;obtain ⟨o1,t1,n1,y1,q1⟩:=x1;obtain rfl | rfl | rfl | rfl | rfl | rfl:op=3\/op=4\/op=5\/op=6\/op=7\/op=8:=oM
   ·rcases hp with rfl | rfl
    all_goals
     have hx:liT (.mk 3 [] [(.mk o0 t0 n0 y0 q0),(.mk o1 t1 n1 y1 q1)] body at')=exW 0 (.mk o0 t0 n0 y0 q0)++([32,61,32]++exW 0 (.mk o1 t1 n1 y1 q1)):=by rw [liT,Vg,Vg];rfl
     rw [hx] at h hlen
     (try simp only [Tb,Te,Tg] at hlen)
     conv=>whnf
     refine ⟨_,dM,rfl,wN ?_⟩;refine wk _ (exW 0 (.mk o0 t0 n0 y0 q0)) ⟨pl,(.mk o0 t0 n0 y0 q0),0,rfl,⟨g0,oM,oM,oM,oM⟩,rfl⟩ ?_;(conv=>whnf);refine Or.inl ⟨InR.u8 dM dM,wN ?_⟩;refine ⟨dM,dM,wN ?_⟩;refine wk _ [32,61,32] ⟨[[32,61,32]],rfl,sM,sM,sM⟩ ?_;(conv=>whnf);refine ⟨_,dM,rfl,wN ?_⟩;refine wk _ (exW 0 (.mk o1 t1 n1 y1 q1)) ⟨pl,(.mk o1 t1 n1 y1 q1),0,rfl,⟨g1,oM,oM,oM,oM⟩,rfl⟩ ?_;rw [show l++(exW 0 (.mk o0 t0 n0 y0 q0)++([32,61,32]++exW 0 (.mk o1 t1 n1 y1 q1)))=l++exW 0 (.mk o0 t0 n0 y0 q0)++[32,61,32]++exW 0 (.mk o1 t1 n1 y1 q1) by simp only [To]] at h;(conv=>whnf);exact h
   ·rcases hp with rfl | rfl
    all_goals
     have hx:liT (.mk 4 [] [(.mk o0 t0 n0 y0 q0),(.mk o1 t1 n1 y1 q1)] body at')=exW 0 (.mk o0 t0 n0 y0 q0)++([32,33,61,32]++exW 0 (.mk o1 t1 n1 y1 q1)):=by rw [liT,Vg,Vg];rfl
     rw [hx] at h hlen
     (try simp only [Tb,Te,Tg] at hlen)
     conv=>whnf
     refine ⟨_,dM,rfl,wN ?_⟩;refine wk _ (exW 0 (.mk o0 t0 n0 y0 q0)) ⟨pl,(.mk o0 t0 n0 y0 q0),0,rfl,⟨g0,oM,oM,oM,oM⟩,rfl⟩ ?_;(conv=>whnf);refine Or.inl ⟨InR.u8 dM dM,wN ?_⟩;refine ⟨dM,dM,wN ?_⟩;refine wk _ [32,33,61,32] ⟨[[32,33,61,32]],rfl,sM,sM,sM⟩ ?_;(conv=>whnf);refine ⟨_,dM,rfl,wN ?_⟩;refine wk _ (exW 0 (.mk o1 t1 n1 y1 q1)) ⟨pl,(.mk o1 t1 n1 y1 q1),0,rfl,⟨g1,oM,oM,oM,oM⟩,rfl⟩ ?_;rw [show l++(exW 0 (.mk o0 t0 n0 y0 q0)++([32,33,61,32]++exW 0 (.mk o1 t1 n1 y1 q1)))=l++exW 0 (.mk o0 t0 n0 y0 q0)++[32,33,61,32]++exW 0 (.mk o1 t1 n1 y1 q1) by simp only [To]] at h;(conv=>whnf);exact h
   ·rcases hp with rfl | rfl
    all_goals
     have hx:liT (.mk 5 [] [(.mk o0 t0 n0 y0 q0),(.mk o1 t1 n1 y1 q1)] body at')=exW 0 (.mk o0 t0 n0 y0 q0)++([32,60,32]++exW 0 (.mk o1 t1 n1 y1 q1)):=by rw [liT,Vg,Vg];rfl
     rw [hx] at h hlen
     (try simp only [Tb,Te,Tg] at hlen)
     conv=>whnf
     refine ⟨_,dM,rfl,wN ?_⟩;refine wk _ (exW 0 (.mk o0 t0 n0 y0 q0)) ⟨pl,(.mk o0 t0 n0 y0 q0),0,rfl,⟨g0,oM,oM,oM,oM⟩,rfl⟩ ?_;(conv=>whnf);refine Or.inl ⟨InR.u8 dM dM,wN ?_⟩;refine ⟨dM,dM,wN ?_⟩;refine wk _ [32,60,32] ⟨[[32,60,32]],rfl,sM,sM,sM⟩ ?_;(conv=>whnf);refine ⟨_,dM,rfl,wN ?_⟩;refine wk _ (exW 0 (.mk o1 t1 n1 y1 q1)) ⟨pl,(.mk o1 t1 n1 y1 q1),0,rfl,⟨g1,oM,oM,oM,oM⟩,rfl⟩ ?_;rw [show l++(exW 0 (.mk o0 t0 n0 y0 q0)++([32,60,32]++exW 0 (.mk o1 t1 n1 y1 q1)))=l++exW 0 (.mk o0 t0 n0 y0 q0)++[32,60,32]++exW 0 (.mk o1 t1 n1 y1 q1) by simp only [To]] at h;(conv=>whnf);exact h
   ·rcases hp with rfl | rfl
    all_goals
     have hx:liT (.mk 6 [] [(.mk o0 t0 n0 y0 q0),(.mk o1 t1 n1 y1 q1)] body at')=exW 0 (.mk o0 t0 n0 y0 q0)++([32,60,61,32]++exW 0 (.mk o1 t1 n1 y1 q1)):=by rw [liT,Vg,Vg];rfl
     rw [hx] at h hlen
     (try simp only [Tb,Te,Tg] at hlen)
     conv=>whnf
     refine ⟨_,dM,rfl,wN ?_⟩;refine wk _ (exW 0 (.mk o0 t0 n0 y0 q0)) ⟨pl,(.mk o0 t0 n0 y0 q0),0,rfl,⟨g0,oM,oM,oM,oM⟩,rfl⟩ ?_;(conv=>whnf);refine Or.inl ⟨InR.u8 dM dM,wN ?_⟩;refine ⟨dM,dM,wN ?_⟩;refine wk _ [32,60,61,32] ⟨[[32,60,61,32]],rfl,sM,sM,sM⟩ ?_;(conv=>whnf);refine ⟨_,dM,rfl,wN ?_⟩;refine wk _ (exW 0 (.mk o1 t1 n1 y1 q1)) ⟨pl,(.mk o1 t1 n1 y1 q1),0,rfl,⟨g1,oM,oM,oM,oM⟩,rfl⟩ ?_;rw [show l++(exW 0 (.mk o0 t0 n0 y0 q0)++([32,60,61,32]++exW 0 (.mk o1 t1 n1 y1 q1)))=l++exW 0 (.mk o0 t0 n0 y0 q0)++[32,60,61,32]++exW 0 (.mk o1 t1 n1 y1 q1) by simp only [To]] at h;(conv=>whnf);exact h
   ·rcases hp with rfl | rfl
    all_goals
     have hx:liT (.mk 7 [] [(.mk o0 t0 n0 y0 q0),(.mk o1 t1 n1 y1 q1)] body at')=exW 0 (.mk o0 t0 n0 y0 q0)++([32,62,32]++exW 0 (.mk o1 t1 n1 y1 q1)):=by rw [liT,Vg,Vg];rfl
     rw [hx] at h hlen
     (try simp only [Tb,Te,Tg] at hlen)
     conv=>whnf
     refine ⟨_,dM,rfl,wN ?_⟩;refine wk _ (exW 0 (.mk o0 t0 n0 y0 q0)) ⟨pl,(.mk o0 t0 n0 y0 q0),0,rfl,⟨g0,oM,oM,oM,oM⟩,rfl⟩ ?_;(conv=>whnf);refine Or.inl ⟨InR.u8 dM dM,wN ?_⟩;refine ⟨dM,dM,wN ?_⟩;refine wk _ [32,62,32] ⟨[[32,62,32]],rfl,sM,sM,sM⟩ ?_;(conv=>whnf);refine ⟨_,dM,rfl,wN ?_⟩;refine wk _ (exW 0 (.mk o1 t1 n1 y1 q1)) ⟨pl,(.mk o1 t1 n1 y1 q1),0,rfl,⟨g1,oM,oM,oM,oM⟩,rfl⟩ ?_;rw [show l++(exW 0 (.mk o0 t0 n0 y0 q0)++([32,62,32]++exW 0 (.mk o1 t1 n1 y1 q1)))=l++exW 0 (.mk o0 t0 n0 y0 q0)++[32,62,32]++exW 0 (.mk o1 t1 n1 y1 q1) by simp only [To]] at h;(conv=>whnf);exact h
   rcases hp with rfl | rfl
   all_goals
    have hx:liT (.mk 8 [] [(.mk o0 t0 n0 y0 q0),(.mk o1 t1 n1 y1 q1)] body at')=exW 0 (.mk o0 t0 n0 y0 q0)++([32,62,61,32]++exW 0 (.mk o1 t1 n1 y1 q1)):=by rw [liT,Vg,Vg];rfl
    rw [hx] at h hlen
    (try simp only [Tb,Te,Tg] at hlen)
    conv=>whnf
    refine ⟨_,dM,rfl,wN ?_⟩;refine wk _ (exW 0 (.mk o0 t0 n0 y0 q0)) ⟨pl,(.mk o0 t0 n0 y0 q0),0,rfl,⟨g0,oM,oM,oM,oM⟩,rfl⟩ ?_;(conv=>whnf);refine Or.inl ⟨InR.u8 dM dM,wN ?_⟩;refine ⟨dM,dM,wN ?_⟩;refine wk _ [32,62,61,32] ⟨[[32,62,61,32]],rfl,sM,sM,sM⟩ ?_;(conv=>whnf);refine ⟨_,dM,rfl,wN ?_⟩;refine wk _ (exW 0 (.mk o1 t1 n1 y1 q1)) ⟨pl,(.mk o1 t1 n1 y1 q1),0,rfl,⟨g1,oM,oM,oM,oM⟩,rfl⟩ ?_;rw [show l++(exW 0 (.mk o0 t0 n0 y0 q0)++([32,62,61,32]++exW 0 (.mk o1 t1 n1 y1 q1)))=l++exW 0 (.mk o0 t0 n0 y0 q0)++[32,62,61,32]++exW 0 (.mk o1 t1 n1 y1 q1) by simp only [To]] at h;(conv=>whnf);exact h
  ·obtain ⟨x0,rfl⟩:=ZBx dh;simp only [szS] at dw;have g0:=m2 x0 sM;have z0:wE x0<=n:=oM;obtain ⟨o0,t0,n0,y0,q0⟩:=x0;rcases hp with rfl | rfl
   all_goals
    have hx:liT (.mk 9 [] [(.mk o0 t0 n0 y0 q0)] body at')=exW 0 (.mk o0 t0 n0 y0 q0)++(([32,61,32]++[99,111,117,110,116])++([32,58,32,123,32]++(Zg cmm (body.map liT)++([32,125])))):=by rw [liT,ZdD,Vg];simp [Zl4,Ztm,Zkr]
    rw [hx] at h hlen
    (try simp only [Tb,Te,Tg] at hlen)
    conv=>whnf
    refine ⟨_,dM,rfl,wN ?_⟩;refine wk _ (exW 0 (.mk o0 t0 n0 y0 q0)) ⟨pl,(.mk o0 t0 n0 y0 q0),0,rfl,⟨g0,oM,oM,oM,oM⟩,rfl⟩ ?_;(conv=>whnf);refine Or.inl ⟨InR.u8 dM dM,wN ?_⟩;refine ⟨dM,dM,wN ?_⟩;refine wk _ ([32,61,32]++[99,111,117,110,116]) ⟨[[32,61,32],[99,111,117,110,116]],rfl,sM,sM,sM⟩ ?_;(conv=>whnf);refine ⟨fun r hr=>?_,dM,by rw [Zb];simp,wN ?_⟩
    ·rw [Zb] at hr;simp only [TF,TQ,Tt,List.not_mem_nil,or_false] at hr;rcases hr with rfl;rfl
    refine wk _ [32,58,32,123,32] ⟨[[32,58,32,123,32]],rfl,sM,sM,sM⟩ ?_;(conv=>whnf);refine ⟨oM,l++exW 0 (.mk o0 t0 n0 y0 q0)++([32,61,32]++[99,111,117,110,116])++[32,58,32,123,32],pl,body,rfl,Zi pl body,⟨rfl,rfl,rfl,rfl⟩,⟨Tr.2 m3,oM,oM⟩,(by (try simp only [Tb,Te,Tg]);show _+(Zg cmm (body.map liT)).length<_;omega),?_⟩;(conv=>whnf);refine wk (l++exW 0 (.mk o0 t0 n0 y0 q0)++([32,61,32]++[99,111,117,110,116])++[32,58,32,123,32]++Zg cmm (body.map liT)) [32,125] ⟨[[32,125]],rfl,sM,sM,sM⟩ ?_;rw [show l++(exW 0 (.mk o0 t0 n0 y0 q0)++(([32,61,32]++[99,111,117,110,116])++([32,58,32,123,32]++(Zg cmm (body.map liT)++([32,125])))))=l++exW 0 (.mk o0 t0 n0 y0 q0)++([32,61,32]++[99,111,117,110,116])++[32,58,32,123,32]++Zg cmm (body.map liT)++[32,125] by simp only [To]] at h;(conv=>whnf);exact h
  obtain ⟨x0,x1,rfl⟩:=Zu9 bm;simp only [szS] at dw;have g0:=m2 x0 sM;have g1:=m2 x1 sM;have z0:wE x0<=n:=oM;have z1:wE x1<=n:=oM;obtain ⟨o0,t0,n0,y0,q0⟩:=x0;obtain ⟨o1,t1,n1,y1,q1⟩:=x1;obtain rfl | rfl | rfl:op=10\/op=11\/op=12:=oM
  ·rcases hp with rfl | rfl
   all_goals
    have hx:liT (.mk 10 [] [(.mk o0 t0 n0 y0 q0),(.mk o1 t1 n1 y1 q1)] body at')=exW 0 (.mk o0 t0 n0 y0 q0)++(([32,61,32]++[115,117,109])++([32]++(exW 0 (.mk o1 t1 n1 y1 q1)++([32,58,32,123,32]++(Zg cmm (body.map liT)++([32,125])))))):=by rw [liT,ZdD,Vg,Vg];simp [Zl4,Ztm,Zkr]
    rw [hx] at h hlen
    (try simp only [Tb,Te,Tg] at hlen)
    conv=>whnf
    refine ⟨_,dM,rfl,wN ?_⟩;refine wk _ (exW 0 (.mk o0 t0 n0 y0 q0)) ⟨pl,(.mk o0 t0 n0 y0 q0),0,rfl,⟨g0,oM,oM,oM,oM⟩,rfl⟩ ?_;(conv=>whnf);refine Or.inl ⟨InR.u8 dM dM,wN ?_⟩;refine ⟨dM,dM,wN ?_⟩;refine wk _ ([32,61,32]++[115,117,109]) ⟨[[32,61,32],[115,117,109]],rfl,sM,sM,sM⟩ ?_;(conv=>whnf);refine ⟨fun r hr=>?_,dM,by rw [Zb];simp,wN ?_⟩
    ·exact mq99
    refine ⟨_,dM,rfl,wN ?_⟩;refine wk _ [32] ⟨[[32]],rfl,sM,sM,sM⟩ ?_;(conv=>whnf);refine wk _ (exW 0 (.mk o1 t1 n1 y1 q1)) ⟨pl,(.mk o1 t1 n1 y1 q1),0,rfl,⟨g1,oM,oM,oM,oM⟩,rfl⟩ ?_;(conv=>whnf);refine X5 ?_;refine wk _ [32,58,32,123,32] ⟨[[32,58,32,123,32]],rfl,sM,sM,sM⟩ ?_;(conv=>whnf);refine ⟨oM,l++exW 0 (.mk o0 t0 n0 y0 q0)++([32,61,32]++[115,117,109])++[32]++exW 0 (.mk o1 t1 n1 y1 q1)++[32,58,32,123,32],pl,body,rfl,Zi pl body,⟨rfl,rfl,rfl,rfl⟩,⟨Tr.2 m3,oM,oM⟩,(by (try simp only [Tb,Te,Tg]);show _+(Zg cmm (body.map liT)).length<_;omega),?_⟩;(conv=>whnf);refine wk (l++exW 0 (.mk o0 t0 n0 y0 q0)++([32,61,32]++[115,117,109])++[32]++exW 0 (.mk o1 t1 n1 y1 q1)++[32,58,32,123,32]++Zg cmm (body.map liT)) [32,125] ⟨[[32,125]],rfl,sM,sM,sM⟩ ?_;rw [show l++(exW 0 (.mk o0 t0 n0 y0 q0)++(([32,61,32]++[115,117,109])++([32]++(exW 0 (.mk o1 t1 n1 y1 q1)++([32,58,32,123,32]++(Zg cmm (body.map liT)++([32,125])))))))=l++exW 0 (.mk o0 t0 n0 y0 q0)++([32,61,32]++[115,117,109])++[32]++exW 0 (.mk o1 t1 n1 y1 q1)++[32,58,32,123,32]++Zg cmm (body.map liT)++[32,125] by simp only [To]] at h;(conv=>whnf);exact h
  ·rcases hp with rfl | rfl
   all_goals
    have hx:liT (.mk 11 [] [(.mk o0 t0 n0 y0 q0),(.mk o1 t1 n1 y1 q1)] body at')=exW 0 (.mk o0 t0 n0 y0 q0)++(([32,61,32]++[109,105,110])++([32]++(exW 0 (.mk o1 t1 n1 y1 q1)++([32,58,32,123,32]++(Zg cmm (body.map liT)++([32,125])))))):=by rw [liT,ZdD,Vg,Vg];simp [Zl4,Ztm,Zkr]
    rw [hx] at h hlen
    (try simp only [Tb,Te,Tg] at hlen)
    conv=>whnf
    refine ⟨_,dM,rfl,wN ?_⟩;refine wk _ (exW 0 (.mk o0 t0 n0 y0 q0)) ⟨pl,(.mk o0 t0 n0 y0 q0),0,rfl,⟨g0,oM,oM,oM,oM⟩,rfl⟩ ?_;(conv=>whnf);refine Or.inl ⟨InR.u8 dM dM,wN ?_⟩;refine ⟨dM,dM,wN ?_⟩;refine wk _ ([32,61,32]++[109,105,110]) ⟨[[32,61,32],[109,105,110]],rfl,sM,sM,sM⟩ ?_;(conv=>whnf);refine ⟨fun r hr=>?_,dM,by rw [Zb];simp,wN ?_⟩
    ·exact mq99
    refine ⟨_,dM,rfl,wN ?_⟩;refine wk _ [32] ⟨[[32]],rfl,sM,sM,sM⟩ ?_;(conv=>whnf);refine wk _ (exW 0 (.mk o1 t1 n1 y1 q1)) ⟨pl,(.mk o1 t1 n1 y1 q1),0,rfl,⟨g1,oM,oM,oM,oM⟩,rfl⟩ ?_;(conv=>whnf);refine X5 ?_;refine wk _ [32,58,32,123,32] ⟨[[32,58,32,123,32]],rfl,sM,sM,sM⟩ ?_;(conv=>whnf);refine ⟨oM,l++exW 0 (.mk o0 t0 n0 y0 q0)++([32,61,32]++[109,105,110])++[32]++exW 0 (.mk o1 t1 n1 y1 q1)++[32,58,32,123,32],pl,body,rfl,Zi pl body,⟨rfl,rfl,rfl,rfl⟩,⟨Tr.2 m3,oM,oM⟩,(by (try simp only [Tb,Te,Tg]);show _+(Zg cmm (body.map liT)).length<_;omega),?_⟩;(conv=>whnf);refine wk (l++exW 0 (.mk o0 t0 n0 y0 q0)++([32,61,32]++[109,105,110])++[32]++exW 0 (.mk o1 t1 n1 y1 q1)++[32,58,32,123,32]++Zg cmm (body.map liT)) [32,125] ⟨[[32,125]],rfl,sM,sM,sM⟩ ?_;rw [show l++(exW 0 (.mk o0 t0 n0 y0 q0)++(([32,61,32]++[109,105,110])++([32]++(exW 0 (.mk o1 t1 n1 y1 q1)++([32,58,32,123,32]++(Zg cmm (body.map liT)++([32,125])))))))=l++exW 0 (.mk o0 t0 n0 y0 q0)++([32,61,32]++[109,105,110])++[32]++exW 0 (.mk o1 t1 n1 y1 q1)++[32,58,32,123,32]++Zg cmm (body.map liT)++[32,125] by simp only [To]] at h;(conv=>whnf);exact h
  rcases hp with rfl | rfl
  all_goals
   have hx:liT (.mk 12 [] [(.mk o0 t0 n0 y0 q0),(.mk o1 t1 n1 y1 q1)] body at')=exW 0 (.mk o0 t0 n0 y0 q0)++(([32,61,32]++[109,97,120])++([32]++(exW 0 (.mk o1 t1 n1 y1 q1)++([32,58,32,123,32]++(Zg cmm (body.map liT)++([32,125])))))):=by rw [liT,ZdD,Vg,Vg];simp [Zl4,Ztm,Zkr]
   rw [hx] at h hlen
   (try simp only [Tb,Te,Tg] at hlen)
   conv=>whnf
   refine ⟨_,dM,rfl,wN ?_⟩;refine wk _ (exW 0 (.mk o0 t0 n0 y0 q0)) ⟨pl,(.mk o0 t0 n0 y0 q0),0,rfl,⟨g0,oM,oM,oM,oM⟩,rfl⟩ ?_;(conv=>whnf);refine Or.inl ⟨InR.u8 dM dM,wN ?_⟩;refine ⟨dM,dM,wN ?_⟩;refine wk _ ([32,61,32]++[109,97,120]) ⟨[[32,61,32],[109,97,120]],rfl,sM,sM,sM⟩ ?_;(conv=>whnf);refine ⟨fun r hr=>?_,dM,by rw [Zb];simp,wN ?_⟩
   ·exact mq99
   refine ⟨_,dM,rfl,wN ?_⟩;refine wk _ [32] ⟨[[32]],rfl,sM,sM,sM⟩ ?_;(conv=>whnf);refine wk _ (exW 0 (.mk o1 t1 n1 y1 q1)) ⟨pl,(.mk o1 t1 n1 y1 q1),0,rfl,⟨g1,oM,oM,oM,oM⟩,rfl⟩ ?_;(conv=>whnf);refine X5 ?_;refine wk _ [32,58,32,123,32] ⟨[[32,58,32,123,32]],rfl,sM,sM,sM⟩ ?_;(conv=>whnf);refine ⟨oM,l++exW 0 (.mk o0 t0 n0 y0 q0)++([32,61,32]++[109,97,120])++[32]++exW 0 (.mk o1 t1 n1 y1 q1)++[32,58,32,123,32],pl,body,rfl,Zi pl body,⟨rfl,rfl,rfl,rfl⟩,⟨Tr.2 m3,oM,oM⟩,(by (try simp only [Tb,Te,Tg]);show _+(Zg cmm (body.map liT)).length<_;omega),?_⟩;(conv=>whnf);refine wk (l++exW 0 (.mk o0 t0 n0 y0 q0)++([32,61,32]++[109,97,120])++[32]++exW 0 (.mk o1 t1 n1 y1 q1)++[32,58,32,123,32]++Zg cmm (body.map liT)) [32,125] ⟨[[32,125]],rfl,sM,sM,sM⟩ ?_;rw [show l++(exW 0 (.mk o0 t0 n0 y0 q0)++(([32,61,32]++[109,97,120])++([32]++(exW 0 (.mk o1 t1 n1 y1 q1)++([32,58,32,123,32]++(Zg cmm (body.map liT)++([32,125])))))))=l++exW 0 (.mk o0 t0 n0 y0 q0)++([32,61,32]++[109,97,120])++[32]++exW 0 (.mk o1 t1 n1 y1 q1)++[32,58,32,123,32]++Zg cmm (body.map liT)++[32,125] by simp only [To]] at h;(conv=>whnf);exact h
 exact h.elim
def cWA (hN:NumOK w0 nG) (hL:LexC w0 nG) (n:Nat):PC w0 nG 188 (Ztz n):=Zu7 (cWE hN hL n)
def ZqM {n:Nat} (h:PC w0 nG 190 (ZBz n)):PC w0 nG 189 (Zn0 n):=ZBB ⟨Zqz,h,trivial⟩
def cWL (hN:NumOK w0 nG) (hL:LexC w0 nG):∀n,PC w0 nG 190 (ZBz n)
 | 0=>ZBD ⟨Zak,cWA hN hL 0,cWE hN hL 0,ZC (Ze Tryz.func189 kR rfl),trivial⟩
 | n+1=>ZBD ⟨Zak,cWA hN hL (n+1),cWE hN hL (n+1),ZD (sp:=Zn0) (ZqM (cWL hN hL n)),trivial⟩
def ZBE (r:Ru):Bool:=XL r && ZqH r
def Zys {r:Ru} (h:ZBE r=true):(∀x∈r.args,Zkw x=true)/\∀x∈r.body,ZtA x=true:=by
 simp only [ZBE,XL,ZqH,Tn] at h;obtain ⟨⟨_,h1,h2⟩,h3,h4⟩:=h;rw [Tr] at h1 h2 h3 h4;exact ⟨fun x hx=>by rw [Zkw,h1 x hx,h3 x hx];rfl,fun x hx=>by rw [ZtA,h2 x hx,h4 x hx];rfl⟩
def ZCU (n:Nat):Zn:=Zju (.tuple []) fun rest txt=>∃pl x,rest=[YF ZW pl x]/\(ZBE x=true/\wRu x<=n/\n<=1073741824)/\txt=ruT x
def ZD0 {n:Nat}:OKw w0 nG [(127,Zey),(188,Ztz n),(189,Zn0 n)] 132 (ZCU n):=by
 refine pwo Tryz.func132 fun args σ K h=>?_
 unfold ZCU Zju at h
 split at h
 ·rename_i rest t p e rows
  obtain ⟨l,txt,rfl,⟨hp,rfl,rfl⟩,⟨pl,⟨head,xs,body,at'⟩,rfl,⟨bv,hz,hn⟩,rfl⟩,hlen,h⟩:=h;obtain ⟨m2,m3⟩:=Zys bv;simp only at m2 m3;have dw:szS wE xs+szS wL body+head.length+1<=n:=by unfold wRu at hz;simp only at hz;omega
  have cf:(Zv pl body).length=body.length:=by rw [Zi,Td]
  refine pwu [] 1 true ?_;have ny:l.length+head.length+(argT [40] [41] xs).length+10<70368744177664+10:=by
   have e:(ruT ⟨head,xs,body,at'⟩).length>=head.length+(argT [40] [41] xs).length:=by rw [ruT];simp only [Tb];omega
   omega
  rcases hp with rfl | rfl
  all_goals
   conv=>whnf
   refine wk _ head ⟨[head],rfl,sM,sM,sM⟩ ?_;(conv=>whnf);refine wk _ (argT [40] [41] xs) ⟨[40],[41],pl,xs,rfl,⟨Tr.2 m2,oM,oM⟩,rfl⟩ ?_;(conv=>whnf);refine ZFU (fun c=>wN ?_) (fun c=>wN ?_)
   ·have c:0<body.length:=by have c:((Zv pl body).length:Int)>0:=c;omega
    have hx:ruT ⟨head,xs,body,at'⟩=head++(argT [40] [41] xs++([32,58,45,32]++(Zg cmm (body.map liT)++[46]))):=by rw [ruT,Tk c,ZdD];simp
    rw [hx] at h hlen;simp only [Tb,Te,Tg] at hlen;refine wk _ [32,58,45,32] ⟨[[32,58,45,32]],rfl,sM,sM,sM⟩ ?_;(conv=>whnf);refine ⟨l++head++argT [40] [41] xs++[32,58,45,32],pl,body,rfl,Zi pl body,⟨rfl,rfl,rfl,rfl⟩,⟨Tr.2 m3,oM,oM⟩,(by (try simp only [Tb,Te,Tg]);show _+(Zg cmm (body.map liT)).length<_;omega),?_⟩;(conv=>whnf);refine wk (l++head++argT [40] [41] xs++[32,58,45,32]++Zg cmm (body.map liT)) [46] ⟨[[46]],rfl,sM,sM,sM⟩ ?_;simp only [<- To] at h;exact mq48
   have c:¬0<body.length:=by have c:¬((Zv pl body).length:Int)>0:=c;omega
   have hx:ruT ⟨head,xs,body,at'⟩=head++(argT [40] [41] xs++[46]):=by rw [ruT,Tf c,Sm]
   rw [hx] at h hlen;simp only [Tb,Te,Tg] at hlen;refine wk _ [46] ⟨[[46]],rfl,sM,sM,sM⟩ ?_;simp only [<- To] at h;exact mq48
 exact h.elim
def cWR (hN:NumOK w0 nG) (hL:LexC w0 nG) (n:Nat):PC w0 nG 132 (ZCU n):=ZD0 ⟨Zak,cWA hN hL n,ZqM (cWL hN hL n),trivial⟩
def ZtB {t:Ty} (h:Yo t=true):Xg t.name=true/\(∀f∈t.fields,YO f=true)/\(∀c∈t.cases,Xm c=true) /\
  ((t.kind=1/\Xg t.base=true/\t.fields=[]/\t.cases=[])\/(t.kind=2/\t.base=[]/\t.cases=[])\/(t.kind=3/\t.base=[]/\t.fields=[]/\t.cases≠[])):=by
 simp only [Yo,Tn] at h;obtain ⟨h1,h2,h3,h4⟩:=h;refine ⟨h2,Tr.1 h3,Tr.1 h4,?_⟩;unfold ZbS at h1
 split at h1
 ·rename_i c
  simp only [Tn,TP] at h1;exact .inl ⟨c,h1.1,T6 h1.2.1,T6 h1.2.2⟩
 split at h1
 ·rename_i c
  simp only [Tn,TP] at h1;exact .inr (.inl ⟨c,h1.1,T6 h1.2⟩)
 split at h1
 ·rename_i c
  simp only [Tn,TP,T7,decide_eq_false_iff_not] at h1;exact .inr (.inr ⟨c,h1.1,T6 h1.2.1,fun e=>h1.2.2 (by rw [e];rfl)⟩)
 cases h1
def Zyt {tys:List Ty} {rels:List Re} {rules:List Ru} {comps:List Co} {inits:List Ini} {overs:List Ov} (h:Zex (.mk tys rels rules comps inits overs)=true) :
  (∀x∈tys,Yo x=true)/\(∀x∈rels,X9 x=true)/\(∀x∈rules,XL x=true)/\(∀x∈comps,Yj x=true)/\(∀x∈inits,Wv x=true)/\∀x∈overs,WU x=true:=by
 simp only [Zex,Ww,Tn] at h;obtain ⟨h1,h2,h3,h4,h5,h6⟩:=h;exact ⟨Tr.1 h1,Tr.1 h2,Tr.1 h3,Tr.1 h4,Tr.1 h5,Tr.1 h6⟩
end Go.PM.Lex
end

section
namespace Go.PM.Lex
open Go.Proofs Go.RowKit
variable {w0:World} {nG:Nat}
def ZBG:Tbl:=[(127,Zey)]
def ZBH {n:Nat}:PC w0 nG 186 (ZgR (YF (fun _=>Zo)) YO fiT wFi n):=by
 refine pwt (tbl:=ZBG) ⟨Zak,trivial⟩ Tryz.func186 fun args σ K h=>?_
 unfold ZgR at h
 split at h
 ·obtain ⟨l,pl,⟨nm,ty⟩,rfl,rfl,⟨rfl,rfl⟩,⟨bv,hz,hn⟩,hlen,h⟩:=h;refine pwv [] 2 true ?_;refine ⟨l,fiT ⟨nm,ty⟩,rfl,⟨.inr rfl,rfl,rfl⟩,⟨[nm,[58,32],ty],rfl,sM,sM,by simp [fiT]⟩,hlen,wN ?_⟩;exact h
 exact h.elim
def ZFK (n:Nat):PC w0 nG 185 (Zqy 186 (fun _=>Zo) YO fiT wFi n):=Zx4 ⟨Zqz,ZBH,trivial⟩
def ZtC (n:Nat):Zn:=Zju (.tuple []) fun rest txt=>∃(fr fin:Bs) (xs:List Fi),rest=[.d (.str fr),.d (.sl (xs.map Zo)),.d (.str fin)]/\(xs.all YO=true/\szS wFi xs<=n/\n<=1073741824)/\txt=Vf fr xs fin
def Zva {n:Nat}:PC w0 nG 128 (ZtC n):=by
 refine pwt (tbl:=[(127,Zey),(185,Zqy 186 (fun _=>Zo) YO fiT wFi n)]) ⟨Zak,ZFK n,trivial⟩ Tryz.func128 fun args σ K h=>?_
 unfold ZtC Zju at h
 split at h
 ·rename_i rest t p e rows
  obtain ⟨l,txt,rfl,⟨hp,rfl,rfl⟩,⟨fr,fin,xs,rfl,⟨bv,hz,hn⟩,rfl⟩,hlen,h⟩:=h;have key:l++Vf fr xs fin=l++fr++Zg cmm (xs.map fiT)++fin:=by simp only [Vf,To]
  rw [key] at h;have hlen:l.length+(fr.length+((Zg cmm (xs.map fiT)).length+fin.length))<70368744177664:=by have:=hlen;simp only [Vf,Tb] at this;exact this
  refine pwu [] 1 true ?_;rcases hp with rfl | rfl
  all_goals
   conv=>whnf
   refine wk _ fr ⟨[fr],rfl,sM,sM,sM⟩ ?_;(conv=>whnf);refine ⟨l++fr,fun _=>0,xs,rfl,rfl,⟨rfl,rfl,rfl⟩,⟨bv,hz,hn⟩,by rw [Tb];show _+(Zg cmm (xs.map fiT)).length<_;omega,wN ?_⟩;refine wk (l++fr++Zg cmm (xs.map fiT)) fin ⟨[fin],rfl,sM,sM,sM⟩ (wN ?_);exact h
 exact h.elim
def ZBK {n:Nat}:PC w0 nG 130 (ZgR (YF (fun _=>ZB)) Xm caT wCa n):=by
 refine pwt (tbl:=[(128,ZtC n)]) ⟨Zva,trivial⟩ Tryz.func130 fun args σ K h=>?_
 unfold ZgR at h
 split at h
 ·obtain ⟨l,pl,⟨nm,fs⟩,rfl,rfl,⟨rfl,rfl⟩,⟨bv,hz,hn⟩,hlen,h⟩:=h;have hm:fs.all YO=true:=by simp only [Xm,Tn] at bv;exact bv.2
  have hz:nm.length+szS wFi fs<=n:=by unfold wCa at hz;simp only at hz;omega
  refine pwv [] 2 true ?_;refine ⟨by simp only [Te,Tg];omega,wN ?_⟩;refine ⟨l,caT ⟨nm,fs⟩,rfl,⟨.inr rfl,rfl,rfl⟩,⟨nm++[32,123],[125],fs,rfl,⟨hm,oM,hn⟩,rfl⟩,hlen,wN ?_⟩;exact h
 exact h.elim
def ZFL (n:Nat):PC w0 nG 129 (Zqy 130 (fun _=>ZB) Xm caT wCa n):=Zx6 ⟨Zqz,ZBK,trivial⟩
end Go.PM.Lex
end

section
namespace Go.PM.Lex
open Go.Proofs
variable {w0:World} {nG:Nat}
def ZCV (x:Un):Bool:=Zex x && Zyf x
def ZBL (x:Co):Bool:=Yj x && ZqI x
def Zyu {tys:List Ty} {rels:List Re} {rules:List Ru} {comps:List Co} {inits:List Ini} {overs:List Ov} (h:ZCV (.mk tys rels rules comps inits overs)=true) :
  (∀x∈tys,Yo x=true)/\(∀x∈rels,X9 x=true)/\(∀x∈rules,ZBE x=true)/\∀x∈comps,ZBL x=true:=by
 simp only [ZCV,Tn] at h;obtain ⟨h,hr⟩:=h;obtain ⟨m1,m2,m3,m4,m5,m6⟩:=Zyt h;simp only [Zyf,ZdH,Tn] at hr;have r1:=Tr.1 hr.1;have r2:=Tr.1 hr.2;exact ⟨m1,m2,fun x hx=>by rw [ZBE,m3 x hx,r1 x hx];rfl,fun x hx=>by rw [ZBL,m4 x hx,r2 x hx];rfl⟩
def Zsm (r:Ru):Bs:=ruT r++[10]
def ZBM (body:List PV->Bs->Prop):Zn:=fun args σ K=>match args,σ with
 | .ptr 0 0::rest,⟨[.cells t [p,.sl 0 e rows]],[0],1⟩=>∃l txt,rows=Zk l/\((p=.d .nilp\/p=.ptr 0 0)/\t=136/\e=5)/\body rest txt/\l.length+txt.length<70368744177664 /\
   ∀p',(p'=.d .nilp\/p'=.ptr 0 0)->K (.ret (.tuple [])) ⟨[.cells t [p',.sl 0 e (Zk (l++txt))]],[0],1⟩
 | _,_=>False
def ZCW (n:Nat):Zn:=ZBM fun rest txt=>∃pl x,rest=[YF XQ pl x]/\(ZCV x=true/\wUn x<=n/\n<=1073741824/\noC x)/\txt=unT x
def ZdJ {α:Type} (T:α->Bs) {xs:List α} {i:Nat} (h:i<xs.length):((xs.take (i+1)).map T).flatten=((xs.take i).map T).flatten++T xs[i]:=by
 rw [List.take_succ_eq_append_getElem h,Ss,List.flatten_append];simp
def Zkx {α:Type} (T:α->Bs) (xs:List α) (i:Nat):((xs.take i).map T).flatten.length<=(xs.map T).flatten.length:=by
 have e:(xs.map T).flatten=((xs.take i).map T).flatten++((xs.drop i).map T).flatten:=by rw [<- List.flatten_append,<- Ss,List.take_append_drop]
 rw [e,Tb];omega
def ZBN (n:Nat):Tbl:=[(127,Zey),(128,ZtC n),(129,Zqy 130 (fun _=>ZB) Xm caT wCa n),(132,ZCU n)]
def ZD1 {n:Nat} (ht:TO w0 nG (ZBN n)):PC w0 nG 74 (ZCW n):=by
 refine Zpu Zx mixed (tbl:=ZBN n) ht Tryz.func74 rfl kR kR ?_;intro args σ K h
 unfold ZCW ZBM at h
 split at h
 ·rename_i rest t p e rows
  obtain ⟨l,txt,rfl,⟨hp,rfl,rfl⟩,⟨pl,⟨tys,rels,rules,comps,inits,overs⟩,rfl,⟨bv,hz,hn,rfl,rfl,rfl⟩,rfl⟩,hlen,h⟩:=h;obtain ⟨m1,m2,m3,m4⟩:=Zyu bv;have hz:szS wTy tys+szS wRe rels+szS wRu rules+1<=n:=by rw [wUn] at hz;omega
  have hu:unT (.mk tys rels rules [] [] [])=(tys.map tyT).flatten++((rels.map reT).flatten++(rules.map Zsm).flatten):=by rw [unT,ZzO];rfl
  rw [hu] at hlen;simp only [Tb] at hlen;have h:∀p',(p'=.d .nilp\/p'=.ptr 0 0)->K (.ret (.tuple [])) ⟨[.cells 136 [p',.sl 0 5 (Zk (l++(tys.map tyT).flatten++(rels.map reT).flatten++(rules.map Zsm).flatten))]],[0],1⟩:=by
   rw [hu] at h;simpa only [To] using h
  have s1:=Zq wTy tys;have s2:=Zq wRe rels;have s3:=Zq wRu rules;refine ⟨Zj [(2,⟨[21],[2,3,19,20],fun vs σ=>∃(i:Nat) (P:PV),vs=[.d (.int .i64 i)]/\σ=⟨[.cells 136 [P,.sl 0 5 (Zk (l++((tys.take i).map tyT).flatten))],.cells 130 [.ptr 0 0],.cells 61 ((XQ pl (.mk tys rels rules [] [] [])).map .d)],[0],1⟩/\(P=.d .nilp\/P=.ptr 0 0)/\i<=tys.length,mu1 tys.length⟩),(15,⟨[60],[2,3,58,59],fun vs σ=>∃(i:Nat) (P:PV),vs=[.d (.int .i64 i)]/\σ=⟨[.cells 136 [P,.sl 0 5 (Zk (l++(tys.map tyT).flatten++((rels.take i).map reT).flatten))],.cells 130 [.ptr 0 0],.cells 61 ((XQ pl (.mk tys rels rules [] [] [])).map .d)],[0],1⟩/\(P=.d .nilp\/P=.ptr 0 0)/\i<=rels.length,mu1 rels.length⟩),(47,⟨[166],[2,3,164,165],fun vs σ=>∃(i:Nat) (P:PV),vs=[.d (.int .i64 i)]/\σ=⟨[.cells 136 [P,.sl 0 5 (Zk (l++(tys.map tyT).flatten++(rels.map reT).flatten++((rules.take i).map Zsm).flatten))],.cells 130 [.ptr 0 0],.cells 61 ((XQ pl (.mk tys rels rules [] [] [])).map .d)],[0],1⟩/\(P=.d .nilp\/P=.ptr 0 0)/\i<=rules.length,mu1 rules.length⟩)],Xk [(19,4),(27,1),(37,1),(42,1)],Yh [],Yh [],Yh [],ZvT [(14,([2,3],fun vs σ=>∃P:PV,vs=[.ptr 1 0,.ptr 2 0]/\σ=⟨[.cells 136 [P,.sl 0 5 (Zk (l++(tys.map tyT).flatten))],.cells 130 [.ptr 0 0],.cells 61 ((XQ pl (.mk tys rels rules [] [] [])).map .d)],[0],1⟩/\(P=.d .nilp\/P=.ptr 0 0))),(26,([2,3],fun vs σ=>∃P:PV,vs=[.ptr 1 0,.ptr 2 0]/\σ=⟨[.cells 136 [P,.sl 0 5 (Zk (l++(tys.map tyT).flatten++(rels.map reT).flatten))],.cells 130 [.ptr 0 0],.cells 61 ((XQ pl (.mk tys rels rules [] [] [])).map .d)],[0],1⟩/\(P=.d .nilp\/P=.ptr 0 0)))],1,true,sM,Tc rfl,?_⟩;rcases hp with rfl | rfl
  all_goals
   conv=>whnf
   refine ⟨wN ?_,?_⟩
   ·refine ⟨⟨0,_,rfl,zN,iM,oM⟩,?_⟩;intro vs σ hI
    obtain ⟨i,P,rfl,rfl,hP,hi⟩:=hI;(conv=>whnf);refine ZFU (fun ab=>?_) (fun ab=>?_)
    ·have dv:(tys.map (Zw pl)).length=tys.length:=Td ..;have ab:i<tys.length:=lzI dv ab;have hg:=Zz wTy tys i ab;have cp:=ZdJ tyT ab;have aj:=Zkx tyT tys (i+1);have co:=TC ab;obtain ⟨L,hL⟩:∃L,l++((tys.take i).map tyT).flatten=L:=⟨_,rfl⟩
     have ye:L.length=(l).length+((tys.take i).map tyT).flatten.length:=by rw [<- hL,Tb]
     (try simp only [Tb] at ye)
     rw [cp,Tb] at aj;rw [hL];obtain ⟨x,hX⟩:∃x,tys[i]=x:=⟨_,rfl⟩
     rw [hX] at hg co cp aj;obtain ⟨kd,nm,base,fs,cs,at'⟩:=x;have jr:l++((tys.take (i+1)).map tyT).flatten=L++tyT ⟨kd,nm,base,fs,cs,at'⟩:=by rw [cp,<- To,hL]
     have ca:(tys.map (Zw pl))[((i:Nat):Int).toNat]?=some (Zw pl ⟨kd,nm,base,fs,cs,at'⟩):=by simp [ab,hX]
     obtain ⟨q1,q2,q3,q4⟩:=ZtB (m1 _ co);simp only at q1 q2 q3 q4;have yg:wTy ⟨kd,nm,base,fs,cs,at'⟩=1+nm.length+base.length+szS wFi fs+szS wCa cs:=rfl;have hw:nm.length+base.length+szS wFi fs+szS wCa cs<=n:=oM;(conv=>whnf);refine ⟨_,oM,ca,?_⟩
     by_cases k1:kd=1
     ·have hT:tyT ⟨kd,nm,base,fs,cs,at'⟩=[116,121,112,101,32]++(nm++(([32,60,58,32]++base)++[10])):=by rw [tyT,Tk k1]
      rw [hT] at aj;simp only [Tb,Te,Tg] at aj;rcases hP with rfl | rfl
      all_goals
       conv=>whnf
       refine ⟨L,[116,121,112,101,32]++nm,rfl,⟨iM,rfl,rfl⟩,⟨[[116,121,112,101,32],nm],rfl,sM,sM,sM⟩,(by (try simp only [Tb,Te,Tg]);omega),?_⟩;(conv=>whnf);refine ZFU (fun _=>?_) (fun g=>absurd (show (kd:Int)=1 by omega) g);(conv=>whnf);refine ⟨L++([116,121,112,101,32]++nm),[32,60,58,32]++base,rfl,⟨.inr rfl,rfl,rfl⟩,⟨[[32,60,58,32],base],rfl,sM,sM,sM⟩,(by (try simp only [Tb,Te,Tg]);omega),?_⟩;(conv=>whnf);refine ⟨L++([116,121,112,101,32]++nm)++([32,60,58,32]++base),[10],rfl,⟨.inr rfl,rfl,rfl⟩,⟨[[10]],rfl,sM,sM,sM⟩,(by (try simp only [Tb,Te,Tg]);omega),?_⟩;(conv=>whnf);refine Zl ?_;refine ⟨⟨i+1,_,rfl,(by rw [jr,hT];simp only [To];rfl),.inr rfl,oM⟩,?_⟩;exact lzM oM
     by_cases k2:kd=2
     ·have hT:tyT ⟨kd,nm,base,fs,cs,at'⟩=[116,121,112,101,32]++(nm++(Vf [32,61,32,91] fs [93]++[10])):=by rw [tyT,Tf k1,Tk k2]
      rw [hT] at aj;simp only [Tb,Te,Tg] at aj;rcases hP with rfl | rfl
      all_goals
       conv=>whnf
       refine ⟨L,[116,121,112,101,32]++nm,rfl,⟨iM,rfl,rfl⟩,⟨[[116,121,112,101,32],nm],rfl,sM,sM,sM⟩,(by (try simp only [Tb,Te,Tg]);omega),?_⟩;(conv=>whnf);refine ZFU (fun g=>absurd (show kd=1 by have g:(kd:Int)=1:=g;omega) k1) (fun _=>wN ?_);refine ZFU (fun _=>?_) (fun g=>absurd (show (kd:Int)=2 by omega) g);(conv=>whnf);refine ⟨L++([116,121,112,101,32]++nm),Vf [32,61,32,91] fs [93],rfl,⟨.inr rfl,rfl,rfl⟩,⟨[32,61,32,91],[93],fs,rfl,⟨Tr.2 q2,oM,oM⟩,rfl⟩,(by (try simp only [Tb,Te,Tg]);omega),?_⟩;(conv=>whnf);refine ⟨L++([116,121,112,101,32]++nm)++Vf [32,61,32,91] fs [93],[10],rfl,⟨.inr rfl,rfl,rfl⟩,⟨[[10]],rfl,sM,sM,sM⟩,(by (try simp only [Tb,Te,Tg]);omega),?_⟩;(conv=>whnf);refine Zl ?_;refine ⟨⟨i+1,_,rfl,(by rw [jr,hT];simp only [To];rfl),.inr rfl,oM⟩,?_⟩;exact lzM oM
     have hT:tyT ⟨kd,nm,base,fs,cs,at'⟩=[116,121,112,101,32]++(nm++([32,61,32]++(Zg [32,124,32] (cs.map caT)++[10]))):=by rw [tyT,Tf k1,Tf k2];simp only [To]
     rw [hT] at aj;simp only [Tb,Te,Tg] at aj;rcases hP with rfl | rfl
     all_goals
      conv=>whnf
      refine ⟨L,[116,121,112,101,32]++nm,rfl,⟨iM,rfl,rfl⟩,⟨[[116,121,112,101,32],nm],rfl,sM,sM,sM⟩,(by (try simp only [Tb,Te,Tg]);omega),?_⟩;(conv=>whnf);refine ZFU (fun g=>absurd (show kd=1 by have g:(kd:Int)=1:=g;omega) k1) (fun _=>wN ?_);refine ZFU (fun g=>absurd (show kd=2 by have g:(kd:Int)=2:=g;omega) k2) (fun _=>wN ?_);refine ⟨L++([116,121,112,101,32]++nm),[32,61,32],rfl,⟨.inr rfl,rfl,rfl⟩,⟨[[32,61,32]],rfl,sM,sM,sM⟩,(by (try simp only [Tb,Te,Tg]);omega),?_⟩;(conv=>whnf);refine ⟨L++([116,121,112,101,32]++nm)++[32,61,32],fun _=>0,cs,rfl,rfl,⟨rfl,rfl,rfl⟩,⟨Tr.2 q3,oM,oM⟩,(by (try simp only [Tb,Te,Tg]);show _+(Zg [32,124,32] (cs.map caT)).length<_;omega),?_⟩;(conv=>whnf);refine ⟨L++([116,121,112,101,32]++nm)++[32,61,32]++Zg [32,124,32] (cs.map caT),[10],rfl,⟨.inr rfl,rfl,rfl⟩,⟨[[10]],rfl,sM,sM,sM⟩,(by (try simp only [Tb,Te,Tg]);omega),?_⟩;(conv=>whnf);refine Zl ?_;refine ⟨⟨i+1,_,rfl,(by rw [jr,hT];simp only [To];rfl),.inr rfl,oM⟩,?_⟩;exact lzM oM
    have ab:i=tys.length:=by
     have dv:(tys.map (Zw pl)).length=tys.length:=Td ..;have ab:¬(i:Int)<(tys.map (Zw pl)).length:=ab;rw [dv] at ab;omega
    subst ab;rw [Si];rcases hP with rfl | rfl
    all_goals
     conv=>whnf
     exact ⟨_,rfl,rfl,iM⟩
   intro vs σ hI
   obtain ⟨P,rfl,rfl,hP⟩:=hI;(conv=>whnf);refine ⟨?_,?_⟩
   ·rcases hP with rfl | rfl
    all_goals
     conv=>whnf
     refine ⟨⟨0,_,rfl,zN,iM,oM⟩,?_⟩;intro vs σ hI
     obtain ⟨i,P,rfl,rfl,hP,hi⟩:=hI;(conv=>whnf);refine ZFU (fun ab=>?_) (fun ab=>?_)
     ·have dv:(rels.map (ZQ pl)).length=rels.length:=Td ..;have ab:i<rels.length:=lzI dv ab;have hg:=Zz wRe rels i ab;have cp:=ZdJ reT ab;have aj:=Zkx reT rels (i+1);have co:=TC ab;obtain ⟨L,hL⟩:∃L,l++(tys.map tyT).flatten++((rels.take i).map reT).flatten=L:=⟨_,rfl⟩
      have ye:L.length=(l++(tys.map tyT).flatten).length+((rels.take i).map reT).flatten.length:=by rw [<- hL,Tb]
      (try simp only [Tb] at ye)
      rw [cp,Tb] at aj;rw [hL];obtain ⟨x,hX⟩:∃x,rels[i]=x:=⟨_,rfl⟩
      rw [hX] at hg co cp aj;obtain ⟨nm,fs,b1,b2,b3,at'⟩:=x;have jr:l++(tys.map tyT).flatten++((rels.take (i+1)).map reT).flatten=L++reT ⟨nm,fs,b1,b2,b3,at'⟩:=by rw [cp,<- To,hL]
      have ca:(rels.map (ZQ pl))[((i:Nat):Int).toNat]?=some (ZQ pl ⟨nm,fs,b1,b2,b3,at'⟩):=by simp [ab,hX]
      have q:=m2 _ co;simp only [X9,Tn] at q;obtain ⟨q1,q2⟩:=q;have q2:=Tr.1 q2;have yg:wRe ⟨nm,fs,b1,b2,b3,at'⟩=1+nm.length+szS wFi fs:=rfl;have hw:nm.length+szS wFi fs<=n:=oM;(conv=>whnf);refine ⟨_,oM,ca,?_⟩;have se:reT ⟨nm,fs,b1,b2,b3,at'⟩=Vf ([100,101,99,108,32]++nm++[40]) fs [41]++((if b1 then [32,105,110,112,117,116] else [])++((if b2 then [32,111,117,116,112,117,116] else [])++((if b3 then [32,105,110,108,105,110,101] else [])++[10]))):=by rw [reT];simp only [To]
      rcases hP with rfl | rfl
      all_goals
       conv=>whnf
       refine ⟨by simp only [Te,Tg];omega,wN ?_⟩;refine ⟨by simp only [Tb,Te,Tg];omega,?_⟩
       cases b1 <;> cases b2 <;> cases b3
       ·have hT:=se;simp only [if_true,Tv,if_false,Sm] at hT;rw [hT] at aj;simp only [Tb,Te,Tg] at aj;(conv=>whnf);refine ⟨L,Vf ([100,101,99,108,32]++nm++[40]) fs [41],rfl,⟨iM,rfl,rfl⟩,⟨([100,101,99,108,32]++nm++[40]),[41],fs,rfl,⟨Tr.2 q2,oM,oM⟩,rfl⟩,(by (try simp only [Tb,Te,Tg]);omega),?_⟩;(conv=>whnf);refine ⟨dM,dM,wN ?_⟩;refine X5 ?_;refine ⟨dM,dM,wN ?_⟩;refine X5 ?_;refine ⟨dM,dM,wN ?_⟩;refine X5 ?_;refine ⟨L++Vf ([100,101,99,108,32]++nm++[40]) fs [41],[10],rfl,⟨.inr rfl,rfl,rfl⟩,⟨[[10]],rfl,sM,sM,sM⟩,(by (try simp only [Tb,Te,Tg]);omega),?_⟩;exact mq29
       ·have hT:=se;simp only [if_true,Tv,if_false,Sm] at hT;rw [hT] at aj;simp only [Tb,Te,Tg] at aj;(conv=>whnf);refine ⟨L,Vf ([100,101,99,108,32]++nm++[40]) fs [41],rfl,⟨iM,rfl,rfl⟩,⟨([100,101,99,108,32]++nm++[40]),[41],fs,rfl,⟨Tr.2 q2,oM,oM⟩,rfl⟩,(by (try simp only [Tb,Te,Tg]);omega),?_⟩;(conv=>whnf);refine ⟨dM,dM,wN ?_⟩;refine X5 ?_;refine ⟨dM,dM,wN ?_⟩;refine X5 ?_;refine ⟨dM,dM,wN ?_⟩;refine ⟨dM,dM,wN ?_⟩;refine ⟨L++Vf ([100,101,99,108,32]++nm++[40]) fs [41],[32,105,110,108,105,110,101],rfl,⟨.inr rfl,rfl,rfl⟩,⟨[[32,105,110,108,105,110,101]],rfl,sM,sM,sM⟩,(by (try simp only [Tb,Te,Tg]);omega),?_⟩;(conv=>whnf)
        (repeat (refine ⟨rfl,?_⟩;conv=>whnf))
        conv=>whnf
        refine X5 ?_;refine ⟨L++Vf ([100,101,99,108,32]++nm++[40]) fs [41]++[32,105,110,108,105,110,101],[10],rfl,⟨.inr rfl,rfl,rfl⟩,⟨[[10]],rfl,sM,sM,sM⟩,(by (try simp only [Tb,Te,Tg]);omega),?_⟩;exact mq29
       ·have hT:=se;simp only [if_true,Tv,if_false,Sm] at hT;rw [hT] at aj;simp only [Tb,Te,Tg] at aj;(conv=>whnf);refine ⟨L,Vf ([100,101,99,108,32]++nm++[40]) fs [41],rfl,⟨iM,rfl,rfl⟩,⟨([100,101,99,108,32]++nm++[40]),[41],fs,rfl,⟨Tr.2 q2,oM,oM⟩,rfl⟩,(by (try simp only [Tb,Te,Tg]);omega),?_⟩;(conv=>whnf);refine ⟨dM,dM,wN ?_⟩;refine X5 ?_;refine ⟨dM,dM,wN ?_⟩;refine ⟨dM,dM,wN ?_⟩;refine ⟨L++Vf ([100,101,99,108,32]++nm++[40]) fs [41],[32,111,117,116,112,117,116],rfl,⟨.inr rfl,rfl,rfl⟩,⟨[[32,111,117,116,112,117,116]],rfl,sM,sM,sM⟩,(by (try simp only [Tb,Te,Tg]);omega),?_⟩;(conv=>whnf)
        (repeat (refine ⟨rfl,?_⟩;conv=>whnf))
        conv=>whnf
        refine X5 ?_;refine ⟨dM,dM,wN ?_⟩;refine X5 ?_;refine ⟨L++Vf ([100,101,99,108,32]++nm++[40]) fs [41]++[32,111,117,116,112,117,116],[10],rfl,⟨.inr rfl,rfl,rfl⟩,⟨[[10]],rfl,sM,sM,sM⟩,(by (try simp only [Tb,Te,Tg]);omega),?_⟩;exact mq29
       ·have hT:=se;simp only [if_true,Tv,if_false,Sm] at hT;rw [hT] at aj;simp only [Tb,Te,Tg] at aj;(conv=>whnf);refine ⟨L,Vf ([100,101,99,108,32]++nm++[40]) fs [41],rfl,⟨iM,rfl,rfl⟩,⟨([100,101,99,108,32]++nm++[40]),[41],fs,rfl,⟨Tr.2 q2,oM,oM⟩,rfl⟩,(by (try simp only [Tb,Te,Tg]);omega),?_⟩;(conv=>whnf);refine ⟨dM,dM,wN ?_⟩;refine X5 ?_;refine ⟨dM,dM,wN ?_⟩;refine ⟨dM,dM,wN ?_⟩;refine ⟨L++Vf ([100,101,99,108,32]++nm++[40]) fs [41],[32,111,117,116,112,117,116],rfl,⟨.inr rfl,rfl,rfl⟩,⟨[[32,111,117,116,112,117,116]],rfl,sM,sM,sM⟩,(by (try simp only [Tb,Te,Tg]);omega),?_⟩;(conv=>whnf)
        (repeat (refine ⟨rfl,?_⟩;conv=>whnf))
        conv=>whnf
        refine X5 ?_;refine ⟨dM,dM,wN ?_⟩;refine ⟨dM,dM,wN ?_⟩;refine ⟨L++Vf ([100,101,99,108,32]++nm++[40]) fs [41]++[32,111,117,116,112,117,116],[32,105,110,108,105,110,101],rfl,⟨.inr rfl,rfl,rfl⟩,⟨[[32,105,110,108,105,110,101]],rfl,sM,sM,sM⟩,(by (try simp only [Tb,Te,Tg]);omega),?_⟩;(conv=>whnf)
        (repeat (refine ⟨rfl,?_⟩;conv=>whnf))
        conv=>whnf
        refine X5 ?_;refine ⟨L++Vf ([100,101,99,108,32]++nm++[40]) fs [41]++[32,111,117,116,112,117,116]++[32,105,110,108,105,110,101],[10],rfl,⟨.inr rfl,rfl,rfl⟩,⟨[[10]],rfl,sM,sM,sM⟩,(by (try simp only [Tb,Te,Tg]);omega),?_⟩;exact mq29
       ·have hT:=se;simp only [if_true,Tv,if_false,Sm] at hT;rw [hT] at aj;simp only [Tb,Te,Tg] at aj;(conv=>whnf);refine ⟨L,Vf ([100,101,99,108,32]++nm++[40]) fs [41],rfl,⟨iM,rfl,rfl⟩,⟨([100,101,99,108,32]++nm++[40]),[41],fs,rfl,⟨Tr.2 q2,oM,oM⟩,rfl⟩,(by (try simp only [Tb,Te,Tg]);omega),?_⟩;(conv=>whnf);refine ⟨dM,dM,wN ?_⟩;refine ⟨dM,dM,wN ?_⟩;refine ⟨L++Vf ([100,101,99,108,32]++nm++[40]) fs [41],[32,105,110,112,117,116],rfl,⟨.inr rfl,rfl,rfl⟩,⟨[[32,105,110,112,117,116]],rfl,sM,sM,sM⟩,(by (try simp only [Tb,Te,Tg]);omega),?_⟩;(conv=>whnf)
        (repeat (refine ⟨rfl,?_⟩;conv=>whnf))
        conv=>whnf
        refine X5 ?_;refine ⟨dM,dM,wN ?_⟩;refine X5 ?_;refine ⟨dM,dM,wN ?_⟩;refine X5 ?_;refine ⟨L++Vf ([100,101,99,108,32]++nm++[40]) fs [41]++[32,105,110,112,117,116],[10],rfl,⟨.inr rfl,rfl,rfl⟩,⟨[[10]],rfl,sM,sM,sM⟩,(by (try simp only [Tb,Te,Tg]);omega),?_⟩;exact mq29
       ·have hT:=se;simp only [if_true,Tv,if_false,Sm] at hT;rw [hT] at aj;simp only [Tb,Te,Tg] at aj;(conv=>whnf);refine ⟨L,Vf ([100,101,99,108,32]++nm++[40]) fs [41],rfl,⟨iM,rfl,rfl⟩,⟨([100,101,99,108,32]++nm++[40]),[41],fs,rfl,⟨Tr.2 q2,oM,oM⟩,rfl⟩,(by (try simp only [Tb,Te,Tg]);omega),?_⟩;(conv=>whnf);refine ⟨dM,dM,wN ?_⟩;refine ⟨dM,dM,wN ?_⟩;refine ⟨L++Vf ([100,101,99,108,32]++nm++[40]) fs [41],[32,105,110,112,117,116],rfl,⟨.inr rfl,rfl,rfl⟩,⟨[[32,105,110,112,117,116]],rfl,sM,sM,sM⟩,(by (try simp only [Tb,Te,Tg]);omega),?_⟩;(conv=>whnf)
        (repeat (refine ⟨rfl,?_⟩;conv=>whnf))
        conv=>whnf
        refine X5 ?_;refine ⟨dM,dM,wN ?_⟩;refine X5 ?_;refine ⟨dM,dM,wN ?_⟩;refine ⟨dM,dM,wN ?_⟩;refine ⟨L++Vf ([100,101,99,108,32]++nm++[40]) fs [41]++[32,105,110,112,117,116],[32,105,110,108,105,110,101],rfl,⟨.inr rfl,rfl,rfl⟩,⟨[[32,105,110,108,105,110,101]],rfl,sM,sM,sM⟩,(by (try simp only [Tb,Te,Tg]);omega),?_⟩;(conv=>whnf)
        (repeat (refine ⟨rfl,?_⟩;conv=>whnf))
        conv=>whnf
        refine X5 ?_;refine ⟨L++Vf ([100,101,99,108,32]++nm++[40]) fs [41]++[32,105,110,112,117,116]++[32,105,110,108,105,110,101],[10],rfl,⟨.inr rfl,rfl,rfl⟩,⟨[[10]],rfl,sM,sM,sM⟩,(by (try simp only [Tb,Te,Tg]);omega),?_⟩;exact mq29
       ·have hT:=se;simp only [if_true,Tv,if_false,Sm] at hT;rw [hT] at aj;simp only [Tb,Te,Tg] at aj;(conv=>whnf);refine ⟨L,Vf ([100,101,99,108,32]++nm++[40]) fs [41],rfl,⟨iM,rfl,rfl⟩,⟨([100,101,99,108,32]++nm++[40]),[41],fs,rfl,⟨Tr.2 q2,oM,oM⟩,rfl⟩,(by (try simp only [Tb,Te,Tg]);omega),?_⟩;(conv=>whnf);refine ⟨dM,dM,wN ?_⟩;refine ⟨dM,dM,wN ?_⟩;refine ⟨L++Vf ([100,101,99,108,32]++nm++[40]) fs [41],[32,105,110,112,117,116],rfl,⟨.inr rfl,rfl,rfl⟩,⟨[[32,105,110,112,117,116]],rfl,sM,sM,sM⟩,(by (try simp only [Tb,Te,Tg]);omega),?_⟩;(conv=>whnf)
        (repeat (refine ⟨rfl,?_⟩;conv=>whnf))
        conv=>whnf
        refine X5 ?_;refine ⟨dM,dM,wN ?_⟩;refine ⟨dM,dM,wN ?_⟩;refine ⟨L++Vf ([100,101,99,108,32]++nm++[40]) fs [41]++[32,105,110,112,117,116],[32,111,117,116,112,117,116],rfl,⟨.inr rfl,rfl,rfl⟩,⟨[[32,111,117,116,112,117,116]],rfl,sM,sM,sM⟩,(by (try simp only [Tb,Te,Tg]);omega),?_⟩;(conv=>whnf)
        (repeat (refine ⟨rfl,?_⟩;conv=>whnf))
        conv=>whnf
        refine X5 ?_;refine ⟨dM,dM,wN ?_⟩;refine X5 ?_;refine ⟨L++Vf ([100,101,99,108,32]++nm++[40]) fs [41]++[32,105,110,112,117,116]++[32,111,117,116,112,117,116],[10],rfl,⟨.inr rfl,rfl,rfl⟩,⟨[[10]],rfl,sM,sM,sM⟩,(by (try simp only [Tb,Te,Tg]);omega),?_⟩;exact mq29
       have hT:=se;simp only [if_true,Tv,if_false,Sm] at hT;rw [hT] at aj;simp only [Tb,Te,Tg] at aj;(conv=>whnf);refine ⟨L,Vf ([100,101,99,108,32]++nm++[40]) fs [41],rfl,⟨iM,rfl,rfl⟩,⟨([100,101,99,108,32]++nm++[40]),[41],fs,rfl,⟨Tr.2 q2,oM,oM⟩,rfl⟩,(by (try simp only [Tb,Te,Tg]);omega),?_⟩;(conv=>whnf);refine ⟨dM,dM,wN ?_⟩;refine ⟨dM,dM,wN ?_⟩;refine ⟨L++Vf ([100,101,99,108,32]++nm++[40]) fs [41],[32,105,110,112,117,116],rfl,⟨.inr rfl,rfl,rfl⟩,⟨[[32,105,110,112,117,116]],rfl,sM,sM,sM⟩,(by (try simp only [Tb,Te,Tg]);omega),?_⟩;(conv=>whnf)
       (repeat (refine ⟨rfl,?_⟩;conv=>whnf))
       conv=>whnf
       refine X5 ?_;refine ⟨dM,dM,wN ?_⟩;refine ⟨dM,dM,wN ?_⟩;refine ⟨L++Vf ([100,101,99,108,32]++nm++[40]) fs [41]++[32,105,110,112,117,116],[32,111,117,116,112,117,116],rfl,⟨.inr rfl,rfl,rfl⟩,⟨[[32,111,117,116,112,117,116]],rfl,sM,sM,sM⟩,(by (try simp only [Tb,Te,Tg]);omega),?_⟩;(conv=>whnf)
       (repeat (refine ⟨rfl,?_⟩;conv=>whnf))
       conv=>whnf
       refine X5 ?_;refine ⟨dM,dM,wN ?_⟩;refine ⟨dM,dM,wN ?_⟩;refine ⟨L++Vf ([100,101,99,108,32]++nm++[40]) fs [41]++[32,105,110,112,117,116]++[32,111,117,116,112,117,116],[32,105,110,108,105,110,101],rfl,⟨.inr rfl,rfl,rfl⟩,⟨[[32,105,110,108,105,110,101]],rfl,sM,sM,sM⟩,(by (try simp only [Tb,Te,Tg]);omega),?_⟩;(conv=>whnf)
       (repeat (refine ⟨rfl,?_⟩;conv=>whnf))
       conv=>whnf
       refine X5 ?_;refine ⟨L++Vf ([100,101,99,108,32]++nm++[40]) fs [41]++[32,105,110,112,117,116]++[32,111,117,116,112,117,116]++[32,105,110,108,105,110,101],[10],rfl,⟨.inr rfl,rfl,rfl⟩,⟨[[10]],rfl,sM,sM,sM⟩,(by (try simp only [Tb,Te,Tg]);omega),?_⟩;exact mq29
     have ab:i=rels.length:=by
      have dv:(rels.map (ZQ pl)).length=rels.length:=Td ..;have ab:¬(i:Int)<(rels.map (ZQ pl)).length:=ab;rw [dv] at ab;omega
     subst ab;rw [Si];rcases hP with rfl | rfl
     all_goals
      conv=>whnf
      exact ⟨_,rfl,rfl,iM⟩
   intro vs σ hI
   obtain ⟨P,rfl,rfl,hP⟩:=hI;(conv=>whnf);rcases hP with rfl | rfl
   all_goals
    conv=>whnf
    refine ⟨⟨0,_,rfl,zN,iM,oM⟩,?_⟩;intro vs σ hI
    obtain ⟨i,P,rfl,rfl,hP,hi⟩:=hI;(conv=>whnf);refine ZFU (fun ab=>?_) (fun ab=>?_)
    ·have dv:(rules.map (ZW pl)).length=rules.length:=Td ..;have ab:i<rules.length:=lzI dv ab;have hg:=Zz wRu rules i ab;have cp:=ZdJ Zsm ab;have aj:=Zkx Zsm rules (i+1);have co:=TC ab;obtain ⟨L,hL⟩:∃L,l++(tys.map tyT).flatten++(rels.map reT).flatten++((rules.take i).map Zsm).flatten=L:=⟨_,rfl⟩
     have ye:L.length=(l++(tys.map tyT).flatten++(rels.map reT).flatten).length+((rules.take i).map Zsm).flatten.length:=by rw [<- hL,Tb]
     (try simp only [Tb] at ye)
     rw [cp,Tb] at aj;rw [hL];obtain ⟨x,hX⟩:∃x,rules[i]=x:=⟨_,rfl⟩
     rw [hX] at hg co cp aj;obtain ⟨head,as',bd,at'⟩:=x;have jr:l++(tys.map tyT).flatten++(rels.map reT).flatten++((rules.take (i+1)).map Zsm).flatten=L++Zsm ⟨head,as',bd,at'⟩:=by rw [cp,<- To,hL]
     have ca:(rules.map (ZW pl))[((i:Nat):Int).toNat]?=some (ZW pl ⟨head,as',bd,at'⟩):=by simp [ab,hX]
     have hw:wRu ⟨head,as',bd,at'⟩<=n:=oM;have hT:Zsm ⟨head,as',bd,at'⟩=(ruT ⟨head,as',bd,at'⟩)++[10]:=rfl;rw [hT] at aj;simp only [Tb,Te,Tg] at aj;(conv=>whnf);refine ⟨_,oM,ca,?_⟩;rcases hP with rfl | rfl
     all_goals
      conv=>whnf
      refine ⟨L,(ruT ⟨head,as',bd,at'⟩),rfl,⟨iM,rfl,rfl⟩,⟨pl,⟨head,as',bd,at'⟩,rfl,⟨m3 _ co,hw,hn⟩,rfl⟩,(by (try simp only [Tb,Te,Tg]);omega),?_⟩;(conv=>whnf);refine ⟨L++(ruT ⟨head,as',bd,at'⟩),[10],rfl,⟨.inr rfl,rfl,rfl⟩,⟨[[10]],rfl,sM,sM,sM⟩,(by (try simp only [Tb,Te,Tg]);omega),?_⟩;(conv=>whnf);refine Zl ?_;refine ⟨⟨i+1,_,rfl,(by rw [jr,hT];simp only [To];rfl),.inr rfl,oM⟩,?_⟩;exact lzM oM
    have ab:i=rules.length:=by
     have dv:(rules.map (ZW pl)).length=rules.length:=Td ..;have ab:¬(i:Int)<(rules.map (ZW pl)).length:=ab;rw [dv] at ab;omega
    subst ab;rw [Si];rcases hP with rfl | rfl
    all_goals
     conv=>whnf
     exact h _ iM
 exact h.elim
def cWU (hN:NumOK w0 nG) (hL:LexC w0 nG) (n:Nat):PC w0 nG 74 (ZCW n) :=
 ZD1 ⟨Zak,Zva,ZFL _,cWR hN hL _,trivial⟩
def Zyv {z:Bs} {c:UInt8} (hc:c.toNat<128):pk (c::z)=((c.toNat:Int),1):=by
 have e:Lib.decodeL (c::z)=(c.toNat,1):=by
  rw [Lib.decodeL_N];unfold Lib.decodeN;rw [Tk (by simpa using hc)];simp
 unfold pk
 rw [e,Tf sO]
structure Fol (c:UInt8) (z:Bs):Prop where
 low:c.toNat<128
 let':Zm c.toNat=false
 dig:Zp c.toNat=false
 dot:c=46->Zm (pk z).1=false
def Fol.pk {c:UInt8} {z:Bs} (h:Fol c z):Lex.pk (c::z)=((c.toNat:Int),1):=Zyv h.low
inductive Pc where
 | blank (b:UInt8) | tok (s:Bs) (t:T0)
def Pc.bs:Pc->Bs | .blank b=>[b] | .tok s _=>s
def Pc.ts:Pc->Ts | .blank _=>[] | .tok _ t=>[t]
def bsP (l:List Pc):Bs:=(l.map Pc.bs).flatten
def tsP (l:List Pc):Ts:=(l.map Pc.ts).flatten
@[simp] theorem bsP_nil:bsP []=[]:=rfl
@[simp] theorem tsP_nil:tsP []=[]:=rfl
@[simp] theorem bsP_cons (p:Pc) (l:List Pc):bsP (p::l)=p.bs++bsP l:=by simp [bsP]
@[simp] theorem tsP_cons (p:Pc) (l:List Pc):tsP (p::l)=p.ts++tsP l:=by simp [tsP]
@[simp] theorem bsP_app (l m:List Pc):bsP (l++m)=bsP l++bsP m:=by simp [bsP]
@[simp] theorem tsP_app (l m:List Pc):tsP (l++m)=tsP l++tsP m:=by simp [tsP]
def nmP (s:Bs):Pc:=.tok s (nmT s)
def sgP (s:Bs):Pc:=.tok s (sgT s)
def Zn1:∀d:Fin 16,Zgu (Zjs d.val)=d.val/\X6 true (Zjs d.val)=true/\(d.val<10->X6 false (Zjs d.val)=true)/\Zjs d.val≠120:=by decide +kernel
def ZtD (base:Nat) (l:Bs) (b:UInt8):WC base (l++[b])=WC base l * base+Zgu b:=by simp [WC]
def Zbd {base:Nat} (hb:base=10\/base=16):∀(f n:Nat),n<f->WC base (JH base f n)=n/\(∀b∈JH base f n,X6 (decide (base=16)) b=true/\b≠120)/\JH base f n≠[]/\∀k,n<base ^ (k+1)->(JH base f n).length<=k+1
 | 0,n,h=>oM
 | f+1,n,h=>by
  have hd:∀d,d<base->Zgu (Zjs d)=d/\X6 (decide (base=16)) (Zjs d)=true/\Zjs d≠120:=fun d hd=>by
   obtain ⟨h1,h2,h3,h4⟩:=Zn1 ⟨d,oM⟩;refine ⟨h1,?_,h4⟩;rcases hb with rfl | rfl
   ·exact h3 hd
   exact h2
  rw [JH]
  by_cases c:n<base
  ·rw [Tk c];obtain ⟨h1,h2,h3⟩:=hd n c;refine ⟨by simpa [WC] using h1,fun b hb=>?_,sM,fun k _=>sM⟩;rw [List.mem_singleton.1 hb];exact ⟨h2,h3⟩
  rw [Tf c];have aa:n / base<n:=Nat.div_lt_self oM oM;obtain ⟨i1,i2,i3,i4⟩:=Zbd hb f (n / base) oM;obtain ⟨h1,h2,h3⟩:=hd (n % base) (Nat.mod_lt _ oM);refine ⟨?_,fun b hb=>?_,sM,fun k hk=>?_⟩
  ·rw [ZtD,i1,h1,Nat.mul_comm];exact Nat.div_add_mod n base
  ·rcases TD.1 hb with hb | hb
   ·exact i2 b hb
   rw [List.mem_singleton.1 hb];exact ⟨h2,h3⟩
  cases k with
  | zero=>simp at hk;omega
  | succ k =>
  have:n / base<base ^ (k+1):=by
   rw [Nat.div_lt_iff_lt_mul oM];rw [Nat.pow_succ] at hk;exact hk
  have:=i4 k this;exact mq101
def spP:Pc:=.blank 32
def nlP:Pc:=.blank 10
@[simp] theorem bs_sp:spP.bs=[32]:=rfl
@[simp] theorem bs_nl:nlP.bs=[10]:=rfl
@[simp] theorem ts_sp:spP.ts=[]:=rfl
@[simp] theorem ts_nl:nlP.ts=[]:=rfl
@[simp] theorem bs_nm (s:Bs):(nmP s).bs=s:=rfl
@[simp] theorem bs_sg (s:Bs):(sgP s).bs=s:=rfl
@[simp] theorem ts_nm (s:Bs):(nmP s).ts=[nmT s]:=rfl
@[simp] theorem ts_sg (s:Bs):(sgP s).ts=[sgT s]:=rfl
@[simp] theorem bs_tok (s:Bs) (t:T0):(Pc.tok s t).bs=s:=rfl
@[simp] theorem ts_tok (s:Bs) (t:T0):(Pc.tok s t).ts=[t]:=rfl
def ts2 (p:Nat×List Pc):Nat×Ts:=(p.1,tsP p.2)
def ZdK:∀(f:Nat) (r out q:Bs),VJ f r out=some q->q.length<=out.length+4 * r.length
 | 0,r,out,q,h=>by simp [VJ] at h
 | f+1,r,out,q,h=>by
  unfold VJ at h
  split at h
  ·cases h;omega
  rename_i hr
  have hd:=Lib.decodeL_le r hr;have hg:=ZgC r;split at h
  ·have:=ZdK f _ _ _ h;simp only [Tb,Te,Tg,TH] at this;omega
  split at h
  ·cases h
  have:=ZdK f _ _ _ h;have h4:=ZDo (Lib.decodeL r).1;simp only [Tb,TH] at this;omega
def ZtE (s:Bs):(ZwQ s).length<=4 * s.length+2:=by
 unfold ZwQ Jc
 split
 ·cases hq:VJ (s.length+1) s [34] with
  | none=>simp
  | some q =>
  have:=ZdK _ _ _ _ hq;simp only [Sc,Sp,Tb,Te,Tg] at this |-;omega
 simp
def ZtF {n:Int} (h0:-9223372036854775808<=n) (h1:n<9223372036854775808):(Zfs n).length<=20:=by
 unfold Zfs
 split
 ·have h:=(Zbd (base:=16) (.inr rfl) ((n+18446744073709551616).toNat+1) (n+18446744073709551616).toNat oM).2.2.2 15 (by
   have:(16:Nat) ^ (15+1)=18446744073709551616:=dM;omega)
  simp only [Tb,Te,Tg,Ve];omega
 have h:=(Zbd (base:=10) (.inl rfl) (n.toNat+1) n.toNat oM).2.2.2 18 (by
  have:(10:Nat) ^ (18+1)=10000000000000000000:=dM;omega)
 rw [Ve];omega
def ZtG (op:Nat):(VK op).length<=6:=by
 by_cases h:op<26
 ·have hk:∀o:Fin 26,(VK o.val).length<=6:=by decide
  exact hk ⟨op,h⟩
 unfold VK
 (repeat rw [Tf oM])
 decide
def Zvb (l:List (Nat×Bs)):Nat:=(l.map fun p=>p.2.length+4).sum
def Vh (l:List Bs):(Zg cmm l).length<=(l.map fun s=>s.length+4).sum:=by
 match l with
 | []=>exact Sa _
 | [x]=>simp [Zg]
 | x::y::l =>
  have ih:=Vh (y::l);rw [Zg]
  ·simp only [Tb,TF,List.sum_cons] at ih |-;have:cmm.length=2:=rfl;omega
  intro h;cases h
def ZgT (w:Nat) (p:Nat×Bs):(Ztl w p).length<=p.2.length+2:=by
 unfold Ztl;split
 ·exact mq101
 omega
def ZqN (w1 w2:Nat) (sep:Bs) (l:List (Nat×Bs)):(exA w1 w2 sep l).length<=Zvb l+sep.length:=by
 match l with
 | []=>simp [exA]
 | [a]=>have:=ZgT w1 a;simp only [exA,Zvb,TF,TQ,List.sum_cons,List.sum_nil];omega
 | a::b::l =>
  have h1:=ZgT w1 a;have h2:=ZgT w2 b;simp only [exA,Zvb,TF,List.sum_cons,Tb];omega
def ZqO (op:Nat) (t:Bs) (n:Int) (l:List (Nat×Bs)) (h0:-9223372036854775808<=n) (h1:n<9223372036854775808):(exN op t n l).length<=Zvb l+5 * t.length+30:=by
 have hw:=ZtG op;have hn:=ZtF h0 h1;have hq:=ZtE t;have hc:(Zg cmm (l.map Prod.snd)).length<=Zvb l:=by
  have:=Vh (l.map Prod.snd);rw [SN] at this;exact this
 unfold exN
 split
 ·have:=ZqN (ZS op) (ZS op+1) ([32]++(VK op++[32])) l;simp only [Tb,Te,Tg] at this;omega
 split
 ·have:=ZqN 5 5 [] l;simp only [Tb,Tg] at this |-;omega
 split
 ·exact mq101
 split
 ·exact mq101
 split
 ·simp only [Tb,Te,Tg];split
  ·simp only [Tg];omega
  exact mq101
 split
 ·omega
 split
 ·omega
 split
 ·simp only [Te,Tg];omega
 split
 ·simp only [Te,Tg];omega
 omega
mutual
def ZdL:∀e:Ex,Zjv e=true->(exT e).length+4<=64 * wE e
 | .mk op t n l a,h=>by
  obtain ⟨r1,r2⟩:=ZdG h;have ih:=Zbe l (by rw [UR];exact Tr.2 r2);have:=ZqO op t n (Zqu l) r1.1 r1.2;rw [exT,wE];omega
def Zbe:∀l:List Ex,Zkv l=true->Zvb (Zqu l)<=64 * wEs l
 | [],h=>by rw [Zqu];simp [Zvb]
 | x::l,h=>by
  rw [Zkv,Tn] at h;have h1:=ZdL x h.1;have h2:=Zbe l h.2;rw [Zqu,wEs];unfold Zvb at h2 |-
  simp only [TF,List.sum_cons];omega
end
def ZqP {α:Type} {T:α->Bs} {w:α->Nat}:∀l:List α,(∀x∈l,(T x).length+4<=64 * w x)->(l.map fun x=>(T x).length+4).sum<=64 * szS w l
 | [],h=>Sa _
 | x::l,h=>by
  have h1:=h x sM;have h2:=ZqP l fun y hy=>h y (Tx _ hy)
  simp only [TF,List.sum_cons,szS];omega
def JI {α:Type} {T:α->Bs} {w:α->Nat} {l:List α} (h:∀x∈l,(T x).length+4<=64 * w x):(Zg cmm (l.map T)).length<=64 * szS w l:=by
 have h1:=Vh (l.map T);rw [SN] at h1;exact TT h1 (ZqP l h)
def Wy {α:Type} {T:α->Bs} {w:α->Nat}:∀{l:List α},(∀x∈l,(T x).length+4<=64 * w x)->((l.map T).flatten).length<=64 * szS w l
 | [],h=>Sa _
 | x::l,h=>by
  have h1:=h x sM;have h2:=Wy (l:=l) fun y hy=>h y (Tx _ hy)
  simp only [TF,List.flatten_cons,Tb,szS];omega
def Zky:∀{l:List Ex},(∀x∈l,Zjv x=true)->(Zl4 l).length+(Ztm l.tail).length<=64 * szS wE l/\(Zl4 l).length+(Zl4 l.tail).length<=64 * szS wE l
 | [],h=>by simp [Zl4,Ztm]
 | x::l,h=>by
  have h1:=ZdL x (h x sM);have h2:=Wy (T:=fun e=>[32]++exT e) (w:=fun e=>wE e) (l:=l) fun y hy=>by
   have:=ZdL y (h y (Tx _ hy))
   cases y with
   | mk o t n a b =>
   have hw:1<=wE (.mk o t n a b):=by rw [wE];omega
   have h3:=ZqO o t n (Zqu a) (ZdG (h _ (Tx _ hy))).1.1 (ZdG (h _ (Tx _ hy))).1.2;have h4:=Zbe a (by rw [UR];exact Tr.2 (ZdG (h _ (Tx _ hy))).2);simp only [Tb,Te,Tg];rw [exT,wE];omega
  refine ⟨?_,?_⟩
  ·show (exT x).length+(Ztm l).length<=64 * szS wE (x::l);rw [szS];unfold Ztm
   have:szS (fun e=>wE e) l=szS wE l:=rfl;omega
  show (exT x).length+(Zl4 l).length<=64 * szS wE (x::l)
  cases l with
  | nil=>rw [szS,szS];simp [Zl4];omega
  | cons y l =>
  have h5:=ZdL y (h y sM);rw [szS,szS];simp only [Zl4];omega
def Zyw (op:Nat):(ZwR op).length<=4:=by unfold ZwR;(repeat' split) <;> decide
def Zyx (op:Nat):(Zkr op).length<=5:=by unfold Zkr;(repeat' split) <;> decide
def ZiI {fr fin:Bs} {l:List Ex} (h:∀x∈l,Zjv x=true):(argT fr fin l).length<=fr.length+64 * szS wE l+fin.length:=by
 have:=JI (T:=exT) (w:=wE) fun x hx=>ZdL x (h x hx)
 unfold argT ZAF
 simp only [Tb];omega
mutual
def Zyy:∀x:Li,ZnX x=true->(liT x).length+4<=64 * wL x
 | .mk op rel args body a,h=>by
  obtain ⟨r1,r2⟩:=ZqG h;have h1:=ZgU body (by rw [Zan];exact Tr.2 r2);have h2:=ZiI (fr:=[40]) (fin:=[41]) r1;obtain ⟨h3,h4⟩:=Zky r1;have h5:=Zyw op;have h6:=Zyx op;have h7:=Vh (Zsl body);rw [liT,wL];simp only [Te,Tg] at h2;split
  ·exact mq101
  split
  ·simp only [Tb];omega
  split
  ·simp only [Tb];omega
  exact mq101
def ZgU:∀l:List Li,ZnY l=true->((Zsl l).map fun s=>s.length+4).sum<=64 * wLs l
 | [],h=>by rw [Zsl];simp
 | x::l,h=>by
  rw [ZnY,Tn] at h;have h1:=Zyy x h.1;have h2:=ZgU l h.2;rw [Zsl,wLs];simp only [TF,List.sum_cons];omega
end
def Zyz {r:Ru} (h:ZqH r=true):(ruT r).length+10<=64 * wRu r:=by
 simp only [ZqH,Tn] at h;have r1:=Tr.1 h.1;have r2:=Tr.1 h.2;have h1:=ZiI (fr:=[40]) (fin:=[41]) r1;have h2:=ZgU r.body (by rw [Zan];exact h.2);have h3:=Vh (Zsl r.body);rw [ZdE] at h2;unfold ruT wRu
 simp only [Te,Tg] at h1;split
 ·exact mq101
 exact mq101
def ZyA (f:Fi):(fiT f).length+4<=64 * wFi f:=by
 unfold fiT wFi;simp only [Tb,Te,Tg];omega
def Zkz (fr fin:Bs) (l:List Fi):(Vf fr l fin).length<=fr.length+64 * szS wFi l+fin.length:=by
 have:=JI (T:=fiT) (w:=wFi) (l:=l) fun x _=>ZyA x
 unfold Vf
 simp only [Tb];omega
def ZyB (c:Ca):(caT c).length+4<=64 * wCa c:=by
 have:=Zkz (c.name++[32,123]) [125] c.fields;unfold caT wCa
 simp only [Tb,Te,Tg] at this |-;omega
def Zfw (l:List Bs):(Zg [32,124,32] l).length<=(l.map fun s=>s.length+4).sum:=by
 match l with
 | []=>exact Sa _
 | [x]=>simp [Zg]
 | x::y::l =>
  have ih:=Zfw (y::l);rw [Zg]
  ·simp only [Tb,TF,List.sum_cons,Te,Tg] at ih |-;omega
  intro h;cases h
def ZyC (t:Ty):(tyT t).length+4<=64 * wTy t:=by
 have h1:=Zkz [32,61,32,91] [93] t.fields;have h2:=Zfw (t.cases.map caT);rw [SN] at h2;have h3:=ZqP (T:=caT) (w:=wCa) t.cases fun x _=>ZyB x
 have h4:(t.cases.map fun x=>(caT x).length+4).sum=(t.cases.map ((fun s:Bs=>s.length+4)∘caT)).sum:=rfl;rw [h4] at h3;unfold tyT wTy
 simp only [Te,Tg] at h1;simp only [Tb,Te,Tg];split
 ·exact mq101
 split
 ·omega
 exact mq101
def ZyD (d:Re):(reT d).length+4<=64 * wRe d:=by
 have h1:=Zkz ([100,101,99,108,32]++(d.name++[40])) [41] d.fields;have hi:∀(b:Bool) (s:Bs),(if b then s else []).length<=s.length:=fun b s=>by cases b <;> simp
 have i1:=hi d.inn [32,105,110,112,117,116];have i2:=hi d.out [32,111,117,116,112,117,116];have i3:=hi d.inl [32,105,110,108,105,110,101];unfold reT wRe
 simp only [Tb,Te,Tg] at h1 i1 i2 i3 |-;omega
def ZkA (l:List Bs):(ZAG l).length<=2+64 * szS wBs l:=by
 have h1:=JI (T:=fun s:Bs=>s) (w:=wBs) (l:=l) fun x _=>by unfold wBs;omega
 rw [List.map_id'] at h1;unfold ZAG
 split
 ·simp
 exact mq101
def ZyE (i:Ini):(inT i).length+4<=64 * wIn i:=by
 have:=ZkA i.types;unfold inT wIn
 exact mq101
def ZyF (o:Ov):(ovT o).length+4<=64 * wOv o:=by
 unfold ovT wOv
 exact mq101
mutual
def ZqQ:∀u:Un,Zyf u=true->(unT u).length+4<=64 * wUn u
 | .mk a b c d e f,h=>by
  simp only [Zyf,Tn] at h;have r1:=Tr.1 h.1;have h1:=Wy (T:=tyT) (w:=wTy) (l:=a) fun x _=>ZyC x
  have h2:=Wy (T:=reT) (w:=wRe) (l:=b) fun x _=>ZyD x
  have h3:=Wy (T:=fun r=>ruT r++[10]) (w:=wRu) (l:=c) fun x hx=>by
   have:=Zyz (r1 x hx);exact mq101
  have h4:=Zl6 d h.2;have h5:=Wy (T:=inT) (w:=wIn) (l:=e) fun x _=>ZyE x
  have h6:=Wy (T:=ovT) (w:=wOv) (l:=f) fun x _=>ZyF x
  rw [unT,wUn];simp only [Tb];omega
def ZyG:∀c:Co,ZqI c=true->(coT c).length+4<=64 * wCo c+64
 | .mk nm ps base tys u a,h=>by
  rw [ZqI] at h;have h1:=ZqQ u h;have h2:=ZkA ps;have h3:=ZkA tys;rw [coT,wCo];split
  ·exact mq101
  exact mq101
def Zl6:∀l:List Co,Zfu l=true->((ZzO l).flatten).length<=64 * ZwS l
 | [],h=>by rw [ZzO];simp
 | x::l,h=>by
  rw [Zfu,Tn] at h;have h1:=ZyG x h.1;have h2:=Zl6 l h.2;rw [ZzO,ZwS];simp only [List.flatten_cons,Tb];omega
end
def ZtH (n:Nat):Zn:=fun args σ K=>match args,σ with
 | [.agg c],⟨[],[],0⟩=>∃pl x,c=(XQ pl x).map .d/\((Zex x=true->Zyf x=true)/\wUn x<=n/\n<=16777216/\noC x) /\
   ((Zex x=false->K (.ret (.tuple [.d (.str []),.d (.int .i64 160)])) ⟨[],[],0⟩)/\(Zex x=true->∀r,JF 65536 16384 Za2 (unT x)=r->K (.ret (.tuple [.d (.str (ZdI (unT x) r).1),.d (.int .i64 (ZdI (unT x) r).2)])) ⟨[],[],0⟩))
 | _,_=>False
def ZBP {n:Nat}:OKw w0 nG [(73,YT (YF XQ) Zex wUn n),(74,ZCW n),(76,Zao),(75,Zl1),(77,ZqL)] 48 (ZtH n):=by
 refine pwo Tryz.func48 fun args σ K h=>?_
 unfold ZtH at h
 split at h
 ·obtain ⟨pl,⟨u1,u2,u3,u4,u5,u6⟩,rfl,⟨vi,hz,hn,hnc⟩,ha,hb⟩:=h;refine pwv [] 0 true ?_;refine ⟨pl,(.mk u1 u2 u3 u4 u5 u6),rfl,⟨hz,oM⟩,fun b cm=>?_⟩
  cases b with
  | false =>
   conv=>whnf
   exact ha cm
  | true =>
  have h1:=vi cm;have h2:=ZqQ _ h1;have hb:=hb cm;(conv=>whnf);refine ⟨[],unT (.mk u1 u2 u3 u4 u5 u6),rfl,⟨.inl rfl,rfl,rfl⟩,⟨pl,(.mk u1 u2 u3 u4 u5 u6),rfl,⟨by rw [ZCV,cm,h1];rfl,hz,oM,hnc⟩,rfl⟩,by simp only [Tg];omega,fun p' ja=>?_⟩;obtain ⟨T,hT⟩:∃T,unT (.mk u1 u2 u3 u4 u5 u6)=T:=⟨_,rfl⟩
  rw [hT] at hb h2 |-;rcases ja with rfl | rfl
  all_goals
   conv=>whnf
   refine ⟨T,⟨rfl,rfl,rfl,iM,oM⟩,?_⟩;(conv=>whnf);refine ⟨oM,fun x hx=>?_⟩;have hb:=hb x hx
   cases x with
   | ok v L =>
    obtain ⟨v1,v2,v3,v4,v5,v6⟩:=v;unfold ZEM
    dsimp only;(conv=>whnf);refine ⟨T,⟨rfl,rfl,rfl,iM,oM⟩,?_⟩;(conv=>whnf);refine ⟨fun g=>absurd g dM,fun _=>wN ?_⟩;exact hb
   | err p c =>
   conv=>whnf
   refine ⟨T,⟨rfl,rfl,rfl,iM,oM⟩,?_⟩;(conv=>whnf);refine ⟨fun g=>wN ?_,fun g=>wN ?_⟩
   ·rw [ZdI,Tk oM] at hb;exact hb
   rw [ZdI,Tf oM] at hb;exact hb
 exact h.elim
def ZFM (hg:GlobOK w0 nG) (hN:NumOK w0 nG) (hL:LexC w0 nG) (n:Nat):PC w0 nG 48 (ZtH n) :=
 ZBP ⟨ZEW hL n,cWU hN hL n,Zfv,ZDF hg,Zym,trivial⟩
def Zn2 {α:Type} (enc:Pl->α->List D) (c:Nat->α->Prop) (f:α->Bs×Nat) (n:Nat):Zn:=fun args σ K=>match args,σ with
 | [.agg cs],⟨[],[],0⟩=>∃pl e,cs=(enc pl e).map .d/\(c n e/\n<=16777216)/\∀s k,f e=(s,k)->K (.ret (.tuple [.d (.str s),.d (.int .i64 (k:Nat))])) ⟨[],[],0⟩
 | _,_=>False
def Zfx (x:Un):Bs×Nat:=if Zex x=true then ZdI (unT x) (JF 65536 16384 Za2 (unT x)) else ([],160)
def Zez (n:Nat) (x:Un):Prop:=Zyf x=true/\wUn x<=n/\(unT x).length<1073741824/\noC x
def ZD2 (hg:GlobOK w0 nG) (hN:NumOK w0 nG) (hL:LexC w0 nG) (n:Nat):PC w0 nG 48 (Zn2 XQ Zez Zfx n):=(ZFM hg hN hL n).weaken1 fun args σ K h=>by
 unfold Zn2 at h
 unfold ZtH
 split at h
 ·obtain ⟨pl,e,h1,⟨⟨h2,h3,h4,h6⟩,h5⟩,h⟩:=h;exact ⟨pl,e,h1,⟨fun _=>h2,h3,oM,h6⟩,fun g=>h _ _ (by rw [Zfx,Tf (by rw [g];simp)]),fun g x hx=>h _ _ (by rw [Zfx,Tk g,hx])⟩
 exact h.elim
def ZzR {α:Type} (enc:Pl->α->List D) (sz:α->Nat) (bd:Int->Int) (m:Nat):Zn:=fun args σ K=>match args,σ with
 | [.agg c,.d (.int .i64 bc)],⟨[],[],0⟩=>∃pl x B,c=(enc pl x).map .d/\((0<=bc/\bc<m)/\m<=1000000/\sz x<=B/\B<=1099511627776)/\∀r,0<=r->r<=bd bc->K (.ret (.d (.int .i64 r))) ⟨[],[],0⟩
 | _,_=>False
def Zn3 {α:Type} (enc:Pl->α->List D) (sz:α->Nat) (bd:Int->Int) (m:Nat):Zn:=fun args σ K=>match args,σ with
 | [.d (.sl r1),.d (.int .i64 bc)],⟨[],[],0⟩=>∃pl l B,r1=l.map (enc pl)/\((0<=bc/\bc<m)/\m<=1000000/\szS sz l<=B/\B<=1099511627776)/\∀r,0<=r->r<=bd bc->K (.ret (.d (.int .i64 r))) ⟨[],[],0⟩
 | _,_=>False
def bd2 (m:Int):Int:=2 * m+1
def ZBQ {m:Nat}:OKw w0 nG [(10,spB (ZzR ZF szE bd2) m)] 10 (ZzR ZF szE bd2 m):=by
 refine pwo Tryz.func10 fun args σ K h=>?_
 unfold ZzR at h
 split at h
 ·obtain ⟨pl,⟨a1,a2,a3,a4,a5⟩,B,rfl,⟨⟨hm0,qb⟩,hm2,hz,hB⟩,h⟩:=h
  rename_i bc
  simp only [szE] at hz;have jv:(Zf pl a4).length=a4.length:=by rw [Zb,Td]
  have hsz:=Y1 a4;unfold bd2 at h
  refine pwv [(3,⟨[6,5],[1,2],fun vs σ=>∃(i:Nat) (nn:Int),vs=[.d (.int .i64 i),.d (.int .i64 nn)]/\σ=⟨[.cells 36 ((ZF pl (.mk a1 a2 a3 a4 a5)).map .d)],[],0⟩/\i<=a4.length/\1<=nn/\nn<=2 * bc+1,fun vs _=>match vs with | [.d (.int _ i),_]=>((a4.length:Nat) - i:Int).toNat | _=>0⟩)] 0 false ?_
  (repeat (first | (refine oiO ?_;conv=>whnf) | (refine ⟨_,oM,ca,?_⟩;conv=>whnf)))
  refine ⟨⟨0,_,rfl,rfl,oM,oM,oM⟩,?_⟩;intro vs σ hI
  obtain ⟨i,nn,rfl,rfl,hi,dq,gc⟩:=hI;(conv=>whnf);refine ZFU (fun ab=>?_) (fun ab=>?_);rotate_left
  ·conv=>whnf
   exact h _ oM oM
  have ab:i<a4.length:=lzI jv ab;(conv=>whnf);refine ZFU (fun uo=>?_) (fun uo=>?_);rotate_left
  ·conv=>whnf
   exact h _ oM oM
  conv=>whnf
  obtain ⟨eA,hA⟩:∃e,a4[i]=e:=⟨_,rfl⟩
  have hg:=Yv a4 i ab;obtain ⟨b1,b2,b3,b4,b5⟩:=eA;rw [hA] at hg;have ca:(Zf pl a4)[((i:Nat):Int).toNat]?=some (ZF pl (.mk b1 b2 b3 b4 b5)):=by rw [Zb];simp [ab,hA]
  (repeat (first | (refine oiO ?_;conv=>whnf) | (refine ⟨_,oM,ca,?_⟩;conv=>whnf)))
  refine ⟨oM,pl,.mk b1 b2 b3 b4 b5,B,rfl,⟨⟨oM,oM⟩,oM,oM,hB⟩,fun r ol yj=>wN ?_⟩;unfold bd2 at yj
  refine Zl ?_;refine Zl ?_;refine ⟨⟨i+1,_,rfl,rfl,oM,oM,oM⟩,?_⟩;show ((a4.length:Nat) - ((i:Int)+1)).toNat<((a4.length:Nat) - (i:Int)).toNat;omega
 exact h.elim
def cZE:∀m,PC w0 nG 10 (ZzR ZF szE bd2 m)
 | 0=>ZBQ ⟨ZC (Ze Tryz.func10 kR rfl),trivial⟩
 | m+1=>ZBQ ⟨ZD (sp:=ZzR ZF szE bd2) (cZE m),trivial⟩
def ZBR {m:Nat}:OKw w0 nG [(10,ZzR ZF szE bd2 m),(4,spB (Zn3 YN szL bd2) m)] 4 (Zn3 YN szL bd2 m):=by
 refine pwo Tryz.func4 fun args σ K h=>?_
 unfold Zn3 at h
 split at h
 ·obtain ⟨pl,l,B,rfl,⟨⟨hm0,qb⟩,hm2,hz,hB⟩,h⟩:=h
  rename_i bc
  have jv:(l.map (YN pl)).length=l.length:=Td ..;have hsz:=Zq szL l;unfold bd2 at h
  refine pwv [(3,⟨[6,5],[0,1],fun vs σ=>∃(i:Nat) (nn:Int),vs=[.d (.int .i64 i),.d (.int .i64 nn)]/\σ=⟨[],[],0⟩/\i<=l.length/\0<=nn/\nn<=2 * bc+1,fun vs _=>match vs with | [.d (.int _ i),_]=>((l.length:Nat) - i:Int).toNat | _=>0⟩),(7,⟨[7,5],[0,1,6],fun vs σ=>∃(i:Nat) (nn:Int),vs=[.d (.int .i64 i),.d (.int .i64 nn)]/\σ=⟨[],[],0⟩/\i<=B/\1<=nn/\nn<=2 * bc+1,fun vs _=>match vs with | [.d (.int _ i),_]=>((B:Nat) - i:Int).toNat | _=>0⟩)] 0 false ?_;refine ⟨⟨0,0,rfl,rfl,oM,oM,oM⟩,?_⟩;intro vs σ hI
  obtain ⟨i,nn,rfl,rfl,hi,dq,gc⟩:=hI;(conv=>whnf);refine ZFU (fun ab=>?_) (fun ab=>?_);rotate_left
  ·conv=>whnf
   exact h _ oM oM
  have ab:i<l.length:=lzI jv ab;(conv=>whnf);refine ZFU (fun uo=>?_) (fun uo=>?_);rotate_left
  ·conv=>whnf
   exact h _ oM oM
  conv=>whnf
  obtain ⟨eA,hA⟩:∃e,l[i]=e:=⟨_,rfl⟩
  have hg:=Zz szL l i ab;obtain ⟨b1,b2,ar,b4,b5⟩:=eA;rw [hA] at hg;simp only [szL,Wu] at hg;have ca:(l.map (YN pl))[((i:Nat):Int).toNat]?=some (YN pl (.mk b1 b2 ar b4 b5)):=by simp [ab,hA]
  have z7:(Zf pl ar).length=ar.length:=by rw [Zb,Td]
  have hs4:=Zq szE ar
  (repeat (first | (refine oiO ?_;conv=>whnf) | (refine ⟨_,oM,ca,?_⟩;conv=>whnf)))
  refine ⟨⟨0,_,rfl,rfl,oM,oM,oM⟩,?_⟩;intro vs' σ' hI'
  obtain ⟨j,n2,rfl,rfl,hj,af0,af1⟩:=hI';(conv=>whnf)
  (repeat (first | (refine oiO ?_;conv=>whnf) | (refine ⟨_,oM,ca,?_⟩;conv=>whnf)))
  refine ZFU (fun nf=>?_) (fun nf=>?_);rotate_left
  ·exact mq39
  have nf:j<ar.length:=lzI z7 nf;(conv=>whnf);refine ZFU (fun zu=>?_) (fun zu=>?_);rotate_left
  ·exact mq39
  conv=>whnf
  obtain ⟨eC,hC⟩:∃e,ar[j]=e:=⟨_,rfl⟩
  have hgc:=Zz szE ar j nf;obtain ⟨c1,c2,c3,c4,c5⟩:=eC;rw [hC] at hgc;have dy:(Zf pl ar)[((j:Nat):Int).toNat]?=some (ZF pl (.mk c1 c2 c3 c4 c5)):=by rw [Zb];simp [nf,hC]
  (repeat (first | (refine ⟨_,oM,ca,?_⟩;conv=>whnf) | (refine ⟨_,oM,dy,?_⟩;conv=>whnf) | (refine oiO ?_;conv=>whnf)))
  refine ⟨pl,.mk c1 c2 c3 c4 c5,B,rfl,⟨⟨oM,oM⟩,oM,oM,hB⟩,fun r ol yj=>wN ?_⟩;unfold bd2 at yj
  refine Zl ?_;refine Zl ?_;refine ⟨⟨j+1,_,rfl,rfl,oM,oM,oM⟩,?_⟩;show ((B:Nat) - ((j:Int)+1)).toNat<((B:Nat) - (j:Int)).toNat;omega
 exact h.elim
def cZL:∀m,PC w0 nG 4 (Zn3 YN szL bd2 m)
 | 0=>ZBR ⟨cZE 0,ZC (Ze Tryz.func4 kR rfl),trivial⟩
 | m+1=>ZBR ⟨cZE _,ZD (sp:=Zn3 YN szL bd2) (cZL m),trivial⟩
structure Pr where
 types:List Ty
 rels:List Re
 rules:List Ru
def ZqR (pl:Pl) (p:Pr):List D:=[.sl (p.types.map (Zw pl)),.sl (p.rels.map (ZQ pl)),.sl (p.rules.map (ZW pl))]
def Zn4 (p:Pr):Nat:=1+szS ZAD p.types+szS ZAE p.rels+szS ZhE p.rules
def mvM {α:Type} (f:α->MV) (m:List (Bs×α)):List (Bs×MV):=m.map fun x=>(x.1,f x.2)
def mvI (n:Int):MV:=.one (.int .i64 n)
def mvB (b:Bool):MV:=.one (.bool b)
def mvC (c:Int×Int):MV:=.agg [.int .i64 c.1,.int .i64 c.2]
def ZJ {α:Type} {f:α->MV} {k:Bs}:∀m:List (Bs×α),lkM k (mvM f m)=(lkM k m).map f
 | []=>rfl
 | (x,v)::l=>by
  have ih:=ZJ (f:=f) (k:=k) l;simp only [mvM,TF,lkM] at ih |-
  cases decide (k=x) with
  | true=>rfl
  | false=>exact ih
def XR {α:Type} {f:α->MV} {k:Bs} {v:α}:∀m:List (Bs×α),Z6 k (f v) (mvM f m)=mvM f (Z6 k v m)
 | []=>rfl
 | (x,u)::l=>by
  have ih:=XR (f:=f) (k:=k) (v:=v) l;simp only [mvM,TF,Z6] at ih |-
  cases decide (k=x) with
  | true=>rfl
  | false=>simp only [ih];rfl
def ZkB {α:Type} {f:α->MV} (m:List (Bs×α)):(mvM f m).length=m.length:=Td ..
def JJ {α:Type} {k s:Bs} {v:α}:∀m:List (Bs×α),lkM s (Z6 k v m)=if s=k then some v else lkM s m
 | []=>by simp only [Z6,lkM];by_cases h:s=k <;> simp [h]
 | (x,u)::l=>by
  have ih:=JJ (k:=k) (s:=s) (v:=v) l;simp only [Z6]
  by_cases h:k=x
  ·subst h;rw [T3 rfl];simp only [lkM]
   by_cases g:s=k <;> simp [g]
  rw [decide_eq_false h];simp only [lkM,ih]
  by_cases g:s=x
  ·subst g;rw [T3 rfl];simp only;rw [Tf (fun e=>h e.symm)]
  rw [decide_eq_false g]
def putM_len {α:Type} {k:Bs} {v:α}:∀{m:List (Bs×α)},lkM k m=none->(Z6 k v m).length=m.length+1
 | [],_=>rfl
 | (x,u)::l,h=>by
  simp only [lkM] at h;simp only [Z6]
  cases hd:decide (k=x) with
  | true=>rw [hd] at h;cases h
  | false=>rw [hd] at h;simp only [Te,putM_len h]
def ZtI:Bs:=[110,117,109,98,101,114]
def ZCX:Bs:=[115,121,109,98,111,108]
def ZiJ (s:Bs):Bool:=decide (s=ZtI) || decide (s=ZCX)
def Wa:Nat->List Bs->List (Bs×Int)->List (Bs×Int)
 | _,[],m=>m
 | i,s::l,m=>Wa (i+1) l (if (lkM s m).isNone=true then Z6 s (i:Int) m else m)
def YU (l:List Bs):List (Bs×Int):=Wa 0 l []
def ZtJ (p:Pr):List (Bs×Int):=YU (p.types.map (·.name))
def JK (p:Pr):List (Bs×Int):=YU (p.rels.map (·.name))
def Yw (i:Nat):Nat->List Ca->List (Bs×(Int×Int))->List (Bs×(Int×Int))
 | _,[],m=>m
 | k,c::l,m=>Yw i (k+1) l (if (lkM c.name m).isNone=true then Z6 c.name ((i:Int),(k:Int)) m else m)
def JL:Nat->List Ty->List (Bs×(Int×Int))->List (Bs×(Int×Int))
 | _,[],m=>m
 | i,t::l,m=>JL (i+1) l (Yw i 0 t.cases m)
def Y9 (p:Pr):List (Bs×(Int×Int)):=JL 0 p.types []
def Wb:List Ty->List (Bs×Int)->List (Bs×Int)
 | [],m=>m
 | t::l,m=>Wb l (if t.kind≠1/\(lkM t.name m).isNone=true then Z6 t.name (m.length:Int) m else m)
def JM (p:Pr):List (Bs×Int):=Wb p.types [(ZtI,0),(ZCX,1)]
def XS (p:Pr) (s:Bs):Option Bs:=match lkM s (ZtJ p) with
 | none=>none
 | some i=>if ZiJ s=true then none else match p.types[i.toNat]? with
  | some t=>if t.kind=1/\t.base≠[] then some t.base else none
  | none=>none
def Vi (p:Pr) (s:Bs):Bool:=(lkM s (ZtJ p)).isSome || ZiJ s
def ZdM {s:Bs}:∀(l:List Bs) (i:Nat) (m:List (Bs×Int)) (n:Int),lkM s (Wa i l m)=some n->lkM s m=some n\/∃k:Nat,n=i+k/\l[k]?=some s
 | [],i,m,n,h=>.inl h
 | x::l,i,m,n,h=>by
  rcases ZdM l (i+1) _ n h with h | ⟨k,h1,h2⟩
  ·split at h
   ·rw [JJ] at h;split at h
    ·rename_i e;cases h;exact .inr ⟨0,oM,by simp [e]⟩
    exact .inl h
   exact .inl h
  exact .inr ⟨k+1,oM,by simpa using h2⟩
def Zfy {s:Bs} {l:List Bs} {n:Int} (h:lkM s (YU l)=some n):∃k:Nat,n=k/\l[k]?=some s:=by
 rcases ZdM l 0 [] n h with h | ⟨k,h1,h2⟩
 ·cases h
 exact ⟨k,oM,h2⟩
def ZqS {p:Pr} {s:Bs} {n:Int} (h:lkM s (ZtJ p)=some n):∃(k:Nat) (t:Ty),n=k/\p.types[k]?=some t/\t.name=s:=by
 exact mq155
abbrev ZiK (pl:Pl) (p:Pr) (b:Nat):List PV:=[.mp b,.mp (b+1),.mp (b+2),.mp (b+3),.d (.sl (p.types.map (Zw pl))),.d (.sl (p.rels.map (ZQ pl))),.d (.sl (p.rules.map (ZW pl)))]
abbrev ZiL (p:Pr):List Box:=[.dmap (mvM mvI (ZtJ p)),.dmap (mvM mvI (JK p)),.dmap (mvM mvI (JM p)),.dmap (mvM mvC (Y9 p))]
abbrev ZeA (pl:Pl) (p:Pr):List Box:=.cells 143 (ZiK pl p 1)::ZiL p
def BP (p:Pr):Prop:=Zn4 p<=1073741824
def BP.len {p:Pr} (h:BP p):p.types.length<=1073741824/\p.rels.length<=1073741824/\p.rules.length<=1073741824:=by
 unfold BP Zn4 at h
 have h1:=Zq ZAD p.types;have h2:=Zq ZAE p.rels;have h3:=Zq ZhE p.rules;omega
def Zbf {α:Type} {f:α->Nat} {l:List α} {x:α} (h:x∈l):f x<szS f l:=by
 obtain ⟨i,hi,rfl⟩:=Sg h;exact Zz f l i hi
def BP.ty {p:Pr} (h:BP p) {t:Ty} (ht:t∈p.types):t.fields.length<=1073741824/\t.cases.length<=1073741824/\∀c∈t.cases,c.fields.length<=1073741824:=by
 unfold BP Zn4 at h
 have h1:=Zbf (f:=ZAD) ht;have e1:ZAD t=1+szS sz0 t.fields+szS ZAC t.cases:=rfl;have h2:=Zq sz0 t.fields;have h3:=Zq ZAC t.cases;refine ⟨oM,oM,fun c hc=>?_⟩;have h4:=Zbf (f:=ZAC) hc;have e2:ZAC c=1+szS sz0 c.fields:=rfl;have h5:=Zq sz0 c.fields;omega
def BP.re {p:Pr} (h:BP p) {d:Re} (hd:d∈p.rels):d.fields.length<=1073741824:=by
 unfold BP Zn4 at h
 have h1:=Zbf (f:=ZAE) hd;have e1:ZAE d=1+szS sz0 d.fields:=rfl;have h2:=Zq sz0 d.fields;omega
def ZgV (p:Pr) (b:Bs):Nat->Bs->Bool
 | 0,_=>false
 | n+1,a=>if a=b then true else match XS p a with
  | none=>false
  | some c=>ZgV p b n c
def WM (p:Pr) (a b:Bs):Bool:=ZgV p b (p.types.length+1) a
def Zbg (p:Pr):Nat->Bs->Option Bs
 | 0,_=>none
 | n+1,a=>match XS p a with
  | none=>some a
  | some c=>Zbg p n c
def Zvc (p:Pr) (a:Bs):Option Bs:=Zbg p (p.types.length+1) a
def Ux (p:Pr):Nat->Bs->Nat
 | 0,_=>0
 | n+1,a=>match XS p a with
  | none=>0
  | some c=>Ux p n c+1
def Xo (p:Pr) (a:Bs):Int:=(lkM ((Zvc p a).getD []) (JM p)).getD 0
def ZX (p:Pr) (l:List Fi):List Int:=l.map fun f=>Xo p f.typ
def ZBS (p:Pr):Prop:=∀s,(Zvc p s).isSome=true
def Zfz {p:Pr}:∀{n m:Nat} {a r:Bs},Zbg p n a=some r->n<=m->Zbg p m a=some r
 | 0,_,_,_,h,_=>by cases h
 | n+1,0,_,_,_,h=>oM
 | n+1,m+1,a,r,h,aj=>by
  simp only [Zbg] at h |-;split at h
  ·exact h
  exact Zfz h oM
def ZtK {p:Pr} {n:Nat} {a c r:Bs} (hb:XS p a=some c) (h:Zbg p n a=some r):∃m,n=m+1/\Zbg p m c=some r:=by
 cases n with
 | zero=>cases h
 | succ m=>refine ⟨m,rfl,?_⟩;simpa only [Zbg,hb] using h
def ZtL {p:Pr} {a c r:Bs} (hb:XS p a=some c) (h:Zvc p a=some r):Zvc p c=some r:=by
 obtain ⟨m,h1,h2⟩:=ZtK hb h;exact Zfz h2 oM
def ZtM {p:Pr} {a:Bs} (hb:XS p a=none):Zvc p a=some a:=by simp only [Zvc,Zbg,hb]
def Zl7 {p:Pr}:∀{n:Nat} {a c r:Bs},Zbg p n a=some r->XS p a=some c->∀m,n<=m->Ux p m c<Ux p m a
 | 0,_,_,_,h,_,_,_=>by cases h
 | n+1,a,c,r,h,hb,m,hm=>by
  obtain ⟨k,rfl⟩:∃k,m=k+1:=⟨m - 1,oM⟩
  simp only [Zbg,hb] at h;have e:Ux p (k+1) a=Ux p k c+1:=by simp only [Ux,hb]
  rw [e]
  cases hc:XS p c with
  | none=>simp only [Ux,hc];omega
  | some d =>
  have e2:Ux p (k+1) c=Ux p k d+1:=by simp only [Ux,hc]
  rw [e2];have:=Zl7 h hc k oM;omega
def Zap (body:List PV->Pl->Pr->(PEnd->Prop)->Prop):Zn:=fun args σ K=>match args,σ with
 | .ptr 0 0::rest,⟨bx,[],0⟩=>∃pl p,bx=ZeA pl p/\BP p/\body rest pl p fun pe=>K pe ⟨bx,[],0⟩
 | _,_=>False
def ZkC:Zn:=fun args σ K=>match args,σ with
 | [.d (.str s)],⟨[],[],0⟩=>∀b,ZiJ s=b->K (.ret (.d (.bool b))) ⟨[],[],0⟩
 | _,_=>False
def Zl8:PC w0 nG 139 ZkC:=by
 refine pwe Tryz.func139 fun args σ K h=>?_
 unfold ZkC at h
 split at h
 ·rename_i s
  refine pwv [] 0 false ?_;refine ZFU (fun h1=>wN ?_) (fun h1=>wN ?_)
  ·exact h _ (by simp [ZiJ,show s=ZtI from h1])
  exact h _ (by simp [ZiJ,show ¬s=ZtI from h1];rfl)
 exact h.elim
def ZfA:Zn:=Zap fun rest pl p K=>match rest with
 | [.d (.str s)]=>∀x,XS p s=x->K (.ret (.tuple [.d (.str (x.getD [])),.d (.bool x.isSome)]))
 | _=>False
def ZqT:Tbl:=[(139,ZkC)]
def ZyH (ht:TO w0 nG ZqT):PC w0 nG 86 ZfA:=by
 refine pwt ht Tryz.func86 fun args σ K h=>?_
 unfold ZfA Zap at h
 split at h
 ·obtain ⟨pl,p,rfl,hp,h⟩:=h;split at h
  ·rename_i s
   refine pwv [] 5 false ?_;refine ZF3 (fun v hv=>?_) (fun hv=>?_);rotate_left
   ·rw [ZJ,Option.map_eq_none_iff] at hv;(conv=>whnf);exact h none (by simp only [XS,hv])
   rw [ZJ] at hv;obtain ⟨n,hn,rfl⟩:=TE.1 hv;obtain ⟨k,⟨t1,t2,t3,t4,t5,t6⟩,rfl,ht,ak⟩:=ZqS hn;have hk:p.types[(k:Int).toNat]?=some ⟨t1,t2,t3,t4,t5,t6⟩:=by rw [Tj];exact ht
   have hr:(p.types.map (Zw pl))[(k:Int).toNat]?=some (Zw pl ⟨t1,t2,t3,t4,t5,t6⟩):=by rw [Th,hk];rfl
   conv=>whnf
   intro b hb
   cases b with
   | true =>
    conv=>whnf
    exact h none (by simp only [XS,hn,hb,if_true])
   | false =>
   conv=>whnf
   refine ⟨_,oM,hr,wN ?_⟩;refine ZFX (fun hc=>wN ?_) (fun hc=>wN ?_)
   ·exact h none (by simp only [XS,hn,hb,hk];rw [Tf sM,Tf];intro g;exact hc (by simp only [g.1];rfl))
   refine ⟨_,oM,hr,wN ?_⟩;refine ⟨_,oM,hr,wN ?_⟩;have cz:t1=1:=by have hc:(t1:Int)=1:=hc;omega
   cases t3 with
   | nil=>exact h none (by simp only [XS,hn,hb,hk];rw [Tf sM,Tf sM])
   | cons x t3=>exact h (some (x::t3)) (by simp only [XS,hn,hb,hk];rw [Tf sM,Tk ⟨cz,sM⟩])
  exact h.elim
 exact h.elim
def Zaq:Zn:=Zap fun rest pl p K=>match rest with
 | [.d (.str s)]=>∀b,Vi p s=b->K (.ret (.d (.bool b)))
 | _=>False
def ZqU:OKw w0 nG ZqT 85 Zaq:=by
 refine pwo Tryz.func85 fun args σ K h=>?_
 unfold Zaq Zap at h
 split at h
 ·obtain ⟨pl,p,rfl,hp,h⟩:=h;split at h
  ·rename_i s
   refine pwv [] 5 false ?_;refine ZF3 (fun v hv=>?_) (fun hv=>wN ?_)
   ·rw [ZJ] at hv;obtain ⟨n,hn,rfl⟩:=TE.1 hv;(conv=>whnf);exact h true (by simp [Vi,hn])
   rw [ZJ,Option.map_eq_none_iff] at hv;intro b hb
   conv=>whnf
   exact h b (by simp [Vi,hv,hb])
  exact h.elim
 exact h.elim
def VM:Zn:=Zap fun rest pl p K=>match rest with
 | [.d (.str s)]=>ZBS p/\∀n,Xo p s=n->K (.ret (.d (.int .i64 n)))
 | _=>False
def Zl9:Tbl:=[(86,ZfA)]
def ZqV:OKw w0 nG Zl9 140 VM:=by
 refine pwo Tryz.func140 fun args σ K h=>?_
 unfold VM Zap at h
 split at h
 ·obtain ⟨pl,p,rfl,hp,h⟩:=h;split at h
  ·rename_i s
   obtain ⟨he,h⟩:=h;obtain ⟨r,hr⟩:=Sw.1 (he s);refine pwv [(1,⟨[1],[0],fun vs σ=>∃a,vs=[.d (.str a)]/\σ=⟨ZeA pl p,[],0⟩/\Zvc p a=some r,fun vs _=>match vs with | [.d (.str a)]=>Ux p (p.types.length+1) a | _=>0⟩)] 5 false ?_;refine ⟨⟨s,rfl,rfl,hr⟩,?_⟩
   rintro vs σ1 ⟨a,rfl,rfl,ha⟩
   conv=>whnf
   refine ⟨pl,p,rfl,hp,fun x hx=>?_⟩
   cases x with
   | none =>
    have mz:r=a:=by rw [ZtM hx] at ha;exact (Option.some.inj ha).symm
    subst mz;(conv=>whnf);refine ZF3 (fun v hv=>?_) (fun hv=>wN ?_)
    ·rw [ZJ] at hv;obtain ⟨n,hn,rfl⟩:=TE.1 hv;(conv=>whnf);exact h n (by simp [Xo,hr,hn])
    rw [ZJ,Option.map_eq_none_iff] at hv;exact h 0 (by simp [Xo,hr,hv])
   | some c =>
   conv=>whnf
   exact ⟨⟨c,rfl,rfl,ZtL hx ha⟩,Zl7 ha hx _ (Tu _)⟩
  exact h.elim
 exact h.elim
def ZgW:Zn:=Zap fun rest pl p K=>match rest with
 | [.d (.str a),.d (.str b)]=>∀x,WM p a b=x->K (.ret (.d (.bool x)))
 | _=>False
def ZqW:OKw w0 nG Zl9 149 ZgW:=by
 refine pwo Tryz.func149 fun args σ K h=>?_
 unfold ZgW Zap at h
 split at h
 ·obtain ⟨pl,p,rfl,hp,h⟩:=h;split at h
  ·rename_i s b
   have aa:=hp.len.1;have hl:(p.types.map (Zw pl)).length=p.types.length:=Td ..;refine pwu [(2,⟨[1,16],[0,2,15],fun vs σ=>∃a j,vs=[.d (.str a),.d (.int .i64 j)]/\σ=⟨ZeA pl p,[],0⟩/\(0<=j/\j<=p.types.length+1)/\ZgV p b (p.types.length+1 - j.toNat) a=WM p s b,
    fun vs _=>match vs with | [_,.d (.int _ j)]=>((p.types.length:Int)+1 - j).toNat | _=>0⟩)] 5 false ?_
   conv=>whnf
   refine Zl ?_;refine ⟨⟨s,0,rfl,rfl,⟨oM,oM⟩,rfl⟩,?_⟩
   rintro vs σ1 ⟨a,j,rfl,rfl,⟨si,hj1⟩,ha⟩
   conv=>whnf
   refine ZFU (fun hc=>?_) (fun hc=>?_);rotate_left
   ·conv=>whnf
    rw [show p.types.length+1 - j.toNat=0 by omega] at ha;exact h false (by rw [<- ha];rfl)
   obtain ⟨q,hq⟩:∃q,p.types.length+1 - j.toNat=q+1:=⟨p.types.length - j.toNat,oM⟩
   rw [hq] at ha;simp only [ZgV] at ha;(conv=>whnf);refine ZFU (fun vi=>wN ?_) (fun vi=>wN ?_)
   ·rw [Tk vi] at ha;exact h true ha.symm
   rw [Tf vi] at ha;refine ⟨pl,p,rfl,hp,fun x hx=>?_⟩;rw [hx] at ha
   cases x with
   | none =>
    conv=>whnf
    exact h false ha.symm
   | some c =>
   conv=>whnf
   refine Zl ?_;refine ⟨⟨c,j+1,rfl,rfl,⟨oM,oM⟩,?_⟩,?_⟩
   ·rw [show p.types.length+1 - (j+1).toNat=q by omega];exact ha
   show ((p.types.length:Int)+1 - (j+1)).toNat<((p.types.length:Int)+1 - j).toNat;omega
  exact h.elim
 exact h.elim
abbrev ZqX (pl:Pl) (p:Pr):List Box:=.cells 73 [.ptr 1 0]::.cells 143 (ZiK pl p 2)::ZiL p
def Zn5 {α:Type} (enc:α->List D) (cond:α->Prop) (q:Pr->α->Bool):Zn:=fun args σ K=>match args,σ with
 | [.agg c,.ptr 0 0],⟨bx,[],0⟩=>∃pl p x,bx=ZqX pl p/\c=(enc x).map .d/\(BP p/\cond x)/\∀b,q p x=b->K (.ret (.d (.bool b))) ⟨bx,[],0⟩
 | _,_=>False
def ZgX {α:Type} (q:α->Bool):Nat->List α->Int
 | _,[]=>-1
 | i,x::l=>if q x=true then i else ZgX q (i+1) l
def ZdN {α:Type} {q:α->Bool}:∀(l:List α) (i:Nat),(0<=ZgX q i l)↔l.any q=true
 | [],i=>by simp [ZgX]
 | x::l,i=>by
  simp only [ZgX,List.any_cons]
  cases hq:q x with
  | true=>simp
  | false=>simpa using ZdN l (i+1)
def ZfB {α:Type} (clo:FuncId) (enc:α->List D) (cond:α->Prop) (q:Pr->α->Bool):Zn:=fun args σ K=>match args,σ with
 | [.d (.sl rows),.func g [] [.ptr 0 0]],⟨bx,[],0⟩=>∃pl p l,bx=ZqX pl p/\rows=l.map enc/\(g=clo/\BP p/\l.length<=1073741824/\∀x∈l,cond x)/\∀i,ZgX (q p) 0 l=i->K (.ret (.d (.int .i64 i))) ⟨bx,[],0⟩
 | _,_=>False
def ZfC {α:Type} (clo:FuncId) (enc:α->List D) (cond:α->Prop) (q:Pr->α->Bool):Zn:=fun args σ K=>match args,σ with
 | [.d (.sl rows),.func g [] [.ptr 0 0]],⟨bx,[],0⟩=>∃pl p,∃l:List α,bx=ZqX pl p/\rows=l.map enc/\(g=clo/\BP p/\l.length<=1073741824/\∀x∈l,cond x)/\∀b,l.any (q p)=b->K (.ret (.d (.bool b))) ⟨bx,[],0⟩
 | _,_=>False
def Vj (p:Pr) (l:List Fi):Bool:=!(l.any fun f=>!Vi p f.typ)
def Zbh:{α:Type}->α->Prop:=fun _=>True
def ZfD (c:Ca):Prop:=c.fields.length<=1073741824
def ZtO:OKw w0 nG [(85,Zaq)] 138 (Zn5 Zo Zbh (fun p (f:Fi)=>!Vi p f.typ)):=by
 refine pwo Tryz.func138 fun args σ K h=>?_
 unfold Zn5 at h
 split at h
 ·obtain ⟨pl,p,⟨f1,f2⟩,rfl,rfl,⟨hp,uq⟩,h⟩:=h;refine pwv [] 6 false ?_;refine ⟨pl,p,rfl,hp,fun b hb=>wN ?_⟩;exact h _ (by simp only [hb])
 exact h.elim
def ZtQ:OKw w0 nG [(138,Zn5 Zo Zbh (fun p (f:Fi)=>!Vi p f.typ))] 205 (ZfB 138 Zo Zbh (fun p (f:Fi)=>!Vi p f.typ)):=by
 refine pwo Tryz.func205 fun args σ K h=>?_
 unfold ZfB at h
 split at h
 ·obtain ⟨pl,p,l,rfl,rfl,⟨rfl,hp,hlen,lb⟩,h⟩:=h;have hl:(l.map Zo).length=l.length:=Td ..;refine pwu [(2,⟨[8],[0,1,7],fun vs σ=>∃j:Nat,vs=[.d (.int .i64 j)]/\σ=⟨ZqX pl p,[],0⟩/\j<=l.length/\ZgX ((fun p (f:Fi)=>!Vi p f.typ) p) j (l.drop j)=ZgX ((fun p (f:Fi)=>!Vi p f.typ) p) 0 l,
   mu1 l.length⟩)] 6 false ?_
  conv=>whnf
  refine ⟨⟨0,rfl,rfl,oM,rfl⟩,?_⟩
  rintro vs σ1 ⟨j,rfl,rfl,hj,ha⟩
  conv=>whnf
  refine ZFU (fun hc=>?_) (fun hc=>?_);rotate_left
  ·conv=>whnf
   rw [Tq oM] at ha;exact h (-1) ha.symm
  have aa:j<l.length:=oM;rw [Tm aa] at ha;have hr:(l.map Zo)[(j:Int).toNat]?=some (Zo l[j]):=by rw [Tj,Th,Ta aa];rfl
  have uq:=lb _ (TC aa);generalize l[j]=x at ha hr uq;obtain ⟨f1,f2⟩:=x;exact mq201
 exact h.elim
def ZtS:OKw w0 nG [(205,ZfB 138 Zo Zbh (fun p (f:Fi)=>!Vi p f.typ))] 137 (ZfC 138 Zo Zbh (fun p (f:Fi)=>!Vi p f.typ)):=by
 refine pwo Tryz.func137 fun args σ K h=>?_
 exact mq78
def ZdO:Zn:=Zap fun rest pl p K=>match rest with
 | [.d (.sl rows)]=>∃l:List Fi,rows=l.map Zo/\l.length<=1073741824/\∀b,Vj p l=b->K (.ret (.d (.bool b)))
 | _=>False
def ZtU:OKw w0 nG [(137,ZfC 138 Zo Zbh (fun p (f:Fi)=>!Vi p f.typ))] 84 ZdO:=by
 refine pwo Tryz.func84 fun args σ K h=>?_
 unfold ZdO Zap at h
 split at h
 ·obtain ⟨pl,p,rfl,hp,h⟩:=h;split at h
  ·obtain ⟨l,rfl,hlen,h⟩:=h;refine pwv [] 5 false ?_;refine ⟨pl,p,l,rfl,rfl,⟨rfl,hp,hlen,fun _ _=>trivial⟩,fun b hb=>wN ?_⟩;exact h _ (by simp only [Vj,hb])
  exact h.elim
 exact h.elim
def ZtW:OKw w0 nG [(84,ZdO)] 83 (Zn5 ZB ZfD (fun p (c:Ca)=>!Vj p c.fields)):=by
 refine pwo Tryz.func83 fun args σ K h=>?_
 unfold Zn5 at h
 split at h
 ·obtain ⟨pl,p,⟨c1,c2⟩,rfl,rfl,⟨hp,uq⟩,h⟩:=h;refine pwv [] 6 false ?_;refine ⟨pl,p,rfl,hp,c2,rfl,uq,fun b hb=>wN ?_⟩;exact h _ (by simp only [hb])
 exact h.elim
def ZtY:OKw w0 nG [(83,Zn5 ZB ZfD (fun p (c:Ca)=>!Vj p c.fields))] 136 (ZfB 83 ZB ZfD (fun p (c:Ca)=>!Vj p c.fields)):=by
 refine pwo Tryz.func136 fun args σ K h=>?_
 unfold ZfB at h
 split at h
 ·obtain ⟨pl,p,l,rfl,rfl,⟨rfl,hp,hlen,lb⟩,h⟩:=h;have hl:(l.map ZB).length=l.length:=Td ..;refine pwu [(2,⟨[8],[0,1,7],fun vs σ=>∃j:Nat,vs=[.d (.int .i64 j)]/\σ=⟨ZqX pl p,[],0⟩/\j<=l.length/\ZgX ((fun p (c:Ca)=>!Vj p c.fields) p) j (l.drop j)=ZgX ((fun p (c:Ca)=>!Vj p c.fields) p) 0 l,
   mu1 l.length⟩)] 6 false ?_
  conv=>whnf
  refine ⟨⟨0,rfl,rfl,oM,rfl⟩,?_⟩
  rintro vs σ1 ⟨j,rfl,rfl,hj,ha⟩
  conv=>whnf
  refine ZFU (fun hc=>?_) (fun hc=>?_);rotate_left
  ·conv=>whnf
   rw [Tq oM] at ha;exact h (-1) ha.symm
  have aa:j<l.length:=oM;rw [Tm aa] at ha;have hr:(l.map ZB)[(j:Int).toNat]?=some (ZB l[j]):=by rw [Tj,Th,Ta aa];rfl
  have uq:=lb _ (TC aa);generalize l[j]=x at ha hr uq;obtain ⟨c1,c2⟩:=x;exact mq201
 exact h.elim
def Zt0:OKw w0 nG [(136,ZfB 83 ZB ZfD (fun p (c:Ca)=>!Vj p c.fields))] 82 (ZfC 83 ZB ZfD (fun p (c:Ca)=>!Vj p c.fields)):=by
 refine pwo Tryz.func82 fun args σ K h=>?_
 exact mq78
def Vk (l:List Int):List (List D):=l.map fun n=>[.int .i64 n]
def Zar:Zn:=Zap fun rest pl p K=>match rest with
 | [.d (.sl rows)]=>∃l:List Fi,rows=l.map Zo/\(ZBS p/\l.length<=1073741824)/\K (.ret (.d (.sl (Vk (ZX p l)))))
 | _=>False
def Zn7 (ht:TO w0 nG [(140,VM)]):PC w0 nG 206 Zar:=by
 refine pwt ht Tryz.func206 fun args σ K h=>?_
 unfold Zar Zap at h
 split at h
 ·obtain ⟨pl,p,rfl,hp,h⟩:=h;split at h
  ·obtain ⟨l,rfl,⟨he,hlen⟩,h⟩:=h;have hl:(l.map Zo).length=l.length:=Td ..;refine pwu [(3,⟨[5,10],[0,8,9],fun vs σ=>∃j:Nat,vs=[.sl 0 3 (Vk (ZX p (l.take j))),.d (.int .i64 j)]/\σ=⟨ZeA pl p,[0],1⟩/\j<=l.length,
    mu2 l.length⟩)] 5 false ?_
   conv=>whnf
   refine ⟨⟨0,rfl,rfl,oM⟩,?_⟩
   rintro vs σ1 ⟨j,rfl,rfl,hj⟩
   conv=>whnf
   refine ZFU (fun hc=>?_) (fun hc=>?_);rotate_left
   ·conv=>whnf
    rw [List.take_of_length_le oM];exact h
   have aa:j<l.length:=oM;have ht:ZX p (l.take (j+1))=ZX p (l.take j)++[Xo p l[j].typ]:=by simp only [ZX,List.take_succ,Ta aa,Option.toList_some,Ss,TF,TQ]
   have hr:(l.map Zo)[(j:Int).toNat]?=some (Zo l[j]):=by rw [Tj,Th,Ta aa];rfl
   have hlr:(Vk (ZX p (l.take j))).length=j:=by simp [Vk,ZX];omega
   generalize l[j]=x at ht hr;obtain ⟨f1,f2⟩:=x;(conv=>whnf);refine ⟨_,oM,hr,wN ?_⟩;refine ⟨pl,p,rfl,hp,he,fun n hn=>wN ?_⟩;refine ⟨fun r hr=>by simp at hr;subst hr;rfl,?_,?_,?_⟩
   ·show ((Vk (ZX p (l.take j))).length+1) * 8<=2 ^ 47;omega
   ·show (Vk (ZX p (l.take j))).length+1<=2 ^ 47;omega
   conv=>whnf
   refine Zl ?_;refine ⟨⟨j+1,?_,rfl,oM⟩,?_⟩
   ·rw [ht,hn];simp only [Vk,Ss,TF,TQ];rfl
   show ((l.length:Int) - ((j:Int)+1)).toNat<((l.length:Int) - (j:Int)).toNat;omega
  exact h.elim
 exact h.elim
def VN {s:Bs}:∀(l:List Bs) (i:Nat) (m:List (Bs×Int)),Wa i (l++[s]) m=if (lkM s (Wa i l m)).isNone=true then Z6 s ((i:Int)+l.length) (Wa i l m) else Wa i l m
 | [],i,m=>by simp [Wa]
 | x::l,i,m=>by
  simp only [T5,Wa,VN l (i+1),Te];rw [show ((i+1:Nat):Int)+(l.length:Int)=(i:Int)+((l.length+1:Nat):Int) by omega]
  try rfl
def US {α:Type} (enc:Pl->α->List D) (nm:α->Bs):Zn:=fun args σ K=>match args,σ with
 | [.agg c],⟨[],[],0⟩=>∃pl x,c=(enc pl x).map .d/\K (.ret (.d (.str (nm x)))) ⟨[],[],0⟩
 | _,_=>False
def UT {α:Type} (clo:FuncId) (enc:Pl->α->List D) (nm:α->Bs):Zn:=fun args σ K=>match args,σ with
 | [.d (.sl rows),.func g [] []],⟨[],[],0⟩=>∃pl,∃l:List α,rows=l.map (enc pl)/\(g=clo/\l.length<=1073741824)/\K (.ret (.mp 0)) ⟨[.dmap (mvM mvI (YU (l.map nm)))],[],0⟩
 | _,_=>False
def ZkD:PC w0 nG 79 (US Zw (·.name)):=by
 refine pwe Tryz.func79 fun args σ K h=>?_
 exact mq128
def ZkF:OKw w0 nG [(79,US Zw (·.name))] 78 (UT 79 Zw (·.name)):=by
 refine pwo Tryz.func78 fun args σ K h=>?_
 unfold UT at h
 split at h
 ·obtain ⟨pl,l,rfl,⟨rfl,hlen⟩,h⟩:=h;have hl:(l.map (Zw pl)).length=l.length:=Td ..;refine pwu [(3,⟨[13],[1,5,11,12],fun vs σ=>∃j:Nat,vs=[.d (.int .i64 j)]/\σ=⟨[.dmap (mvM mvI (YU ((l.take j).map (·.name))))],[],0⟩/\j<=l.length,
   mu1 l.length⟩)] 1 false ?_
  conv=>whnf
  refine ⟨⟨0,rfl,rfl,oM⟩,?_⟩
  rintro vs σ1 ⟨j,rfl,rfl,hj⟩
  conv=>whnf
  refine ZFU (fun hc=>?_) (fun hc=>?_);rotate_left
  ·conv=>whnf
   rw [List.take_of_length_le oM];exact h
  have aa:j<l.length:=oM;have hs:YU ((l.take (j+1)).map (·.name))=if (lkM l[j].name (YU ((l.take j).map (·.name)))).isNone=true then Z6 l[j].name (j:Int) (YU ((l.take j).map (·.name))) else YU ((l.take j).map (·.name)):=by
   exact mq119
  have hr:(l.map (Zw pl))[(j:Int).toNat]?=some (Zw pl l[j]):=by rw [Tj,Th,Ta aa];rfl
  exact mq30
 exact h.elim
def ZkG:PC w0 nG 81 (US ZQ (·.name)):=by
 refine pwe Tryz.func81 fun args σ K h=>?_
 exact mq128
def ZkI:OKw w0 nG [(81,US ZQ (·.name))] 80 (UT 81 ZQ (·.name)):=by
 refine pwo Tryz.func80 fun args σ K h=>?_
 unfold UT at h
 split at h
 ·obtain ⟨pl,l,rfl,⟨rfl,hlen⟩,h⟩:=h;have hl:(l.map (ZQ pl)).length=l.length:=Td ..;refine pwu [(3,⟨[13],[1,5,11,12],fun vs σ=>∃j:Nat,vs=[.d (.int .i64 j)]/\σ=⟨[.dmap (mvM mvI (YU ((l.take j).map (·.name))))],[],0⟩/\j<=l.length,
   mu1 l.length⟩)] 1 false ?_
  conv=>whnf
  refine ⟨⟨0,rfl,rfl,oM⟩,?_⟩
  rintro vs σ1 ⟨j,rfl,rfl,hj⟩
  conv=>whnf
  refine ZFU (fun hc=>?_) (fun hc=>?_);rotate_left
  ·conv=>whnf
   rw [List.take_of_length_le oM];exact h
  have aa:j<l.length:=oM;have hs:YU ((l.take (j+1)).map (·.name))=if (lkM l[j].name (YU ((l.take j).map (·.name)))).isNone=true then Z6 l[j].name (j:Int) (YU ((l.take j).map (·.name))) else YU ((l.take j).map (·.name)):=by
   exact mq119
  have hr:(l.map (ZQ pl))[(j:Int).toNat]?=some (ZQ pl l[j]):=by rw [Tj,Th,Ta aa];rfl
  exact mq30
 exact h.elim
def ZbV {i:Nat} {c:Ca}:∀(l:List Ca) (k:Nat) (m:List (Bs×(Int×Int))),Yw i k (l++[c]) m=if (lkM c.name (Yw i k l m)).isNone=true then Z6 c.name ((i:Int),((k+l.length:Nat):Int)) (Yw i k l m) else Yw i k l m
 | [],k,m=>rfl
 | x::l,k,m=>by
  simp only [T5,Yw,ZbV l (k+1),Te];rw [show k+1+l.length=k+(l.length+1) by omega]
  try rfl
def ZbW {t:Ty}:∀(l:List Ty) (i:Nat) (m:List (Bs×(Int×Int))),JL i (l++[t]) m=Yw (i+l.length) 0 t.cases (JL i l m)
 | [],i,m=>rfl
 | x::l,i,m=>by
  simp only [T5,JL,ZbW l (i+1),Te];rw [show i+1+l.length=i+(l.length+1) by omega]
def Zas {t:Ty}:∀(l:List Ty) (m:List (Bs×Int)),Wb (l++[t]) m=if t.kind≠1/\(lkM t.name (Wb l m)).isNone=true then Z6 t.name ((Wb l m).length:Int) (Wb l m) else Wb l m
 | [],m=>rfl
 | x::l,m=>by simp only [T5,Wb,Zas l];rfl
abbrev ZqY (pl:Pl) (p:Pr):List PV:=[.d (.sl (p.types.map (Zw pl))),.d (.sl (p.rels.map (ZQ pl))),.d (.sl (p.rules.map (ZW pl)))]
abbrev ZqZ (pl:Pl) (p:Pr) (cs:List (Bs×(Int×Int))) (sh:List (Bs×Int)):List Box:=[.cells 44 (ZqY pl p),.dmap (mvM mvC cs),.dmap (mvM mvI sh),
 .cells 143 ([.mp 4,.mp 5,.mp 2,.mp 1]++ZqY pl p),.dmap (mvM mvI (ZtJ p)),.dmap (mvM mvI (JK p))]
def Zcr:Zn:=fun args σ K=>match args,σ with
 | [.agg c],⟨[],[],0⟩=>∃pl p,c=(ZqR pl p).map .d/\BP p/\K (.ret (.ptr 3 0)) ⟨ZqZ pl p (Y9 p) (JM p),[],0⟩
 | _,_=>False
def ZiM:Tbl:=[(78,UT 79 Zw (·.name)),(80,UT 81 ZQ (·.name))]
abbrev ZkJ (p:Pr) (j:Nat):List (Bs×(Int×Int)):=JL 0 (p.types.take j) []
abbrev Zn8 (p:Pr) (j:Nat):List (Bs×Int):=Wb (p.types.take j) [(ZtI,0),(ZCX,1)]
def Zq0 (ht:TO w0 nG ZiM):PC w0 nG 49 Zcr:=by
 refine XN Zx mixed (tbl:=ZiM) ht Tryz.func49 rfl kR kR ?_;intro args σ K h
 unfold Zcr at h
 split at h
 ·obtain ⟨pl,p,rfl,hp,h⟩:=h;have hlen:=hp.len;have hl:(p.types.map (Zw pl)).length=p.types.length:=Td ..;refine ⟨Zj [(5,⟨[33],[3,31,32],fun vs σ=>∃j:Nat,vs=[.d (.int .i64 j)]/\σ=⟨ZqZ pl p (ZkJ p j) (Zn8 p j),[],0⟩/\j<=p.types.length,
    fun vs _=>match vs with | [.d (.int _ j)]=>((p.types.length:Int) - j).toNat | _=>0⟩),
   (8,⟨[41],[3,4,5,31,32,33,39,40],fun vs σ=>∃(j k:Nat) (t:Ty),vs=[.ptr 3 0,.d (.int .i64 j),.ptr 6 0,.d (.sl (p.types.map (Zw pl))),.d (.int .i64 (p.types.map (Zw pl)).length),.d (.int .i64 j),.d (.sl (t.cases.map ZB)),.d (.int .i64 (t.cases.map ZB).length),.d (.int .i64 k)] /\
     σ=⟨ZqZ pl p (Yw j 0 (t.cases.take k) (ZkJ p j)) (Zn8 p j)++[.cells 148 ((Zw pl t).map .d)],[],0⟩/\k<=t.cases.length/\p.types[j]?=some t/\t.cases.length<=1073741824,
    fun vs _=>match vs with | [_,_,_,_,_,_,_,.d (.int _ n),.d (.int _ k)]=>(n - k).toNat | _=>0⟩)],Xk [],Yh [8],6,false,sM,Tc rfl,?_⟩
  conv=>whnf
  refine ⟨pl,p.types,rfl,⟨rfl,hlen.1⟩,wN ?_⟩;refine ⟨pl,p.rels,rfl,⟨rfl,hlen.2.1⟩,wN ?_⟩;refine ⟨⟨0,rfl,rfl,oM⟩,?_⟩
  rintro vs σ1 ⟨j,rfl,rfl,hj⟩
  conv=>whnf
  refine ZFU (fun hc=>?_) (fun hc=>?_);rotate_left
  ·have e1:ZkJ p j=Y9 p:=by unfold ZkJ;rw [List.take_of_length_le oM];rfl
   have e2:Zn8 p j=JM p:=by unfold Zn8;rw [List.take_of_length_le oM];rfl
   conv=>whnf
   rw [<- e1,<- e2] at h;exact h
  have aa:j<p.types.length:=oM;have cp:p.types.take (j+1)=p.types.take j++[p.types[j]]:=by rw [List.take_add_one,Ta aa];rfl
  have dg:ZkJ p (j+1)=Yw j 0 p.types[j].cases (ZkJ p j):=by unfold ZkJ;rw [cp,ZbW,List.length_take,Nat.min_eq_left oM,T9]
  have ka:Zn8 p (j+1)=if p.types[j].kind≠1/\(lkM p.types[j].name (Zn8 p j)).isNone=true then Z6 p.types[j].name ((Zn8 p j).length:Int) (Zn8 p j) else Zn8 p j:=by unfold Zn8;rw [cp,Zas]
  have ht:p.types[j]?=some p.types[j]:=Ta aa;have om:=(hp.ty (TC aa)).2.1;have hr:(p.types.map (Zw pl))[(j:Int).toNat]?=some (Zw pl p.types[j]):=by rw [Tj,Th,ht];rfl
  generalize p.types[j]=t at dg ka ht hr om;obtain ⟨t1,t2,t3,t4,t5,t6⟩:=t;have yc:(t5.map ZB).length=t5.length:=Td ..;(conv=>whnf);refine ⟨_,oM,hr,wN ?_⟩;refine ⟨⟨j,0,⟨t1,t2,t3,t4,t5,t6⟩,rfl,rfl,oM,ht,om⟩,?_⟩
  rintro vs σ2 ⟨j',k,t',be,rfl,hk,kq,-⟩
  have ej:(some (PV.d (.int .i64 (j:Int))):Option PV)=some (.d (.int .i64 (j':Int))):=congrArg (fun l:List PV=>l[5]?) be;obtain rfl:j=j':=by have ej:=Option.some.inj ej;injection ej with ej;injection ej with _ ej;omega
  obtain rfl:(⟨t1,t2,t3,t4,t5,t6⟩:Ty)=t':=Option.some.inj (ht.symm.trans kq);have be:vs=[.d (.int .i64 k)]:=congrArg (List.drop 8) be;subst be;(conv=>whnf);refine ZFU (fun bl=>?_) (fun bl=>?_)
  ·have aq:k<t5.length:=by have bl:(k:Int)<((t5.map ZB).length:Int):=bl;omega
   have o3:Yw j 0 (t5.take (k+1)) (ZkJ p j)=if (lkM t5[k].name (Yw j 0 (t5.take k) (ZkJ p j))).isNone=true then Z6 t5[k].name ((j:Int),(k:Int)) (Yw j 0 (t5.take k) (ZkJ p j)) else Yw j 0 (t5.take k) (ZkJ p j):=by
    rw [List.take_add_one,Ta aq];show Yw j 0 (t5.take k++[t5[k]]) _=_;rw [ZbV,List.length_take,Nat.min_eq_left oM,T9]
   have dy:(t5.map ZB)[(k:Int).toNat]?=some (ZB t5[k]):=by rw [Tj,Th,Ta aq];rfl
   generalize t5[k]=c at o3 dy;obtain ⟨c1,c2⟩:=c;(conv=>whnf);refine ⟨_,oM,dy,wN ?_⟩;refine ZF3 (fun v hv=>?_) (fun hv=>wN ?_)
   ·rw [ZJ] at hv;obtain ⟨n,hn,rfl⟩:=TE.1 hv;rw [Tf (by rw [show lkM _ _=some n from hn];simp)] at o3;(conv=>whnf)
    (repeat (refine ⟨rfl,?_⟩;conv=>whnf))
    refine Zl ?_;exact ⟨⟨j,k+1,⟨t1,t2,t3,t4,t5,t6⟩,rfl,by simp only [o3];rfl,by simp only;omega,ht,om⟩,by show (((t5.map ZB).length:Int) - ((k:Int)+1)).toNat<(((t5.map ZB).length:Int) - (k:Int)).toNat;omega⟩
   rw [ZJ,Option.map_eq_none_iff] at hv;rw [Tk (by rw [show lkM _ _=none from hv];rfl)] at o3;have e:mvM mvC (Yw j 0 (t5.take (k+1)) (ZkJ p j))=Z6 c1 (.agg [.int .i64 j,.int .i64 k]) (mvM mvC (Yw j 0 (t5.take k) (ZkJ p j))):=by rw [o3,<- XR];rfl
   (repeat (refine ⟨rfl,?_⟩;conv=>whnf))
   refine Zl ?_;exact ⟨⟨j,k+1,⟨t1,t2,t3,t4,t5,t6⟩,rfl,by rw [<- e];rfl,by simp only;omega,ht,om⟩,by show (((t5.map ZB).length:Int) - ((k:Int)+1)).toNat<(((t5.map ZB).length:Int) - (k:Int)).toNat;omega⟩
  have j5:k=t5.length:=by have bl:¬(k:Int)<((t5.map ZB).length:Int):=bl;have hk:k<=t5.length:=hk;omega
  subst j5;have e1:ZkJ p (j+1)=Yw j 0 (t5.take t5.length) (ZkJ p j):=by rw [dg,Si]
  conv=>whnf
  refine ZF3 (fun v hv=>?_) (fun hv=>wN ?_)
  ·rw [ZJ] at hv;obtain ⟨n,hn,rfl⟩:=TE.1 hv;rw [Tf (by rw [show lkM _ _=some n from hn];simp)] at ka;(conv=>whnf);refine ZFX (fun eh=>wN ?_) (fun eh=>wN ?_)
   ·exact mq68
   exact mq68
  rw [ZJ,Option.map_eq_none_iff] at hv;refine ZFX (fun eh=>wN ?_) (fun eh=>wN ?_)
  ·rw [Tk ⟨fun g=>eh (by simp only [show t1=1 from g];rfl),by rw [show lkM _ _=none from hv];rfl⟩] at ka;have e2:mvM mvI (Zn8 p (j+1))=Z6 t2 (.one (.int .i64 ((mvM mvI (Zn8 p j)).length:Int))) (mvM mvI (Zn8 p j)):=by rw [ka,<- XR,ZkB];rfl
   (repeat (refine ⟨rfl,?_⟩;conv=>whnf))
   refine Zl ?_;exact ⟨⟨j+1,rfl,by rw [e1,<- e2];rfl,oM⟩,by show ((p.types.length:Int) - ((j:Int)+1)).toNat<((p.types.length:Int) - (j:Int)).toNat;omega⟩
  rw [Tf (fun g=>g.1 (by have eh:(t1:Int)=1:=eh;show t1=1;omega))] at ka;exact mq68
 exact h.elim
abbrev BM:=List (Bs×Bool)
def has (k:Bs) (m:BM):Bool:=(lkM k m).getD false
def ZyI:List Ca->Bool->BM->Bool×BM
 | [],b,m=>(b,m)
 | c::l,b,m=>ZyI l (b || has c.name m) (Z6 c.name true m)
def Zat:List Ty->BM->BM->Option Nat
 | [],_,_=>none
 | t::l,n,m=>if (ZyI t.cases (has t.name n) m).1=true then some t.at' else Zat l (Z6 t.name true n) (ZyI t.cases (has t.name n) m).2
def ZiN (p:Pr) (t:Ty):Bool:=t.cases.any (fun c=>!Vj p c.fields) || (!Vj p t.fields || (decide (t.kind=1) && !Vi p t.base))
def ZgY (p:Pr):List Ty->Option Nat
 | []=>none
 | t::l=>if ZiN p t=true then some t.at' else ZgY p l
def ZdP (p:Pr) (s:Bs):Nat->Bs->Bool
 | 0,_=>false
 | n+1,a=>match XS p a with
  | none=>false
  | some c=>if c=s then true else ZdP p s n c
def ZkK (p:Pr) (t:Ty):Bool:=ZdP p t.name (p.types.length+1) t.name
def Zb8 (p:Pr):List Ty->Option Nat
 | []=>none
 | t::l=>if ZkK p t=true then some t.at' else Zb8 p l
def ZgZ (p:Pr):Nat->List Re->Option (Nat×Nat)
 | _,[]=>none
 | i,d::l=>if (lkM d.name (JK p)).getD 0≠(i:Int) then some (d.at',170) else if Vj p d.fields=false then some (d.at',180) else if (d.inl && (d.inn || d.out))=true then some (d.at',185) else ZgZ p (i+1) l
def ZfE:BM:=[(ZtI,true),(ZCX,true)]
def ZiO (p:Pr):Option (Nat×Nat):=match Zat p.types ZfE [] with
 | some a=>some (a,170)
 | none=>match ZgY p p.types with
  | some a=>some (a,180)
  | none=>match Zb8 p p.types with
   | some a=>some (a,172)
   | none=>ZgZ p 0 p.rels
def ZCY (pl:Pl):Option (Nat×Nat)->List PV
 | none=>[.d (.int .i64 0),.d (.int .i64 0)]
 | some (a,e)=>[.d (.int .i64 (pl a)),.d (.int .i64 e)]
def Zt1:Zn:=Zap fun rest pl p K=>match rest with
 | []=>∀x,ZiO p=x->K (.ret (.agg (ZCY pl x)))
 | _=>False
abbrev ZCZ (pl:Pl) (p:Pr) (x y:List (Bs×MV)):List Box:=ZeA pl p++[.cells 73 [.ptr 0 0],.cells 75 [.d (.int .i64 0),.d (.int .i64 0)],.dmap x,.dmap y]
abbrev dSt (pl:Pl) (p:Pr) (n m:BM):List Box:=ZCZ pl p (mvM mvB n) (mvM mvB m)
def Zvd:Tbl:=[(82,ZfC 83 ZB ZfD (fun p (c:Ca)=>!Vj p c.fields)),(84,ZdO),(85,Zaq),(86,ZfA)]
def optK.bool {k:Bs} {m:BM} {A:MV->Prop} (h:A (mvB (has k m))):optK (lkM k (mvM mvB m)) A (A (mvB false)):=by
 rw [ZJ];unfold has at h
 cases hk:lkM k m with
 | none=>rw [hk] at h;exact h
 | some b=>rw [hk] at h;exact h
def ZBT (ht:TO w0 nG Zvd):PC w0 nG 50 Zt1:=by
 refine XN Zx mixed (tbl:=Zvd) ht Tryz.func50 rfl kR kR ?_;intro args σ K h
 unfold Zt1 Zap at h
 split at h
 ·obtain ⟨pl,p,rfl,hp,h⟩:=h;split at h
  ·have hlen:=hp.len;have hl:(p.types.map (Zw pl)).length=p.types.length:=Td ..;have hlr:(p.rels.map (ZQ pl)).length=p.rels.length:=Td ..;refine ⟨Zj [(3,⟨[30],[1,2,3,4,28,29],fun vs σ=>∃(j:Nat) (n m:BM),vs=[.d (.int .i64 j)]/\σ=⟨dSt pl p n m,[],0⟩/\j<=p.types.length/\Zat (p.types.drop j) n m=Zat p.types ZfE [],
     fun vs _=>match vs with | [.d (.int _ j)]=>((p.types.length:Int) - j).toNat | _=>0⟩),
    (7,⟨[7,41],[1,2,3,4,6,28,29,30,39,40],fun vs σ=>∃(j k:Nat) (t:Ty) (n m:BM) (b:Bool),vs=[.ptr 5 0,.ptr 6 0,.mp 7,.mp 8,.ptr 9 0,.d (.sl (p.types.map (Zw pl))),.d (.int .i64 (p.types.map (Zw pl)).length),.d (.int .i64 j),.d (.sl (t.cases.map ZB)),.d (.int .i64 (t.cases.map ZB).length),.d (.bool b),.d (.int .i64 k)] /\
      σ=⟨dSt pl p n m++[.cells 148 ((Zw pl t).map .d)],[],0⟩/\k<=t.cases.length/\p.types[j]?=some t /\
      (if (ZyI (t.cases.drop k) b m).1=true then some t.at' else Zat (p.types.drop (j+1)) (Z6 t.name true n) (ZyI (t.cases.drop k) b m).2)=Zat p.types ZfE [],
     fun vs _=>match vs with | [_,_,_,_,_,_,_,_,_,.d (.int _ n),_,.d (.int _ k)]=>(n - k).toNat | _=>0⟩),
    (17,⟨[70],[1,2,68,69],fun vs σ=>∃(j:Nat) (n m:BM),vs=[.d (.int .i64 j)]/\σ=⟨dSt pl p n m,[],0⟩/\j<=p.types.length/\ZgY p (p.types.drop j)=ZgY p p.types,
     fun vs _=>match vs with | [.d (.int _ j)]=>((p.types.length:Int) - j).toNat | _=>0⟩),
    (24,⟨[108],[1,2,106,107],fun vs σ=>∃(j:Nat) (n m:BM),vs=[.d (.int .i64 j)]/\σ=⟨dSt pl p n m,[],0⟩/\j<=p.types.length/\Zb8 p (p.types.drop j)=Zb8 p p.types,
     fun vs _=>match vs with | [.d (.int _ j)]=>((p.types.length:Int) - j).toNat | _=>0⟩),
    (27,⟨[15,16],[1,2,14,106,107,108],fun vs σ=>∃(j k:Nat) (a:Bs) (t:Ty) (n m:BM),vs=[.ptr 5 0,.ptr 6 0,.ptr 9 0,.d (.sl (p.types.map (Zw pl))),.d (.int .i64 (p.types.map (Zw pl)).length),.d (.int .i64 j),.d (.str a),.d (.int .i64 k)] /\
      σ=⟨dSt pl p n m++[.cells 148 ((Zw pl t).map .d)],[],0⟩/\k<=p.types.length+1/\p.types[j]?=some t/\ZdP p t.name (p.types.length+1 - k) a=ZkK p t,
     fun vs _=>match vs with | [_,_,_,_,.d (.int _ n),_,_,.d (.int _ k)]=>(n+1 - k).toNat | _=>0⟩),
    (36,⟨[147],[1,2,145,146],fun vs σ=>∃(j:Nat) (n m:BM),vs=[.d (.int .i64 j)]/\σ=⟨dSt pl p n m,[],0⟩/\j<=p.rels.length/\ZgZ p j (p.rels.drop j)=ZgZ p 0 p.rels,
     fun vs _=>match vs with | [.d (.int _ j)]=>((p.rels.length:Int) - j).toNat | _=>0⟩)],Xk [],Yh [7,27],5,false,sM,Tc rfl,?_⟩
   conv=>whnf
   refine ⟨⟨0,ZfE,[],rfl,rfl,oM,rfl⟩,?_⟩
   rintro vs σ1 ⟨j,n,m,rfl,rfl,hj,ha⟩
   conv=>whnf
   refine ZFU (fun hc=>?_) (fun hc=>?_)
   ·have aa:j<p.types.length:=by omega
    rw [Tm aa] at ha;simp only [Zat] at ha;have ht:p.types[j]?=some p.types[j]:=Ta aa;have om:=(hp.ty (TC aa)).2.1;have hr:(p.types.map (Zw pl))[(j:Int).toNat]?=some (Zw pl p.types[j]):=by rw [Tj,Th,ht];rfl
    generalize p.types[j]=t at ha ht hr om;obtain ⟨t1,t2,t3,t4,t5,t6⟩:=t;have yc:(t5.map ZB).length=t5.length:=Td ..;(conv=>whnf);refine ⟨_,oM,hr,wN ?_⟩;refine optK.bool (wN ?_);refine ⟨⟨j,0,⟨t1,t2,t3,t4,t5,t6⟩,n,m,has t2 n,rfl,rfl,oM,ht,ha⟩,?_⟩
    clear ha
    rintro vs σ2 ⟨j',k,t',n,m,b,be,rfl,hk,kq,ha⟩
    have ej:(some (PV.d (.int .i64 (j:Int))):Option PV)=some (.d (.int .i64 (j':Int))):=congrArg (fun l:List PV=>l[7]?) be;obtain rfl:j=j':=by have ej:=Option.some.inj ej;injection ej with ej;injection ej with _ ej;omega
    obtain rfl:(⟨t1,t2,t3,t4,t5,t6⟩:Ty)=t':=Option.some.inj (ht.symm.trans kq);have be:vs=[.d (.bool b),.d (.int .i64 k)]:=congrArg (List.drop 10) be;subst be;(conv=>whnf);refine ZFU (fun bl=>?_) (fun bl=>?_)
    ·have aq:k<t5.length:=by have bl:(k:Int)<((t5.map ZB).length:Int):=bl;omega
     have hd:t5.drop k=t5[k]::t5.drop (k+1):=Tm aq;have dy:(t5.map ZB)[(k:Int).toNat]?=some (ZB t5[k]):=by rw [Tj,Th,Ta aq];rfl
     simp only at ha;rw [hd] at ha
     clear hd
     generalize t5[k]=c at ha dy;obtain ⟨c1,c2⟩:=c;simp only [ZyI] at ha;(conv=>whnf);refine ⟨_,oM,dy,?_⟩;have hμ:((((t5.map ZB).length:Int) - ((k:Int)+1)).toNat<(((t5.map ZB).length:Int) - (k:Int)).toNat):=oM
     cases b with
     | true =>
      conv=>whnf
      refine Zl ?_;exact ⟨⟨j,k+1,⟨t1,t2,t3,t4,t5,t6⟩,n,Z6 c1 true m,true,rfl,congrArg (fun x=>(⟨ZCZ pl p (mvM mvB n) x++[.cells 148 ((Zw pl ⟨t1,t2,t3,t4,t5,t6⟩).map .d)],[],0⟩:St)) (XR (f:=mvB) (k:=c1) (v:=true) m),by simp only;omega,ht,ha⟩,hμ⟩
     | false =>
     conv=>whnf
     refine optK.bool (wN ?_);refine Zl ?_;exact ⟨⟨j,k+1,⟨t1,t2,t3,t4,t5,t6⟩,n,Z6 c1 true m,has c1 m,rfl,congrArg (fun x=>(⟨ZCZ pl p (mvM mvB n) x++[.cells 148 ((Zw pl ⟨t1,t2,t3,t4,t5,t6⟩).map .d)],[],0⟩:St)) (XR (f:=mvB) (k:=c1) (v:=true) m),by simp only;omega,ht,ha⟩,hμ⟩
    have j5:k=t5.length:=by have bl:¬(k:Int)<((t5.map ZB).length:Int):=bl;have hk:k<=t5.length:=hk;omega
    subst j5;simp only [SP,ZyI] at ha
    cases b with
    | true =>
     rw [Tk rfl] at ha;(conv=>whnf);exact h (some (t6,170)) (by simp only [ZiO,<- ha])
    | false =>
    rw [Tf sM] at ha;(conv=>whnf);refine Zl ?_;exact ⟨⟨j+1,Z6 t2 true n,m,rfl,congrArg (fun x=>(⟨ZCZ pl p x (mvM mvB m),[],0⟩:St)) (XR (f:=mvB) (k:=t2) (v:=true) n),oM,ha⟩,by show ((p.types.length:Int) - ((j:Int)+1)).toNat<((p.types.length:Int) - (j:Int)).toNat;omega⟩
   have si:j=p.types.length:=oM;subst si;rw [SP] at ha;have dx:Zat p.types ZfE []=none:=ha.symm
   clear ha
   conv=>whnf
   refine ⟨⟨0,n,m,rfl,rfl,oM,rfl⟩,?_⟩
   clear n m
   rintro vs σ1 ⟨j,n,m,rfl,rfl,hj,ha⟩
   conv=>whnf
   refine ZFU (fun hc=>?_) (fun hc=>?_)
   ·have aa:j<p.types.length:=by omega
    rw [Tm aa] at ha;simp only [ZgY] at ha;have yk:=hp.ty (TC aa);have hr:(p.types.map (Zw pl))[(j:Int).toNat]?=some (Zw pl p.types[j]):=by rw [Tj,Th,Ta aa];rfl
    generalize p.types[j]=t at ha hr yk;obtain ⟨t1,t2,t3,t4,t5,t6⟩:=t;simp only at yk;have yes:ZiN p ⟨t1,t2,t3,t4,t5,t6⟩=true->K (.ret (.agg (ZCY pl (some (t6,180))))) ⟨ZeA pl p,[],0⟩:=fun g=>by
     rw [Tk g] at ha;exact h (some (t6,180)) (by simp only [ZiO,dx,<- ha])
    have no:ZiN p ⟨t1,t2,t3,t4,t5,t6⟩=false->ZgY p (p.types.drop (j+1))=ZgY p p.types:=fun g=>by
     rw [Tf (by rw [g];simp)] at ha;exact ha
    have hμ:((p.types.length:Int) - ((j:Int)+1)).toNat<((p.types.length:Int) - (j:Int)).toNat:=oM
    clear ha h
    conv=>whnf
    refine ⟨_,oM,hr,wN ?_⟩;refine ⟨pl,p,t5,rfl,rfl,⟨rfl,hp,yk.2.1,yk.2.2⟩,fun b hb=>?_⟩
    cases b with
    | true =>
     conv=>whnf
     exact yes (by simp only [ZiN];rw [hb];rfl)
    | false =>
    conv=>whnf
    refine ⟨pl,p,rfl,hp,t4,rfl,yk.1,fun b ga=>?_⟩
    cases b with
    | false =>
     conv=>whnf
     exact yes (by simp only [ZiN];rw [hb,ga];rfl)
    | true =>
    conv=>whnf
    refine ZFU (fun eh=>wN ?_) (fun eh=>wN ?_)
    ·have eh:t1=1:=by have eh:(t1:Int)=1:=eh;omega
     refine ⟨pl,p,rfl,hp,fun b jw=>?_⟩
     cases b with
     | false =>
      conv=>whnf
      exact yes (by simp only [ZiN];rw [hb,ga,jw,eh];rfl)
     | true =>
     conv=>whnf
     refine Zl ?_;exact ⟨⟨j+1,n,m,rfl,rfl,oM,no (by simp only [ZiN];rw [hb,ga,jw,eh];rfl)⟩,hμ⟩
    have eh:¬t1=1:=fun g=>eh (by simp only [g];rfl)
    refine Zl ?_;exact ⟨⟨j+1,n,m,rfl,rfl,oM,no (by simp only [ZiN];rw [hb,ga,decide_eq_false eh];rfl)⟩,hμ⟩
   have si:j=p.types.length:=oM;subst si;rw [SP] at ha;have cg:ZgY p p.types=none:=ha.symm
   clear ha
   conv=>whnf
   refine ⟨⟨0,n,m,rfl,rfl,oM,rfl⟩,?_⟩
   clear n m
   rintro vs σ1 ⟨j,n,m,rfl,rfl,hj,ha⟩
   conv=>whnf
   refine ZFU (fun hc=>?_) (fun hc=>?_)
   ·have aa:j<p.types.length:=by omega
    rw [Tm aa] at ha;simp only [Zb8] at ha;have ht:p.types[j]?=some p.types[j]:=Ta aa;have hr:(p.types.map (Zw pl))[(j:Int).toNat]?=some (Zw pl p.types[j]):=by rw [Tj,Th,ht];rfl
    generalize p.types[j]=t at ha ht hr;obtain ⟨t1,t2,t3,t4,t5,t6⟩:=t;have yes:ZkK p ⟨t1,t2,t3,t4,t5,t6⟩=true->K (.ret (.agg (ZCY pl (some (t6,172))))) ⟨ZeA pl p,[],0⟩:=fun g=>by
     rw [Tk g] at ha;exact h (some (t6,172)) (by simp only [ZiO,dx,cg,<- ha])
    have no:ZkK p ⟨t1,t2,t3,t4,t5,t6⟩=false->Zb8 p (p.types.drop (j+1))=Zb8 p p.types:=fun g=>by
     rw [Tf (by rw [g];simp)] at ha;exact ha
    have hμ:((p.types.length:Int) - ((j:Int)+1)).toNat<((p.types.length:Int) - (j:Int)).toNat:=oM
    clear ha h
    conv=>whnf
    refine ⟨_,oM,hr,wN ?_⟩;refine ⟨⟨j,0,t2,⟨t1,t2,t3,t4,t5,t6⟩,n,m,rfl,rfl,oM,ht,rfl⟩,?_⟩
    rintro vs σ2 ⟨j',k,a,t',n,m,be,rfl,hk,kq,ha⟩
    have ej:(some (PV.d (.int .i64 (j:Int))):Option PV)=some (.d (.int .i64 (j':Int))):=congrArg (fun l:List PV=>l[5]?) be;obtain rfl:j=j':=by have ej:=Option.some.inj ej;injection ej with ej;injection ej with _ ej;omega
    obtain rfl:(⟨t1,t2,t3,t4,t5,t6⟩:Ty)=t':=Option.some.inj (ht.symm.trans kq);have be:vs=[.d (.str a),.d (.int .i64 k)]:=congrArg (List.drop 6) be;subst be;simp only at ha;(conv=>whnf);refine ZFU (fun bl=>?_) (fun bl=>?_);rotate_left
    ·rw [show p.types.length+1 - k=0 by omega] at ha;(conv=>whnf);refine Zl ?_;exact ⟨⟨j+1,n,m,rfl,rfl,oM,no ha.symm⟩,hμ⟩
    obtain ⟨q,hq⟩:∃q,p.types.length+1 - k=q+1:=⟨p.types.length - k,oM⟩
    rw [hq] at ha;simp only [ZdP] at ha;(conv=>whnf);refine ⟨pl,p,rfl,hp,fun x hx=>?_⟩;rw [hx] at ha
    cases x with
    | none =>
     conv=>whnf
     refine Zl ?_;exact ⟨⟨j+1,n,m,rfl,rfl,oM,no ha.symm⟩,hμ⟩
    | some c =>
    simp only at ha;(conv=>whnf);refine ZFU (fun dg=>wN ?_) (fun dg=>wN ?_)
    ·rw [Tk (show c=t2 from dg)] at ha;exact yes ha.symm
    rw [Tf (show ¬c=t2 from dg)] at ha;refine Zl ?_;exact ⟨⟨j,k+1,c,⟨t1,t2,t3,t4,t5,t6⟩,n,m,rfl,rfl,oM,ht,by rw [show p.types.length+1 - (k+1)=q by omega];exact ha⟩,by show (((p.types.map (Zw pl)).length:Int)+1 - ((k:Int)+1)).toNat<(((p.types.map (Zw pl)).length:Int)+1 - (k:Int)).toNat;omega⟩
   have si:j=p.types.length:=oM;subst si;rw [SP] at ha;have nv:Zb8 p p.types=none:=ha.symm
   clear ha
   have hdF:ZiO p=ZgZ p 0 p.rels:=by simp only [ZiO,dx,cg,nv]
   conv=>whnf
   refine ⟨⟨0,n,m,rfl,rfl,oM,rfl⟩,?_⟩
   clear n m
   rintro vs σ1 ⟨j,n,m,rfl,rfl,hj,ha⟩
   conv=>whnf
   refine ZFU (fun hc=>?_) (fun hc=>?_)
   ·have aa:j<p.rels.length:=by omega
    rw [Tm aa] at ha;simp only [ZgZ] at ha;have jq:=hp.re (TC aa);have hr:(p.rels.map (ZQ pl))[(j:Int).toNat]?=some (ZQ pl p.rels[j]):=by rw [Tj,Th,Ta aa];rfl
    generalize p.rels[j]=d at ha hr jq;obtain ⟨d1,d2,d3,d4,d5,d6⟩:=d;simp only at jq ha;have yes:∀e,ZgZ p 0 p.rels=some (d6,e)->K (.ret (.agg (ZCY pl (some (d6,e))))) ⟨ZeA pl p,[],0⟩:=fun e g=>h _ (by rw [hdF,g])
    have hμ:((p.rels.length:Int) - ((j:Int)+1)).toNat<((p.rels.length:Int) - (j:Int)).toNat:=oM
    clear h
    have ym:∀A:MV->Prop,A (mvI ((lkM d1 (JK p)).getD 0))->optK (lkM d1 (mvM mvI (JK p))) A (A (mvI 0)):=fun A g=>by
     rw [ZJ]
     cases hk:lkM d1 (JK p) with
     | none=>rw [hk] at g;exact g
     | some b=>rw [hk] at g;exact g
    conv=>whnf
    refine ⟨_,oM,hr,wN ?_⟩;refine ym _ (wN ?_);refine ZFX (fun h1=>wN ?_) (fun h1=>wN ?_)
    ·rw [Tk h1] at ha;exact yes 170 ha.symm
    rw [Tf (fun g=>g h1)] at ha;refine ⟨pl,p,rfl,hp,d2,rfl,jq,fun b hb=>?_⟩
    cases b with
    | false =>
     rw [Tk hb] at ha;(conv=>whnf);exact yes 180 ha.symm
    | true =>
    rw [Tf (by rw [hb];simp)] at ha;(conv=>whnf)
    cases d5 with
    | false =>
     rw [Tf sM] at ha;(conv=>whnf);refine Zl ?_;exact ⟨⟨j+1,n,m,rfl,rfl,oM,ha⟩,hμ⟩
    | true =>
    cases d3 with
    | true =>
     rw [Tk sM] at ha;(conv=>whnf);exact yes 185 ha.symm
    | false =>
    cases d4 with
    | true =>
     rw [Tk sM] at ha;(conv=>whnf);exact yes 185 ha.symm
    | false =>
    rw [Tf sM] at ha;(conv=>whnf);refine Zl ?_;exact ⟨⟨j+1,n,m,rfl,rfl,oM,ha⟩,hμ⟩
   have si:j=p.rels.length:=oM;subst si;rw [SP] at ha;(conv=>whnf);exact h none (by rw [hdF,<- ha];rfl)
  exact h.elim
 exact h.elim
def prU (p:Pr):Un:=.mk p.types p.rels p.rules [] [] []
abbrev ZBU (pl:Pl) (p:Pr) (b:Nat):List Box:=[.cells 44 (ZqY pl p),.dmap (mvM mvC (Y9 p)),.dmap (mvM mvI (JM p)),
 .cells 143 ([.mp (b+4),.mp (b+5),.mp (b+2),.mp (b+1)]++ZqY pl p),.dmap (mvM mvI (ZtJ p)),.dmap (mvM mvI (JK p))]
abbrev ZD5 (pl:Pl) (p:Pr):List Box:=.cells 44 (ZqY pl p)::.cells 75 [.d (.int .i64 0),.d (.int .i64 0)]::ZBU pl p 2
def Zma {p:Pr} {a e:Nat}:∀(l:List Re) (i:Nat),ZgZ p i l=some (a,e)->e≠0
 | [],_,h=>by cases h
 | d::l,i,h=>by
  simp only [ZgZ] at h;split at h
  ·cases h;decide
  split at h
  ·cases h;decide
  split at h
  ·cases h;decide
  exact Zma l _ h
def ZyJ {p:Pr} {a e:Nat} (h:ZiO p=some (a,e)):e≠0:=by
 unfold ZiO at h
 split at h
 ·cases h;decide
 split at h
 ·cases h;decide
 split at h
 ·cases h;decide
 exact Zma _ _ h
abbrev Vs:=List (Bs×Int)
abbrev VS:=Vs×Bool
def Zg0 (p:Pr) (n:Int):Option Ty:=p.types.find? fun t=>decide (t.kind=2) && (decide (0<=n) && decide ((lkM t.name (JM p)).getD 0=n))
def ZiP (p:Pr) (s:Bs):Option (Ty×Ca):=match lkM s (Y9 p) with
 | none=>none
 | some (i,k)=>match p.types[i.toNat]? with
  | none=>none
  | some t=>match t.cases[k.toNat]? with
   | none=>none
   | some c=>some (t,c)
def ZK (p:Pr) (op:Nat) (text:Bs) (Zb9:Nat) (n:Int):List Int :=
 if op=7 then (match ZiP p text with | some tc=>ZX p tc.2.fields | none=>[])
 else if op=6 then (match Zg0 p n with | some t=>ZX p t.fields | none=>[])
 else if op=20 then [1,1] else if op=21\/op=23\/op=25 then [1] else if op=22 then [1,0,0] else List.replicate Zb9 0
def ZeB (p:Pr) (vs:Vs) (op:Nat) (text:Bs):Int :=
 if op=1 then (lkM text vs).getD (-1)
 else if op=7 then (match ZiP p text with | some tc=>Xo p tc.1.name | none=>-1)
 else if op=6\/op=5\/op=2 then -1 else if op=4\/op=20\/op=22\/op=24 then 1 else 0
def ZyK (t:Bs) (n:Int) (s:VS):VS :=
 if (lkM t s.1).isNone=true\/((lkM t s.1).getD 0=-1/\n≠-1) then (Z6 t n s.1,s.2 || decide (n≠-1)) else s
mutual
def gvE (p:Pr):Ex->Int->VS->VS
 | .mk op text _ args _,n,s=>if op=1 then ZyK text n s
  else Zbi p args (if (ZK p op text args.length n).length=args.length then ZK p op text args.length n else List.replicate args.length (-1)) s
def Zbi (p:Pr):List Ex->List Int->VS->VS
 | e::es,n::ns,s=>Zbi p es ns (gvE p e n s)
 | _,_,s=>s
end
def Y5 (p:Pr) (name:Bs) (Zb9:Nat):List Int:=match lkM name (JK p) with
 | none=>List.replicate Zb9 (-1)
 | some i=>match p.rels[i.toNat]? with
  | none=>List.replicate Zb9 (-1)
  | some d=>if d.fields.length=Zb9 then ZX p d.fields else List.replicate Zb9 (-1)
def ZzS (p:Pr) (vs:Vs):Ex->Int
 | .mk op text _ _ _=>ZeB p vs op text
def Jd (p:Pr) (vs:Vs):List Ex->Int
 | a::b::_=>if ZzS p vs a≠-1 then ZzS p vs a else ZzS p vs b
 | _=>-1
mutual
def gvL (p:Pr):Li->VS->VS
 | .mk op rel args body _,s=>if op<=2 then Zbi p args (Y5 p rel args.length) s
  else if op<=8 then Zbi p args [Jd p s.1 args,Jd p s.1 args] s
  else Zq1 p body (Zbi p args (List.replicate args.length 0) s)
def Zq1 (p:Pr):List Li->VS->VS
 | [],s=>s
 | x::l,s=>Zq1 p l (gvL p x s)
end
def Je (p:Pr) (r:Ru) (v:Vs):VS:=Zq1 p r.body (Zbi p r.args (Y5 p r.head r.args.length) (v,false))
def JN (p:Pr) (r:Ru):Nat->Vs->Option Vs
 | 0,_=>none
 | n+1,v=>if (Je p r v).2=true then JN p r n (Je p r v).1 else some (Je p r v).1
abbrev Flt:=Option (Nat×Nat)
mutual
def rtE (p:Pr) (vs:Vs):Ex->Int->Flt
 | .mk op text _ args a,n =>
  if op=7/\(lkM text (Y9 p)).isNone=true then some (a,184)
  else if (ZeB p vs op text≠-1/\n≠-1/\ZeB p vs op text≠n)\/((op=6\/op=5)/\(Zg0 p n).isNone=true)\/(op=1/\ZeB p vs op text=-1) then some (a,183)
  else if (ZK p op text args.length n).length≠args.length then some (a,182)
  else ZaC p vs args (ZK p op text args.length n)
def ZaC (p:Pr) (vs:Vs):List Ex->List Int->Flt
 | e::es,n::ns=>match rtE p vs e n with
  | some f=>some f
  | none=>ZaC p vs es ns
 | _,_=>none
end
def Zt2 (p:Pr) (vs:Vs) (name:Bs) (args:List Ex) (a:Nat) (head:Bool):Flt:=match lkM name (JK p) with
 | none=>some (a,181)
 | some i=>match p.rels[i.toNat]? with
  | none=>none
  | some d=>if (head && d.inn)=true then some (a,185) else if d.fields.length≠args.length then some (a,182) else ZaC p vs args (Y5 p name args.length)
mutual
def rtL (p:Pr) (vs:Vs):Li->Flt
 | .mk op rel args body a=>if op<=2 then Zt2 p vs rel args a false
  else if op<=8 then (match ZaC p vs args [Jd p vs args,Jd p vs args] with
   | some f=>some f
   | none=>if 5<=op/\Jd p vs args≠0/\Jd p vs args≠1 then some (a,183) else none)
  else match ZaC p vs args (List.replicate args.length 0) with
   | some f=>some f
   | none=>ZhF p vs body
def ZhF (p:Pr) (vs:Vs):List Li->Flt
 | []=>none
 | x::l=>match rtL p vs x with
  | some f=>some f
  | none=>ZhF p vs l
end
def Yz (p:Pr) (op:Nat) (text:Bs) (kind:Bs):List Fi :=
 if op=7 then (match ZiP p text with | some tc=>tc.2.fields | none=>[])
 else if op=6 then (match Zg0 p (Xo p kind) with | some t=>t.fields | none=>[]) else []
mutual
def wiE (p:Pr):Ex->Bs->List (Ex×Bs)
 | .mk op text n args a,kind=>(.mk op text n args a,kind)::ZaD p args (Yz p op text kind)
def ZaD (p:Pr):List Ex->List Fi->List (Ex×Bs)
 | e::es,f::fs=>wiE p e f.typ++ZaD p es fs
 | _,_=>[]
end
def Zn9 (p:Pr) (name:Bs):List Fi:=match lkM name (JK p) with
 | none=>(match p.rels[0]? with | some d=>d.fields | none=>[])
 | some i=>match p.rels[i.toNat]? with | some d=>d.fields | none=>[]
def VW (p:Pr):Li->List (Ex×Bs)
 | .mk op rel args _ _=>if op=1 then ZaD p args (Zn9 p rel) else []
def ZiQ (p:Pr) (l:List Li):List (Bs×Bs):=(l.flatMap (VW p)).filterMap fun x=>match x with
 | (.mk op text _ _ _,k)=>if op=1 then some (text,k) else none
def V4 (p:Pr) (kn:List (Bs×Bs)):List (Ex×Bs)->Flt
 | []=>none
 | (.mk op text _ _ a,k)::l =>
  if (XS p k).isSome=true/\(8<=op\/(op=1/\(kn.any fun y=>decide (y.1=text) && WM p y.2 k)=false)) then some (a,183) else V4 p kn l
def Zmb (p:Pr) (r:Ru):Flt:=V4 p (ZiQ p r.body) (ZaD p r.args (Zn9 p r.head))
def ZiR (p:Pr) (r:Ru) (vs:Vs):Flt:=if 64<vs.length then some (r.at',3) else match Zt2 p vs r.head r.args r.at' true with
 | some f=>some f
 | none=>match ZhF p vs r.body with
  | some f=>some f
  | none=>Zmb p r
mutual
def nvE:Ex->List Bs
 | .mk op text _ args _=>if op=1 then [text] else Zjw args
def Zjw:List Ex->List Bs
 | []=>[]
 | e::l=>nvE e++Zjw l
end
mutual
def nvL:Li->List Bs
 | .mk _ _ args body _=>Zjw args++Vr body
def Vr:List Li->List Bs
 | []=>[]
 | x::l=>nvL x++Vr l
end
def nvR (r:Ru):List Bs:=Zjw r.args++Vr r.body
def ZeC (p:Pr) (r:Ru):Vs:=(JN p r ((nvR r).length+1) []).getD []
def Jf (p:Pr):List Ru->Flt
 | []=>none
 | r::l=>match ZiR p r (ZeC p r) with
  | some f=>some f
  | none=>Jf p l
def Zt3 (pl:Pl) (p:Pr):Int×Int:=if (Zfx (prU p)).2≠0 then (0,(Zfx (prU p)).2) else match ZiO p with
 | some (a,e)=>(pl a,e)
 | none=>match Jf p p.rules with
  | some (a,e)=>(pl a,e)
  | none=>(0,0)
end Go.PM.Lex
end
