/- A part of the proof: plain logic, contracts and laws over the given program. -/
import Derived.Test.YtcaoooleeciiaaaGreatDoorB08
set_option linter.unusedVariables false
set_option linter.unusedSimpArgs false
set_option linter.all false
set_option maxRecDepth 100000
set_option maxHeartbeats 16000000
noncomputable section
section
namespace Go.PM.Lex
open Go.Proofs
variable {w0:World} {nG:Nat}
def ZE1 {n:Nat} (ht:TO w0 nG (ZE0 n)):PC w0 nG 177 (ZwA n):=by
 refine Ziw ZR mixed Tryz.func177 rfl kR kR ZJs ?_;intro args σ K h
 unfold ZwA ZlQ at h
 split at h
 ·rename_i rest t p e rows
  obtain ⟨l,txt,rfl,⟨hp,rfl,rfl⟩,⟨pl,⟨op,tx,nn,xs,at'⟩,want,rfl,⟨bv,hz,hn,hw0,hw6⟩,rfl⟩,aa,h⟩:=h;obtain ⟨m1,m2,m3,m4,m5⟩:=ZBx bv;obtain ⟨k1,k2,k3,k5⟩:=ZBy m1;have dy:szS wE xs+tx.length+1<=n:=by rw [wE,Zav] at hz;omega
  rw [To] at m5;refine ⟨ZvH ZaM (ZE0 n) (Zr []) (Wk []) (YG []),1,true,CxG.of ZR ht ⟨Ztq,ZqI,ZoJ ZtB _,ZoJ ZtC _,ZmT,ZmU,ZkL,trivial⟩ _ _ _,sM,Td rfl,?_⟩;rcases hp with rfl | rfl
  all_goals
   conv=>whnf
   refine ⟨op,rfl,fun l1 w1 a1 e1 e2 e3=>?_⟩;subst e1;(conv=>whnf);refine ZJU (fun ab=>wN ?_) (fun ab=>wN ?_)
   ·have hW:exW want.toNat (.mk op tx nn xs at')=[40]++(exT (.mk op tx nn xs at')++[41]):=by rw [exW,Ztm,Tg (by show Zj op<_;omega)]
    rw [hW] at h aa;have aej:l.length+1<70368744177664:=by simp only [Ta,Te,Th] at aa;omega
    refine wk _ [40] ⟨[[40]],rfl,sM,sM,sM⟩ ?_;(conv=>whnf);refine ZJU (fun c1=>?_) (fun c1=>wN ?_)
    ·have c1:Zj op<5:=by omega
     have fc:xs.length=2:=by have:=k1 c1;omega
     obtain ⟨x0,x1,rfl⟩:∃x0 x1,xs=[x0,x1]:=by match xs,fc with | [a,b],_=>exact ⟨a,b,rfl⟩
     simp only [szS] at dy;have g0:=m5 x0 sM;have g1:=m5 x1 sM;have z0:wE x0<=n - 1:=oM;have z1:wE x1<=n - 1:=oM;obtain ⟨o0,t0,n0,y0,q0⟩:=x0;obtain ⟨o1,t1,n1,y1,q1⟩:=x1;have hx:exT (.mk op tx nn [(.mk o0 t0 n0 y0 q0),(.mk o1 t1 n1 y1 q1)] at')=exW (Zj op) (.mk o0 t0 n0 y0 q0)++(([32]++(w1++[32]))++exW (Zj op+1) (.mk o1 t1 n1 y1 q1)):=by rw [exT,exN,Tg c1,e2];rfl
     rw [hx] at h aa
     (try simp only [Ta,Te,Th] at aa)
     conv=>whnf
     refine ⟨_,dM,rfl,wN ?_⟩;refine ⟨oM,wk _ (exW (Zj op) (.mk o0 t0 n0 y0 q0)) ⟨pl,(.mk o0 t0 n0 y0 q0),(Zj op:Int),rfl,⟨g0,oM,oM,oM,oM⟩,rfl⟩ ?_⟩;(conv=>whnf);refine wk _ ([32]++(w1++[32])) ⟨[[32],w1,[32]],rfl,sM,sM,sM⟩ ?_;(conv=>whnf);refine ⟨_,dM,rfl,wN ?_⟩;refine Zl ?_;refine ⟨oM,wk _ (exW (Zj op+1) (.mk o1 t1 n1 y1 q1)) ⟨pl,(.mk o1 t1 n1 y1 q1),((Zj op:Int)+1),rfl,⟨g1,oM,oM,oM,oM⟩,rfl⟩ ?_⟩;(conv=>whnf);refine ⟨Td rfl,wN ?_⟩;refine ⟨_,dM,rfl,wN ?_⟩;refine wk _ [41] ⟨rfl,rfl⟩ ?_;(conv=>whnf);refine Zl ?_;rw [show l++([40]++(exW (Zj op) (.mk o0 t0 n0 y0 q0)++(([32]++(w1++[32]))++exW (Zj op+1) (.mk o1 t1 n1 y1 q1))++[41]))=(l++[40])++exW (Zj op) (.mk o0 t0 n0 y0 q0)++([32]++(w1++[32]))++exW (Zj op+1) (.mk o1 t1 n1 y1 q1)++[41] by first | rfl | simp only [Tj]] at h;exact h
    have c1:¬Zj op<5:=oM;refine ZJU (fun c2=>?_) (fun c2=>wN ?_)
    ·have c2:Zj op=5:=by omega
     have fc:xs.length=1:=by have:=k2 c2;omega
     obtain ⟨x0,rfl⟩:∃x0,xs=[x0]:=by match xs,fc with | [a],_=>exact ⟨a,rfl⟩
     simp only [szS] at dy;have g0:=m5 x0 sM;have z0:wE x0<=n - 1:=oM;obtain ⟨o0,t0,n0,y0,q0⟩:=x0;have hx:exT (.mk op tx nn [(.mk o0 t0 n0 y0 q0)] at')=w1++exW 5 (.mk o0 t0 n0 y0 q0):=by rw [exT,exN,Tb c1,Tg c2,e2];rfl
     rw [hx] at h aa
     (try simp only [Ta,Te,Th] at aa)
     conv=>whnf
     refine wk _ w1 ⟨[w1],rfl,sM,sM,sM⟩ ?_;(conv=>whnf);refine ⟨_,dM,rfl,wN ?_⟩;refine ⟨oM,wk _ (exW 5 (.mk o0 t0 n0 y0 q0)) ⟨pl,(.mk o0 t0 n0 y0 q0),5,rfl,⟨g0,oM,oM,oM,oM⟩,rfl⟩ ?_⟩;(conv=>whnf);refine ⟨Td rfl,wN ?_⟩;refine ⟨_,dM,rfl,wN ?_⟩;refine wk _ [41] ⟨rfl,rfl⟩ ?_;(conv=>whnf);refine Zl ?_;rw [show l++([40]++(w1++exW 5 (.mk o0 t0 n0 y0 q0)++[41]))=(l++[40])++w1++exW 5 (.mk o0 t0 n0 y0 q0)++[41] by first | rfl | simp only [Tj]] at h;exact h
    have c2:¬Zj op=5:=oM;refine ZJX (fun c3=>?_) (fun c3=>wN ?_)
    ·have c3:ZD op≠[]:=by rw [e2];exact c3
     have hx:exT (.mk op tx nn xs at')=w1++argT [40] [41] xs:=by rw [exT,exN,Tb c1,Tb c2,Tg c3,e2,J3];rfl
     rw [hx] at h aa
     (try simp only [Ta,Te,Th] at aa)
     conv=>whnf
     refine wk _ w1 ⟨[w1],rfl,sM,sM,sM⟩ ?_;(conv=>whnf);refine ⟨oM,wk _ (argT [40] [41] xs) ⟨[40],[41],pl,xs,rfl,⟨To.2 m5,oM,oM⟩,rfl⟩ ?_⟩;(conv=>whnf);refine ⟨Td rfl,wN ?_⟩;refine ⟨_,dM,rfl,wN ?_⟩;refine wk _ [41] ⟨rfl,rfl⟩ ?_;(conv=>whnf);refine Zl ?_;rw [show l++([40]++(w1++argT [40] [41] xs++[41]))=(l++[40])++w1++argT [40] [41] xs++[41] by first | rfl | simp only [Tj]] at h;exact h
    have c3:¬ZD op≠[]:=by rw [e2];exact fun g=>g c3
    refine ZJU (fun c4=>?_) (fun c4=>wN ?_)
    ·have c4:op=6:=by omega
     have hx:exT (.mk op tx nn xs at')=argT [91] [93] xs:=by rw [exT,exN,Tb c1,Tb c2,Tb c3,Tg c4,J3];rfl
     rw [hx] at h aa
     (try simp only [Ta,Te,Th] at aa)
     conv=>whnf
     refine ⟨oM,wk _ (argT [91] [93] xs) ⟨[91],[93],pl,xs,rfl,⟨To.2 m5,oM,oM⟩,rfl⟩ ?_⟩;(conv=>whnf);refine ⟨Td rfl,wN ?_⟩;refine ⟨_,dM,rfl,wN ?_⟩;refine wk _ [41] ⟨rfl,rfl⟩ ?_;(conv=>whnf);refine Zl ?_;rw [show l++([40]++(argT [91] [93] xs++[41]))=(l++[40])++argT [91] [93] xs++[41] by first | rfl | simp only [Tj]] at h;exact h
    have c4:¬op=6:=oM;refine ZJU (fun c5=>?_) (fun c5=>wN ?_)
    ·have c5:op=7:=by omega
     have hxl:(Zs pl xs).length=xs.length:=by rw [Zd,Tf]
     by_cases ji:xs.length=0
     ·have hx:exT (.mk op tx nn xs at')=[36]++tx:=by rw [exT,exN,Tb c1,Tb c2,Tb c3,Tb c4,Tg c5,Zd1,Tg ji,TL]
      rw [hx] at h aa
      (try simp only [Ta,Te,Th] at aa)
      conv=>whnf
      refine wk _ ([36]++tx) ⟨[[36],tx],rfl,sM,sM,sM⟩ ?_;(conv=>whnf);refine ZJU (fun g=>?_) (fun g=>?_)
      case refine_1=>exact absurd (show ((Zs pl xs).length:Int)>0 from g) oM
      conv=>whnf
      refine ⟨Td rfl,wN ?_⟩;refine ⟨_,dM,rfl,wN ?_⟩;refine wk _ [41] ⟨rfl,rfl⟩ ?_;(conv=>whnf);refine Zl ?_;rw [show l++([40]++([36]++tx++[41]))=(l++[40])++([36]++tx)++[41] by first | rfl | simp only [Tj]] at h;exact h
     have hx:exT (.mk op tx nn xs at')=([36]++tx)++argT [40] [41] xs:=by rw [exT,exN,Tb c1,Tb c2,Tb c3,Tb c4,Tg c5,Zd1,Tb ji,J3,Tj];rfl
     rw [hx] at h aa
     (try simp only [Ta,Te,Th] at aa)
     conv=>whnf
     refine wk _ ([36]++tx) ⟨[[36],tx],rfl,sM,sM,sM⟩ ?_;(conv=>whnf);refine ZJU (fun g=>?_) (fun g=>?_)
     case refine_2=>exact absurd (show ((Zs pl xs).length:Int)>0 by omega) g
     conv=>whnf
     refine ⟨oM,wk _ (argT [40] [41] xs) ⟨[40],[41],pl,xs,rfl,⟨To.2 m5,oM,oM⟩,rfl⟩ ?_⟩;(conv=>whnf);refine ⟨Td rfl,wN ?_⟩;refine ⟨_,dM,rfl,wN ?_⟩;refine wk _ [41] ⟨rfl,rfl⟩ ?_;(conv=>whnf);refine Zl ?_;rw [show l++([40]++(([36]++tx)++argT [40] [41] xs++[41]))=(l++[40])++([36]++tx)++argT [40] [41] xs++[41] by first | rfl | simp only [Tj]] at h;exact h
    have c5:¬op=7:=oM;refine ZJU (fun c6=>wN ?_) (fun c6=>wN ?_)
    ·have c6':op=3:=by omega
     obtain ⟨i0,i1⟩:=m4;refine ZJU (fun gn=>wN ?_) (fun gn=>wN ?_)
     ·obtain ⟨j0,j1,j2⟩:=ZoN gn i0;obtain ⟨wn,y3⟩:∃wn,IntKind.u64.wrap nn=wn:=⟨_,rfl⟩
      rw [y3] at j0 j1 j2;refine Or.inr ?_;rw [y3];have hx:exT (.mk op tx nn xs at')=Zfm nn:=by rw [exT,exN,Tb c1,Tb c2,Tb c3,Tb c4,Tb c5,Tg c6']
      rw [hx] at h aa
      (try simp only [Ta,Te,Th] at aa)
      conv=>whnf
      refine ⟨⟨rfl,j0,j1⟩,?_⟩;obtain ⟨T,hT⟩:∃T,Ym 16 wn.toNat=T:=⟨_,rfl⟩
      rw [hT] at j2 |-;rw [j2] at h aa
      (try simp only [Ta,Te,Th] at aa)
      conv=>whnf
      refine wk _ ([48,120]++T) ⟨[[48,120],T],rfl,sM,sM,sM⟩ ?_;(conv=>whnf);refine ⟨Td rfl,wN ?_⟩;refine ⟨_,dM,rfl,wN ?_⟩;refine wk _ [41] ⟨rfl,rfl⟩ ?_;(conv=>whnf);refine Zl ?_;rw [show l++([40]++(([48,120]++T)++[41]))=(l++[40])++([48,120]++T)++[41] by first | rfl | simp only [Tj]] at h;exact h
     refine ZJU (fun _=>?_) (fun g=>absurd c6 g);have hx:exT (.mk op tx nn xs at')=Zfm nn:=by rw [exT,exN,Tb c1,Tb c2,Tb c3,Tb c4,Tb c5,Tg c6']
     rw [hx] at h aa
     (try simp only [Ta,Te,Th] at aa)
     conv=>whnf
     refine ⟨⟨rfl,oM,i1⟩,wN ?_⟩;refine wk _ (Zfm nn) ⟨[Zfm nn],rfl,sM,sM,sM⟩ ?_;(conv=>whnf);refine ⟨Td rfl,wN ?_⟩;refine ⟨_,dM,rfl,wN ?_⟩;refine wk _ [41] ⟨rfl,rfl⟩ ?_;(conv=>whnf);refine Zl ?_;rw [show l++([40]++(Zfm nn++[41]))=(l++[40])++Zfm nn++[41] by first | rfl | simp only [Tj]] at h;exact h
    have c6':¬op=3:=oM;refine ZJU (fun g=>absurd g c6) (fun _=>wN ?_);refine ZJU (fun c7=>?_) (fun c7=>wN ?_)
    ·have c7':op=4:=by omega
     have hq:(Uc tx).isSome=true:=by unfold WJ at m3;rw [Tb oM,Tg c7'] at m3;exact m3
     obtain ⟨q,hq⟩:=Sw.1 hq;have hqT:Ztl tx=q:=by rw [Ztl,hq];rfl
     have hx:exT (.mk op tx nn xs at')=q:=by rw [exT,exN,Tb c1,Tb c2,Tb c3,Tb c4,Tb c5,Tb c6',Tg c7',hqT]
     rw [hx] at h aa
     (try simp only [Ta,Te,Th] at aa)
     conv=>whnf
     refine ⟨oM,wN ?_⟩;refine ⟨fun g=>?_,fun q' gx=>?_⟩
     case refine_1=>exact absurd (hq.symm.trans g) sM
     obtain rfl:q=q':=by rw [hq] at gx;exact Option.some.inj gx
     conv=>whnf
     refine wk _ q ⟨[q],rfl,sM,sM,sM⟩ ?_;(conv=>whnf);refine ⟨Td rfl,wN ?_⟩;refine ⟨_,dM,rfl,wN ?_⟩;refine wk _ [41] ⟨rfl,rfl⟩ ?_;(conv=>whnf);refine Zl ?_;rw [show l++([40]++(q++[41]))=(l++[40])++q++[41] by first | rfl | simp only [Tj]] at h;exact h
    have c7':¬op=4:=oM;refine ZJU (fun c8=>?_) (fun c8=>wN ?_)
    ·have c8':op=5:=by omega
     have hx:exT (.mk op tx nn xs at')=[110,105,108]:=by rw [exT,exN,Tb c1,Tb c2,Tb c3,Tb c4,Tb c5,Tb c6',Tb c7',Tg c8']
     rw [hx] at h aa
     (try simp only [Ta,Te,Th] at aa)
     conv=>whnf
     refine wk _ [110,105,108] ⟨[[110,105,108]],rfl,sM,sM,sM⟩ ?_;(conv=>whnf);refine ⟨Td rfl,wN ?_⟩;refine ⟨_,dM,rfl,wN ?_⟩;refine wk _ [41] ⟨rfl,rfl⟩ ?_;(conv=>whnf);refine Zl ?_;rw [show l++([40]++([110,105,108]++[41]))=(l++[40])++[110,105,108]++[41] by first | rfl | simp only [Tj]] at h;exact h
    have c8':¬op=5:=oM;refine ZJU (fun c9=>?_) (fun c9=>?_)
    ·have c9':op=2:=by omega
     have hx:exT (.mk op tx nn xs at')=[95]:=by rw [exT,exN,Tb c1,Tb c2,Tb c3,Tb c4,Tb c5,Tb c6',Tb c7',Tb c8',Tg c9']
     rw [hx] at h aa
     (try simp only [Ta,Te,Th] at aa)
     conv=>whnf
     refine wk _ [95] ⟨[[95]],rfl,sM,sM,sM⟩ ?_;(conv=>whnf);refine ⟨Td rfl,wN ?_⟩;refine ⟨_,dM,rfl,wN ?_⟩;refine wk _ [41] ⟨rfl,rfl⟩ ?_;(conv=>whnf);refine Zl ?_;rw [show l++([40]++([95]++[41]))=(l++[40])++[95]++[41] by first | rfl | simp only [Tj]] at h;exact h
    have c9':¬op=2:=oM;have hx:exT (.mk op tx nn xs at')=tx:=by rw [exT,exN,Tb c1,Tb c2,Tb c3,Tb c4,Tb c5,Tb c6',Tb c7',Tb c8',Tb c9']
    rw [hx] at h aa
    (try simp only [Ta,Te,Th] at aa)
    conv=>whnf
    refine wk _ tx ⟨[tx],rfl,sM,sM,sM⟩ ?_;(conv=>whnf);refine ⟨Td rfl,wN ?_⟩;refine ⟨_,dM,rfl,wN ?_⟩;refine wk _ [41] ⟨rfl,rfl⟩ ?_;(conv=>whnf);refine Zl ?_;rw [show l++([40]++(tx++[41]))=(l++[40])++tx++[41] by first | rfl | simp only [Tj]] at h;exact h
   have hW:exW want.toNat (.mk op tx nn xs at')=exT (.mk op tx nn xs at'):=by rw [exW,Ztm,Tb (by show ¬Zj op<_;omega)]
   rw [hW] at h aa;refine ZJU (fun c1=>?_) (fun c1=>wN ?_)
   ·have c1:Zj op<5:=by omega
    have fc:xs.length=2:=by have:=k1 c1;omega
    obtain ⟨x0,x1,rfl⟩:∃x0 x1,xs=[x0,x1]:=by match xs,fc with | [a,b],_=>exact ⟨a,b,rfl⟩
    simp only [szS] at dy;have g0:=m5 x0 sM;have g1:=m5 x1 sM;have z0:wE x0<=n - 1:=oM;have z1:wE x1<=n - 1:=oM;obtain ⟨o0,t0,n0,y0,q0⟩:=x0;obtain ⟨o1,t1,n1,y1,q1⟩:=x1;have hx:exT (.mk op tx nn [(.mk o0 t0 n0 y0 q0),(.mk o1 t1 n1 y1 q1)] at')=exW (Zj op) (.mk o0 t0 n0 y0 q0)++(([32]++(w1++[32]))++exW (Zj op+1) (.mk o1 t1 n1 y1 q1)):=by rw [exT,exN,Tg c1,e2];rfl
    rw [hx] at h aa
    (try simp only [Ta,Te,Th] at aa)
    conv=>whnf
    refine ⟨_,dM,rfl,wN ?_⟩;refine ⟨oM,wk _ (exW (Zj op) (.mk o0 t0 n0 y0 q0)) ⟨pl,(.mk o0 t0 n0 y0 q0),(Zj op:Int),rfl,⟨g0,oM,oM,oM,oM⟩,rfl⟩ ?_⟩;(conv=>whnf);refine wk _ ([32]++(w1++[32])) ⟨[[32],w1,[32]],rfl,sM,sM,sM⟩ ?_;(conv=>whnf);refine ⟨_,dM,rfl,wN ?_⟩;refine Zl ?_;refine ⟨oM,wk _ (exW (Zj op+1) (.mk o1 t1 n1 y1 q1)) ⟨pl,(.mk o1 t1 n1 y1 q1),((Zj op:Int)+1),rfl,⟨g1,oM,oM,oM,oM⟩,rfl⟩ ?_⟩;rw [show l++(exW (Zj op) (.mk o0 t0 n0 y0 q0)++(([32]++(w1++[32]))++exW (Zj op+1) (.mk o1 t1 n1 y1 q1)))=l++exW (Zj op) (.mk o0 t0 n0 y0 q0)++([32]++(w1++[32]))++exW (Zj op+1) (.mk o1 t1 n1 y1 q1) by first | rfl | simp only [Tj]] at h;exact mq52
   have c1:¬Zj op<5:=oM;refine ZJU (fun c2=>?_) (fun c2=>wN ?_)
   ·have c2:Zj op=5:=by omega
    have fc:xs.length=1:=by have:=k2 c2;omega
    obtain ⟨x0,rfl⟩:∃x0,xs=[x0]:=by match xs,fc with | [a],_=>exact ⟨a,rfl⟩
    simp only [szS] at dy;have g0:=m5 x0 sM;have z0:wE x0<=n - 1:=oM;obtain ⟨o0,t0,n0,y0,q0⟩:=x0;have hx:exT (.mk op tx nn [(.mk o0 t0 n0 y0 q0)] at')=w1++exW 5 (.mk o0 t0 n0 y0 q0):=by rw [exT,exN,Tb c1,Tg c2,e2];rfl
    rw [hx] at h aa
    (try simp only [Ta,Te,Th] at aa)
    conv=>whnf
    refine wk _ w1 ⟨[w1],rfl,sM,sM,sM⟩ ?_;(conv=>whnf);refine ⟨_,dM,rfl,wN ?_⟩;refine ⟨oM,wk _ (exW 5 (.mk o0 t0 n0 y0 q0)) ⟨pl,(.mk o0 t0 n0 y0 q0),5,rfl,⟨g0,oM,oM,oM,oM⟩,rfl⟩ ?_⟩;rw [show l++(w1++exW 5 (.mk o0 t0 n0 y0 q0))=l++w1++exW 5 (.mk o0 t0 n0 y0 q0) by first | rfl | simp only [Tj]] at h;exact mq52
   have c2:¬Zj op=5:=oM;refine ZJX (fun c3=>?_) (fun c3=>wN ?_)
   ·have c3:ZD op≠[]:=by rw [e2];exact c3
    have hx:exT (.mk op tx nn xs at')=w1++argT [40] [41] xs:=by rw [exT,exN,Tb c1,Tb c2,Tg c3,e2,J3];rfl
    rw [hx] at h aa
    (try simp only [Ta,Te,Th] at aa)
    conv=>whnf
    refine wk _ w1 ⟨[w1],rfl,sM,sM,sM⟩ ?_;(conv=>whnf);refine ⟨oM,wk _ (argT [40] [41] xs) ⟨[40],[41],pl,xs,rfl,⟨To.2 m5,oM,oM⟩,rfl⟩ ?_⟩;rw [show l++(w1++argT [40] [41] xs)=l++w1++argT [40] [41] xs by first | rfl | simp only [Tj]] at h;exact mq52
   have c3:¬ZD op≠[]:=by rw [e2];exact fun g=>g c3
   refine ZJU (fun c4=>?_) (fun c4=>wN ?_)
   ·have c4:op=6:=by omega
    have hx:exT (.mk op tx nn xs at')=argT [91] [93] xs:=by rw [exT,exN,Tb c1,Tb c2,Tb c3,Tg c4,J3];rfl
    rw [hx] at h aa
    (try simp only [Ta,Te,Th] at aa)
    conv=>whnf
    refine ⟨oM,wk _ (argT [91] [93] xs) ⟨[91],[93],pl,xs,rfl,⟨To.2 m5,oM,oM⟩,rfl⟩ ?_⟩;rw [show l++(argT [91] [93] xs)=l++argT [91] [93] xs by first | rfl | simp only [Tj]] at h;exact mq52
   have c4:¬op=6:=oM;refine ZJU (fun c5=>?_) (fun c5=>wN ?_)
   ·have c5:op=7:=by omega
    have hxl:(Zs pl xs).length=xs.length:=by rw [Zd,Tf]
    by_cases ji:xs.length=0
    ·have hx:exT (.mk op tx nn xs at')=[36]++tx:=by rw [exT,exN,Tb c1,Tb c2,Tb c3,Tb c4,Tg c5,Zd1,Tg ji,TL]
     rw [hx] at h aa
     (try simp only [Ta,Te,Th] at aa)
     conv=>whnf
     refine wk _ ([36]++tx) ⟨[[36],tx],rfl,sM,sM,sM⟩ ?_;(conv=>whnf);refine ZJU (fun g=>?_) (fun g=>?_)
     case refine_1=>exact absurd (show ((Zs pl xs).length:Int)>0 from g) oM
     rw [show l++([36]++tx)=l++([36]++tx) by first | rfl | simp only [Tj]] at h;exact mq52
    have hx:exT (.mk op tx nn xs at')=([36]++tx)++argT [40] [41] xs:=by rw [exT,exN,Tb c1,Tb c2,Tb c3,Tb c4,Tg c5,Zd1,Tb ji,J3,Tj];rfl
    rw [hx] at h aa
    (try simp only [Ta,Te,Th] at aa)
    conv=>whnf
    refine wk _ ([36]++tx) ⟨[[36],tx],rfl,sM,sM,sM⟩ ?_;(conv=>whnf);refine ZJU (fun g=>?_) (fun g=>?_)
    case refine_2=>exact absurd (show ((Zs pl xs).length:Int)>0 by omega) g
    conv=>whnf
    refine ⟨oM,wk _ (argT [40] [41] xs) ⟨[40],[41],pl,xs,rfl,⟨To.2 m5,oM,oM⟩,rfl⟩ ?_⟩;rw [show l++(([36]++tx)++argT [40] [41] xs)=l++([36]++tx)++argT [40] [41] xs by first | rfl | simp only [Tj]] at h;exact mq52
   have c5:¬op=7:=oM;refine ZJU (fun c6=>wN ?_) (fun c6=>wN ?_)
   ·have c6':op=3:=by omega
    obtain ⟨i0,i1⟩:=m4;refine ZJU (fun gn=>wN ?_) (fun gn=>wN ?_)
    ·obtain ⟨j0,j1,j2⟩:=ZoN gn i0;obtain ⟨wn,y3⟩:∃wn,IntKind.u64.wrap nn=wn:=⟨_,rfl⟩
     rw [y3] at j0 j1 j2;refine Or.inr ?_;rw [y3];have hx:exT (.mk op tx nn xs at')=Zfm nn:=by rw [exT,exN,Tb c1,Tb c2,Tb c3,Tb c4,Tb c5,Tg c6']
     rw [hx] at h aa
     (try simp only [Ta,Te,Th] at aa)
     conv=>whnf
     refine ⟨⟨rfl,j0,j1⟩,?_⟩;obtain ⟨T,hT⟩:∃T,Ym 16 wn.toNat=T:=⟨_,rfl⟩
     rw [hT] at j2 |-;rw [j2] at h aa
     (try simp only [Ta,Te,Th] at aa)
     conv=>whnf
     refine wk _ ([48,120]++T) ⟨[[48,120],T],rfl,sM,sM,sM⟩ ?_;rw [show l++(([48,120]++T))=l++([48,120]++T) by first | rfl | simp only [Tj]] at h;exact mq52
    refine ZJU (fun _=>?_) (fun g=>absurd c6 g);have hx:exT (.mk op tx nn xs at')=Zfm nn:=by rw [exT,exN,Tb c1,Tb c2,Tb c3,Tb c4,Tb c5,Tg c6']
    rw [hx] at h aa
    (try simp only [Ta,Te,Th] at aa)
    conv=>whnf
    refine ⟨⟨rfl,oM,i1⟩,wN ?_⟩;refine wk _ (Zfm nn) ⟨[Zfm nn],rfl,sM,sM,sM⟩ ?_;rw [show l++(Zfm nn)=l++Zfm nn by first | rfl | simp only [Tj]] at h;exact mq52
   have c6':¬op=3:=oM;refine ZJU (fun g=>absurd g c6) (fun _=>wN ?_);refine ZJU (fun c7=>?_) (fun c7=>wN ?_)
   ·have c7':op=4:=by omega
    have hq:(Uc tx).isSome=true:=by unfold WJ at m3;rw [Tb oM,Tg c7'] at m3;exact m3
    obtain ⟨q,hq⟩:=Sw.1 hq;have hqT:Ztl tx=q:=by rw [Ztl,hq];rfl
    have hx:exT (.mk op tx nn xs at')=q:=by rw [exT,exN,Tb c1,Tb c2,Tb c3,Tb c4,Tb c5,Tb c6',Tg c7',hqT]
    rw [hx] at h aa
    (try simp only [Ta,Te,Th] at aa)
    conv=>whnf
    refine ⟨oM,wN ?_⟩;refine ⟨fun g=>?_,fun q' gx=>?_⟩
    case refine_1=>exact absurd (hq.symm.trans g) sM
    obtain rfl:q=q':=by rw [hq] at gx;exact Option.some.inj gx
    conv=>whnf
    refine wk _ q ⟨[q],rfl,sM,sM,sM⟩ ?_;rw [show l++(q)=l++q by first | rfl | simp only [Tj]] at h;exact mq52
   have c7':¬op=4:=oM;refine ZJU (fun c8=>?_) (fun c8=>wN ?_)
   ·have c8':op=5:=by omega
    have hx:exT (.mk op tx nn xs at')=[110,105,108]:=by rw [exT,exN,Tb c1,Tb c2,Tb c3,Tb c4,Tb c5,Tb c6',Tb c7',Tg c8']
    rw [hx] at h aa
    (try simp only [Ta,Te,Th] at aa)
    conv=>whnf
    refine wk _ [110,105,108] ⟨[[110,105,108]],rfl,sM,sM,sM⟩ ?_;rw [show l++([110,105,108])=l++[110,105,108] by first | rfl | simp only [Tj]] at h;exact mq52
   have c8':¬op=5:=oM;refine ZJU (fun c9=>?_) (fun c9=>?_)
   ·have c9':op=2:=by omega
    have hx:exT (.mk op tx nn xs at')=[95]:=by rw [exT,exN,Tb c1,Tb c2,Tb c3,Tb c4,Tb c5,Tb c6',Tb c7',Tb c8',Tg c9']
    rw [hx] at h aa
    (try simp only [Ta,Te,Th] at aa)
    conv=>whnf
    refine wk _ [95] ⟨[[95]],rfl,sM,sM,sM⟩ ?_;rw [show l++([95])=l++[95] by first | rfl | simp only [Tj]] at h;exact mq52
   have c9':¬op=2:=oM;have hx:exT (.mk op tx nn xs at')=tx:=by rw [exT,exN,Tb c1,Tb c2,Tb c3,Tb c4,Tb c5,Tb c6',Tb c7',Tb c8',Tb c9']
   rw [hx] at h aa
   (try simp only [Ta,Te,Th] at aa)
   conv=>whnf
   refine wk _ tx ⟨[tx],rfl,sM,sM,sM⟩ ?_;rw [show l++(tx)=l++tx by first | rfl | simp only [Tj]] at h;exact mq52
 exact h.elim
end Go.PM.Lex
end

section
namespace Go.PM.Lex
open Go.Proofs Go.Shelf Go.RowKit
variable {w0:World} {nG:Nat}
def ZqK (w:World) (g n:Nat) {cs:Array Value} {ty:TypeId} {fz:Nat×Nat} (h:w.heap[g]?=some (.cells cs ty fz)) (h1:fz.1<=fz.2) (h2:∀o,n<=o->fz.1<=o->fz.2<=o) :
  ∃fz',(w.drew.freeze ⟨g,0,none⟩ n).heap[g]?=some (.cells cs ty fz')/\fz'.1<=fz'.2/\∀o,n<=o->fz'.1<=o->fz'.2<=o:=by
 have h':w.drew.heap[g]?=some (.cells cs ty fz):=h;obtain ⟨lo,hi⟩:=fz;unfold World.freeze
 split
 ·exact ⟨_,h',h1,h2⟩
 simp only [SL,if_true,h',So];refine ⟨_,rfl,?_,?_⟩
 ·split
  ·exact Sl _
  simp only at h1 |-;omega
 intro o ho ak
 split
 ·simp only;omega
 rename_i aj
 have aj:lo≠hi:=by simpa using aj
 simp only at h1 |-;have k:=h2 (max lo n) oM (by simp only;omega);simp only at k;omega
def _root_.Go.PM.Owned.grow {G:GE} {e:Env} {w w':World} {t el:Nat} {rows:List (List D)} {v:Value} (h:Owned G e w t el rows v) (g:Grows w w'):Owned G e w' t el rows v:=by
 rcases h with h | ⟨sz,a1,a2,a3,b,off,cap,cs,ty,fz,a4,a5,a6,a7,a8,a9,a10⟩
 ·exact .inl h
 exact .inr ⟨sz,a1,a2,a3,b,off,cap,cs,ty,fz,a4,a5,a6,(g.old _ (Tr.1 a7).1).trans a7,a8,a9,a10⟩
def _root_.Go.PM.Owned.refreeze {G:GE} {e:Env} {w w':World} {t:Nat} {rows:List (List D)} {v:Value} {g n:Nat} {cs:Array Value} {ty:TypeId} {fz fz':Nat×Nat} (h:Owned G e w t 5 rows v) (hM:e.M t=some (g,n))
  (h':w'.heap[g]?=some (.cells cs ty fz')) (h0:w.heap[g]?=some (.cells cs ty fz)) (h1:fz'.1<=fz'.2) (h2:∀o,n<=o->fz'.1<=o->fz'.2<=o):Owned G e w' t 5 rows v:=by
 rcases h with ⟨_,_,h⟩ | ⟨sz,a1,a2,a3,b,off,cap,cs2,ty2,fz2,a4,a5,a6,a7,a8,a9,a10⟩
 ·rw [hM] at h;cases h
 rw [hM] at a10;simp only [Option.some.injEq,Prod.mk.injEq] at a10;obtain ⟨rfl,rfl⟩:=a10;rw [h0] at a7
 cases a7
 exact .inr ⟨sz,a1,a2,a3,g,off,cap,cs,ty,fz',a4,a5,a6,h',a8,⟨h1,h2⟩,hM⟩
def ZBz {G:GE} {e:Env} {w w':World} {t:TypeId} {p:PV} {rows:List (List D)} (hp:p=.d .nilp\/p=.ptr 0 0) (hS:SRel G e ⟨[.cells t [p,.sl 0 5 rows]],[0],1⟩ w)
  (hsz:w.heap.size<=w'.heap.size) (qh:w'.os=w.os) (htp:w'.tape=w.tape) (ju:w'.output=w.output)
  (bf:∀b off u,w.cell? ⟨b,off,none⟩=some u->w'.cell? ⟨b,off,none⟩=some u)
  (gj:∀b,b<w.heap.size->(∀q,e.M 0=some q->q.1≠b)->w'.heap[b]?=w.heap[b]?)
  (jw:∀v,Owned G e w 0 5 rows v->Owned G e w' 0 5 rows v) (ac0:∀q,e.M 0=some q->∃cs ty fz,w'.heap[q.1]?=some (.cells cs ty fz)) :
  SRel G e ⟨[.cells t [p,.sl 0 5 rows]],[0],1⟩ w'/\Later e ⟨[.cells t [p,.sl 0 5 rows]],[0],1⟩ w e ⟨[.cells t [p,.sl 0 5 rows]],[0],1⟩ w':=by
 have hL:Later e ⟨[.cells t [p,.sl 0 5 rows]],[0],1⟩ w e ⟨[.cells t [p,.sl 0 5 rows]],[0],1⟩ w':={
  len:=Tw _
  beta:=fun _ _=>rfl
  X:=rfl
  pres:=fun b off u hu ho=>⟨ho,bf b off u hu⟩
  fhid:=fun b h=>.inr (.inr h)
  blocks:=fun b hb h1 h2 _=>gj b hb fun q hq=>h2 0 sM q hq
  size:=hsz
  os:=qh
  tape:=htp
  output:=ju
  fresh:=fun i h1 h2=>by simp at h1 h2;omega
  ftok:=fun x hx q hq=>.inr (.inl ⟨x,hx,q,hq,rfl⟩) }
 have ab:=hS.lt (i:=0) sM;have oz:w'.heap[e.β 0]?=w.heap[e.β 0]?:=gj _ ab fun q hq=>fun h=>(hS.own 0 sM q hq).2.1 0 sM h.symm
 refine ⟨?_,hL⟩;exact {
  inj:=hS.inj
  box:=fun i x hx=>by
   match i,hx with
   | 0,hx =>
    cases hx
    obtain ⟨cv,h1,h2,h3⟩:=hS.box 0 _ rfl;refine ⟨cv,oz.trans h1,h2,fun j y u hy hu=>?_⟩
    match j,hy with
    | 0,hy =>
     exact mq88
    | 1,hy =>
     cases hy
     obtain ⟨q1,q2⟩:=h3 1 (.sl 0 5 rows) u rfl hu;refine ⟨?_,q2⟩
     cases q1 with
     | sl _ _ _ _ hn hd ht=>exact .sl _ _ _ _ hn (hd.later hL) (fun h=>jw _ (ht h))
    | j+2,hy=>simp at hy
   | i+1,hx=>simp at hx
  low:=hS.low
  tkn:=hS.tkn
  own:=fun x hx q hq=>by
   obtain ⟨a,b,_⟩:=hS.own x hx q hq;obtain rfl:x=0:=by simpa using hx
   exact ⟨a,b,ac0 q hq⟩
  dis:=hS.dis
  xlt:=fun b off hx=>TG (hS.xlt b off hx) hsz
  xown:=hS.xown
  hid:=fun b q hq=>let ⟨k1,k2,k3,k4,k5⟩:=hS.hid b q hq;⟨k1,TG k2 hsz,k3,k4,k5⟩
  glob:=fun b hb=>by
   rw [gj b (TG hb hS.big) fun q hq=>fun h=>by have:=(hS.own 0 sM q hq).1;omega];exact hS.glob b hb
  big:=Sc hS.big hsz }
def ZbT:Zq:=fun args σ K=>match args,σ with
 | [.ptr 0 0],⟨[.cells t [p,.sl 0 e rows]],[0],1⟩=>∃l:Bs,(rows=Zi l/\t=88/\e=5/\(p=.d .nilp\/p=.ptr 0 0)/\l.length<70368744177664)/\K (.ret (.d (.str l))) ⟨[.cells t [p,.sl 0 e rows]],[0],1⟩
 | _,_=>False
def Zhj:PC w0 nG 26 ZbT:=UH (Zg Tryz.func26 kR rfl) fun args σ K h e w vs hS ha=>by
 unfold ZbT at h
 split at h
 ·rename_i t p el rows
  obtain ⟨l,⟨rfl,rfl,rfl,hp,cy⟩,hK⟩:=h;obtain ⟨u,rfl,hu⟩:=Zke ha;obtain ⟨cv,dg,bw,j8⟩:=hS.box 0 _ rfl;have dk:cv.size=2:=bw;obtain ⟨v0,v1,rfl⟩:∃v0 v1,cv=#[v0,v1]:=by
   obtain ⟨lst⟩:=cv
   match lst,dk with
   | [a,b],_=>exact ⟨a,b,rfl⟩
  have bj:=(j8 1 (.sl 0 5 (Zi l)) v1 rfl rfl).1
  cases hu with
  | ptr b off hb =>
  refine ⟨_,_,.string ⟨l.toArray⟩,hK,?_⟩;have fin:∀w',w.heap.size<=w'.heap.size->w'.os=w.os->w'.tape=w.tape->w'.output=w.output ->
    (∀b off u,w.cell? ⟨b,off,none⟩=some u->w'.cell? ⟨b,off,none⟩=some u) ->
    (∀b,b<w.heap.size->(∀q,e.M 0=some q->q.1≠b)->w'.heap[b]?=w.heap[b]?)->(∀v,Owned (GG w0 nG) e w 0 5 (Zi l) v->Owned (GG w0 nG) e w' 0 5 (Zi l) v)->(∀q,e.M 0=some q->∃cs ty fz,w'.heap[q.1]?=some (.cells cs ty fz)) ->
    VRel (GG w0 nG) e ⟨[.cells 88 [p,.sl 0 5 (Zi l)]],[0],1⟩ w' (.d (.str l)) (.string ⟨l.toArray⟩)/\SRel (GG w0 nG) e ⟨[.cells 88 [p,.sl 0 5 (Zi l)]],[0],1⟩ w'/\Later e ⟨[.cells 88 [p,.sl 0 5 (Zi l)]],[0],1⟩ w e ⟨[.cells 88 [p,.sl 0 5 (Zi l)]],[0],1⟩ w':=fun w' h1 h2 h3 h4 h5 h6 h7 h8 =>
   ⟨.mkstr,ZBz hp hS h1 h2 h3 h4 h5 h6 h7 h8⟩
  have grown:∀w',Grows w w'->_:=fun w' g=>fin w' g.size g.os g.tape g.output (fun b off u hu=>(g.cell (Uz hu)).trans hu) (fun b hb _=>g.old b hb) (fun v hv=>hv.grow g) (fun q hq=>by obtain ⟨_,_,cs,ty,fz,hh⟩:=hS.own 0 sM q hq;exact ⟨cs,ty,fz,(g.old _ (Tr.1 hh).1).trans hh⟩)
  cases bj with
  | sl _ _ _ _ hn hd ht =>
  rcases ht sM with ⟨rfl,bz,hM⟩ | ⟨sz,g1,g2,g3,g,off,cap,cs,ty,fz,rfl,g4,g5,g6,⟨g7,rfl,rfl,g8⟩,g9,hM⟩
  ·have hl:l=[]:=by simpa [Zi] using bz
   subst hl;refine (Zwq Tryz.lays169 Tryz.Builder_Extra_169 w.heap.size (e.β 0) v0 w dg).mono fun en w' ⟨h1,h2⟩=>?_
   exact ⟨h1,grown w' (ZJ0 h2)⟩
  have kr:sz=1:=by
   have:(Tryz.prog.info? 5).map (·.size)=some sz:=g1
   rw [ZDG] at this;cases this;rfl
  subst kr;rw [Xv] at g5 dg g9 hM hd
  by_cases hl:l=[]
  ·subst hl;refine (Ztr Tryz.lays169 Tryz.Builder_Extra_169 w.heap.size (e.β 0) g cap v0 w oM dg).mono fun en w' ⟨h1,h2⟩=>?_
   exact ⟨h1,grown w' (ZJ0 h2)⟩
  have bf:∀j x,l[j]?=some x->w.cell? ⟨g,j,none⟩=some (.int .u8 x.toNat):=by
   exact mq32
  obtain ⟨fz',qq,hfa,hfb⟩:=ZqK w g l.length g6 g9.1 (fun o ho=>g9.2 o oM);refine (ZqG Tryz.lays169 Tryz.Builder_Extra_169 (e.β 0) g cap v0 cs fz l w hl dg g6 oM oM oM bf).mono fun en w' ⟨h1,h2⟩=>?_
  rw [h2];refine ⟨h1,fin _ ?_ ?_ ?_ ?_ ?_ ?_ ?_ ?_⟩
  ·unfold World.freeze;split <;> first | exact Tw _ | (simp only [Array.size_modify];exact Tw _)
  ·exact mq152
  ·exact mq152
  ·exact mq152
  ·exact mq110
  ·intro b hb hq
   exact UJ w g l.length b fun h=>hq _ hM h.symm
  ·intro v hv
   exact hv.refreeze hM qq g6 hfa (by simpa [Xv] using hfb)
  intro q hq
  rw [hM] at hq;cases hq;exact ⟨_,_,_,qq⟩
 exact h.elim
end Go.PM.Lex
end

section
namespace Go.PM.Lex
open Go.Proofs
variable {w0:World} {nG:Nat}
def ZBB {n:Nat}:OKw w0 nG [(119,ZiM),(176,ZiL (Y3 Z7) ZmY exT wE n)] 175 (Zts 176 Z7 ZmY exT wE n):=by
 refine pwo Tryz.func175 fun args σ K h=>?_
 unfold Zts at h
 split at h
 ·rename_i r bt g t e rows tp
  obtain ⟨l,pl,xs,rfl,rfl,⟨rfl,rfl,rfl⟩,⟨bv,hz,hn⟩,aa,h⟩:=h;have du:(xs.map (Z7 pl)).length=xs.length:=Tf ..;have hsz:=Zo wE xs;refine pwv [(1,⟨[12],[0,1,2,3,10,11],fun vs σ=>∃i:Nat,vs=[.d (.int .i64 i)]/\σ=⟨[.cells 88 [.ptr 0 0,.sl 0 5 (Zi (l++Zf bt ((xs.take i).map exT)))],.cells tp [.ptr 0 0]],[0],1⟩/\i<=xs.length,mu1 xs.length⟩)] 2 true ?_;refine ⟨⟨0,rfl,(by simp only [Sr,TN,Zf,TL];rfl),oM⟩,?_⟩;intro vs σ hI
  obtain ⟨i,rfl,rfl,hi⟩:=hI;(conv=>whnf);refine ZJU (fun af=>wN ?_) (fun af=>?_)
  ·have af:i<xs.length:=lzI du af;have hg:=Zu wE xs i af;have iu:ZmY xs[i]=true:=To.1 bv _ (TM af);have cp:=US bt exT af;have am:=ZbR bt exT xs (i+1);obtain ⟨eA,hA⟩:∃x,xs[i]=x:=⟨_,rfl⟩
   obtain ⟨a1,a2,a3,a4,a5⟩:=eA;rw [hA] at hg iu cp;have bj:(xs.map (Z7 pl))[((i:Nat):Int).toNat]?=some (Z7 pl (.mk a1 a2 a3 a4 a5)):=by simp [af,hA]
   refine ⟨_,oM,bj,wN ?_⟩;refine ZJU (fun h0=>wN ?_) (fun h0=>?_)
   ·have h0:0<i:=by omega
    rw [Tb oM] at cp;rw [cp] at am;simp only [Ta] at am;refine wk _ bt ⟨rfl,rfl⟩ (wN ?_);refine ⟨l++Zf bt ((xs.take i).map exT)++bt,pl,(.mk a1 a2 a3 a4 a5),rfl,rfl,⟨rfl,rfl⟩,⟨iu,oM,oM⟩,by simp only [Ta];omega,wN ?_⟩;exact mq69
   obtain rfl:i=0:=by omega
   rw [Tg rfl] at cp;rw [cp] at am;(conv=>whnf);refine ⟨l++Zf bt ((xs.take 0).map exT),pl,(.mk a1 a2 a3 a4 a5),rfl,rfl,⟨rfl,rfl⟩,⟨iu,oM,oM⟩,by simp only [Sr,TN,Zf,Ta,Th];omega,wN ?_⟩;exact mq65
  exact mq176
 exact h.elim
def Zym {n:Nat} (h:PC w0 nG 177 (ZwA n)):PC w0 nG 123 (ZwB n) :=
 ZHT ⟨ZbP,ZBB ⟨Ztt,ZEY ⟨h,trivial⟩,trivial⟩,trivial⟩
def cWE (hN:NumOK w0 nG) (hL:LexC w0 nG):∀n,PC w0 nG 177 (ZwA n)
 | 0=>ZE1 ⟨Zwp,ZbP,ZV (Zg Tryz.func177 kR rfl),ZV (Zg Tryz.func123 kR rfl),Ztw hN,Ztz hN,hL.quote,trivial⟩
 | n+1=>ZE1 ⟨Zwp,ZbP,ZW (sp:=ZwA) (cWE hN hL n),ZW (sp:=ZwB) (Zym (cWE hN hL n)),Ztw hN,Ztz hN,hL.quote,trivial⟩
def ZtD:Zq:=fun args σ K=>match args,σ with
 | [.ptr 0 0,.d (.int .i64 c)],⟨[.cells t [p,.sl 0 e rows]],[0],1⟩=>∃l:Bs,(rows=Zi l/\t=88/\e=5/\(p=.d .nilp\/p=.ptr 0 0)/\l.length<70368744177664) /\
   ((c=3\/c=151->K (.ret (.tuple [.d (.str []),.d (.int .i64 3)])) ⟨[.cells t [p,.sl 0 e rows]],[0],1⟩)/\(c≠3/\c≠151->K (.ret (.tuple [.d (.str l),.d (.int .i64 0)])) ⟨[.cells t [p,.sl 0 e rows]],[0],1⟩))
 | _,_=>False
def ZBC:Tbl:=[(26,ZbT)]
def ZBD:PC w0 nG 27 ZtD:=by
 refine pwt (tbl:=ZBC) ⟨Zhj,trivial⟩ Tryz.func27 fun args σ K h=>?_
 unfold ZtD at h
 split at h
 ·rename_i c t p e rows
  obtain ⟨l,⟨rfl,rfl,rfl,hp,aa⟩,ha,hb⟩:=h;refine pwu [] 1 true ?_;rcases hp with rfl | rfl
  all_goals
   conv=>whnf
   refine ZJU (fun c1=>wN ?_) (fun c1=>wN ?_)
   ·exact ha (.inl c1)
   refine ZJU (fun c2=>wN ?_) (fun c2=>wN ?_)
   ·exact ha (.inr c2)
   refine ⟨l,⟨rfl,rfl,rfl,iM,aa⟩,?_⟩;(conv=>whnf);exact hb ⟨c1,c2⟩
 exact h.elim
def UU (txt:Bs) {α:Type}:Top α->Bs×Nat
 | .ok _ _=>(txt,0)
 | .err _ e=>if e=3\/e=151 then ([],3) else (txt,0)
def nmT (s:Bs):T0:=⟨1,s,0⟩
def sgT (s:Bs):T0:=⟨4,s,0⟩
def Uf (sep:Bs):List Ts->Ts
 | []=>[]
 | x::l=>sgT sep::(x++Uf sep l)
def Z3 (sep:Bs):List Ts->Ts
 | []=>[]
 | x::l=>x++Uf sep l
def ZlR (want:Nat) (p:Nat×Ts):Ts:=if p.1<want then sgT [40]::(p.2++[sgT [41]]) else p.2
def opT (op:Nat):T0:=if 15<=op/\op<=19 then nmT (ZD op) else sgT (ZD op)
def ZE2 (w1 w2:Nat) (mid:Ts):List (Nat×Ts)->Ts
 | []=>[]
 | [a]=>ZlR w1 a
 | a::b::_=>ZlR w1 a++(mid++ZlR w2 b)
def brK (fr fin:Bs) (ps:List Ts):Ts:=sgT fr::(Z3 [44] ps++[sgT fin])
def ZoO (op:Nat) (text:Bs) (n:Int) (ps:List (Nat×Ts)):Ts :=
 if Zj op<5 then ZE2 (Zj op) (Zj op+1) [opT op] ps
 else if Zj op=5 then sgT (ZD op)::ZE2 5 5 [] ps
 else if ZD op≠[] then nmT (ZD op)::brK [40] [41] (ps.map Prod.snd)
 else if op=6 then brK [91] [93] (ps.map Prod.snd)
 else if op=7 then sgT [36]::nmT text::(if ps.length=0 then [] else brK [40] [41] (ps.map Prod.snd))
 else if op=3 then [⟨2,[],n⟩]
 else if op=4 then [⟨3,text,0⟩]
 else if op=5 then [nmT [110,105,108]]
 else if op=2 then [nmT [95]]
 else [nmT text]
mutual
def exK:Ex->Ts
 | .mk op text n args _=>ZoO op text n (Zvd args)
def Zvd:List Ex->List (Nat×Ts)
 | []=>[]
 | e::l=>(Zj (opE e),exK e)::Zvd l
end
def ZtE (l:List Ex):Zvd l=l.map fun e=>(Zj (opE e),exK e):=by induction l with | nil=>rfl | cons x l ih=>simp [Zvd,ih]
def ZiP (l:List Ex):(Zvd l).map Prod.snd=l.map exK:=by rw [ZtE,TW];rfl
def ZwC (l:List Ex):(Zvd l).length=l.length:=by rw [ZtE,Tf]
def Zfr (want:Nat) (e:Ex):Ts:=ZlR want (Zj (opE e),exK e)
def Lim {α:Type} (x:R α):Prop:=∃p,x=.err p 3\/x=.err p 151
def Rd {α β:Type} (er:α->β) (v:α) (r:Ts) (x:R α):Prop:=(∃v',er v'=er v/\x=.ok v' r)\/Lim x
def Lim.bind {α β:Type} {x:R α} {f:α->Ts->R β} (h:Lim x):Lim (x.bind f):=by
 obtain ⟨p,rfl | rfl⟩:=h
 ·exact ⟨p,.inl rfl⟩
 exact ⟨p,.inr rfl⟩
def Rd.bind {α β γ δ:Type} {er:α->β} {er2:γ->δ} {v:α} {u:γ} {r s:Ts} {x:R α} {f:α->Ts->R γ} (h:Rd er v r x) (hf:∀v',er v'=er v->Rd er2 u s (f v' r)):Rd er2 u s (x.bind f):=by
 rcases h with ⟨v',e,rfl⟩ | h
 ·exact hf v' e
 exact .inr h.bind
def Rd.ok {α β:Type} {er:α->β} {v v':α} {r:Ts} (h:er v'=er v):Rd er v r (.ok v' r):=.inl ⟨v',h,rfl⟩
def Rd.id {α:Type} {v:α} {r:Ts}:Rd (fun x:α=>x) v r (.ok v r):=.inl ⟨v,rfl,rfl⟩
def Rd.lim {α β:Type} {er:α->β} {v:α} {r:Ts} {x:R α} (h:Lim x):Rd er v r x:=.inr h
def ZtF {α:Type} {p:Nat}:Lim (.err p 3:R α):=⟨p,.inl rfl⟩
def ZkO {α:Type} {p:Nat}:Lim (.err p 151:R α):=⟨p,.inr rfl⟩
def Rd.binds {α γ δ:Type} {er2:γ->δ} {v:α} {u:γ} {r s:Ts} {x:R α} {f:α->Ts->R γ} (h:Rd (fun x:α=>x) v r x) (hf:Rd er2 u s (f v r)):Rd er2 u s (x.bind f):=h.bind fun v' e=>by cases (show v'=v from e);exact hf
def VB (w:Bs) (r:Ts):isW (sgT w::r) [w]=true:=by simp [isW,hd,sgT]
def ZbU (w:Bs) (r:Ts):isW (nmT w::r) [w]=true:=by simp [isW,hd,nmT]
def XO (w:Bs) (r:Ts):ZM w (sgT w::r)=.ok () r:=by rw [ZM,Tg (VB w r)];rfl
def ZK {t:T0} {w:Bs} (r:Ts) (h:t.text≠w):isW (t::r) [w]=false:=by
 simp only [isW,hd,List.contains_cons,List.contains_nil,SG,Bool.and_eq_false_imp];exact fun _=>by simpa using h
def J5 {t:T0} {ws:List Bs} (r:Ts) (h:t.kind≠1/\t.kind≠4):isW (t::r) ws=false:=by simp [isW,hd,h.1,h.2]
structure Nx (r:Ts):Prop where
 par:isW r [[40]]=false
 bin:(VR r).1=0
def nxW:List Bs:=[[44],[41],[93],[46],[125],[61],[33,61],[60],[60,61],[62],[62,61],[58]]
def Zah {w:Bs} (hw:w∈nxW) (r:Ts):Nx (sgT w::r):=by
 have h:∀w∈nxW,isW [sgT w] [[40]]=false/\(VR [sgT w]).1=0:=dM;exact ⟨(h w hw).1,(h w hw).2⟩
def Vf {α β:Type} {er:α->β} {d:Nat} {fr tw:Bs} {read:Ts->R α} {v:α} {ts r:Ts} (l8:tw≠[]) (h:d≠0->Rd er v (sgT tw::r) (read ts)):Rd er v r (Zm d fr tw read (sgT fr::ts)):=by
 unfold Zm
 rw [Tg (VB _ _)]
 by_cases hd:d=0
 ·rw [Tg hd];exact .lim ZkO
 rw [Tb hd];refine (h hd).bind fun v' e=>?_
 rw [Tb l8,XO,R.bind_ok];exact Rd.ok e
def ZkP {α β:Type} {er:α->β} {d:Nat} {fr:Bs} {read:Ts->R α} {v:α} {ts r:Ts} (h:d≠0->Rd er v r (read ts)):Rd er v r (Zm d fr [] read (sgT fr::ts)):=by
 unfold Zm
 rw [Tg (VB _ _)]
 by_cases hd:d=0
 ·rw [Tg hd];exact .lim ZkO
 rw [Tb hd];refine (h hd).bind fun v' e=>?_
 rw [Tg rfl];exact Rd.ok e
def ZkQ (sep:Bs):∀l:List Ts,l.length<=(Uf sep l).length
 | []=>Tw _
 | x::l=>by have:=ZkQ sep l;simp only [Uf,Te,Ta];omega
def ZkR {α β:Type} {er:α->β} {sep:Bs} {most:Nat} {starts:Ts->Bool} {one:Ts->R α} {K:α->Ts} (Ok:Ts->Prop) {r:Ts} (ke:∀t,Ok (sgT sep::t)) (hr:Ok r) (lq:isW r [sep]=false) :
  ∀(xs:List α) (x:α) (f:Nat) (acc acc':List α),(∀y∈x::xs,∀t,Ok t->Rd er y t (one (K y++t)))->xs.length<f->acc'.map er=acc.map er ->
   Rd (List.map er) (acc++x::xs) r (Yw sep most starts one f acc' (K x++(Uf sep (xs.map K)++r)))
 | xs,x,0,acc,acc',h,hf,ha=>oM
 | [],x,f+1,acc,acc',h,hf,ha=>by
  rw [Yw];split
  ·exact .lim ZtF
  simp only [TN,Uf,Tu];refine (h x sM r hr).bind fun v' e=>?_
  rw [Tb (by rw [lq];simp)];exact Rd.ok (by simp [ha,e])
 | y::ys,x,f+1,acc,acc',h,hf,ha=>by
  rw [Yw];split
  ·exact .lim ZtF
  simp only [Tz,Uf,Tp,Tj];refine (h x sM _ (ke _)).bind fun v' e=>?_
  rw [Tg (VB _ _)];have ih:=ZkR (most:=most) (starts:=starts) Ok ke hr lq ys y f (acc++[x]) (acc'++[v']) (fun z hz=>h z (Tt _ hz)) (by simpa using hf) (by simp [ha,e]);rw [Tj] at ih;exact ih
def J6 {α β:Type} {er:α->β} {sep:Bs} {most:Nat} {starts:Ts->Bool} {one:Ts->R α} {K:α->Ts} (Ok:Ts->Prop) {r:Ts} (ke:∀t,Ok (sgT sep::t)) (hr:Ok r) (lq:isW r [sep]=false) {xs:List α} (aj:xs≠[])
  (h:∀y∈xs,∀t,Ok t->Rd er y t (one (K y++t))):Rd (List.map er) xs r (Xf sep most starts one (Z3 sep (xs.map K)++r)):=by
 match xs,aj,h with
 | x::xs,_,h =>
  have ht:=ZkQ sep (xs.map K);rw [Tf] at ht;simp only [Tz,Z3,Tj];exact ZkR Ok ke hr lq xs x _ [] [] h (by simp only [Ta];omega) rfl
def ZkS {ex:Ts->R Ex} {r:Ts} (hr:Nx r):∀(xs acc acc':List Ex),acc'≠[]->(∀y∈xs,∀t,Nx t->Rd erE y t (ex (exK y++t)))->acc'.map erE=acc.map erE->Rd (List.map erE) (acc++xs) r (Y1 ex xs.length acc' (Uf [44] (xs.map exK)++r))
 | [],acc,acc',hn,h,ha=>by rw [Th,Y1];exact Rd.ok (by simp [ha])
 | y::ys,acc,acc',hn,h,ha=>by
  rw [Te,Y1,Tb hn];simp only [Tz,Uf,Tp,Tj,XO,R.bind_ok];have hnx:Nx (Uf [44] (ys.map exK)++r):=by
   cases ys with
   | nil=>exact hr
   | cons z zs=>exact Zah dM _
  refine (h y sM _ hnx).bind fun v' e=>?_
  have ih:=ZkS hr ys (acc++[y]) (acc'++[v']) sM (fun z hz=>h z (Tt _ hz)) (by simp [ha,e]);rw [Tj] at ih;exact ih
def ZqL {ex:Ts->R Ex} {r:Ts} (hr:Nx r) {xs:List Ex} (aj:xs≠[]) (h:∀y∈xs,∀t,Nx t->Rd erE y t (ex (exK y++t))):Rd (List.map erE) xs r (Y1 ex xs.length [] (Z3 [44] (xs.map exK)++r)):=by
 match xs,aj,h with
 | x::xs,_,h =>
  rw [Te,Y1,Tg rfl,R.bind_ok];simp only [Tz,Z3,Tj];have hnx:Nx (Uf [44] (xs.map exK)++r):=by
   cases xs with
   | nil=>exact hr
   | cons z zs=>exact Zah dM _
  refine (h x sM _ hnx).bind fun v' e=>?_
  exact ZkS hr xs [x] ([]++[v']) sM (fun z hz=>h z (Tt _ hz)) (by simp [e])
def ZiQ {op:Nat} {t:Bs} {n:Int} {l:List Ex} {a:Nat} (h:Yb (.mk op t n l a)=true):-2<Yg op/\(Yg op<0\/(l.length:Int)=Yg op)/\(n=0\/op=3)/\WJ op t=true/\∀x∈l,Yb x=true:=by
 simp only [Yb,Zz,Tm,SB,TV] at h;obtain ⟨h1,h2,h3,h4,h5⟩:=h;exact ⟨h1,h2,h3,h4,To.1 h5⟩
def ZwD {op:Nat} (h:-2<Yg op):op<26:=by
 by_cases hc:op<26
 ·exact hc
 unfold Yg at h
 (repeat rw [Tb oM] at h)
 omega
def Zd2 {op:Nat} (h:-2<Yg op):(Zj op<5->Yg op=2/\VR [opT op]=(Zj op+1,op)/\isW [opT op] [[40]]=false/\op≠1/\op≠7/\op≠4/\op≠3)/\(Zj op=5->Yg op=1/\(op=8\/op=9))/\Zj op<=6 /\
  (Zj op=6->ZD op≠[]->Z1 (ZD op)=op/\(ZbB op:Int)=Yg op/\op≠0/\ZeZ (ZD op)=true/\op≠1/\op≠7/\op≠4/\op≠3) /\
  (Zj op=6->ZD op=[]->op=1\/op=2\/op=3\/op=4\/op=5\/op=6\/op=7):=by
 have h1:∀o:Fin 26,-2<Yg o.val->Zj o.val<5->Yg o.val=2/\VR [opT o.val]=(Zj o.val+1,o.val)/\isW [opT o.val] [[40]]=false/\o.val≠1/\o.val≠7/\o.val≠4/\o.val≠3:=by decide +kernel
 have h2:∀o:Fin 26,-2<Yg o.val->Zj o.val=5->Yg o.val=1/\(o.val=8\/o.val=9):=by decide +kernel
 have h3:∀o:Fin 26,-2<Yg o.val->Zj o.val<=6:=by decide +kernel
 have h4:∀o:Fin 26,-2<Yg o.val->Zj o.val=6->ZD o.val≠[]->Z1 (ZD o.val)=o.val/\(ZbB o.val:Int)=Yg o.val/\o.val≠0/\ZeZ (ZD o.val)=true:=by decide +kernel
 have h6:∀o:Fin 26,-2<Yg o.val->Zj o.val=6->ZD o.val≠[]->o.val≠1/\o.val≠7/\o.val≠4/\o.val≠3:=by decide +kernel
 have h5:∀o:Fin 26,-2<Yg o.val->Zj o.val=6->ZD o.val=[]->o.val=1\/o.val=2\/o.val=3\/o.val=4\/o.val=5\/o.val=6\/o.val=7:=by decide +kernel
 obtain ⟨o,ho⟩:∃o:Fin 26,o.val=op:=⟨⟨op,ZwD h⟩,rfl⟩
 subst ho;exact ⟨h1 o h,h2 o h,h3 o h,fun a b=>by obtain ⟨p,q,r,s⟩:=h4 o h a b;exact ⟨p,q,r,s,h6 o h a b⟩,h5 o h⟩
def UV {op:Nat} {t:Bs} (h:WJ op t=true) (h1:op≠1) (h7:op≠7) (h4:op≠4):t=[]:=by
 unfold WJ at h
 rw [Tb oM,Tb h4] at h;exact SA h
def ZbV {op:Nat} {t:Bs} (h:WJ op t=true) (h1:op=1\/op=7):Yx t=true:=by
 unfold WJ at h
 rwa [Tg h1] at h
def Zyn:List Bs:=[[45],[126],[40],[91],[36]]
def ZoP:List Bs:=[[110,105,108],[95],[99,97,116],[115,116,114,108,101,110],[115,117,98,115,116,114],[99,111,100,101],[115,116,114],[110,117,109]]
def Fst (t:T0):Prop:=t.kind=2\/t.kind=3\/(t.kind=4/\t.text∈Zyn)\/(t.kind=1/\t.text∈ZoP)\/(t.kind=1/\Yx t.text=true)
def ZtG {op:Nat} (h:-2<Yg op) (h6:Zj op=6) (hw:ZD op≠[]):ZD op∈ZoP:=by
 have hk:∀o:Fin 26,-2<Yg o.val->Zj o.val=6->ZD o.val≠[]->ZD o.val∈ZoP:=by decide +kernel
 exact hk ⟨op,ZwD h⟩ h h6 hw
def Zaw (op:Nat) (t:Bs) (n:Int) (l:List Ex) (a:Nat):exK (.mk op t n l a)=ZoO op t n (Zvd l):=by rw [exK]
def Zax {l:List Ex} (h:l.length=2):∃a b,l=[a,b]:=by match l,h with | [a,b],_=>exact ⟨a,b,rfl⟩
def Zfs {l:List Ex} (h:l.length=1):∃a,l=[a]:=by match l,h with | [a],_=>exact ⟨a,rfl⟩
def ZwE {op:Nat} {t:Bs} {n:Int} {l:List Ex} {a:Nat} {k:Nat} (h:SizeOf.sizeOf (Ex.mk op t n l a)<k+1) {x:Ex} (hx:x∈l):SizeOf.sizeOf x<k:=by
 have:=List.sizeOf_lt_of_mem hx;simp only [Ex.mk.sizeOf_spec] at h;omega
def ZmZ {op:Nat} {t:Bs} {n:Int} {x y:Ex} {a:Nat} (h:Zj op<5):exK (.mk op t n [x,y] a)=Zfr (Zj op) x++(opT op::Zfr (Zj op+1) y):=by
 rw [Zaw,ZoO,Tg h];rfl
def ZtH {op:Nat} {t:Bs} {n:Int} {x:Ex} {a:Nat} (h:Zj op=5):exK (.mk op t n [x] a)=sgT (ZD op)::Zfr 5 x:=by
 rw [Zaw,ZoO,Tb oM,Tg h];rfl
def Zm0 {op:Nat} {t:Bs} {n:Int} {l:List Ex} {a:Nat} (h:Zj op=6) (hw:ZD op≠[]):exK (.mk op t n l a)=nmT (ZD op)::brK [40] [41] (l.map exK):=by
 rw [Zaw,ZoO,Tb oM,Tb oM,Tg hw,ZiP]
def ZBE {t:Bs} {n:Int} {l:List Ex} {a:Nat}:exK (.mk 6 t n l a)=brK [91] [93] (l.map exK):=by
 rw [Zaw,ZoO,Tb dM,Tb dM,Tb dM,Tg rfl,ZiP]
def ZBF {t:Bs} {n:Int} {l:List Ex} {a:Nat}:exK (.mk 7 t n l a)=sgT [36]::nmT t::(if l.length=0 then [] else brK [40] [41] (l.map exK)):=by
 rw [Zaw,ZoO,Tb dM,Tb dM,Tb dM,Tb dM,Tg rfl,ZiP,ZwC]
def ZBG {t:Bs} {n:Int} {l:List Ex} {a:Nat}:exK (.mk 3 t n l a)=[⟨2,[],n⟩]:=by
 rw [Zaw,ZoO,Tb dM,Tb dM,Tb dM,Tb dM,Tb dM,Tg rfl]
def ZBH {t:Bs} {n:Int} {l:List Ex} {a:Nat}:exK (.mk 4 t n l a)=[⟨3,t,0⟩]:=by
 rw [Zaw,ZoO,Tb dM,Tb dM,Tb dM,Tb dM,Tb dM,Tb dM,Tg rfl]
def ZBI {t:Bs} {n:Int} {l:List Ex} {a:Nat}:exK (.mk 5 t n l a)=[nmT [110,105,108]]:=by
 rw [Zaw,ZoO,Tb dM,Tb dM,Tb dM,Tb dM,Tb dM,Tb dM,Tb dM,Tg rfl]
def ZBJ {t:Bs} {n:Int} {l:List Ex} {a:Nat}:exK (.mk 2 t n l a)=[nmT [95]]:=by
 rw [Zaw,ZoO,Tb dM,Tb dM,Tb dM,Tb dM,Tb dM,Tb dM,Tb dM,Tb dM,Tg rfl]
def ZBK {t:Bs} {n:Int} {l:List Ex} {a:Nat}:exK (.mk 1 t n l a)=[nmT t]:=by
 rw [Zaw,ZoO,Tb dM,Tb dM,Tb dM,Tb dM,Tb dM,Tb dM,Tb dM,Tb dM,Tb dM]
def ZwF {w:Nat} {p:Nat×Ts} {r:Ts} (h:∃t l,p.2=t::l/\Fst t):∃t l,ZlR w p++r=t::l/\Fst t:=by
 unfold ZlR
 split
 ·exact ⟨_,_,rfl,.inr (.inr (.inl ⟨rfl,dM⟩))⟩
 obtain ⟨t,l,e,ht⟩:=h;exact ⟨t,l++r,by rw [e];rfl,ht⟩
def ZtI:∀(n:Nat) (e:Ex),SizeOf.sizeOf e<n->Yb e=true->∃t l,exK e=t::l/\Fst t
 | 0,e,h,_=>oM
 | k+1,.mk op t n l a,h,hm=>by
  obtain ⟨m1,m2,m3,m4,m5⟩:=ZiQ hm;obtain ⟨f1,f2,f3,f4,f5⟩:=Zd2 m1
  by_cases c1:Zj op<5
  ·obtain ⟨x,y,rfl⟩:=Zax (l:=l) (by have:=f1 c1;omega);rw [ZmZ c1];exact ZwF (ZtI k x (ZwE h sM) (m5 x sM))
  by_cases c2:Zj op=5
  ·obtain ⟨x,rfl⟩:=Zfs (l:=l) (by have:=f2 c2;omega);rw [ZtH c2];refine ⟨_,_,rfl,.inr (.inr (.inl ⟨rfl,?_⟩))⟩;rcases (f2 c2).2 with rfl | rfl <;> decide
  have c3:Zj op=6:=oM
  by_cases c4:ZD op≠[]
  ·rw [Zm0 c3 c4];exact ⟨_,_,rfl,.inr (.inr (.inr (.inl ⟨rfl,ZtG m1 c3 c4⟩)))⟩
  rcases f5 c3 (by simpa using c4) with rfl | rfl | rfl | rfl | rfl | rfl | rfl
  ·rw [ZBK];exact ⟨_,_,rfl,.inr (.inr (.inr (.inr ⟨rfl,ZbV m4 (.inl rfl)⟩)))⟩
  ·rw [ZBJ];exact ⟨_,_,rfl,.inr (.inr (.inr (.inl ⟨rfl,dM⟩)))⟩
  ·rw [ZBG];exact ⟨_,_,rfl,.inl rfl⟩
  ·rw [ZBH];exact ⟨_,_,rfl,.inr (.inl rfl)⟩
  ·rw [ZBI];exact ⟨_,_,rfl,.inr (.inr (.inr (.inl ⟨rfl,dM⟩)))⟩
  ·rw [ZBE];exact ⟨_,_,rfl,.inr (.inr (.inl ⟨rfl,dM⟩))⟩
  rw [ZBF];exact ⟨_,_,rfl,.inr (.inr (.inl ⟨rfl,dM⟩))⟩
def ZoQ:List Bs:=[[41],[93],[33],[125],[99,111,117,110,116],[115,117,109],[109,105,110],[109,97,120],[44]]
def ZBL {t:T0} (h:Fst t) {w:Bs} (hw:w∈ZoQ) (r:Ts):isW (t::r) [w]=false:=by
 have hs:∀w∈ZoQ,w∉Zyn/\w∉ZoP/\Yx w=false:=by decide +kernel
 obtain ⟨h1,h2,h3⟩:=hs w hw;rcases h with h | h | ⟨h,g⟩ | ⟨h,g⟩ | ⟨h,g⟩
 ·exact J5 r ⟨oM,oM⟩
 ·exact J5 r ⟨oM,oM⟩
 ·exact ZK r fun e=>h1 (e ▸ g)
 ·exact ZK r fun e=>h2 (e ▸ g)
 exact ZK r fun e=>by rw [e,h3] at g;cases g
def Zhk {e:Ex} (he:Yb e=true) {w:Bs} (hw:w∈ZoQ) (r:Ts):isW (exK e++r) [w]=false:=by
 obtain ⟨t,l,e1,ht⟩:=ZtI _ e (SC _) he;rw [e1];exact ZBL ht hw _
def ZtJ (ts:Ts):Prop:=Zt ts=true/\(hd ts.tail).kind=4/\(hd ts.tail).text=[40]
def Ug {t:T0} {l:Ts} (h:t.kind≠1):¬ZtJ (t::l):=fun g=>by
 have:=g.1;simp [Zt,hd,h] at this
def Zft {t:T0} {l:Ts} (h:ZeZ t.text=true\/t.text=[95]):¬ZtJ (t::l):=fun g=>by
 have:=g.1;rcases h with h | h <;> simp [Zt,hd,h] at this
def ZE3 {r:Ts} (h:isW r [[40]]=false):¬((hd r).kind=4/\(hd r).text=[40]):=fun ⟨h1,h2⟩=>by simp [isW,h1,h2] at h
def ZwG {w:Nat} {p:Nat×Ts} {r:Ts} (h:¬ZtJ (p.2++r)):¬ZtJ (ZlR w p++r):=by
 unfold ZlR
 split
 ·exact Ug (show (4:Nat)≠1 by decide)
 exact h
def ZtK:∀(n:Nat) (e:Ex),SizeOf.sizeOf e<n->Yb e=true->∀r,isW r [[40]]=false->¬ZtJ (exK e++r)
 | 0,e,h,_=>oM
 | k+1,.mk op t n l a,h,hm=>fun r hr=>by
  obtain ⟨m1,m2,m3,m4,m5⟩:=ZiQ hm;obtain ⟨f1,f2,f3,f4,f5⟩:=Zd2 m1
  by_cases c1:Zj op<5
  ·obtain ⟨x,y,rfl⟩:=Zax (l:=l) (by have:=f1 c1;omega);rw [ZmZ c1,Tj];exact ZwG (ZtK k x (ZwE h sM) (m5 x sM) _ (f1 c1).2.2.1)
  by_cases c2:Zj op=5
  ·obtain ⟨x,rfl⟩:=Zfs (l:=l) (by have:=f2 c2;omega);rw [ZtH c2];exact Ug (show (4:Nat)≠1 by decide)
  have c3:Zj op=6:=oM
  by_cases c4:ZD op≠[]
  ·rw [Zm0 c3 c4];exact Zft (.inl (f4 c3 c4).2.2.2.1)
  rcases f5 c3 (by simpa using c4) with rfl | rfl | rfl | rfl | rfl | rfl | rfl
  ·rw [ZBK];exact fun g=>ZE3 hr g.2
  ·rw [ZBJ];exact Zft (.inr rfl)
  ·rw [ZBG];exact Ug (show (2:Nat)≠1 by decide)
  ·rw [ZBH];exact Ug (show (3:Nat)≠1 by decide)
  ·rw [ZBI];exact Zft (.inl dM)
  ·rw [ZBE];exact Ug (show (4:Nat)≠1 by decide)
  rw [ZBF];exact Ug (show (4:Nat)≠1 by decide)
def sgB:Nat->Ts->R Ex
 | 0=>fun _=>.err 0 150
 | d+1=>Ya d
def Zfu (d:Nat):Ya d=Xg d (sgB d):=by cases d <;> rfl
def Ln (e:Ex) (r:Ts) (sub:Nat->Ts->R Ex) (least:Nat) (x:R Ex):Prop:=(∃f e',r.length<f/\erE e'=erE e/\x=XJ sub least f e' r)\/Lim x
def Zm1 {e:Ex} {r:Ts} {sub:Nat->Ts->R Ex} {least:Nat} {x:R Ex} (h:Ln e r sub least x) (hb:(VR r).1<least\/(VR r).1=0):Rd erE e r x:=by
 rcases h with ⟨f,e',h1,h2,rfl⟩ | h
 ·obtain ⟨f,rfl⟩:∃k,f=k+1:=⟨f - 1,oM⟩
  rw [XJ,Tg hb];exact Rd.ok h2
 exact .lim h
def ZE4 {e:Ex} {r ts:Ts} {sg:Ts->R Ex} {k least:Nat} (h:Rd erE e r (sg ts)):Ln e r (XK sg k) least (XK sg (k+1) least ts):=by
 rw [XK];rcases h with ⟨e',h1,h2⟩ | h
 ·rw [h2,R.bind_ok];exact .inl ⟨_,e',SC _,h1,rfl⟩
 exact .inr h.bind
structure ExR (e:Ex):Prop where
 sg:∀d r,isW r [[40]]=false->Rd erE e r (Ya d (Zfr 5 e++r))
 ln:∀d k w l r,w<=l->l<=5->6<=k+w->isW r [[40]]=false->(VR r).1<l+2->Ln e r (XK (Ya d) (k - 1)) (w+1) (XK (Ya d) k (w+1) (Zfr l e++r))
def ZE5 (e:Ex):Zfr 0 e=exK e:=by rw [Zfr,ZlR,Tb sM]
def ExR.full {e:Ex} (h:ExR e) (d:Nat) {r:Ts} (hr:Nx r):Rd erE e r (Vl d (exK e++r)):=by
 have:=h.ln d 6 0 0 r oM oM oM hr.par (by have:=hr.bin;omega);rw [ZE5] at this;exact Zm1 this (.inr hr.bin)
def ExR.fullB {e:Ex} (h:ExR e) {d:Nat} (hd:d≠0) {r:Ts} (hr:Nx r):Rd erE e r (Jv d (exK e++r)):=by
 obtain ⟨d,rfl⟩:∃k,d=k+1:=⟨d - 1,oM⟩
 exact h.full d hr
def ZbW {d:Nat} {ex:Ts->R Ex} {l:List Ex} {r:Ts} {fr tw:Bs} (l8:tw∈[[41],[93]]) (hm:∀x∈l,Yb x=true) (h:d≠0->∀x∈l,∀t,Nx t->Rd erE x t (ex (exK x++t))) :
  Rd (List.map erE) l r (Zad d ex fr tw (brK fr tw (l.map exK)++r)):=by
 have hk:∀tw∈[[41],[93]],tw≠[]/\tw∈nxW/\tw∈ZoQ/\tw≠[44]:=dM;obtain ⟨k1,k2,k3,k4⟩:=hk tw l8;unfold Zad
 have e:brK fr tw (l.map exK)++r=sgT fr::(Z3 [44] (l.map exK)++(sgT tw::r)):=by simp [brK]
 rw [e];refine Vf k1 fun hd=>?_
 cases l with
 | nil =>
  simp only [TN,Z3,Tu];rw [Tg (VB _ _)];exact Rd.ok rfl
 | cons x xs =>
 have hx:isW (Z3 [44] ((x::xs).map exK)++(sgT tw::r)) [tw]=false:=by
  simp only [Tz,Z3,Tj];exact Zhk (hm x sM) k3 _
 rw [Tb (by rw [hx];simp)];exact J6 Nx (fun t=>Zah dM t) (Zah k2 r) (ZK r (by simpa [sgT] using k4)) sM fun y hy t ht=>h hd y hy t ht
def Zdo {s:Bs} (h:Yx s=true) {w:Bs} (hw:Yx w=false) (r:Ts):isW (nmT s::r) [w]=false:=ZK r fun e=>by
 have e:s=w:=e;rw [e,hw] at h;cases h
def Zfv {s:Bs} (h:Yx s=true):s≠[95]/\ZeZ s=false:=by
 simp only [Yx,Tm,Sa,decide_eq_false_iff_not] at h;exact h.2
def nm_named {s:Bs} (h:Yx s=true) (r:Ts):Zt (nmT s::r)=true:=by
 obtain ⟨h1,h2⟩:=Zfv h;simp [Zt,hd,nmT,h1,h2]
def XP {s:Bs} (h:Yx s=true) (r:Ts):Y9 (nmT s::r)=.ok s r:=by
 rw [Y9,Tg (nm_named h r)];rfl
def ZwH {s:Bs} (h:Yx s=true):Z1 s=0:=by
 have:=(Zfv h).2;simp only [ZeZ,Sd,decide_eq_false_iff_not,Decidable.not_not] at this;exact this.2
def ZcN:∀w∈[[45],[126],[40],[91],[36],[110,105,108]],Yx w=false:=by decide +kernel
def YM {d:Nat} {ts:Ts} (h1:isW ts [[45]]=false) (h2:isW ts [[126]]=false):Ya d ts=YK d (XK (sgB d) 6 1) ts:=by
 rw [Zfu,Xg,Tb (by rw [h1];simp),Tb (by rw [h2];simp)]
def ZoR {d:Nat} (hd:d≠0):XK (sgB d) 6 1=Vl (d - 1):=by
 obtain ⟨d,rfl⟩:∃k,d=k+1:=⟨d - 1,oM⟩
 rfl
def WK (op:Nat) (t:Bs) (n:Int) (l:List Ex) (a:Nat):erE (.mk op t n l a)=.mk op t n (l.map erE) 0:=by rw [erE,JB]
def XQ (d:Nat) (ex:Ts->R Ex) (t:T0) (r:Ts):YK d ex (t::r) =
  if ZC [t]=false then .err (t::r).length 150
  else if t.kind=2 then .ok (.mk 3 [] t.n [] (t::r).length) r
  else if t.kind=3 then .ok (.mk 4 t.text 0 [] (t::r).length) r
  else if t.text=[40] then Zm d [40] [41] ex (t::r)
  else if t.text=[91] then (Zad d ex [91] [93] (t::r)).bind fun l ts'=>.ok (.mk 6 [] 0 l (t::r).length) ts'
  else if t.text=[36] then (Y9 r).bind fun nm ts'=>if isW ts' [[40]]=true then (Zad d ex [40] [41] ts').bind fun l ts'=>.ok (.mk 7 nm 0 l (t::r).length) ts' else .ok (.mk 7 nm 0 [] (t::r).length) ts'
  else if Z1 t.text≠0 then (Zm d [40] [41] (Y1 ex (ZbB (Z1 t.text)) []) r).bind fun l ts'=>.ok (.mk (Z1 t.text) [] 0 l (t::r).length) ts'
  else if t.text=[110,105,108] then .ok (.mk 5 [] 0 [] (t::r).length) r
  else if t.text=[95] then .ok (.mk 2 [] 0 [] (t::r).length) r
  else .ok (.mk 1 t.text 0 [] (t::r).length) r:=rfl
def ZqM {e:Ex} {d:Nat} {r:Ts} (h:∀d r,Nx r->Rd erE e r (Vl d (exK e++r))):Rd erE e r (Ya d (sgT [40]::(exK e++(sgT [41]::r)))):=by
 rw [YM (ZK _ dM) (ZK _ dM),XQ,Tb dM,Tb dM,Tb dM,Tg (show (sgT [40]).text=[40] from rfl)];refine Vf dM fun hd=>?_
 rw [ZoR hd];exact h _ _ (Zah dM r)
def Zm2:∀(n:Nat) (e:Ex),SizeOf.sizeOf e<n->Yb e=true->ExR e
 | 0,e,h,_=>oM
 | k+1,.mk op t n l a,h,hm=>by
  obtain ⟨m1,m2,m3,m4,m5⟩:=ZiQ hm;obtain ⟨f1,f2,f3,f4,f5⟩:=Zd2 m1;have ih:∀x∈l,ExR x:=fun x hx=>Zm2 k x (ZwE h hx) (m5 x hx)
  have fin:∀(hs:∀d r,isW r [[40]]=false->Rd erE (.mk op t n l a) r (Ya d (Zfr 5 (.mk op t n l a)++r))),5<=Zj op->ExR (.mk op t n l a):=fun hs hl=>⟨hs,fun d q w z r hw hz hq hp hb=>by
   obtain ⟨q,rfl⟩:∃k,q=k+1:=⟨q - 1,oM⟩
   have e:Zfr z (.mk op t n l a)=Zfr 5 (.mk op t n l a):=by
    rw [Zfr,Zfr,ZlR,ZlR,Tb (by simp only [opE];omega),Tb (by simp only [opE];omega)]
   rw [e];exact ZE4 (hs d r hp)⟩
  have e5:5<=Zj op->Zfr 5 (.mk op t n l a)=exK (.mk op t n l a):=fun h=>by
   rw [Zfr,ZlR,Tb (by simp only [opE];omega)]
  by_cases c1:Zj op<5
  ·obtain ⟨g1,g2,g3,g4,g5,g6,g7⟩:=f1 c1;obtain ⟨x,y,rfl⟩:=Zax (l:=l) oM;obtain rfl:=UV m4 g4 g5 g6;obtain rfl:n=0:=m3.resolve_right g7;have rx:=ih x sM;have ry:=ih y sM;have bare:∀d q w r,w<=Zj op->6<=q+w->isW r [[40]]=false->(VR r).1<Zj op+2->Ln (.mk op [] 0 [x,y] a) r (XK (Ya d) (q - 1)) (w+1) (XK (Ya d) q (w+1) (exK (.mk op [] 0 [x,y] a)++r)):=fun d q w r hw hq hp hb=>by
    rw [ZmZ c1,Tj];have hx:=rx.ln d q w (Zj op) (opT op::(Zfr (Zj op+1) y++r)) hw oM hq g3 (by show (VR [opT op]).1<_;rw [g2];simp);rw [Tp];rcases hx with ⟨f,x',q1,q2,q3⟩ | hx
    ·rw [q3];obtain ⟨f,rfl⟩:∃k,f=k+1:=⟨f - 1,oM⟩
     have yx:VR (opT op::(Zfr (Zj op+1) y++r))=(Zj op+1,op):=g2;rw [XJ,yx,Tb (by simp only;omega)];have hy:=ry.ln d (q - 1) (Zj op+1) (Zj op+1) r oM oM oM hp oM;have qw:=Zm1 hy (.inl oM);rcases qw with ⟨y',s1,s2⟩ | qw
     ·rw [show (opT op::(Zfr (Zj op+1) y++r)).tail=Zfr (Zj op+1) y++r from rfl];simp only;rw [show Zj op+1+1=Zj op+2 from rfl] at s2 |-;rw [s2,R.bind_ok];refine .inl ⟨f,_,?_,?_,rfl⟩
      ·simp only [Te,Ta] at q1;omega
      rw [WK,WK];simp [q2,s1]
     exact .inr qw.bind
    exact .inr hx
   have full:∀d r,Nx r->Rd erE (.mk op [] 0 [x,y] a) r (Vl d (exK (.mk op [] 0 [x,y] a)++r)):=fun d r hr =>
    Zm1 (bare d 6 0 r oM oM hr.par (by have:=hr.bin;omega)) (.inr hr.bin)
   have hs:∀z,Zj op<z->∀d r,Rd erE (.mk op [] 0 [x,y] a) r (Ya d (Zfr z (.mk op [] 0 [x,y] a)++r)):=fun z hz d r=>by
    rw [Zfr,ZlR,Tg (by simp only [opE];exact hz)];simp only [Tp,Tj,Tu];exact ZqM full
   refine ⟨fun d r _=>hs 5 c1 d r,fun d q w z r hw hz hq hp hb=>?_⟩
   by_cases c:Zj op<z
   ·obtain ⟨q,rfl⟩:∃k,q=k+1:=⟨q - 1,oM⟩
    exact ZE4 (hs z c d r)
   have e:Zfr z (.mk op [] 0 [x,y] a)=exK (.mk op [] 0 [x,y] a):=by rw [Zfr,ZlR,Tb (by simp only [opE];exact c)]
   rw [e];exact bare d q w r oM hq hp oM
  by_cases c2:Zj op=5
  ·obtain ⟨g1,g2⟩:=f2 c2;obtain ⟨x,rfl⟩:=Zfs (l:=l) oM;obtain rfl:=UV m4 oM oM oM;obtain rfl:n=0:=m3.resolve_right oM;have rx:=ih x sM;refine fin (fun d r hp=>?_) oM;rw [e5 oM,ZtH c2,Tp,Zfu,Xg];have hx:∀w,Rd erE x r (Zm d w [] (sgB d) (sgT w::(Zfr 5 x++r))):=fun w=>ZkP fun hd=>by
    obtain ⟨d,rfl⟩:∃k,d=k+1:=⟨d - 1,oM⟩
    exact rx.sg d r hp
   rcases g2 with rfl | rfl
   ·rw [show ZD 8=[45] from rfl,Tg (VB _ _)];refine (hx _).bind fun x' e=>Rd.ok ?_
    rw [WK,WK];simp [e]
   rw [show ZD 9=[126] from rfl,Tb (by rw [ZK _ dM];simp),Tg (VB _ _)];refine (hx _).bind fun x' e=>Rd.ok ?_
   rw [WK,WK];simp [e]
  have c3:Zj op=6:=oM;refine fin (fun d r hp=>?_) oM;rw [e5 oM];have full:d≠0->∀x∈l,∀t,Nx t->Rd erE x t (XK (sgB d) 6 1 (exK x++t)):=fun hd x hx t ht=>by
   rw [ZoR hd];exact (ih x hx).full _ ht
  by_cases c4:ZD op≠[]
  ·obtain ⟨g1,g2,g3,g4,g5,g6,g7,g8⟩:=f4 c3 c4;obtain rfl:=UV m4 g5 g6 g7;obtain rfl:n=0:=m3.resolve_right g8;have sv:l.length=ZbB op:=by
    have:1<=ZbB op:=by unfold ZbB;split <;> (try split) <;> omega
    omega
   have aj:l≠[]:=fun e=>by
    have:1<=ZbB op:=by unfold ZbB;split <;> (try split) <;> omega
    rw [e] at sv;simp at sv;omega
   rw [Zm0 c3 c4,Tp];have hw:∀w,Yx w=false\/True:=fun _=>.inr trivial
   have uk:∀o:Fin 26,-2<Yg o.val->Zj o.val=6->ZD o.val≠[]->isW [nmT (ZD o.val)] [[45]]=false/\isW [nmT (ZD o.val)] [[126]]=false/\ZC [nmT (ZD o.val)]=true/\ZD o.val≠[40]/\ZD o.val≠[91]/\ZD o.val≠[36]:=by decide +kernel
   obtain ⟨q1,q2,q3,q4,q5,q6⟩:=uk ⟨op,ZwD m1⟩ m1 c3 c4;simp only at q1 q2 q3 q4 q5 q6;rw [YM (ts:=nmT (ZD op)::(brK [40] [41] (l.map exK)++r)) q1 q2,XQ,Tb (by rw [q3];simp),Tb (show ¬(nmT (ZD op)).kind=2 by simp [nmT]),Tb (show ¬(nmT (ZD op)).kind=3 by simp [nmT]),Tb (show ¬(nmT (ZD op)).text=_ from q4),Tb (show ¬(nmT (ZD op)).text=_ from q5),Tb (show ¬(nmT (ZD op)).text=_ from q6)];have ef:Z1 (nmT (ZD op)).text=op:=g1;rw [ef,Tg g3,<- sv];have e:(brK [40] [41] (l.map exK)++r)=sgT [40]::(Z3 [44] (l.map exK)++(sgT [41]::r)):=by simp [brK]
   rw [e];refine Rd.bind (er:=List.map erE) (v:=l) (r:=r) (Vf dM fun hd=>?_) fun l' e=>Rd.ok ?_
   ·exact ZqL (Zah dM r) aj (full hd)
   rw [WK,WK,e]
  rcases f5 c3 (by simpa using c4) with rfl | rfl | rfl | rfl | rfl | rfl | rfl
  ·have hn:=ZbV m4 (.inl rfl);obtain rfl:n=0:=m3.resolve_right dM;obtain rfl:l=[]:=TH (by have:Yg 1=0:=dM;omega);have hk:=Zfv hn;rw [ZBK,Tp,Tu,YM (Zdo hn (ZcN _ dM) r) (Zdo hn (ZcN _ dM) r),XQ];have aj:∀w,Yx w=false->¬(nmT t).text=w:=fun w hw e=>by rw [show t=w from e,hw] at hn;cases hn
   have hst:ZC [nmT t]=true:=by simp [ZC,hd,nmT,hk.2]
   rw [Tb (by rw [hst];simp),Tb (show ¬(nmT t).kind=2 by simp [nmT]),Tb (show ¬(nmT t).kind=3 by simp [nmT]),Tb (aj _ (ZcN _ dM)),Tb (aj _ (ZcN _ dM)),Tb (aj _ (ZcN _ dM)),Tb (by rw [show (nmT t).text=t from rfl,ZwH hn];simp),Tb (aj _ (ZcN _ dM)),Tb (show ¬(nmT t).text=_ from hk.1)];exact Rd.ok (by rw [WK,WK];rfl)
  ·obtain rfl:=UV m4 dM dM dM;obtain rfl:n=0:=m3.resolve_right dM;obtain rfl:l=[]:=TH (by have:Yg 2=0:=dM;omega);rw [ZBJ,Tp,Tu,YM (ZK _ dM) (ZK _ dM),XQ,Tb dM,Tb dM,Tb dM,Tb dM,Tb dM,Tb dM,Tb dM,Tb dM,Tg (show (nmT [95]).text=[95] from rfl)];exact Rd.ok (by rw [WK,WK])
  ·obtain rfl:=UV m4 dM dM dM;obtain rfl:l=[]:=TH (by have:Yg 3=0:=dM;omega);rw [ZBG,Tp,Tu,YM (J5 _ sM) (J5 _ sM),XQ,Tb (by simp [ZC,hd]),Tg rfl];exact Rd.ok (by rw [WK,WK])
  ·obtain rfl:n=0:=m3.resolve_right dM;obtain rfl:l=[]:=TH (by have:Yg 4=0:=dM;omega);rw [ZBH,Tp,Tu,YM (J5 _ sM) (J5 _ sM),XQ,Tb (by simp [ZC,hd]),Tb sM,Tg rfl];exact Rd.ok (by rw [WK,WK])
  ·obtain rfl:=UV m4 dM dM dM;obtain rfl:n=0:=m3.resolve_right dM;obtain rfl:l=[]:=TH (by have:Yg 5=0:=dM;omega);rw [ZBI,Tp,Tu,YM (ZK _ dM) (ZK _ dM),XQ,Tb dM,Tb dM,Tb dM,Tb dM,Tb dM,Tb dM,Tb dM,Tg (show (nmT [110,105,108]).text=[110,105,108] from rfl)];exact Rd.ok (by rw [WK,WK])
  ·obtain rfl:=UV m4 dM dM dM;obtain rfl:n=0:=m3.resolve_right dM;rw [ZBE];have e:brK [91] [93] (l.map exK)++r=sgT [91]::(Z3 [44] (l.map exK)++(sgT [93]::r)):=by simp [brK]
   rw [YM (by rw [e];exact ZK _ dM) (by rw [e];exact ZK _ dM),e,XQ,Tb dM,Tb dM,Tb dM,Tb dM,Tg (show (sgT [91]).text=[91] from rfl),<- e];refine (ZbW dM m5 full).bind fun l' e=>Rd.ok ?_
   rw [WK,WK,e]
  have hn:=ZbV m4 (.inr rfl);obtain rfl:n=0:=m3.resolve_right dM;rw [ZBF,Tp,Tp,YM (ZK _ dM) (ZK _ dM),XQ,Tb dM,Tb dM,Tb dM,Tb dM,Tb dM,Tg (show (sgT [36]).text=[36] from rfl)];rw [XP hn,R.bind_ok]
  by_cases hl:l.length=0
  ·obtain rfl:l=[]:=TH hl;simp only [Th,if_true,Tu];rw [Tb (by rw [hp];simp)];exact Rd.ok (by rw [WK,WK])
  rw [Tb hl,Tg (by simp only [brK,Tp];exact VB _ _)];refine (ZbW dM m5 full).bind fun l' e=>Rd.ok ?_
  rw [WK,WK,e]
def Zfw {e:Ex} (he:Yb e=true) (d:Nat) {r:Ts} (hr:Nx r):Rd erE e r (Vl d (exK e++r)):=(Zm2 _ e (SC _) he).full d hr
def ZoS {e:Ex} (he:Yb e=true) {d:Nat} (hd:d≠0) {r:Ts} (hr:Nx r):Rd erE e r (Jv d (exK e++r)):=(Zm2 _ e (SC _) he).fullB hd hr
def ZwI (op:Nat):Bs:=if op=3 then [61] else if op=4 then [33,61] else if op=5 then [60] else if op=6 then [60,61] else if op=7 then [62] else [62,61]
def Zve:List Ex->Ts
 | []=>[]
 | e::_=>exK e
mutual
def liK:Li->Ts
 | .mk op rel args body _ =>
  if op=2 then sgT [33]::nmT rel::brK [40] [41] (args.map exK)
  else if op=1 then nmT rel::brK [40] [41] (args.map exK)
  else if op<=8 then Zve args++(sgT (ZwI op)::Zve args.tail)
  else Zve args++(sgT [61]::nmT (JE op)::((args.tail.map exK).flatten++(sgT [58]::sgT [123]::(Z3 [44] (ZBM body)++[sgT [125]]))))
def ZBM:List Li->List Ts
 | []=>[]
 | e::l=>liK e::ZBM l
end
def ZtL (l:List Li):ZBM l=l.map liK:=by induction l with | nil=>rfl | cons x l ih=>simp [ZBM,ih]
def ZE6 (op:Nat) (rel:Bs) (args:List Ex) (body:List Li) (a:Nat):liK (.mk op rel args body a) =
  if op=2 then sgT [33]::nmT rel::brK [40] [41] (args.map exK)
  else if op=1 then nmT rel::brK [40] [41] (args.map exK)
  else if op<=8 then Zve args++(sgT (ZwI op)::Zve args.tail)
  else Zve args++(sgT [61]::nmT (JE op)::((args.tail.map exK).flatten++(sgT [58]::sgT [123]::(Z3 [44] (body.map liK)++[sgT [125]])))):=by rw [liK,ZtL]
def Zdp (op:Nat) (rel:Bs) (args:List Ex) (body:List Li) (a:Nat):erL (.mk op rel args body a)=.mk op rel (args.map erE) (body.map erL) 0:=by rw [erL,JB,ZmK]
def Zm3 {op:Nat} {rel:Bs} {args:List Ex} {body:List Li} {a:Nat} (h:YT (.mk op rel args body a)=true):Xk op rel args.length body.length=true/\(∀x∈args,Yb x=true)/\∀x∈body,YT x=true:=by
 simp only [YT,Zz,XM,Tm] at h;exact ⟨h.1,To.1 h.2.1,To.1 h.2.2⟩
def Zm4 {op:Nat} {rel:Bs} {na nb:Nat} (h:Xk op rel na nb=true):((op=1\/op=2)/\Yx rel=true/\nb=0)\/(3<=op/\op<=8/\rel=[]/\na=2/\nb=0)\/(op=9/\rel=[]/\na=1/\0<nb)\/(9<op/\op<=12/\rel=[]/\na=2/\0<nb):=by
 unfold Xk at h
 split at h
 ·rename_i c
  simp only [Tm,Sa,decide_eq_false_iff_not] at h;exact .inl ⟨c,h.1,oM⟩
 split at h
 ·rename_i c
  simp only [Tm,Sa,decide_eq_false_iff_not,TV] at h;exact .inr (.inl ⟨c.1,c.2,h.1,h.2.1,oM⟩)
 split at h
 ·rename_i c
  simp only [Tm,TV] at h;exact .inr (.inr (.inl ⟨c,h.1,h.2.1,h.2.2⟩))
 split at h
 ·rename_i c
  simp only [Tm,TV] at h;exact .inr (.inr (.inr ⟨c.1,c.2,h.1,h.2.1,h.2.2⟩))
 cases h
def Zyo {op:Nat} {t:Bs} {l:List Ex} {b:List Li} {a:Nat} {k:Nat} (h:SizeOf.sizeOf (Li.mk op t l b a)<k+1) {x:Li} (hx:x∈b):SizeOf.sizeOf x<k:=by
 have:=List.sizeOf_lt_of_mem hx;simp only [Li.mk.sizeOf_spec] at h;omega
def ZkT {d op a:Nat} {rel:Bs} {args:List Ex} {r:Ts} (hn:Yx rel=true) (hm:∀x∈args,Yb x=true) (a0:Nat):Rd erL (.mk op rel args [] a0) r (W7 d op a (nmT rel::brK [40] [41] (args.map exK)++r)):=by
 rw [W7,Tp,XP hn,R.bind_ok];refine (ZbW dM hm fun hd x hx t ht=>ZoS (hm x hx) hd ht).bind fun l' e=>Rd.ok ?_
 rw [Zdp,Zdp,e]
def ZBN {op:Nat} (h:3<=op/\op<=8) (r:Ts):Vw (sgT (ZwI op)::r) 0 ZU=some (op - 3)/\Nx (sgT (ZwI op)::r):=by
 obtain ⟨h1,h2⟩:=h;obtain rfl | rfl | rfl | rfl | rfl | rfl:op=3\/op=4\/op=5\/op=6\/op=7\/op=8:=oM
 all_goals exact ⟨rfl,Zah dM r⟩
def ZtM {op:Nat} (h:9<=op/\op<=12) (r:Ts):Vw (nmT (JE op)::r) 0 Z5=some (op - 9):=by
 obtain ⟨h1,h2⟩:=h;obtain rfl | rfl | rfl | rfl:op=9\/op=10\/op=11\/op=12:=oM
 all_goals rfl
def ZwJ {e:Ex} (he:Yb e=true) (r:Ts):Vw (exK e++r) 0 Z5=none:=by
 simp only [Z5,Vw];rw [Tb (by rw [Zhk he dM];simp),Tb (by rw [Zhk he dM];simp),Tb (by rw [Zhk he dM];simp),Tb (by rw [Zhk he dM];simp)]
def ZqN (d:Nat):Zgu d=Xf [44] 32 Yj (Zbf d (UM d)):=by cases d <;> rfl
def Zfx {d:Nat} {l:List Li} {r:Ts} (hl:l≠[]) (hr:Nx r) (hw:isW r [[44]]=false) (h:∀x∈l,∀t,Nx t->Rd erL x t (Zbf d (UM d) (liK x++t))):Rd (List.map erL) l r (Zgu d (Z3 [44] (l.map liK)++r)):=by
 rw [ZqN];exact J6 Nx (fun t=>Zah dM t) hr hw hl h
def ZtN:∀(n:Nat) (x:Li),SizeOf.sizeOf x<n->YT x=true->∀d r,Nx r->Rd erL x r (Zbf d (UM d) (liK x++r))
 | 0,x,h,_=>oM
 | k+1,.mk op rel args body a,h,hm=>fun d r hr=>by
  obtain ⟨m1,m2,m3⟩:=Zm3 hm;have ih:∀x∈body,∀d r,Nx r->Rd erL x r (Zbf d (UM d) (liK x++r)):=fun x hx=>ZtN k x (Zyo h hx) (m3 x hx)
  rw [ZE6];have ig:∀(x:Ex) (ts:Ts),Yb x=true->Nx ts->Zbf d (UM d) (exK x++ts)=U5 d (UM d) (exK x++ts):=fun x ts hx s8=>by
   rw [Zbf,Tb (by rw [Zhk hx dM];simp),Tb (show ¬(Zt (exK x++ts)=true/\(hd (exK x++ts).tail).kind=4/\(hd (exK x++ts).tail).text=[40]) from ZtK _ x (SC _) hx _ s8.par)]
  rcases Zm4 m1 with ⟨c,hn,hb⟩ | ⟨c1,c2,rfl,ha,hb⟩ | ⟨rfl,rfl,ha,hb⟩ | ⟨c1,c2,rfl,ha,hb⟩
  ·obtain rfl:body=[]:=TH hb;rcases c with rfl | rfl
   ·rw [Tb dM,Tg rfl,Zbf];rw [Tb (by rw [Tp,Zdo hn (by decide +kernel)];simp),Tg ⟨nm_named hn _,rfl,rfl⟩];exact ZkT hn m2 a
   rw [Tg rfl,Zbf,Tp,Tg (VB _ _),TQ];exact ZkT hn m2 a
  ·obtain ⟨x,y,rfl⟩:=Zax ha;obtain rfl:body=[]:=TH hb;have hx:=m2 x sM;have hy:=m2 y sM;rw [Tb oM,Tb oM,Tg c2];simp only [Zve,TQ,Tj,Tp];obtain ⟨r1,r2⟩:=ZBN ⟨c1,c2⟩ (exK y++r);rw [ig x _ hx r2,U5];refine (Zfw hx d r2).bind fun x' ex=>?_
   have fp:Vm (sgT (ZwI op)::(exK y++r))=.ok op (exK y++r):=by
    unfold Vm
    rw [r1]
    by_cases c:op=3
    ·subst c;simp only [Nat.sub_self,TQ,ZwJ hy]
    obtain ⟨q,hq⟩:∃q,op - 3=q+1:=⟨op - 4,oM⟩
    rw [hq];simp only [TQ];rw [show 3+(q+1)=op by omega]
   rw [fp,R.bind_ok,Tb oM];refine (Zfw hy d hr).bind fun y' ey=>?_
   rw [YV,Tb oM];refine Rd.ok ?_;rw [Zdp,Zdp];simp [ex,ey]
  ·obtain ⟨x,rfl⟩:=Zfs ha;have hx:=m2 x sM;rw [Tb oM,Tb oM,Tb oM];simp only [Zve,TQ,TN,SP,Tu,Tj,Tp];rw [ig x _ hx (Zah dM _),U5];refine (Zfw hx d (Zah dM _)).bind fun x' ex=>?_
   have fp:∀ts,Vm (sgT [61]::nmT (JE 9)::ts)=.ok 9 ts:=fun ts=>by
    unfold Vm
    rw [show Vw (sgT [61]::nmT (JE 9)::ts) 0 ZU=some 0 from rfl];simp only [TQ];rw [ZtM dM]
   rw [fp,R.bind_ok,Tg rfl,YV,Tg dM,XO,R.bind_ok];have hbr:Rd (List.map erL) body r (Zm d [123] [125] (UM d) (sgT [123]::(Z3 [44] (body.map liK)++(sgT [125]::r)))):=Vf dM fun hd=>by
    exact mq134
   refine hbr.bind fun b' eb=>Rd.ok ?_
   rw [Zdp,Zdp,eb];simp [ex]
  obtain ⟨x,y,rfl⟩:=Zax ha;have hx:=m2 x sM;have hy:=m2 y sM;rw [Tb oM,Tb oM,Tb oM];simp only [Zve,TQ,Tz,TN,Sb,SP,Tu,TL,Tj,Tp];rw [ig x _ hx (Zah dM _),U5];refine (Zfw hx d (Zah dM _)).bind fun x' ex=>?_
  have fp:∀ts,Vm (sgT [61]::nmT (JE op)::ts)=.ok op ts:=fun ts=>by
   unfold Vm
   rw [show Vw (sgT [61]::nmT (JE op)::ts) 0 ZU=some 0 from rfl];simp only [TQ];rw [ZtM oM];simp only;rw [show 9+(op - 9)=op by omega]
  rw [fp,R.bind_ok,Tb oM];refine (Zfw hy d (Zah dM _)).bind fun y' ey=>?_
  rw [YV,Tg oM,XO,R.bind_ok];have hbr:Rd (List.map erL) body r (Zm d [123] [125] (UM d) (sgT [123]::(Z3 [44] (body.map liK)++(sgT [125]::r)))):=Vf dM fun hd=>by
   exact mq134
  refine hbr.bind fun b' eb=>Rd.ok ?_
  rw [Zdp,Zdp,eb];simp [ex,ey]
def ZwK {x:Li} (h:YT x=true) {d:Nat} {r:Ts} (hr:Nx r):Rd erL x r (Zbf d (UM d) (liK x++r)):=ZtN _ x (SC _) h d r hr
def ZwL (x:Li):Bool:=YT x && ZmW x
def ZBO {op:Nat} {rel:Bs} {args:List Ex} {body:List Li} {a:Nat} (h:ZwL (.mk op rel args body a)=true):Xk op rel args.length body.length=true/\(∀x∈args,ZmY x=true)/\∀x∈body,ZwL x=true:=by
 simp only [ZwL,Tm] at h;obtain ⟨h1,h2⟩:=h;obtain ⟨m1,m2,m3⟩:=Zm3 h1;obtain ⟨r1,r2⟩:=ZmX h2;exact ⟨m1,fun x hx=>by rw [ZmY,m2 x hx,r1 x hx];rfl,fun x hx=>by rw [ZwL,m3 x hx,r2 x hx];rfl⟩
def ZE7 (n:Nat):Zq:=ZlQ (.tuple []) fun rest txt=>∃pl x,rest=[Y3 XD pl x]/\(ZwL x=true/\wL x<=n/\n<=1073741824)/\txt=liT x
def ZqO (n:Nat):Zq:=fun args σ K=>match args,σ with
 | [.ptr 0 0,.d (.sl r),.d (.str bt),.func g [.ptr 0 0] []],⟨[.cells t [p,.sl 0 e rows]],[0],1⟩=>∃l pl xs,rows=Zi l/\r=xs.map (XD pl)/\(p=.ptr 0 0/\t=88/\e=5/\g=125)/\(xs.all ZwL=true/\szS wL xs<=n/\n<=1073741824)/\l.length+(Zf bt (xs.map liT)).length<70368744177664 /\
   K (.ret (.tuple [])) ⟨[.cells t [.ptr 0 0,.sl 0 e (Zi (l++Zf bt (xs.map liT)))]],[0],1⟩
 | _,_=>False
def ZE9 {n:Nat}:OKw w0 nG [(119,ZiM),(125,ZE7 n)] 124 (ZqO n):=by
 refine pwo Tryz.func124 fun args σ K h=>?_
 unfold ZqO at h
 split at h
 ·rename_i r bt g t p e rows
  obtain ⟨l,pl,xs,rfl,rfl,⟨rfl,rfl,rfl,rfl⟩,⟨bv,hz,hn⟩,aa,h⟩:=h;have du:(xs.map (XD pl)).length=xs.length:=Tf ..;have hsz:=Zo wL xs;refine pwv [(1,⟨[12],[0,1,2,3,10,11],fun vs σ=>∃i:Nat,vs=[.d (.int .i64 i)]/\σ=⟨[.cells 88 [.ptr 0 0,.sl 0 5 (Zi (l++Zf bt ((xs.take i).map liT)))]],[0],1⟩/\i<=xs.length,mu1 xs.length⟩)] 1 true ?_;refine ⟨⟨0,rfl,(by simp only [Sr,TN,Zf,TL];rfl),oM⟩,?_⟩;intro vs σ hI
  obtain ⟨i,rfl,rfl,hi⟩:=hI;(conv=>whnf);refine ZJU (fun af=>wN ?_) (fun af=>?_)
  ·have af:i<xs.length:=lzI du af;have hg:=Zu wL xs i af;have iu:ZwL xs[i]=true:=To.1 bv _ (TM af);have cp:=US bt liT af;have am:=ZbR bt liT xs (i+1);obtain ⟨eA,hA⟩:∃x,xs[i]=x:=⟨_,rfl⟩
   obtain ⟨a1,a2,a3,a4,a5⟩:=eA;rw [hA] at hg iu cp;have bj:(xs.map (XD pl))[((i:Nat):Int).toNat]?=some (XD pl (.mk a1 a2 a3 a4 a5)):=by simp [af,hA]
   refine ⟨_,oM,bj,wN ?_⟩;refine ZJU (fun h0=>wN ?_) (fun h0=>?_)
   ·have h0:0<i:=by omega
    rw [Tb oM] at cp;rw [cp] at am;simp only [Ta] at am;refine wk _ bt ⟨rfl,rfl⟩ (wN ?_);refine wk _ (liT (.mk a1 a2 a3 a4 a5)) ⟨pl,(.mk a1 a2 a3 a4 a5),rfl,⟨iu,oM,oM⟩,rfl⟩ (wN ?_);exact mq69
   obtain rfl:i=0:=by omega
   rw [Tg rfl] at cp;rw [cp] at am;(conv=>whnf);refine ⟨l++Zf bt ((xs.take 0).map liT),liT (.mk a1 a2 a3 a4 a5),rfl,⟨.inr rfl,rfl,rfl⟩,⟨pl,(.mk a1 a2 a3 a4 a5),rfl,⟨iu,oM,oM⟩,rfl⟩,by simp only [Sr,TN,Zf,Ta,Th];omega,wN ?_⟩;exact mq65
  exact mq176
 exact h.elim
def ZFa (n:Nat):Tbl:=[(64,Zgy),(123,ZwB n),(177,ZwA n),(124,spB ZqO n)]
def ZFb {n:Nat} (ht:TO w0 nG (ZFa n)):PC w0 nG 125 (ZE7 n):=by
 refine VI ZR mixed (tbl:=ZFa n) ht Tryz.func125 rfl kR kR ?_;intro args σ K h
 unfold ZE7 ZlQ at h
 split at h
 ·rename_i rest t p e rows
  obtain ⟨l,txt,rfl,⟨hp,rfl,rfl⟩,⟨pl,⟨op,rel,xs,body,at'⟩,rfl,⟨bv,hz,hn⟩,rfl⟩,aa,h⟩:=h;obtain ⟨m1,m2,m3⟩:=ZBO bv;have dy:szS wE xs+szS wL body+rel.length+1<=n:=by rw [wL,JF] at hz;omega
  refine ⟨Zr [],Wk [(13,2)],YG [],1,true,sM,Td rfl,?_⟩;have ve:((op=1\/op=2)/\Yx rel=true/\body.length=0)\/(3<=op/\op<=8/\rel=[]/\xs.length=2/\body.length=0)\/(op=9/\rel=[]/\xs.length=1/\0<body.length)\/(9<op/\op<=12/\rel=[]/\xs.length=2/\0<body.length):=Zm4 m1;rcases ve with ⟨fp,hnm,hb⟩ | ⟨c1,c2,rfl,cd,hb⟩ | ⟨rfl,rfl,dm,hb⟩ | ⟨c1,c2,rfl,cd,hb⟩
  ·rcases fp with rfl | rfl
   ·rcases hp with rfl | rfl
    all_goals
     have hx:liT (.mk 1 rel xs body at')=rel++argT [40] [41] xs:=by rw [liT];rfl
     rw [hx] at h aa
     (try simp only [Ta,Te,Th] at aa)
     conv=>whnf
     refine wk _ rel ⟨[rel],rfl,sM,sM,sM⟩ ?_;(conv=>whnf);refine wk _ (argT [40] [41] xs) ⟨[40],[41],pl,xs,rfl,⟨To.2 m2,oM,oM⟩,rfl⟩ ?_;rw [show l++(rel++argT [40] [41] xs)=l++rel++argT [40] [41] xs by simp only [Tj]] at h;(conv=>whnf);exact h
   rcases hp with rfl | rfl
   all_goals
    have hx:liT (.mk 2 rel xs body at')=[33]++(rel++argT [40] [41] xs):=by rw [liT];rfl
    rw [hx] at h aa
    (try simp only [Ta,Te,Th] at aa)
    conv=>whnf
    refine wk _ [33] ⟨[[33]],rfl,sM,sM,sM⟩ ?_;(conv=>whnf);refine wk _ rel ⟨[rel],rfl,sM,sM,sM⟩ ?_;(conv=>whnf);refine wk _ (argT [40] [41] xs) ⟨[40],[41],pl,xs,rfl,⟨To.2 m2,oM,oM⟩,rfl⟩ ?_;rw [show l++([33]++(rel++argT [40] [41] xs))=l++[33]++rel++argT [40] [41] xs by simp only [Tj]] at h;(conv=>whnf);exact h
  ·obtain ⟨x0,x1,rfl⟩:=Zax cd;simp only [szS] at dy;have g0:=m2 x0 sM;have g1:=m2 x1 sM;have z0:wE x0<=n:=oM;have z1:wE x1<=n:=oM;obtain ⟨o0,t0,n0,y0,q0⟩:=x0;obtain ⟨o1,t1,n1,y1,q1⟩:=x1;obtain rfl | rfl | rfl | rfl | rfl | rfl:op=3\/op=4\/op=5\/op=6\/op=7\/op=8:=oM
   ·rcases hp with rfl | rfl
    all_goals
     have hx:liT (.mk 3 [] [(.mk o0 t0 n0 y0 q0),(.mk o1 t1 n1 y1 q1)] body at')=exW 0 (.mk o0 t0 n0 y0 q0)++([32,61,32]++exW 0 (.mk o1 t1 n1 y1 q1)):=by rw [liT,Ue,Ue];rfl
     rw [hx] at h aa
     (try simp only [Ta,Te,Th] at aa)
     conv=>whnf
     refine ⟨_,dM,rfl,wN ?_⟩;refine wk _ (exW 0 (.mk o0 t0 n0 y0 q0)) ⟨pl,(.mk o0 t0 n0 y0 q0),0,rfl,⟨g0,oM,oM,oM,oM⟩,rfl⟩ ?_;(conv=>whnf);refine Or.inl ⟨InR.u8 dM dM,wN ?_⟩;refine ⟨dM,dM,wN ?_⟩;refine wk _ [32,61,32] ⟨[[32,61,32]],rfl,sM,sM,sM⟩ ?_;(conv=>whnf);refine ⟨_,dM,rfl,wN ?_⟩;refine wk _ (exW 0 (.mk o1 t1 n1 y1 q1)) ⟨pl,(.mk o1 t1 n1 y1 q1),0,rfl,⟨g1,oM,oM,oM,oM⟩,rfl⟩ ?_;rw [show l++(exW 0 (.mk o0 t0 n0 y0 q0)++([32,61,32]++exW 0 (.mk o1 t1 n1 y1 q1)))=l++exW 0 (.mk o0 t0 n0 y0 q0)++[32,61,32]++exW 0 (.mk o1 t1 n1 y1 q1) by simp only [Tj]] at h;(conv=>whnf);exact h
   ·rcases hp with rfl | rfl
    all_goals
     have hx:liT (.mk 4 [] [(.mk o0 t0 n0 y0 q0),(.mk o1 t1 n1 y1 q1)] body at')=exW 0 (.mk o0 t0 n0 y0 q0)++([32,33,61,32]++exW 0 (.mk o1 t1 n1 y1 q1)):=by rw [liT,Ue,Ue];rfl
     rw [hx] at h aa
     (try simp only [Ta,Te,Th] at aa)
     conv=>whnf
     refine ⟨_,dM,rfl,wN ?_⟩;refine wk _ (exW 0 (.mk o0 t0 n0 y0 q0)) ⟨pl,(.mk o0 t0 n0 y0 q0),0,rfl,⟨g0,oM,oM,oM,oM⟩,rfl⟩ ?_;(conv=>whnf);refine Or.inl ⟨InR.u8 dM dM,wN ?_⟩;refine ⟨dM,dM,wN ?_⟩;refine wk _ [32,33,61,32] ⟨[[32,33,61,32]],rfl,sM,sM,sM⟩ ?_;(conv=>whnf);refine ⟨_,dM,rfl,wN ?_⟩;refine wk _ (exW 0 (.mk o1 t1 n1 y1 q1)) ⟨pl,(.mk o1 t1 n1 y1 q1),0,rfl,⟨g1,oM,oM,oM,oM⟩,rfl⟩ ?_;rw [show l++(exW 0 (.mk o0 t0 n0 y0 q0)++([32,33,61,32]++exW 0 (.mk o1 t1 n1 y1 q1)))=l++exW 0 (.mk o0 t0 n0 y0 q0)++[32,33,61,32]++exW 0 (.mk o1 t1 n1 y1 q1) by simp only [Tj]] at h;(conv=>whnf);exact h
   ·rcases hp with rfl | rfl
    all_goals
     have hx:liT (.mk 5 [] [(.mk o0 t0 n0 y0 q0),(.mk o1 t1 n1 y1 q1)] body at')=exW 0 (.mk o0 t0 n0 y0 q0)++([32,60,32]++exW 0 (.mk o1 t1 n1 y1 q1)):=by rw [liT,Ue,Ue];rfl
     rw [hx] at h aa
     (try simp only [Ta,Te,Th] at aa)
     conv=>whnf
     refine ⟨_,dM,rfl,wN ?_⟩;refine wk _ (exW 0 (.mk o0 t0 n0 y0 q0)) ⟨pl,(.mk o0 t0 n0 y0 q0),0,rfl,⟨g0,oM,oM,oM,oM⟩,rfl⟩ ?_;(conv=>whnf);refine Or.inl ⟨InR.u8 dM dM,wN ?_⟩;refine ⟨dM,dM,wN ?_⟩;refine wk _ [32,60,32] ⟨[[32,60,32]],rfl,sM,sM,sM⟩ ?_;(conv=>whnf);refine ⟨_,dM,rfl,wN ?_⟩;refine wk _ (exW 0 (.mk o1 t1 n1 y1 q1)) ⟨pl,(.mk o1 t1 n1 y1 q1),0,rfl,⟨g1,oM,oM,oM,oM⟩,rfl⟩ ?_;rw [show l++(exW 0 (.mk o0 t0 n0 y0 q0)++([32,60,32]++exW 0 (.mk o1 t1 n1 y1 q1)))=l++exW 0 (.mk o0 t0 n0 y0 q0)++[32,60,32]++exW 0 (.mk o1 t1 n1 y1 q1) by simp only [Tj]] at h;(conv=>whnf);exact h
   ·rcases hp with rfl | rfl
    all_goals
     have hx:liT (.mk 6 [] [(.mk o0 t0 n0 y0 q0),(.mk o1 t1 n1 y1 q1)] body at')=exW 0 (.mk o0 t0 n0 y0 q0)++([32,60,61,32]++exW 0 (.mk o1 t1 n1 y1 q1)):=by rw [liT,Ue,Ue];rfl
     rw [hx] at h aa
     (try simp only [Ta,Te,Th] at aa)
     conv=>whnf
     refine ⟨_,dM,rfl,wN ?_⟩;refine wk _ (exW 0 (.mk o0 t0 n0 y0 q0)) ⟨pl,(.mk o0 t0 n0 y0 q0),0,rfl,⟨g0,oM,oM,oM,oM⟩,rfl⟩ ?_;(conv=>whnf);refine Or.inl ⟨InR.u8 dM dM,wN ?_⟩;refine ⟨dM,dM,wN ?_⟩;refine wk _ [32,60,61,32] ⟨[[32,60,61,32]],rfl,sM,sM,sM⟩ ?_;(conv=>whnf);refine ⟨_,dM,rfl,wN ?_⟩;refine wk _ (exW 0 (.mk o1 t1 n1 y1 q1)) ⟨pl,(.mk o1 t1 n1 y1 q1),0,rfl,⟨g1,oM,oM,oM,oM⟩,rfl⟩ ?_;rw [show l++(exW 0 (.mk o0 t0 n0 y0 q0)++([32,60,61,32]++exW 0 (.mk o1 t1 n1 y1 q1)))=l++exW 0 (.mk o0 t0 n0 y0 q0)++[32,60,61,32]++exW 0 (.mk o1 t1 n1 y1 q1) by simp only [Tj]] at h;(conv=>whnf);exact h
   ·rcases hp with rfl | rfl
    all_goals
     have hx:liT (.mk 7 [] [(.mk o0 t0 n0 y0 q0),(.mk o1 t1 n1 y1 q1)] body at')=exW 0 (.mk o0 t0 n0 y0 q0)++([32,62,32]++exW 0 (.mk o1 t1 n1 y1 q1)):=by rw [liT,Ue,Ue];rfl
     rw [hx] at h aa
     (try simp only [Ta,Te,Th] at aa)
     conv=>whnf
     refine ⟨_,dM,rfl,wN ?_⟩;refine wk _ (exW 0 (.mk o0 t0 n0 y0 q0)) ⟨pl,(.mk o0 t0 n0 y0 q0),0,rfl,⟨g0,oM,oM,oM,oM⟩,rfl⟩ ?_;(conv=>whnf);refine Or.inl ⟨InR.u8 dM dM,wN ?_⟩;refine ⟨dM,dM,wN ?_⟩;refine wk _ [32,62,32] ⟨[[32,62,32]],rfl,sM,sM,sM⟩ ?_;(conv=>whnf);refine ⟨_,dM,rfl,wN ?_⟩;refine wk _ (exW 0 (.mk o1 t1 n1 y1 q1)) ⟨pl,(.mk o1 t1 n1 y1 q1),0,rfl,⟨g1,oM,oM,oM,oM⟩,rfl⟩ ?_;rw [show l++(exW 0 (.mk o0 t0 n0 y0 q0)++([32,62,32]++exW 0 (.mk o1 t1 n1 y1 q1)))=l++exW 0 (.mk o0 t0 n0 y0 q0)++[32,62,32]++exW 0 (.mk o1 t1 n1 y1 q1) by simp only [Tj]] at h;(conv=>whnf);exact h
   rcases hp with rfl | rfl
   all_goals
    have hx:liT (.mk 8 [] [(.mk o0 t0 n0 y0 q0),(.mk o1 t1 n1 y1 q1)] body at')=exW 0 (.mk o0 t0 n0 y0 q0)++([32,62,61,32]++exW 0 (.mk o1 t1 n1 y1 q1)):=by rw [liT,Ue,Ue];rfl
    rw [hx] at h aa
    (try simp only [Ta,Te,Th] at aa)
    conv=>whnf
    refine ⟨_,dM,rfl,wN ?_⟩;refine wk _ (exW 0 (.mk o0 t0 n0 y0 q0)) ⟨pl,(.mk o0 t0 n0 y0 q0),0,rfl,⟨g0,oM,oM,oM,oM⟩,rfl⟩ ?_;(conv=>whnf);refine Or.inl ⟨InR.u8 dM dM,wN ?_⟩;refine ⟨dM,dM,wN ?_⟩;refine wk _ [32,62,61,32] ⟨[[32,62,61,32]],rfl,sM,sM,sM⟩ ?_;(conv=>whnf);refine ⟨_,dM,rfl,wN ?_⟩;refine wk _ (exW 0 (.mk o1 t1 n1 y1 q1)) ⟨pl,(.mk o1 t1 n1 y1 q1),0,rfl,⟨g1,oM,oM,oM,oM⟩,rfl⟩ ?_;rw [show l++(exW 0 (.mk o0 t0 n0 y0 q0)++([32,62,61,32]++exW 0 (.mk o1 t1 n1 y1 q1)))=l++exW 0 (.mk o0 t0 n0 y0 q0)++[32,62,61,32]++exW 0 (.mk o1 t1 n1 y1 q1) by simp only [Tj]] at h;(conv=>whnf);exact h
  ·obtain ⟨x0,rfl⟩:=Zfs dm;simp only [szS] at dy;have g0:=m2 x0 sM;have z0:wE x0<=n:=oM;obtain ⟨o0,t0,n0,y0,q0⟩:=x0;rcases hp with rfl | rfl
   all_goals
    have hx:liT (.mk 9 [] [(.mk o0 t0 n0 y0 q0)] body at')=exW 0 (.mk o0 t0 n0 y0 q0)++(([32,61,32]++[99,111,117,110,116])++([32,58,32,123,32]++(Zf cmm (body.map liT)++([32,125])))):=by rw [liT,Zfn,Ue];simp [ZmR,Ztp,JE]
    rw [hx] at h aa
    (try simp only [Ta,Te,Th] at aa)
    conv=>whnf
    refine ⟨_,dM,rfl,wN ?_⟩;refine wk _ (exW 0 (.mk o0 t0 n0 y0 q0)) ⟨pl,(.mk o0 t0 n0 y0 q0),0,rfl,⟨g0,oM,oM,oM,oM⟩,rfl⟩ ?_;(conv=>whnf);refine Or.inl ⟨InR.u8 dM dM,wN ?_⟩;refine ⟨dM,dM,wN ?_⟩;refine wk _ ([32,61,32]++[99,111,117,110,116]) ⟨[[32,61,32],[99,111,117,110,116]],rfl,sM,sM,sM⟩ ?_;(conv=>whnf);refine ⟨fun r hr=>?_,dM,by rw [Zd];simp,wN ?_⟩
    ·rw [Zd] at hr;simp only [Tz,TN,Tv,List.not_mem_nil,or_false] at hr;rcases hr with rfl;rfl
    refine wk _ [32,58,32,123,32] ⟨[[32,58,32,123,32]],rfl,sM,sM,sM⟩ ?_;(conv=>whnf);refine ⟨oM,l++exW 0 (.mk o0 t0 n0 y0 q0)++([32,61,32]++[99,111,117,110,116])++[32,58,32,123,32],pl,body,rfl,Zp pl body,⟨rfl,rfl,rfl,rfl⟩,⟨To.2 m3,oM,oM⟩,(by (try simp only [Ta,Te,Th]);show _+(Zf cmm (body.map liT)).length<_;omega),?_⟩;(conv=>whnf);refine wk (l++exW 0 (.mk o0 t0 n0 y0 q0)++([32,61,32]++[99,111,117,110,116])++[32,58,32,123,32]++Zf cmm (body.map liT)) [32,125] ⟨[[32,125]],rfl,sM,sM,sM⟩ ?_;rw [show l++(exW 0 (.mk o0 t0 n0 y0 q0)++(([32,61,32]++[99,111,117,110,116])++([32,58,32,123,32]++(Zf cmm (body.map liT)++([32,125])))))=l++exW 0 (.mk o0 t0 n0 y0 q0)++([32,61,32]++[99,111,117,110,116])++[32,58,32,123,32]++Zf cmm (body.map liT)++[32,125] by simp only [Tj]] at h;(conv=>whnf);exact h
  obtain ⟨x0,x1,rfl⟩:=Zax cd;simp only [szS] at dy;have g0:=m2 x0 sM;have g1:=m2 x1 sM;have z0:wE x0<=n:=oM;have z1:wE x1<=n:=oM;obtain ⟨o0,t0,n0,y0,q0⟩:=x0;obtain ⟨o1,t1,n1,y1,q1⟩:=x1;obtain rfl | rfl | rfl:op=10\/op=11\/op=12:=oM
  ·rcases hp with rfl | rfl
   all_goals
    have hx:liT (.mk 10 [] [(.mk o0 t0 n0 y0 q0),(.mk o1 t1 n1 y1 q1)] body at')=exW 0 (.mk o0 t0 n0 y0 q0)++(([32,61,32]++[115,117,109])++([32]++(exW 0 (.mk o1 t1 n1 y1 q1)++([32,58,32,123,32]++(Zf cmm (body.map liT)++([32,125])))))):=by rw [liT,Zfn,Ue,Ue];simp [ZmR,Ztp,JE]
    rw [hx] at h aa
    (try simp only [Ta,Te,Th] at aa)
    conv=>whnf
    refine ⟨_,dM,rfl,wN ?_⟩;refine wk _ (exW 0 (.mk o0 t0 n0 y0 q0)) ⟨pl,(.mk o0 t0 n0 y0 q0),0,rfl,⟨g0,oM,oM,oM,oM⟩,rfl⟩ ?_;(conv=>whnf);refine Or.inl ⟨InR.u8 dM dM,wN ?_⟩;refine ⟨dM,dM,wN ?_⟩;refine wk _ ([32,61,32]++[115,117,109]) ⟨[[32,61,32],[115,117,109]],rfl,sM,sM,sM⟩ ?_;(conv=>whnf);refine ⟨fun r hr=>?_,dM,by rw [Zd];simp,wN ?_⟩
    ·exact mq92
    refine ⟨_,dM,rfl,wN ?_⟩;refine wk _ [32] ⟨[[32]],rfl,sM,sM,sM⟩ ?_;(conv=>whnf);refine wk _ (exW 0 (.mk o1 t1 n1 y1 q1)) ⟨pl,(.mk o1 t1 n1 y1 q1),0,rfl,⟨g1,oM,oM,oM,oM⟩,rfl⟩ ?_;(conv=>whnf);refine V5 ?_;refine wk _ [32,58,32,123,32] ⟨[[32,58,32,123,32]],rfl,sM,sM,sM⟩ ?_;(conv=>whnf);refine ⟨oM,l++exW 0 (.mk o0 t0 n0 y0 q0)++([32,61,32]++[115,117,109])++[32]++exW 0 (.mk o1 t1 n1 y1 q1)++[32,58,32,123,32],pl,body,rfl,Zp pl body,⟨rfl,rfl,rfl,rfl⟩,⟨To.2 m3,oM,oM⟩,(by (try simp only [Ta,Te,Th]);show _+(Zf cmm (body.map liT)).length<_;omega),?_⟩;(conv=>whnf);refine wk (l++exW 0 (.mk o0 t0 n0 y0 q0)++([32,61,32]++[115,117,109])++[32]++exW 0 (.mk o1 t1 n1 y1 q1)++[32,58,32,123,32]++Zf cmm (body.map liT)) [32,125] ⟨[[32,125]],rfl,sM,sM,sM⟩ ?_;rw [show l++(exW 0 (.mk o0 t0 n0 y0 q0)++(([32,61,32]++[115,117,109])++([32]++(exW 0 (.mk o1 t1 n1 y1 q1)++([32,58,32,123,32]++(Zf cmm (body.map liT)++([32,125])))))))=l++exW 0 (.mk o0 t0 n0 y0 q0)++([32,61,32]++[115,117,109])++[32]++exW 0 (.mk o1 t1 n1 y1 q1)++[32,58,32,123,32]++Zf cmm (body.map liT)++[32,125] by simp only [Tj]] at h;(conv=>whnf);exact h
  ·rcases hp with rfl | rfl
   all_goals
    have hx:liT (.mk 11 [] [(.mk o0 t0 n0 y0 q0),(.mk o1 t1 n1 y1 q1)] body at')=exW 0 (.mk o0 t0 n0 y0 q0)++(([32,61,32]++[109,105,110])++([32]++(exW 0 (.mk o1 t1 n1 y1 q1)++([32,58,32,123,32]++(Zf cmm (body.map liT)++([32,125])))))):=by rw [liT,Zfn,Ue,Ue];simp [ZmR,Ztp,JE]
    rw [hx] at h aa
    (try simp only [Ta,Te,Th] at aa)
    conv=>whnf
    refine ⟨_,dM,rfl,wN ?_⟩;refine wk _ (exW 0 (.mk o0 t0 n0 y0 q0)) ⟨pl,(.mk o0 t0 n0 y0 q0),0,rfl,⟨g0,oM,oM,oM,oM⟩,rfl⟩ ?_;(conv=>whnf);refine Or.inl ⟨InR.u8 dM dM,wN ?_⟩;refine ⟨dM,dM,wN ?_⟩;refine wk _ ([32,61,32]++[109,105,110]) ⟨[[32,61,32],[109,105,110]],rfl,sM,sM,sM⟩ ?_;(conv=>whnf);refine ⟨fun r hr=>?_,dM,by rw [Zd];simp,wN ?_⟩
    ·exact mq92
    refine ⟨_,dM,rfl,wN ?_⟩;refine wk _ [32] ⟨[[32]],rfl,sM,sM,sM⟩ ?_;(conv=>whnf);refine wk _ (exW 0 (.mk o1 t1 n1 y1 q1)) ⟨pl,(.mk o1 t1 n1 y1 q1),0,rfl,⟨g1,oM,oM,oM,oM⟩,rfl⟩ ?_;(conv=>whnf);refine V5 ?_;refine wk _ [32,58,32,123,32] ⟨[[32,58,32,123,32]],rfl,sM,sM,sM⟩ ?_;(conv=>whnf);refine ⟨oM,l++exW 0 (.mk o0 t0 n0 y0 q0)++([32,61,32]++[109,105,110])++[32]++exW 0 (.mk o1 t1 n1 y1 q1)++[32,58,32,123,32],pl,body,rfl,Zp pl body,⟨rfl,rfl,rfl,rfl⟩,⟨To.2 m3,oM,oM⟩,(by (try simp only [Ta,Te,Th]);show _+(Zf cmm (body.map liT)).length<_;omega),?_⟩;(conv=>whnf);refine wk (l++exW 0 (.mk o0 t0 n0 y0 q0)++([32,61,32]++[109,105,110])++[32]++exW 0 (.mk o1 t1 n1 y1 q1)++[32,58,32,123,32]++Zf cmm (body.map liT)) [32,125] ⟨[[32,125]],rfl,sM,sM,sM⟩ ?_;rw [show l++(exW 0 (.mk o0 t0 n0 y0 q0)++(([32,61,32]++[109,105,110])++([32]++(exW 0 (.mk o1 t1 n1 y1 q1)++([32,58,32,123,32]++(Zf cmm (body.map liT)++([32,125])))))))=l++exW 0 (.mk o0 t0 n0 y0 q0)++([32,61,32]++[109,105,110])++[32]++exW 0 (.mk o1 t1 n1 y1 q1)++[32,58,32,123,32]++Zf cmm (body.map liT)++[32,125] by simp only [Tj]] at h;(conv=>whnf);exact h
  rcases hp with rfl | rfl
  all_goals
   have hx:liT (.mk 12 [] [(.mk o0 t0 n0 y0 q0),(.mk o1 t1 n1 y1 q1)] body at')=exW 0 (.mk o0 t0 n0 y0 q0)++(([32,61,32]++[109,97,120])++([32]++(exW 0 (.mk o1 t1 n1 y1 q1)++([32,58,32,123,32]++(Zf cmm (body.map liT)++([32,125])))))):=by rw [liT,Zfn,Ue,Ue];simp [ZmR,Ztp,JE]
   rw [hx] at h aa
   (try simp only [Ta,Te,Th] at aa)
   conv=>whnf
   refine ⟨_,dM,rfl,wN ?_⟩;refine wk _ (exW 0 (.mk o0 t0 n0 y0 q0)) ⟨pl,(.mk o0 t0 n0 y0 q0),0,rfl,⟨g0,oM,oM,oM,oM⟩,rfl⟩ ?_;(conv=>whnf);refine Or.inl ⟨InR.u8 dM dM,wN ?_⟩;refine ⟨dM,dM,wN ?_⟩;refine wk _ ([32,61,32]++[109,97,120]) ⟨[[32,61,32],[109,97,120]],rfl,sM,sM,sM⟩ ?_;(conv=>whnf);refine ⟨fun r hr=>?_,dM,by rw [Zd];simp,wN ?_⟩
   ·exact mq92
   refine ⟨_,dM,rfl,wN ?_⟩;refine wk _ [32] ⟨[[32]],rfl,sM,sM,sM⟩ ?_;(conv=>whnf);refine wk _ (exW 0 (.mk o1 t1 n1 y1 q1)) ⟨pl,(.mk o1 t1 n1 y1 q1),0,rfl,⟨g1,oM,oM,oM,oM⟩,rfl⟩ ?_;(conv=>whnf);refine V5 ?_;refine wk _ [32,58,32,123,32] ⟨[[32,58,32,123,32]],rfl,sM,sM,sM⟩ ?_;(conv=>whnf);refine ⟨oM,l++exW 0 (.mk o0 t0 n0 y0 q0)++([32,61,32]++[109,97,120])++[32]++exW 0 (.mk o1 t1 n1 y1 q1)++[32,58,32,123,32],pl,body,rfl,Zp pl body,⟨rfl,rfl,rfl,rfl⟩,⟨To.2 m3,oM,oM⟩,(by (try simp only [Ta,Te,Th]);show _+(Zf cmm (body.map liT)).length<_;omega),?_⟩;(conv=>whnf);refine wk (l++exW 0 (.mk o0 t0 n0 y0 q0)++([32,61,32]++[109,97,120])++[32]++exW 0 (.mk o1 t1 n1 y1 q1)++[32,58,32,123,32]++Zf cmm (body.map liT)) [32,125] ⟨[[32,125]],rfl,sM,sM,sM⟩ ?_;rw [show l++(exW 0 (.mk o0 t0 n0 y0 q0)++(([32,61,32]++[109,97,120])++([32]++(exW 0 (.mk o1 t1 n1 y1 q1)++([32,58,32,123,32]++(Zf cmm (body.map liT)++([32,125])))))))=l++exW 0 (.mk o0 t0 n0 y0 q0)++([32,61,32]++[109,97,120])++[32]++exW 0 (.mk o1 t1 n1 y1 q1)++[32,58,32,123,32]++Zf cmm (body.map liT)++[32,125] by simp only [Tj]] at h;(conv=>whnf);exact h
 exact h.elim
def cWA (hN:NumOK w0 nG) (hL:LexC w0 nG) (n:Nat):PC w0 nG 123 (ZwB n):=Zym (cWE hN hL n)
def ZtO {n:Nat} (h:PC w0 nG 125 (ZE7 n)):PC w0 nG 124 (ZqO n):=ZE9 ⟨Ztt,h,trivial⟩
def cWL (hN:NumOK w0 nG) (hL:LexC w0 nG):∀n,PC w0 nG 125 (ZE7 n)
 | 0=>ZFb ⟨ZbP,cWA hN hL 0,cWE hN hL 0,ZV (Zg Tryz.func124 kR rfl),trivial⟩
 | n+1=>ZFb ⟨ZbP,cWA hN hL (n+1),cWE hN hL (n+1),ZW (sp:=ZqO) (ZtO (cWL hN hL n)),trivial⟩
def ZFc (r:Ru):Bool:=YQ r && Zfp r
def ZBP {r:Ru} (h:ZFc r=true):(∀x∈r.args,ZmY x=true)/\∀x∈r.body,ZwL x=true:=by
 simp only [ZFc,YQ,Zfp,Tm] at h;obtain ⟨⟨_,h1,h2⟩,h3,h4⟩:=h;rw [To] at h1 h2 h3 h4;exact ⟨fun x hx=>by rw [ZmY,h1 x hx,h3 x hx];rfl,fun x hx=>by rw [ZwL,h2 x hx,h4 x hx];rfl⟩
def ZGS (n:Nat):Zq:=ZlQ (.tuple []) fun rest txt=>∃pl x,rest=[Y3 ZH pl x]/\(ZFc x=true/\wRu x<=n/\n<=1073741824)/\txt=ruT x
def ZHU {n:Nat}:OKw w0 nG [(64,Zgy),(123,ZwB n),(124,ZqO n)] 69 (ZGS n):=by
 refine pwo Tryz.func69 fun args σ K h=>?_
 unfold ZGS ZlQ at h
 split at h
 ·rename_i rest t p e rows
  obtain ⟨l,txt,rfl,⟨hp,rfl,rfl⟩,⟨pl,⟨head,xs,body,at'⟩,rfl,⟨bv,hz,hn⟩,rfl⟩,aa,h⟩:=h;obtain ⟨m2,m3⟩:=ZBP bv;simp only at m2 m3;have dy:szS wE xs+szS wL body+head.length+1<=n:=by unfold wRu at hz;simp only at hz;omega
  have cm:(XL pl body).length=body.length:=by rw [Zp,Tf]
  refine pwu [] 1 true ?_;have oa:l.length+head.length+(argT [40] [41] xs).length+10<70368744177664+10:=by
   have e:(ruT ⟨head,xs,body,at'⟩).length>=head.length+(argT [40] [41] xs).length:=by rw [ruT];simp only [Ta];omega
   omega
  rcases hp with rfl | rfl
  all_goals
   conv=>whnf
   refine wk _ head ⟨[head],rfl,sM,sM,sM⟩ ?_;(conv=>whnf);refine wk _ (argT [40] [41] xs) ⟨[40],[41],pl,xs,rfl,⟨To.2 m2,oM,oM⟩,rfl⟩ ?_;(conv=>whnf);refine ZJU (fun c=>wN ?_) (fun c=>wN ?_)
   ·have c:0<body.length:=by have c:((XL pl body).length:Int)>0:=c;omega
    have hx:ruT ⟨head,xs,body,at'⟩=head++(argT [40] [41] xs++([32,58,45,32]++(Zf cmm (body.map liT)++[46]))):=by rw [ruT,Tg c,Zfn];simp
    rw [hx] at h aa;simp only [Ta,Te,Th] at aa;refine wk _ [32,58,45,32] ⟨[[32,58,45,32]],rfl,sM,sM,sM⟩ ?_;(conv=>whnf);refine ⟨l++head++argT [40] [41] xs++[32,58,45,32],pl,body,rfl,Zp pl body,⟨rfl,rfl,rfl,rfl⟩,⟨To.2 m3,oM,oM⟩,(by (try simp only [Ta,Te,Th]);show _+(Zf cmm (body.map liT)).length<_;omega),?_⟩;(conv=>whnf);refine wk (l++head++argT [40] [41] xs++[32,58,45,32]++Zf cmm (body.map liT)) [46] ⟨[[46]],rfl,sM,sM,sM⟩ ?_;simp only [<- Tj] at h;exact mq52
   have c:¬0<body.length:=by have c:¬((XL pl body).length:Int)>0:=c;omega
   have hx:ruT ⟨head,xs,body,at'⟩=head++(argT [40] [41] xs++[46]):=by rw [ruT,Tb c,Tu]
   rw [hx] at h aa;simp only [Ta,Te,Th] at aa;refine wk _ [46] ⟨[[46]],rfl,sM,sM,sM⟩ ?_;simp only [<- Tj] at h;exact mq52
 exact h.elim
def cWR (hN:NumOK w0 nG) (hL:LexC w0 nG) (n:Nat):PC w0 nG 69 (ZGS n):=ZHU ⟨ZbP,cWA hN hL n,ZtO (cWL hN hL n),trivial⟩
def ruK (r:Ru):Ts:=nmT r.head::(brK [40] [41] (r.args.map exK)++((if 0<r.body.length then sgT [58,45]::Z3 [44] (r.body.map liK) else [])++[sgT [46]]))
def ZbX {r:Ru} (h:YQ r=true):Yx r.head=true/\(∀x∈r.args,Yb x=true)/\∀x∈r.body,YT x=true:=by
 simp only [YQ,Tm] at h;exact ⟨h.1,To.1 h.2.1,To.1 h.2.2⟩
def Zfy {x:Ru} (h:YQ x=true) (d:Nat) (r:Ts):Rd Ztd x r (ZdE d true (ruK x++r)):=by
 obtain ⟨h1,h2,h3⟩:=ZbX h;obtain ⟨xp,args,body,a⟩:=x;simp only at h1 h2 h3;rw [ZdE,ruK];simp only [Tp,Tj];rw [XP h1,R.bind_ok];refine (ZbW dM h2 fun hd x hx t ht=>ZoS (h2 x hx) hd ht).bind fun l' e=>?_
 by_cases hb:0<body.length
 ·rw [Tg hb];simp only [Tp,Tj,Tu];rw [Tg ⟨trivial,VB _ _⟩,TQ];refine (Zfx (Sf.1 hb) (Zah dM r) (ZK r dM) fun z hz t ht=>ZwK (h3 z hz) ht).bind fun b' eb=>?_
  rw [XO,R.bind_ok];exact Rd.ok (by simp [Ztd,e,eb])
 obtain rfl:body=[]:=TH oM;rw [Tb hb];simp only [Tu];rw [Tb (by rw [ZK _ dM];simp),XO,R.bind_ok];exact Rd.ok (by simp [Ztd,e])
def fiK (f:Fi):Ts:=[nmT f.name,sgT [58],nmT f.typ]
def Zyp (fr:Bs) (l:List Fi) (fin:Bs):Ts:=sgT fr::(Z3 [44] (l.map fiK)++[sgT fin])
def ZiR {f:Fi} (h:YH f=true):Yx f.name=true/\Yx f.typ=true:=by simpa [YH] using h
def ZqP {f:Fi} (h:YH f=true) (r:Ts):Rd (fun x:Fi=>x) f r (Wr (fiK f++r)):=by
 obtain ⟨h1,h2⟩:=ZiR h;obtain ⟨nm,ty⟩:=f;simp only [Wr,fiK,Tp,Tu];rw [XP h1,R.bind_ok,XO,R.bind_ok,XP h2,R.bind_ok];exact Rd.id
def Rd.idl {α:Type} {l:List α} {r:Ts} {x:R (List α)} (h:Rd (List.map fun x:α=>x) l r x):Rd (fun x:List α=>x) l r x:=by
 rcases h with ⟨v,e,h⟩ | h
 ·exact .inl ⟨v,by simpa using e,h⟩
 exact .inr h
def Za0 {l:List Fi} (h:∀f∈l,YH f=true) {fin:Bs} (fj:fin∈[[41],[93],[125]]) (r:Ts):Rd (fun x:List Fi=>x) l (sgT fin::r) (Wo fin (Z3 [44] (l.map fiK)++(sgT fin::r))):=by
 have hk:∀w∈[[41],[93],[125]],Yx w=false/\w≠[44]:=by decide +kernel
 obtain ⟨k1,k2⟩:=hk fin fj;unfold Wo
 cases l with
 | nil =>
  simp only [TN,Z3,Tu];rw [Tg (VB _ _)];exact Rd.id
 | cons f fs =>
 have hf:isW (Z3 [44] ((f::fs).map fiK)++(sgT fin::r)) [fin]=false:=Zdo (ZiR (h f sM)).1 k1 _;rw [Tb (by rw [hf];simp)];exact (J6 (fun _=>True) (fun _=>trivial) trivial (ZK r (by simpa [sgT] using k2)) sM fun y hy t _=>ZqP (h y hy) t).idl
def ZHV (l:List Bs):Ts:=if l.length=0 then [] else sgT [60]::(Z3 [44] (l.map fun s=>[nmT s])++[sgT [62]])
def ZkU:List Bs:=[[116,121,112,101],[100,101,99,108],[99,111,109,112],[105,110,105,116],[111,118,101,114,114,105,100,101]]
def IHd (r:Ts):Prop:=r=[]\/(∃l,r=sgT [125]::l)\/(∃w l,w∈ZkU/\r=nmT w::l)\/∃s l,Yx s=true/\r=nmT s::l
def Zfz {r:Ts} (h:IHd r) {w:Bs} (hw:Yx w=false/\w≠[125]/\w∉ZkU):isW r [w]=false:=by
 rcases h with rfl | ⟨l,rfl⟩ | ⟨v,l,hv,rfl⟩ | ⟨s,l,hs,rfl⟩
 ·exact YS _
 ·exact ZK l fun e=>hw.2.1 e.symm
 ·exact ZK l fun e=>hw.2.2 (by have e:v=w:=e;rwa [<- e])
 exact Zdo hs hw.1 l
def ZbY:∀w∈[[124],[60],[105,110,112,117,116],[111,117,116,112,117,116],[105,110,108,105,110,101]],Yx w=false/\w≠[125]/\w∉ZkU:=by decide +kernel
def caK (c:Ca):Ts:=nmT c.name::Zyp [123] c.fields [125]
def ZiS {c:Ca} (h:Xp c=true):Yx c.name=true/\∀f∈c.fields,YH f=true:=by
 simp only [Xp,Tm] at h;exact ⟨h.1,To.1 h.2⟩
def ZtP {c:Ca} (h:Xp c=true) (r:Ts):Rd (fun x:Ca=>x) c r (Jt (caK c++r)):=by
 obtain ⟨h1,h2⟩:=ZiS h;obtain ⟨nm,l⟩:=c;simp only [Jt,caK,Zyp,Tp,Tu,Tj];rw [XP h1,R.bind_ok,XO,R.bind_ok];refine (Za0 h2 dM r).binds ?_;rw [XO,R.bind_ok];exact Rd.id
def tyK (t:Ty):Ts:=nmT [116,121,112,101]::nmT t.name::(if t.kind=1 then [sgT [60,58],nmT t.base] else if t.kind=2 then sgT [61]::Zyp [91] t.fields [93] else sgT [61]::Z3 [124] (t.cases.map caK))
def ZiT {t:Ty} (h:Yl t=true):Yx t.name=true/\(∀f∈t.fields,YH f=true)/\(∀c∈t.cases,Xp c=true) /\
  ((t.kind=1/\Yx t.base=true/\t.fields=[]/\t.cases=[])\/(t.kind=2/\t.base=[]/\t.cases=[])\/(t.kind=3/\t.base=[]/\t.fields=[]/\t.cases≠[])):=by
 simp only [Yl,Tm] at h;obtain ⟨h1,h2,h3,h4⟩:=h;refine ⟨h2,To.1 h3,To.1 h4,?_⟩;unfold Zdl at h1
 split at h1
 ·rename_i c
  simp only [Tm,TV] at h1;exact .inl ⟨c,h1.1,TH h1.2.1,TH h1.2.2⟩
 split at h1
 ·rename_i c
  simp only [Tm,TV] at h1;exact .inr (.inl ⟨c,h1.1,TH h1.2⟩)
 split at h1
 ·rename_i c
  simp only [Tm,TV,Sa,decide_eq_false_iff_not] at h1;exact .inr (.inr ⟨c,h1.1,TH h1.2.1,fun e=>h1.2.2 (by rw [e];rfl)⟩)
 cases h1
def ZcO {t:Ty} (h:Yl t=true) {r:Ts} (hr:IHd r):Rd Zz3 t r (Ju ((tyK t).tail++r)):=by
 obtain ⟨h1,h2,h3,h4⟩:=ZiT h;obtain ⟨kind,nm,base,fields,cases,a⟩:=t;simp only at h1 h2 h3 h4;simp only [Ju,tyK,TQ,Tp];rw [XP h1,R.bind_ok];rcases h4 with ⟨rfl,hb,rfl,rfl⟩ | ⟨rfl,rfl,rfl⟩ | ⟨rfl,rfl,rfl,hc⟩
 ·simp only [if_true,Tp,Tu];rw [Tg (VB _ _),TQ,XP hb,R.bind_ok];exact Rd.ok rfl
 ·simp only [show ((2:Nat)=1)=False by simp,if_false,if_true,Tp,Tu,Zyp,Tj];rw [Tb (by rw [ZK _ dM];simp),XO,R.bind_ok,Tg (VB _ _),TQ];refine (Za0 h2 dM r).binds ?_;rw [XO,R.bind_ok];exact Rd.ok rfl
 simp only [show ((3:Nat)=1)=False by simp,show ((3:Nat)=2)=False by simp,if_false,Tp,Tu];rw [Tb (by rw [ZK _ dM];simp),XO,R.bind_ok];have hf:isW (Z3 [124] (cases.map caK)++r) [[91]]=false:=by
  match cases,hc with
  | c::cs,_=>exact Zdo (ZiS (h3 c sM)).1 (by decide +kernel) _
 rw [Tb (by rw [hf];simp)];refine (J6 (er:=fun x:Ca=>x) (fun _=>True) (fun _=>trivial) trivial (Zfz hr (ZbY _ dM)) hc fun y hy t _=>ZtP (h3 y hy) t).idl.binds ?_;exact Rd.ok rfl
def ZoT (i o n:Bool):Ts:=(if i then [nmT [105,110,112,117,116]] else [])++((if o then [nmT [111,117,116,112,117,116]] else [])++(if n then [nmT [105,110,108,105,110,101]] else []))
def ZqQ (i o n:Bool) {r:Ts} (hr:IHd r):Yn 4 false false false (ZoT i o n++r)=((i,o,n),r):=by
 have h1:=Zfz hr (ZbY [105,110,112,117,116] dM);have h2:=Zfz hr (ZbY [111,117,116,112,117,116] dM);have h3:=Zfz hr (ZbY [105,110,108,105,110,101] dM);have a1:∀t:Ts,isW (nmT [105,110,112,117,116]::t) [[105,110,112,117,116]]=true:=fun t=>ZbU _ t
 have a2:∀t:Ts,isW (nmT [111,117,116,112,117,116]::t) [[111,117,116,112,117,116]]=true:=fun t=>ZbU _ t
 have a3:∀t:Ts,isW (nmT [105,110,108,105,110,101]::t) [[105,110,108,105,110,101]]=true:=fun t=>ZbU _ t
 have b1:∀t:Ts,isW (nmT [111,117,116,112,117,116]::t) [[105,110,112,117,116]]=false:=fun t=>ZK t dM
 have b2:∀t:Ts,isW (nmT [105,110,108,105,110,101]::t) [[105,110,112,117,116]]=false:=fun t=>ZK t dM
 have b3:∀t:Ts,isW (nmT [105,110,108,105,110,101]::t) [[111,117,116,112,117,116]]=false:=fun t=>ZK t dM
 cases i <;> cases o <;> cases n <;> simp [ZoT,Yn,h1,h2,h3,a1,a2,a3,b1,b2,b3]
def reK (d:Re):Ts:=nmT [100,101,99,108]::nmT d.name::(Zyp [40] d.fields [41]++ZoT d.inn d.out d.inl)
def ZfA {d:Re} (h:Xx d=true) {r:Ts} (hr:IHd r):Rd Zz4 d r (Ze0 ((reK d).tail++r)):=by
 simp only [Xx,Tm] at h;obtain ⟨h1,h2⟩:=h;have h2:=To.1 h2;obtain ⟨nm,fields,i,o,n,a⟩:=d;simp only at h1 h2;simp only [Ze0,reK,TQ,Tp,Zyp,Tj,Tu];rw [XP h1,R.bind_ok,XO,R.bind_ok];refine (Za0 h2 dM _).binds ?_;rw [XO,R.bind_ok,ZqQ i o n hr];exact Rd.ok rfl
def inK (i:Ini):Ts:=nmT [105,110,105,116]::nmT i.name::sgT [61]::nmT i.comp::ZHV i.types
def ovK (o:Ov):Ts:=[nmT [111,118,101,114,114,105,100,101],nmT o.rel]
mutual
def unK:Un->Ts
 | .mk tys rels rules comps inits overs=>(tys.map tyK).flatten++((rels.map reK).flatten++((ZDp comps).flatten++((inits.map inK).flatten++((overs.map ovK).flatten++(rules.map ruK).flatten))))
def coK:Co->Ts
 | .mk nm ps base tys u _=>nmT [99,111,109,112]::nmT nm::(ZHV ps++((if base=[] then [] else sgT [58]::nmT base::ZHV tys)++(sgT [123]::(unK u++[sgT [125]]))))
def ZDp:List Co->List Ts
 | []=>[]
 | c::l=>coK c::ZDp l
end
def ZBQ (l:List Co):ZDp l=l.map coK:=by induction l with | nil=>rfl | cons x l ih=>simp [ZDp,ih]
def ZFe (tys:List Ty) (rels:List Re) (rules:List Ru) (comps:List Co) (inits:List Ini) (overs:List Ov):unK (.mk tys rels rules comps inits overs)=(tys.map tyK).flatten++((rels.map reK).flatten++((comps.map coK).flatten++((inits.map inK).flatten++((overs.map ovK).flatten++(rules.map ruK).flatten)))):=by rw [unK,ZBQ]
def ZiU {tys:List Ty} {rels:List Re} {rules:List Ru} {comps:List Co} {inits:List Ini} {overs:List Ov} (h:ZbN (.mk tys rels rules comps inits overs)=true) :
  (∀x∈tys,Yl x=true)/\(∀x∈rels,Xx x=true)/\(∀x∈rules,YQ x=true)/\(∀x∈comps,Yy x=true)/\(∀x∈inits,Vc x=true)/\∀x∈overs,VK x=true:=by
 simp only [ZbN,Vd,Tm] at h;obtain ⟨h1,h2,h3,h4,h5,h6⟩:=h;exact ⟨To.1 h1,To.1 h2,To.1 h3,To.1 h4,To.1 h5,To.1 h6⟩
def ZJt (inside:Bool) (r:Ts):Prop:=(inside=false/\r=[])\/(inside=true/\∃l,r=sgT [125]::l)
def VC {α:Type} {K:α->Ts} (h:∀x:α,∃w l,w∈ZkU/\K x=nmT w::l) {r:Ts} (hr:IHd r) (xs:List α):IHd ((xs.map K).flatten++r):=by
 cases xs with
 | nil=>exact hr
 | cons x xs =>
 obtain ⟨w,l,hw,e⟩:=h x;refine .inr (.inr (.inl ⟨w,l++((xs.map K).flatten++r),hw,?_⟩));simp [e]
def ZoU {r:Ts} (hr:IHd r) {xs:List Ru} (h:∀x∈xs,YQ x=true):IHd ((xs.map ruK).flatten++r):=by
 cases xs with
 | nil=>exact hr
 | cons x xs =>
 refine .inr (.inr (.inr ⟨x.head,(ruK x).tail++((xs.map ruK).flatten++r),(ZbX (h x sM)).1,?_⟩));simp [ruK]
def UW {α:Type} {K:α->Ts} (h:∀x:α,1<=(K x).length) (xs:List α):xs.length<=((xs.map K).flatten).length:=by
 induction xs with
 | nil=>exact Tw _
 | cons x xs ih=>have:=h x;simp only [Tz,Sb,Ta,Te];omega
def Zyq {inside:Bool} {d:Nat} {un:Ts->R Un} {f:Nat} {u:Un} {r:Ts} (h:ZJt inside r) (hf:0<f):ZG inside d un f u r=.ok u r:=by
 obtain ⟨f,rfl⟩:∃k,f=k+1:=⟨f - 1,oM⟩
 obtain ⟨a1,a2,a3,a4,a5,a6⟩:=u;rw [ZG,Tg];rcases h with ⟨_,h⟩ | ⟨h1,l,rfl⟩
 ·exact .inl h
 exact .inr ⟨h1,VB _ _⟩
def ZkV {inside:Bool} {w:Bs} (h:w≠[125]) (r:Ts):¬(nmT w::r=[]\/(inside=true/\isW (nmT w::r) [[125]]=true)):=by
 rintro (g | ⟨_,g⟩)
 ·cases g
 rw [ZK r h] at g;cases g
def ZoV {inside:Bool} {d:Nat} {un:Ts->R Un} {v:Un} {r0 r:Ts} (rels:List Re) (rules:List Ru) (comps:List Co) (inits:List Ini) (overs:List Ov) (hr:IHd r) :
  ∀(xs:List Ty) (f:Nat) (acc acc':List Ty),(∀x∈xs,Yl x=true)->xs.length<f->acc'.map Zz3=acc.map Zz3 ->
   (∀f' acc2,f - xs.length<=f'->acc2.map Zz3=(acc++xs).map Zz3->Rd Zwe v r0 (ZG inside d un f' (.mk acc2 rels rules comps inits overs) r)) ->
   Rd Zwe v r0 (ZG inside d un f (.mk acc' rels rules comps inits overs) ((xs.map tyK).flatten++r))
 | [],f,acc,acc',h,hf,ha,hk=>by simpa using hk f acc' sM (by simpa using ha)
 | x::xs,0,acc,acc',h,hf,ha,hk=>oM
 | x::xs,f+1,acc,acc',h,hf,ha,hk=>by
  rw [Tz,Sb,Tj,tyK,Tp,ZG,Tb (ZkV dM _),Tg (ZbU _ _)];split
  ·exact .lim ZtF
  have hx:=ZcO (h x sM) (r:=(xs.map tyK).flatten++r) (VC (fun x=>⟨_,_,dM,rfl⟩) hr xs);rw [TQ];rw [tyK,TQ] at hx;refine hx.bind fun x' e=>?_
  refine ZoV rels rules comps inits overs hr xs f (acc++[x]) (acc'++[x']) (fun y hy=>h y (Tt _ hy)) (by simpa using hf) (by simp [ha,e]) fun f' acc2 h1 h2=>?_
  exact hk f' acc2 (by simp only [Te];omega) (by rw [h2];simp)
def ZtQ {inside:Bool} {d:Nat} {un:Ts->R Un} {v:Un} {r0 r:Ts} (tys:List Ty) (rules:List Ru) (comps:List Co) (inits:List Ini) (overs:List Ov) (hr:IHd r) :
  ∀(xs:List Re) (f:Nat) (acc acc':List Re),(∀x∈xs,Xx x=true)->xs.length<f->acc'.map Zz4=acc.map Zz4 ->
   (∀f' acc2,f - xs.length<=f'->acc2.map Zz4=(acc++xs).map Zz4->Rd Zwe v r0 (ZG inside d un f' (.mk tys acc2 rules comps inits overs) r)) ->
   Rd Zwe v r0 (ZG inside d un f (.mk tys acc' rules comps inits overs) ((xs.map reK).flatten++r))
 | [],f,acc,acc',h,hf,ha,hk=>by simpa using hk f acc' sM (by simpa using ha)
 | x::xs,0,acc,acc',h,hf,ha,hk=>oM
 | x::xs,f+1,acc,acc',h,hf,ha,hk=>by
  rw [Tz,Sb,Tj,reK,Tp,ZG,Tb (ZkV dM _),Tb (by rw [ZK _ dM];simp),Tg (ZbU _ _)];split
  ·exact .lim ZtF
  have hx:=ZfA (h x sM) (r:=(xs.map reK).flatten++r) (VC (fun x=>⟨_,_,dM,rfl⟩) hr xs);rw [TQ];rw [reK,TQ] at hx;refine hx.bind fun x' e=>?_
  refine ZtQ tys rules comps inits overs hr xs f (acc++[x]) (acc'++[x']) (fun y hy=>h y (Tt _ hy)) (by simpa using hf) (by simp [ha,e]) fun f' acc2 h1 h2=>?_
  exact hk f' acc2 (by simp only [Te];omega) (by rw [h2];simp)
def ZoW:∀w∈ZkU,Yx w=false:=by decide +kernel
def ZoX {inside:Bool} {d:Nat} {un:Ts->R Un} {v:Un} {r0 r:Ts} (tys:List Ty) (rels:List Re) (comps:List Co) (inits:List Ini) (overs:List Ov) :
  ∀(xs:List Ru) (f:Nat) (acc acc':List Ru),(∀x∈xs,YQ x=true)->xs.length<f->acc'.map Ztd=acc.map Ztd ->
   (∀f' acc2,f - xs.length<=f'->acc2.map Ztd=(acc++xs).map Ztd->Rd Zwe v r0 (ZG inside d un f' (.mk tys rels acc2 comps inits overs) r)) ->
   Rd Zwe v r0 (ZG inside d un f (.mk tys rels acc' comps inits overs) ((xs.map ruK).flatten++r))
 | [],f,acc,acc',h,hf,ha,hk=>by simpa using hk f acc' sM (by simpa using ha)
 | x::xs,0,acc,acc',h,hf,ha,hk=>oM
 | x::xs,f+1,acc,acc',h,hf,ha,hk=>by
  have hn:=(ZbX (h x sM)).1;have hx:=Zfy (h x sM) d ((xs.map ruK).flatten++r);have hw:∀w∈ZkU,isW (nmT x.head::(brK [40] [41] (x.args.map exK)++((if 0<x.body.length then sgT [58,45]::Z3 [44] (x.body.map liK) else [])++[sgT [46]])++((xs.map ruK).flatten++r))) [w]=false:=fun w hw=>Zdo hn (ZoW w hw) _
  have aj:x.head≠[125]:=fun e=>by rw [e] at hn;revert hn;decide +kernel
  rw [Tz,Sb,Tj];rw [ruK,Tp] at hx |-;rw [ZG,Tb (ZkV aj _),Tb (by rw [hw _ dM];simp),Tb (by rw [hw _ dM];simp),Tb (by rw [hw _ dM];simp),Tb (by rw [hw _ dM];simp),Tb (by rw [hw _ dM];simp),Tg (nm_named hn _)];split
  ·exact .lim ZtF
  refine hx.bind fun x' e=>?_
  refine ZoX tys rels comps inits overs xs f (acc++[x]) (acc'++[x']) (fun y hy=>h y (Tt _ hy)) (by simpa using hf) (by simp [ha,e]) fun f' acc2 h1 h2=>?_
  exact hk f' acc2 (by simp only [Te];omega) (by rw [h2];simp)
def ZqR {tys:List Ty} {rels:List Re} {rules:List Ru} (h:ZbN (.mk tys rels rules [] [] [])=true):Rd Zwe (.mk tys rels rules [] [] []) [] (Wp (unK (.mk tys rels rules [] [] []))):=by
 obtain ⟨m1,m2,m3,_,_,_⟩:=ZiU h;have i6:IHd ((rules.map ruK).flatten++[]):=ZoU (.inl rfl) m3;have i2:IHd ((rels.map reK).flatten++((rules.map ruK).flatten++[])):=VC (fun x=>⟨_,_,dM,rfl⟩) i6 rels;have l1:=UW (K:=tyK) (fun x=>by rw [tyK];simp) tys;have l2:=UW (K:=reK) (fun x=>by rw [reK];simp) rels;have l6:=UW (K:=ruK) (fun x=>by rw [ruK];simp) rules;have e:unK (.mk tys rels rules [] [] [])=(tys.map tyK).flatten++((rels.map reK).flatten++((rules.map ruK).flatten++[])):=by simp [unK,ZDp]
 rw [e,Wp,Zkp];simp only [Ta];refine ZoV _ _ _ _ _ i2 tys _ [] [] m1 oM rfl fun f1 a1 hf1 e1=>?_
 refine ZtQ _ _ _ _ _ i6 rels _ [] [] m2 oM rfl fun f2 a2 hf2 e2=>?_
 refine ZoX _ _ _ _ _ rules _ [] [] m3 oM rfl fun f6 a6 hf6 e6=>?_
 rw [Zyq (.inl ⟨rfl,rfl⟩) oM];refine Rd.ok ?_;simp only [Tu] at e1 e2 e6;simp only [Zwe,Zz5,e1,e2,e6]
end Go.PM.Lex
end

section
namespace Go.PM.Lex
open Go.Proofs Go.RowKit
variable {w0:World} {nG:Nat}
def ZFf:Tbl:=[(64,Zgy)]
def ZFg {n:Nat}:PC w0 nG 121 (ZiL (Y3 (fun _=>Zn)) YH fiT wFi n):=by
 refine pwt (tbl:=ZFf) ⟨ZbP,trivial⟩ Tryz.func121 fun args σ K h=>?_
 unfold ZiL at h
 split at h
 ·obtain ⟨l,pl,⟨nm,ty⟩,rfl,rfl,⟨rfl,rfl⟩,⟨bv,hz,hn⟩,aa,h⟩:=h;refine pwv [] 2 true ?_;refine ⟨l,fiT ⟨nm,ty⟩,rfl,⟨.inr rfl,rfl,rfl⟩,⟨[nm,[58,32],ty],rfl,sM,sM,by simp [fiT]⟩,aa,wN ?_⟩;exact h
 exact h.elim
def ZJu (n:Nat):PC w0 nG 120 (Zts 121 (fun _=>Zn) YH fiT wFi n):=ZBm ⟨Ztt,ZFg,trivial⟩
def ZwM (n:Nat):Zq:=ZlQ (.tuple []) fun rest txt=>∃(fr fin:Bs) (xs:List Fi),rest=[.d (.str fr),.d (.sl (xs.map Zn)),.d (.str fin)]/\(xs.all YH=true/\szS wFi xs<=n/\n<=1073741824)/\txt=VL fr xs fin
def Zyr {n:Nat}:PC w0 nG 65 (ZwM n):=by
 refine pwt (tbl:=[(64,Zgy),(120,Zts 121 (fun _=>Zn) YH fiT wFi n)]) ⟨ZbP,ZJu n,trivial⟩ Tryz.func65 fun args σ K h=>?_
 unfold ZwM ZlQ at h
 split at h
 ·rename_i rest t p e rows
  obtain ⟨l,txt,rfl,⟨hp,rfl,rfl⟩,⟨fr,fin,xs,rfl,⟨bv,hz,hn⟩,rfl⟩,aa,h⟩:=h;have key:l++VL fr xs fin=l++fr++Zf cmm (xs.map fiT)++fin:=by simp only [VL,Tj]
  rw [key] at h;have aa:l.length+(fr.length+((Zf cmm (xs.map fiT)).length+fin.length))<70368744177664:=by have:=aa;simp only [VL,Ta] at this;exact this
  refine pwu [] 1 true ?_;rcases hp with rfl | rfl
  all_goals
   conv=>whnf
   refine wk _ fr ⟨[fr],rfl,sM,sM,sM⟩ ?_;(conv=>whnf);refine ⟨l++fr,fun _=>0,xs,rfl,rfl,⟨rfl,rfl,rfl⟩,⟨bv,hz,hn⟩,by rw [Ta];show _+(Zf cmm (xs.map fiT)).length<_;omega,wN ?_⟩;refine wk (l++fr++Zf cmm (xs.map fiT)) fin ⟨[fin],rfl,sM,sM,sM⟩ (wN ?_);exact h
 exact h.elim
def ZFj {n:Nat}:PC w0 nG 67 (ZiL (Y3 (fun _=>Zy)) Xp caT wCa n):=by
 refine pwt (tbl:=[(65,ZwM n)]) ⟨Zyr,trivial⟩ Tryz.func67 fun args σ K h=>?_
 unfold ZiL at h
 split at h
 ·obtain ⟨l,pl,⟨nm,fs⟩,rfl,rfl,⟨rfl,rfl⟩,⟨bv,hz,hn⟩,aa,h⟩:=h;have hm:fs.all YH=true:=by simp only [Xp,Tm] at bv;exact bv.2
  have hz:nm.length+szS wFi fs<=n:=by unfold wCa at hz;simp only at hz;omega
  refine pwv [] 2 true ?_;refine ⟨by simp only [Te,Th];omega,wN ?_⟩;refine ⟨l,caT ⟨nm,fs⟩,rfl,⟨.inr rfl,rfl,rfl⟩,⟨nm++[32,123],[125],fs,rfl,⟨hm,oM,hn⟩,rfl⟩,aa,wN ?_⟩;exact h
 exact h.elim
def ZJv (n:Nat):PC w0 nG 66 (Zts 67 (fun _=>Zy) Xp caT wCa n):=ZBo ⟨Ztt,ZFj,trivial⟩
end Go.PM.Lex
end

section
namespace Go.PM.Lex
open Go.Proofs
variable {w0:World} {nG:Nat}
def ZGT (x:Un):Bool:=ZbN x && ZiO x
def ZFk (x:Co):Bool:=Yy x && ZtA x
def ZBR {tys:List Ty} {rels:List Re} {rules:List Ru} {comps:List Co} {inits:List Ini} {overs:List Ov} (h:ZGT (.mk tys rels rules comps inits overs)=true) :
  (∀x∈tys,Yl x=true)/\(∀x∈rels,Xx x=true)/\(∀x∈rules,ZFc x=true)/\∀x∈comps,ZFk x=true:=by
 simp only [ZGT,Tm] at h;obtain ⟨h,hr⟩:=h;obtain ⟨m1,m2,m3,m4,m5,m6⟩:=ZiU h;simp only [ZiO,ZbS,Tm] at hr;have r1:=To.1 hr.1;have r2:=To.1 hr.2;exact ⟨m1,m2,fun x hx=>by rw [ZFc,m3 x hx,r1 x hx];rfl,fun x hx=>by rw [ZFk,m4 x hx,r2 x hx];rfl⟩
def Zvf (r:Ru):Bs:=ruT r++[10]
def ZFl (body:List PV->Bs->Prop):Zq:=fun args σ K=>match args,σ with
 | .ptr 0 0::rest,⟨[.cells t [p,.sl 0 e rows]],[0],1⟩=>∃l txt,rows=Zi l/\((p=.d .nilp\/p=.ptr 0 0)/\t=88/\e=5)/\body rest txt/\l.length+txt.length<70368744177664 /\
   ∀p',(p'=.d .nilp\/p'=.ptr 0 0)->K (.ret (.tuple [])) ⟨[.cells t [p',.sl 0 e (Zi (l++txt))]],[0],1⟩
 | _,_=>False
def ZGU (n:Nat):Zq:=ZFl fun rest txt=>∃pl x,rest=[Y3 WI pl x]/\(ZGT x=true/\wUn x<=n/\n<=1073741824/\noC x)/\txt=unT x
def ZfB {α:Type} (T:α->Bs) {xs:List α} {i:Nat} (h:i<xs.length):((xs.take (i+1)).map T).flatten=((xs.take i).map T).flatten++T xs[i]:=by
 rw [List.take_succ_eq_append_getElem h,Su,List.flatten_append];simp
def Zm5 {α:Type} (T:α->Bs) (xs:List α) (i:Nat):((xs.take i).map T).flatten.length<=(xs.map T).flatten.length:=by
 have e:(xs.map T).flatten=((xs.take i).map T).flatten++((xs.drop i).map T).flatten:=by rw [<- List.flatten_append,<- Su,SF]
 rw [e,Ta];omega
def ZFm (n:Nat):Tbl:=[(64,Zgy),(65,ZwM n),(66,Zts 67 (fun _=>Zy) Xp caT wCa n),(69,ZGS n)]
def ZHW {n:Nat} (ht:TO w0 nG (ZFm n)):PC w0 nG 24 (ZGU n):=by
 refine Zsg ZR mixed (tbl:=ZFm n) ht Tryz.func24 rfl kR kR ?_;intro args σ K h
 unfold ZGU ZFl at h
 split at h
 ·rename_i rest t p e rows
  obtain ⟨l,txt,rfl,⟨hp,rfl,rfl⟩,⟨pl,⟨tys,rels,rules,comps,inits,overs⟩,rfl,⟨bv,hz,hn,rfl,rfl,rfl⟩,rfl⟩,aa,h⟩:=h;obtain ⟨m1,m2,m3,m4⟩:=ZBR bv;have hz:szS wTy tys+szS wRe rels+szS wRu rules+1<=n:=by rw [wUn] at hz;omega
  have hu:unT (.mk tys rels rules [] [] [])=(tys.map tyT).flatten++((rels.map reT).flatten++(rules.map Zvf).flatten):=by rw [unT,ZAa];rfl
  rw [hu] at aa;simp only [Ta] at aa;have h:∀p',(p'=.d .nilp\/p'=.ptr 0 0)->K (.ret (.tuple [])) ⟨[.cells 88 [p',.sl 0 5 (Zi (l++(tys.map tyT).flatten++(rels.map reT).flatten++(rules.map Zvf).flatten))]],[0],1⟩:=by
   rw [hu] at h;simpa only [Tj] using h
  have s1:=Zo wTy tys;have s2:=Zo wRe rels;have s3:=Zo wRu rules;refine ⟨Zr [(2,⟨[21],[2,3,19,20],fun vs σ=>∃(i:Nat) (P:PV),vs=[.d (.int .i64 i)]/\σ=⟨[.cells 88 [P,.sl 0 5 (Zi (l++((tys.take i).map tyT).flatten))],.cells 82 [.ptr 0 0],.cells 65 ((WI pl (.mk tys rels rules [] [] [])).map .d)],[0],1⟩/\(P=.d .nilp\/P=.ptr 0 0)/\i<=tys.length,mu1 tys.length⟩),(15,⟨[60],[2,3,58,59],fun vs σ=>∃(i:Nat) (P:PV),vs=[.d (.int .i64 i)]/\σ=⟨[.cells 88 [P,.sl 0 5 (Zi (l++(tys.map tyT).flatten++((rels.take i).map reT).flatten))],.cells 82 [.ptr 0 0],.cells 65 ((WI pl (.mk tys rels rules [] [] [])).map .d)],[0],1⟩/\(P=.d .nilp\/P=.ptr 0 0)/\i<=rels.length,mu1 rels.length⟩),(47,⟨[166],[2,3,164,165],fun vs σ=>∃(i:Nat) (P:PV),vs=[.d (.int .i64 i)]/\σ=⟨[.cells 88 [P,.sl 0 5 (Zi (l++(tys.map tyT).flatten++(rels.map reT).flatten++((rules.take i).map Zvf).flatten))],.cells 82 [.ptr 0 0],.cells 65 ((WI pl (.mk tys rels rules [] [] [])).map .d)],[0],1⟩/\(P=.d .nilp\/P=.ptr 0 0)/\i<=rules.length,mu1 rules.length⟩)],Wk [(19,4),(27,1),(37,1),(42,1)],YG [],YG [],YG [],Zy5 [(14,([2,3],fun vs σ=>∃P:PV,vs=[.ptr 1 0,.ptr 2 0]/\σ=⟨[.cells 88 [P,.sl 0 5 (Zi (l++(tys.map tyT).flatten))],.cells 82 [.ptr 0 0],.cells 65 ((WI pl (.mk tys rels rules [] [] [])).map .d)],[0],1⟩/\(P=.d .nilp\/P=.ptr 0 0))),(26,([2,3],fun vs σ=>∃P:PV,vs=[.ptr 1 0,.ptr 2 0]/\σ=⟨[.cells 88 [P,.sl 0 5 (Zi (l++(tys.map tyT).flatten++(rels.map reT).flatten))],.cells 82 [.ptr 0 0],.cells 65 ((WI pl (.mk tys rels rules [] [] [])).map .d)],[0],1⟩/\(P=.d .nilp\/P=.ptr 0 0)))],1,true,sM,Td rfl,?_⟩;rcases hp with rfl | rfl
  all_goals
   conv=>whnf
   refine ⟨wN ?_,?_⟩
   ·refine ⟨⟨0,_,rfl,zN,iM,oM⟩,?_⟩;intro vs σ hI
    obtain ⟨i,P,rfl,rfl,hP,hi⟩:=hI;(conv=>whnf);refine ZJU (fun af=>?_) (fun af=>?_)
    ·have du:(tys.map (Zv pl)).length=tys.length:=Tf ..;have af:i<tys.length:=lzI du af;have hg:=Zu wTy tys i af;have cp:=ZfB tyT af;have am:=Zm5 tyT tys (i+1);have dv:=TM af;obtain ⟨L,hL⟩:∃L,l++((tys.take i).map tyT).flatten=L:=⟨_,rfl⟩
     have y4:L.length=(l).length+((tys.take i).map tyT).flatten.length:=by rw [<- hL,Ta]
     (try simp only [Ta] at y4)
     rw [cp,Ta] at am;rw [hL];obtain ⟨x,hX⟩:∃x,tys[i]=x:=⟨_,rfl⟩
     rw [hX] at hg dv cp am;obtain ⟨kd,nm,base,fs,cs,at'⟩:=x;have fj:l++((tys.take (i+1)).map tyT).flatten=L++tyT ⟨kd,nm,base,fs,cs,at'⟩:=by rw [cp,<- Tj,hL]
     have bj:(tys.map (Zv pl))[((i:Nat):Int).toNat]?=some (Zv pl ⟨kd,nm,base,fs,cs,at'⟩):=by simp [af,hX]
     obtain ⟨q1,q2,q3,q4⟩:=ZiT (m1 _ dv);simp only at q1 q2 q3 q4;have y5:wTy ⟨kd,nm,base,fs,cs,at'⟩=1+nm.length+base.length+szS wFi fs+szS wCa cs:=rfl;have hw:nm.length+base.length+szS wFi fs+szS wCa cs<=n:=oM;(conv=>whnf);refine ⟨_,oM,bj,?_⟩
     by_cases k1:kd=1
     ·have hT:tyT ⟨kd,nm,base,fs,cs,at'⟩=[116,121,112,101,32]++(nm++(([32,60,58,32]++base)++[10])):=by rw [tyT,Tg k1]
      rw [hT] at am;simp only [Ta,Te,Th] at am;rcases hP with rfl | rfl
      all_goals
       conv=>whnf
       refine ⟨L,[116,121,112,101,32]++nm,rfl,⟨iM,rfl,rfl⟩,⟨[[116,121,112,101,32],nm],rfl,sM,sM,sM⟩,(by (try simp only [Ta,Te,Th]);omega),?_⟩;(conv=>whnf);refine ZJU (fun _=>?_) (fun g=>absurd (show (kd:Int)=1 by omega) g);(conv=>whnf);refine ⟨L++([116,121,112,101,32]++nm),[32,60,58,32]++base,rfl,⟨.inr rfl,rfl,rfl⟩,⟨[[32,60,58,32],base],rfl,sM,sM,sM⟩,(by (try simp only [Ta,Te,Th]);omega),?_⟩;(conv=>whnf);refine ⟨L++([116,121,112,101,32]++nm)++([32,60,58,32]++base),[10],rfl,⟨.inr rfl,rfl,rfl⟩,⟨[[10]],rfl,sM,sM,sM⟩,(by (try simp only [Ta,Te,Th]);omega),?_⟩;(conv=>whnf);refine Zl ?_;refine ⟨⟨i+1,_,rfl,(by rw [fj,hT];simp only [Tj];rfl),.inr rfl,oM⟩,?_⟩;exact lzM oM
     by_cases k2:kd=2
     ·have hT:tyT ⟨kd,nm,base,fs,cs,at'⟩=[116,121,112,101,32]++(nm++(VL [32,61,32,91] fs [93]++[10])):=by rw [tyT,Tb k1,Tg k2]
      rw [hT] at am;simp only [Ta,Te,Th] at am;rcases hP with rfl | rfl
      all_goals
       conv=>whnf
       refine ⟨L,[116,121,112,101,32]++nm,rfl,⟨iM,rfl,rfl⟩,⟨[[116,121,112,101,32],nm],rfl,sM,sM,sM⟩,(by (try simp only [Ta,Te,Th]);omega),?_⟩;(conv=>whnf);refine ZJU (fun g=>absurd (show kd=1 by have g:(kd:Int)=1:=g;omega) k1) (fun _=>wN ?_);refine ZJU (fun _=>?_) (fun g=>absurd (show (kd:Int)=2 by omega) g);(conv=>whnf);refine ⟨L++([116,121,112,101,32]++nm),VL [32,61,32,91] fs [93],rfl,⟨.inr rfl,rfl,rfl⟩,⟨[32,61,32,91],[93],fs,rfl,⟨To.2 q2,oM,oM⟩,rfl⟩,(by (try simp only [Ta,Te,Th]);omega),?_⟩;(conv=>whnf);refine ⟨L++([116,121,112,101,32]++nm)++VL [32,61,32,91] fs [93],[10],rfl,⟨.inr rfl,rfl,rfl⟩,⟨[[10]],rfl,sM,sM,sM⟩,(by (try simp only [Ta,Te,Th]);omega),?_⟩;(conv=>whnf);refine Zl ?_;refine ⟨⟨i+1,_,rfl,(by rw [fj,hT];simp only [Tj];rfl),.inr rfl,oM⟩,?_⟩;exact lzM oM
     have hT:tyT ⟨kd,nm,base,fs,cs,at'⟩=[116,121,112,101,32]++(nm++([32,61,32]++(Zf [32,124,32] (cs.map caT)++[10]))):=by rw [tyT,Tb k1,Tb k2];simp only [Tj]
     rw [hT] at am;simp only [Ta,Te,Th] at am;rcases hP with rfl | rfl
     all_goals
      conv=>whnf
      refine ⟨L,[116,121,112,101,32]++nm,rfl,⟨iM,rfl,rfl⟩,⟨[[116,121,112,101,32],nm],rfl,sM,sM,sM⟩,(by (try simp only [Ta,Te,Th]);omega),?_⟩;(conv=>whnf);refine ZJU (fun g=>absurd (show kd=1 by have g:(kd:Int)=1:=g;omega) k1) (fun _=>wN ?_);refine ZJU (fun g=>absurd (show kd=2 by have g:(kd:Int)=2:=g;omega) k2) (fun _=>wN ?_);refine ⟨L++([116,121,112,101,32]++nm),[32,61,32],rfl,⟨.inr rfl,rfl,rfl⟩,⟨[[32,61,32]],rfl,sM,sM,sM⟩,(by (try simp only [Ta,Te,Th]);omega),?_⟩;(conv=>whnf);refine ⟨L++([116,121,112,101,32]++nm)++[32,61,32],fun _=>0,cs,rfl,rfl,⟨rfl,rfl,rfl⟩,⟨To.2 q3,oM,oM⟩,(by (try simp only [Ta,Te,Th]);show _+(Zf [32,124,32] (cs.map caT)).length<_;omega),?_⟩;(conv=>whnf);refine ⟨L++([116,121,112,101,32]++nm)++[32,61,32]++Zf [32,124,32] (cs.map caT),[10],rfl,⟨.inr rfl,rfl,rfl⟩,⟨[[10]],rfl,sM,sM,sM⟩,(by (try simp only [Ta,Te,Th]);omega),?_⟩;(conv=>whnf);refine Zl ?_;refine ⟨⟨i+1,_,rfl,(by rw [fj,hT];simp only [Tj];rfl),.inr rfl,oM⟩,?_⟩;exact lzM oM
    have af:i=tys.length:=by
     have du:(tys.map (Zv pl)).length=tys.length:=Tf ..;have af:¬(i:Int)<(tys.map (Zv pl)).length:=af;rw [du] at af;omega
    subst af;rw [Sp];rcases hP with rfl | rfl
    all_goals
     conv=>whnf
     exact ⟨_,rfl,rfl,iM⟩
   intro vs σ hI
   obtain ⟨P,rfl,rfl,hP⟩:=hI;(conv=>whnf);refine ⟨?_,?_⟩
   ·rcases hP with rfl | rfl
    all_goals
     conv=>whnf
     refine ⟨⟨0,_,rfl,zN,iM,oM⟩,?_⟩;intro vs σ hI
     obtain ⟨i,P,rfl,rfl,hP,hi⟩:=hI;(conv=>whnf);refine ZJU (fun af=>?_) (fun af=>?_)
     ·have du:(rels.map (ZO pl)).length=rels.length:=Tf ..;have af:i<rels.length:=lzI du af;have hg:=Zu wRe rels i af;have cp:=ZfB reT af;have am:=Zm5 reT rels (i+1);have dv:=TM af;obtain ⟨L,hL⟩:∃L,l++(tys.map tyT).flatten++((rels.take i).map reT).flatten=L:=⟨_,rfl⟩
      have y4:L.length=(l++(tys.map tyT).flatten).length+((rels.take i).map reT).flatten.length:=by rw [<- hL,Ta]
      (try simp only [Ta] at y4)
      rw [cp,Ta] at am;rw [hL];obtain ⟨x,hX⟩:∃x,rels[i]=x:=⟨_,rfl⟩
      rw [hX] at hg dv cp am;obtain ⟨nm,fs,b1,b2,b3,at'⟩:=x;have fj:l++(tys.map tyT).flatten++((rels.take (i+1)).map reT).flatten=L++reT ⟨nm,fs,b1,b2,b3,at'⟩:=by rw [cp,<- Tj,hL]
      have bj:(rels.map (ZO pl))[((i:Nat):Int).toNat]?=some (ZO pl ⟨nm,fs,b1,b2,b3,at'⟩):=by simp [af,hX]
      have q:=m2 _ dv;simp only [Xx,Tm] at q;obtain ⟨q1,q2⟩:=q;have q2:=To.1 q2;have y5:wRe ⟨nm,fs,b1,b2,b3,at'⟩=1+nm.length+szS wFi fs:=rfl;have hw:nm.length+szS wFi fs<=n:=oM;(conv=>whnf);refine ⟨_,oM,bj,?_⟩;have sn:reT ⟨nm,fs,b1,b2,b3,at'⟩=VL ([100,101,99,108,32]++nm++[40]) fs [41]++((if b1 then [32,105,110,112,117,116] else [])++((if b2 then [32,111,117,116,112,117,116] else [])++((if b3 then [32,105,110,108,105,110,101] else [])++[10]))):=by rw [reT];simp only [Tj]
      rcases hP with rfl | rfl
      all_goals
       conv=>whnf
       refine ⟨by simp only [Te,Th];omega,wN ?_⟩;refine ⟨by simp only [Ta,Te,Th];omega,?_⟩
       cases b1 <;> cases b2 <;> cases b3
       ·have hT:=sn;simp only [if_true,Tx,if_false,Tu] at hT;rw [hT] at am;simp only [Ta,Te,Th] at am;(conv=>whnf);refine ⟨L,VL ([100,101,99,108,32]++nm++[40]) fs [41],rfl,⟨iM,rfl,rfl⟩,⟨([100,101,99,108,32]++nm++[40]),[41],fs,rfl,⟨To.2 q2,oM,oM⟩,rfl⟩,(by (try simp only [Ta,Te,Th]);omega),?_⟩;(conv=>whnf);refine ⟨dM,dM,wN ?_⟩;refine V5 ?_;refine ⟨dM,dM,wN ?_⟩;refine V5 ?_;refine ⟨dM,dM,wN ?_⟩;refine V5 ?_;refine ⟨L++VL ([100,101,99,108,32]++nm++[40]) fs [41],[10],rfl,⟨.inr rfl,rfl,rfl⟩,⟨[[10]],rfl,sM,sM,sM⟩,(by (try simp only [Ta,Te,Th]);omega),?_⟩;exact mq30
       ·have hT:=sn;simp only [if_true,Tx,if_false,Tu] at hT;rw [hT] at am;simp only [Ta,Te,Th] at am;(conv=>whnf);refine ⟨L,VL ([100,101,99,108,32]++nm++[40]) fs [41],rfl,⟨iM,rfl,rfl⟩,⟨([100,101,99,108,32]++nm++[40]),[41],fs,rfl,⟨To.2 q2,oM,oM⟩,rfl⟩,(by (try simp only [Ta,Te,Th]);omega),?_⟩;(conv=>whnf);refine ⟨dM,dM,wN ?_⟩;refine V5 ?_;refine ⟨dM,dM,wN ?_⟩;refine V5 ?_;refine ⟨dM,dM,wN ?_⟩;refine ⟨dM,dM,wN ?_⟩;refine ⟨L++VL ([100,101,99,108,32]++nm++[40]) fs [41],[32,105,110,108,105,110,101],rfl,⟨.inr rfl,rfl,rfl⟩,⟨[[32,105,110,108,105,110,101]],rfl,sM,sM,sM⟩,(by (try simp only [Ta,Te,Th]);omega),?_⟩;(conv=>whnf)
        (repeat (refine ⟨rfl,?_⟩;conv=>whnf))
        conv=>whnf
        refine V5 ?_;refine ⟨L++VL ([100,101,99,108,32]++nm++[40]) fs [41]++[32,105,110,108,105,110,101],[10],rfl,⟨.inr rfl,rfl,rfl⟩,⟨[[10]],rfl,sM,sM,sM⟩,(by (try simp only [Ta,Te,Th]);omega),?_⟩;exact mq30
       ·have hT:=sn;simp only [if_true,Tx,if_false,Tu] at hT;rw [hT] at am;simp only [Ta,Te,Th] at am;(conv=>whnf);refine ⟨L,VL ([100,101,99,108,32]++nm++[40]) fs [41],rfl,⟨iM,rfl,rfl⟩,⟨([100,101,99,108,32]++nm++[40]),[41],fs,rfl,⟨To.2 q2,oM,oM⟩,rfl⟩,(by (try simp only [Ta,Te,Th]);omega),?_⟩;(conv=>whnf);refine ⟨dM,dM,wN ?_⟩;refine V5 ?_;refine ⟨dM,dM,wN ?_⟩;refine ⟨dM,dM,wN ?_⟩;refine ⟨L++VL ([100,101,99,108,32]++nm++[40]) fs [41],[32,111,117,116,112,117,116],rfl,⟨.inr rfl,rfl,rfl⟩,⟨[[32,111,117,116,112,117,116]],rfl,sM,sM,sM⟩,(by (try simp only [Ta,Te,Th]);omega),?_⟩;(conv=>whnf)
        (repeat (refine ⟨rfl,?_⟩;conv=>whnf))
        conv=>whnf
        refine V5 ?_;refine ⟨dM,dM,wN ?_⟩;refine V5 ?_;refine ⟨L++VL ([100,101,99,108,32]++nm++[40]) fs [41]++[32,111,117,116,112,117,116],[10],rfl,⟨.inr rfl,rfl,rfl⟩,⟨[[10]],rfl,sM,sM,sM⟩,(by (try simp only [Ta,Te,Th]);omega),?_⟩;exact mq30
       ·have hT:=sn;simp only [if_true,Tx,if_false,Tu] at hT;rw [hT] at am;simp only [Ta,Te,Th] at am;(conv=>whnf);refine ⟨L,VL ([100,101,99,108,32]++nm++[40]) fs [41],rfl,⟨iM,rfl,rfl⟩,⟨([100,101,99,108,32]++nm++[40]),[41],fs,rfl,⟨To.2 q2,oM,oM⟩,rfl⟩,(by (try simp only [Ta,Te,Th]);omega),?_⟩;(conv=>whnf);refine ⟨dM,dM,wN ?_⟩;refine V5 ?_;refine ⟨dM,dM,wN ?_⟩;refine ⟨dM,dM,wN ?_⟩;refine ⟨L++VL ([100,101,99,108,32]++nm++[40]) fs [41],[32,111,117,116,112,117,116],rfl,⟨.inr rfl,rfl,rfl⟩,⟨[[32,111,117,116,112,117,116]],rfl,sM,sM,sM⟩,(by (try simp only [Ta,Te,Th]);omega),?_⟩;(conv=>whnf)
        (repeat (refine ⟨rfl,?_⟩;conv=>whnf))
        conv=>whnf
        refine V5 ?_;refine ⟨dM,dM,wN ?_⟩;refine ⟨dM,dM,wN ?_⟩;refine ⟨L++VL ([100,101,99,108,32]++nm++[40]) fs [41]++[32,111,117,116,112,117,116],[32,105,110,108,105,110,101],rfl,⟨.inr rfl,rfl,rfl⟩,⟨[[32,105,110,108,105,110,101]],rfl,sM,sM,sM⟩,(by (try simp only [Ta,Te,Th]);omega),?_⟩;(conv=>whnf)
        (repeat (refine ⟨rfl,?_⟩;conv=>whnf))
        conv=>whnf
        refine V5 ?_;refine ⟨L++VL ([100,101,99,108,32]++nm++[40]) fs [41]++[32,111,117,116,112,117,116]++[32,105,110,108,105,110,101],[10],rfl,⟨.inr rfl,rfl,rfl⟩,⟨[[10]],rfl,sM,sM,sM⟩,(by (try simp only [Ta,Te,Th]);omega),?_⟩;exact mq30
       ·have hT:=sn;simp only [if_true,Tx,if_false,Tu] at hT;rw [hT] at am;simp only [Ta,Te,Th] at am;(conv=>whnf);refine ⟨L,VL ([100,101,99,108,32]++nm++[40]) fs [41],rfl,⟨iM,rfl,rfl⟩,⟨([100,101,99,108,32]++nm++[40]),[41],fs,rfl,⟨To.2 q2,oM,oM⟩,rfl⟩,(by (try simp only [Ta,Te,Th]);omega),?_⟩;(conv=>whnf);refine ⟨dM,dM,wN ?_⟩;refine ⟨dM,dM,wN ?_⟩;refine ⟨L++VL ([100,101,99,108,32]++nm++[40]) fs [41],[32,105,110,112,117,116],rfl,⟨.inr rfl,rfl,rfl⟩,⟨[[32,105,110,112,117,116]],rfl,sM,sM,sM⟩,(by (try simp only [Ta,Te,Th]);omega),?_⟩;(conv=>whnf)
        (repeat (refine ⟨rfl,?_⟩;conv=>whnf))
        conv=>whnf
        refine V5 ?_;refine ⟨dM,dM,wN ?_⟩;refine V5 ?_;refine ⟨dM,dM,wN ?_⟩;refine V5 ?_;refine ⟨L++VL ([100,101,99,108,32]++nm++[40]) fs [41]++[32,105,110,112,117,116],[10],rfl,⟨.inr rfl,rfl,rfl⟩,⟨[[10]],rfl,sM,sM,sM⟩,(by (try simp only [Ta,Te,Th]);omega),?_⟩;exact mq30
       ·have hT:=sn;simp only [if_true,Tx,if_false,Tu] at hT;rw [hT] at am;simp only [Ta,Te,Th] at am;(conv=>whnf);refine ⟨L,VL ([100,101,99,108,32]++nm++[40]) fs [41],rfl,⟨iM,rfl,rfl⟩,⟨([100,101,99,108,32]++nm++[40]),[41],fs,rfl,⟨To.2 q2,oM,oM⟩,rfl⟩,(by (try simp only [Ta,Te,Th]);omega),?_⟩;(conv=>whnf);refine ⟨dM,dM,wN ?_⟩;refine ⟨dM,dM,wN ?_⟩;refine ⟨L++VL ([100,101,99,108,32]++nm++[40]) fs [41],[32,105,110,112,117,116],rfl,⟨.inr rfl,rfl,rfl⟩,⟨[[32,105,110,112,117,116]],rfl,sM,sM,sM⟩,(by (try simp only [Ta,Te,Th]);omega),?_⟩;(conv=>whnf)
        (repeat (refine ⟨rfl,?_⟩;conv=>whnf))
        conv=>whnf
        refine V5 ?_;refine ⟨dM,dM,wN ?_⟩;refine V5 ?_;refine ⟨dM,dM,wN ?_⟩;refine ⟨dM,dM,wN ?_⟩;refine ⟨L++VL ([100,101,99,108,32]++nm++[40]) fs [41]++[32,105,110,112,117,116],[32,105,110,108,105,110,101],rfl,⟨.inr rfl,rfl,rfl⟩,⟨[[32,105,110,108,105,110,101]],rfl,sM,sM,sM⟩,(by (try simp only [Ta,Te,Th]);omega),?_⟩;(conv=>whnf)
        (repeat (refine ⟨rfl,?_⟩;conv=>whnf))
        conv=>whnf
        refine V5 ?_;refine ⟨L++VL ([100,101,99,108,32]++nm++[40]) fs [41]++[32,105,110,112,117,116]++[32,105,110,108,105,110,101],[10],rfl,⟨.inr rfl,rfl,rfl⟩,⟨[[10]],rfl,sM,sM,sM⟩,(by (try simp only [Ta,Te,Th]);omega),?_⟩;exact mq30
       ·have hT:=sn;simp only [if_true,Tx,if_false,Tu] at hT;rw [hT] at am;simp only [Ta,Te,Th] at am;(conv=>whnf);refine ⟨L,VL ([100,101,99,108,32]++nm++[40]) fs [41],rfl,⟨iM,rfl,rfl⟩,⟨([100,101,99,108,32]++nm++[40]),[41],fs,rfl,⟨To.2 q2,oM,oM⟩,rfl⟩,(by (try simp only [Ta,Te,Th]);omega),?_⟩;(conv=>whnf);refine ⟨dM,dM,wN ?_⟩;refine ⟨dM,dM,wN ?_⟩;refine ⟨L++VL ([100,101,99,108,32]++nm++[40]) fs [41],[32,105,110,112,117,116],rfl,⟨.inr rfl,rfl,rfl⟩,⟨[[32,105,110,112,117,116]],rfl,sM,sM,sM⟩,(by (try simp only [Ta,Te,Th]);omega),?_⟩;(conv=>whnf)
        (repeat (refine ⟨rfl,?_⟩;conv=>whnf))
        conv=>whnf
        refine V5 ?_;refine ⟨dM,dM,wN ?_⟩;refine ⟨dM,dM,wN ?_⟩;refine ⟨L++VL ([100,101,99,108,32]++nm++[40]) fs [41]++[32,105,110,112,117,116],[32,111,117,116,112,117,116],rfl,⟨.inr rfl,rfl,rfl⟩,⟨[[32,111,117,116,112,117,116]],rfl,sM,sM,sM⟩,(by (try simp only [Ta,Te,Th]);omega),?_⟩;(conv=>whnf)
        (repeat (refine ⟨rfl,?_⟩;conv=>whnf))
        conv=>whnf
        refine V5 ?_;refine ⟨dM,dM,wN ?_⟩;refine V5 ?_;refine ⟨L++VL ([100,101,99,108,32]++nm++[40]) fs [41]++[32,105,110,112,117,116]++[32,111,117,116,112,117,116],[10],rfl,⟨.inr rfl,rfl,rfl⟩,⟨[[10]],rfl,sM,sM,sM⟩,(by (try simp only [Ta,Te,Th]);omega),?_⟩;exact mq30
       have hT:=sn;simp only [if_true,Tx,if_false,Tu] at hT;rw [hT] at am;simp only [Ta,Te,Th] at am;(conv=>whnf);refine ⟨L,VL ([100,101,99,108,32]++nm++[40]) fs [41],rfl,⟨iM,rfl,rfl⟩,⟨([100,101,99,108,32]++nm++[40]),[41],fs,rfl,⟨To.2 q2,oM,oM⟩,rfl⟩,(by (try simp only [Ta,Te,Th]);omega),?_⟩;(conv=>whnf);refine ⟨dM,dM,wN ?_⟩;refine ⟨dM,dM,wN ?_⟩;refine ⟨L++VL ([100,101,99,108,32]++nm++[40]) fs [41],[32,105,110,112,117,116],rfl,⟨.inr rfl,rfl,rfl⟩,⟨[[32,105,110,112,117,116]],rfl,sM,sM,sM⟩,(by (try simp only [Ta,Te,Th]);omega),?_⟩;(conv=>whnf)
       (repeat (refine ⟨rfl,?_⟩;conv=>whnf))
       conv=>whnf
       refine V5 ?_;refine ⟨dM,dM,wN ?_⟩;refine ⟨dM,dM,wN ?_⟩;refine ⟨L++VL ([100,101,99,108,32]++nm++[40]) fs [41]++[32,105,110,112,117,116],[32,111,117,116,112,117,116],rfl,⟨.inr rfl,rfl,rfl⟩,⟨[[32,111,117,116,112,117,116]],rfl,sM,sM,sM⟩,(by (try simp only [Ta,Te,Th]);omega),?_⟩;(conv=>whnf)
       (repeat (refine ⟨rfl,?_⟩;conv=>whnf))
       conv=>whnf
       refine V5 ?_;refine ⟨dM,dM,wN ?_⟩;refine ⟨dM,dM,wN ?_⟩;refine ⟨L++VL ([100,101,99,108,32]++nm++[40]) fs [41]++[32,105,110,112,117,116]++[32,111,117,116,112,117,116],[32,105,110,108,105,110,101],rfl,⟨.inr rfl,rfl,rfl⟩,⟨[[32,105,110,108,105,110,101]],rfl,sM,sM,sM⟩,(by (try simp only [Ta,Te,Th]);omega),?_⟩;(conv=>whnf)
       (repeat (refine ⟨rfl,?_⟩;conv=>whnf))
       conv=>whnf
       refine V5 ?_;refine ⟨L++VL ([100,101,99,108,32]++nm++[40]) fs [41]++[32,105,110,112,117,116]++[32,111,117,116,112,117,116]++[32,105,110,108,105,110,101],[10],rfl,⟨.inr rfl,rfl,rfl⟩,⟨[[10]],rfl,sM,sM,sM⟩,(by (try simp only [Ta,Te,Th]);omega),?_⟩;exact mq30
     have af:i=rels.length:=by
      have du:(rels.map (ZO pl)).length=rels.length:=Tf ..;have af:¬(i:Int)<(rels.map (ZO pl)).length:=af;rw [du] at af;omega
     subst af;rw [Sp];rcases hP with rfl | rfl
     all_goals
      conv=>whnf
      exact ⟨_,rfl,rfl,iM⟩
   intro vs σ hI
   obtain ⟨P,rfl,rfl,hP⟩:=hI;(conv=>whnf);rcases hP with rfl | rfl
   all_goals
    conv=>whnf
    refine ⟨⟨0,_,rfl,zN,iM,oM⟩,?_⟩;intro vs σ hI
    obtain ⟨i,P,rfl,rfl,hP,hi⟩:=hI;(conv=>whnf);refine ZJU (fun af=>?_) (fun af=>?_)
    ·have du:(rules.map (ZH pl)).length=rules.length:=Tf ..;have af:i<rules.length:=lzI du af;have hg:=Zu wRu rules i af;have cp:=ZfB Zvf af;have am:=Zm5 Zvf rules (i+1);have dv:=TM af;obtain ⟨L,hL⟩:∃L,l++(tys.map tyT).flatten++(rels.map reT).flatten++((rules.take i).map Zvf).flatten=L:=⟨_,rfl⟩
     have y4:L.length=(l++(tys.map tyT).flatten++(rels.map reT).flatten).length+((rules.take i).map Zvf).flatten.length:=by rw [<- hL,Ta]
     (try simp only [Ta] at y4)
     rw [cp,Ta] at am;rw [hL];obtain ⟨x,hX⟩:∃x,rules[i]=x:=⟨_,rfl⟩
     rw [hX] at hg dv cp am;obtain ⟨head,as',bd,at'⟩:=x;have fj:l++(tys.map tyT).flatten++(rels.map reT).flatten++((rules.take (i+1)).map Zvf).flatten=L++Zvf ⟨head,as',bd,at'⟩:=by rw [cp,<- Tj,hL]
     have bj:(rules.map (ZH pl))[((i:Nat):Int).toNat]?=some (ZH pl ⟨head,as',bd,at'⟩):=by simp [af,hX]
     have hw:wRu ⟨head,as',bd,at'⟩<=n:=oM;have hT:Zvf ⟨head,as',bd,at'⟩=(ruT ⟨head,as',bd,at'⟩)++[10]:=rfl;rw [hT] at am;simp only [Ta,Te,Th] at am;(conv=>whnf);refine ⟨_,oM,bj,?_⟩;rcases hP with rfl | rfl
     all_goals
      conv=>whnf
      refine ⟨L,(ruT ⟨head,as',bd,at'⟩),rfl,⟨iM,rfl,rfl⟩,⟨pl,⟨head,as',bd,at'⟩,rfl,⟨m3 _ dv,hw,hn⟩,rfl⟩,(by (try simp only [Ta,Te,Th]);omega),?_⟩;(conv=>whnf);refine ⟨L++(ruT ⟨head,as',bd,at'⟩),[10],rfl,⟨.inr rfl,rfl,rfl⟩,⟨[[10]],rfl,sM,sM,sM⟩,(by (try simp only [Ta,Te,Th]);omega),?_⟩;(conv=>whnf);refine Zl ?_;refine ⟨⟨i+1,_,rfl,(by rw [fj,hT];simp only [Tj];rfl),.inr rfl,oM⟩,?_⟩;exact lzM oM
    have af:i=rules.length:=by
     have du:(rules.map (ZH pl)).length=rules.length:=Tf ..;have af:¬(i:Int)<(rules.map (ZH pl)).length:=af;rw [du] at af;omega
    subst af;rw [Sp];rcases hP with rfl | rfl
    all_goals
     conv=>whnf
     exact h _ iM
 exact h.elim
def cWU (hN:NumOK w0 nG) (hL:LexC w0 nG) (n:Nat):PC w0 nG 24 (ZGU n) :=
 ZHW ⟨ZbP,Zyr,ZJv _,cWR hN hL _,trivial⟩
end Go.PM.Lex
end
