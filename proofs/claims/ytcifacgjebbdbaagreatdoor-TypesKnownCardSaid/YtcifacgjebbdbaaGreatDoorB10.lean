/- A part of the proof: plain logic, contracts and laws over the given program. -/
import Derived.Lib.LaidTab
import Derived.Test.YtcifacgjebbdbaaGreatDoorB09
set_option linter.unusedVariables false
set_option linter.unusedSimpArgs false
set_option linter.all false
set_option maxRecDepth 100000
set_option maxHeartbeats 16000000
noncomputable section
section
namespace Go.PM.Lex
open Go.Proofs
variable {w0:World} {nG:Nat}
def ZAQ {n:Nat} (ht:TO w0 nG (ZAP n)):PC w0 nG 205 (Zti n):=by
 refine ZgC ZC mixed Tryz.func205 rfl kR kR ZDK ?_;intro args σ K h
 unfold Zti ZiY at h
 split at h
 ·rename_i rest t p e rows
  obtain ⟨l,txt,rfl,⟨hp,rfl,rfl⟩,⟨pl,⟨op,tx,nn,xs,at'⟩,want,rfl,⟨bo,hz,hn,hw0,hw6⟩,rfl⟩,aa,h⟩:=h;obtain ⟨m1,m2,m3,m4,m5⟩:=Zx1 bo;obtain ⟨k1,k2,k3,k5⟩:=Zx2 m1;have eg:szS wE xs+tx.length+1<=n:=by rw [wE,Zir] at hz;omega
  rw [Tq] at m5;refine ⟨ZrN Zaf (ZAP n) (Zk []) (Ye []) (ZB []),1,true,CxG.of ZC ht ⟨ZpZ,Znd,ZlF Zqe _,ZlF Zqf _,Zj4,Zj5,Zh8,trivial⟩ _ _ _,sM,Tc rfl,?_⟩;rcases hp with rfl | rfl
  all_goals
   conv=>whnf
   refine ⟨op,rfl,fun l1 w1 a1 e1 e2 e3=>?_⟩;subst e1;(conv=>whnf);refine ZEw (fun ab=>wN ?_) (fun ab=>wN ?_)
   ·have hW:exW want.toNat (.mk op tx nn xs at')=[40]++(exT (.mk op tx nn xs at')++[41]):=by rw [exW,Zsg,Th (by show ZY op<_;omega)]
    rw [hW] at h aa;have afo:l.length+1<70368744177664:=by simp only [Ta,Td,Tg] at aa;omega
    refine wk _ [40] ⟨[[40]],rfl,sM,sM,sM⟩ ?_;(conv=>whnf);refine ZEw (fun c1=>?_) (fun c1=>wN ?_)
    ·have c1:ZY op<5:=by omega
     have dl:xs.length=2:=by have:=k1 c1;omega
     obtain ⟨x0,x1,rfl⟩:∃x0 x1,xs=[x0,x1]:=by match xs,dl with | [a,b],_=>exact ⟨a,b,rfl⟩
     simp only [szS] at eg;have g0:=m5 x0 sM;have g1:=m5 x1 sM;have z0:wE x0<=n - 1:=oM;have z1:wE x1<=n - 1:=oM;obtain ⟨o0,t0,n0,y0,q0⟩:=x0;obtain ⟨o1,t1,n1,y1,q1⟩:=x1;have hx:exT (.mk op tx nn [(.mk o0 t0 n0 y0 q0),(.mk o1 t1 n1 y1 q1)] at')=exW (ZY op) (.mk o0 t0 n0 y0 q0)++(([32]++(w1++[32]))++exW (ZY op+1) (.mk o1 t1 n1 y1 q1)):=by rw [exT,exN,Th c1,e2];rfl
     rw [hx] at h aa
     (try simp only [Ta,Td,Tg] at aa)
     conv=>whnf
     refine ⟨_,dM,rfl,wN ?_⟩;refine ⟨oM,wk _ (exW (ZY op) (.mk o0 t0 n0 y0 q0)) ⟨pl,(.mk o0 t0 n0 y0 q0),(ZY op:Int),rfl,⟨g0,oM,oM,oM,oM⟩,rfl⟩ ?_⟩;(conv=>whnf);refine wk _ ([32]++(w1++[32])) ⟨[[32],w1,[32]],rfl,sM,sM,sM⟩ ?_;(conv=>whnf);refine ⟨_,dM,rfl,wN ?_⟩;refine Zj ?_;refine ⟨oM,wk _ (exW (ZY op+1) (.mk o1 t1 n1 y1 q1)) ⟨pl,(.mk o1 t1 n1 y1 q1),((ZY op:Int)+1),rfl,⟨g1,oM,oM,oM,oM⟩,rfl⟩ ?_⟩;(conv=>whnf);refine ⟨Tc rfl,wN ?_⟩;refine ⟨_,dM,rfl,wN ?_⟩;refine wk _ [41] ⟨rfl,rfl⟩ ?_;(conv=>whnf);refine Zj ?_;rw [show l++([40]++(exW (ZY op) (.mk o0 t0 n0 y0 q0)++(([32]++(w1++[32]))++exW (ZY op+1) (.mk o1 t1 n1 y1 q1))++[41]))=(l++[40])++exW (ZY op) (.mk o0 t0 n0 y0 q0)++([32]++(w1++[32]))++exW (ZY op+1) (.mk o1 t1 n1 y1 q1)++[41] by first | rfl | simp only [Tn]] at h;exact h
    have c1:¬ZY op<5:=oM;refine ZEw (fun c2=>?_) (fun c2=>wN ?_)
    ·have c2:ZY op=5:=by omega
     have dl:xs.length=1:=by have:=k2 c2;omega
     obtain ⟨x0,rfl⟩:∃x0,xs=[x0]:=by match xs,dl with | [a],_=>exact ⟨a,rfl⟩
     simp only [szS] at eg;have g0:=m5 x0 sM;have z0:wE x0<=n - 1:=oM;obtain ⟨o0,t0,n0,y0,q0⟩:=x0;have hx:exT (.mk op tx nn [(.mk o0 t0 n0 y0 q0)] at')=w1++exW 5 (.mk o0 t0 n0 y0 q0):=by rw [exT,exN,Tf c1,Th c2,e2];rfl
     rw [hx] at h aa
     (try simp only [Ta,Td,Tg] at aa)
     conv=>whnf
     refine wk _ w1 ⟨[w1],rfl,sM,sM,sM⟩ ?_;(conv=>whnf);refine ⟨_,dM,rfl,wN ?_⟩;refine ⟨oM,wk _ (exW 5 (.mk o0 t0 n0 y0 q0)) ⟨pl,(.mk o0 t0 n0 y0 q0),5,rfl,⟨g0,oM,oM,oM,oM⟩,rfl⟩ ?_⟩;(conv=>whnf);refine ⟨Tc rfl,wN ?_⟩;refine ⟨_,dM,rfl,wN ?_⟩;refine wk _ [41] ⟨rfl,rfl⟩ ?_;(conv=>whnf);refine Zj ?_;rw [show l++([40]++(w1++exW 5 (.mk o0 t0 n0 y0 q0)++[41]))=(l++[40])++w1++exW 5 (.mk o0 t0 n0 y0 q0)++[41] by first | rfl | simp only [Tn]] at h;exact h
    have c2:¬ZY op=5:=oM;refine ZEy (fun c3=>?_) (fun c3=>wN ?_)
    ·have c3:VR op≠[]:=by rw [e2];exact c3
     have hx:exT (.mk op tx nn xs at')=w1++Wm [40] [41] xs:=by rw [exT,exN,Tf c1,Tf c2,Th c3,e2,UV];rfl
     rw [hx] at h aa
     (try simp only [Ta,Td,Tg] at aa)
     conv=>whnf
     refine wk _ w1 ⟨[w1],rfl,sM,sM,sM⟩ ?_;(conv=>whnf);refine ⟨oM,wk _ (Wm [40] [41] xs) ⟨[40],[41],pl,xs,rfl,⟨Tq.2 m5,oM,oM⟩,rfl⟩ ?_⟩;(conv=>whnf);refine ⟨Tc rfl,wN ?_⟩;refine ⟨_,dM,rfl,wN ?_⟩;refine wk _ [41] ⟨rfl,rfl⟩ ?_;(conv=>whnf);refine Zj ?_;rw [show l++([40]++(w1++Wm [40] [41] xs++[41]))=(l++[40])++w1++Wm [40] [41] xs++[41] by first | rfl | simp only [Tn]] at h;exact h
    have c3:¬VR op≠[]:=by rw [e2];exact fun g=>g c3
    refine ZEw (fun c4=>?_) (fun c4=>wN ?_)
    ·have c4:op=6:=by omega
     have hx:exT (.mk op tx nn xs at')=Wm [91] [93] xs:=by rw [exT,exN,Tf c1,Tf c2,Tf c3,Th c4,UV];rfl
     rw [hx] at h aa
     (try simp only [Ta,Td,Tg] at aa)
     conv=>whnf
     refine ⟨oM,wk _ (Wm [91] [93] xs) ⟨[91],[93],pl,xs,rfl,⟨Tq.2 m5,oM,oM⟩,rfl⟩ ?_⟩;(conv=>whnf);refine ⟨Tc rfl,wN ?_⟩;refine ⟨_,dM,rfl,wN ?_⟩;refine wk _ [41] ⟨rfl,rfl⟩ ?_;(conv=>whnf);refine Zj ?_;rw [show l++([40]++(Wm [91] [93] xs++[41]))=(l++[40])++Wm [91] [93] xs++[41] by first | rfl | simp only [Tn]] at h;exact h
    have c4:¬op=6:=oM;refine ZEw (fun c5=>?_) (fun c5=>wN ?_)
    ·have c5:op=7:=by omega
     have hxl:(Zp pl xs).length=xs.length:=by rw [Ze,Te]
     by_cases ky:xs.length=0
     ·have hx:exT (.mk op tx nn xs at')=[36]++tx:=by rw [exT,exN,Tf c1,Tf c2,Tf c3,Tf c4,Th c5,Zcx,Th ky,T2]
      rw [hx] at h aa
      (try simp only [Ta,Td,Tg] at aa)
      conv=>whnf
      refine wk _ ([36]++tx) ⟨[[36],tx],rfl,sM,sM,sM⟩ ?_;(conv=>whnf);refine ZEw (fun g=>?_) (fun g=>?_)
      case refine_1=>exact absurd (show ((Zp pl xs).length:Int)>0 from g) oM
      conv=>whnf
      refine ⟨Tc rfl,wN ?_⟩;refine ⟨_,dM,rfl,wN ?_⟩;refine wk _ [41] ⟨rfl,rfl⟩ ?_;(conv=>whnf);refine Zj ?_;rw [show l++([40]++([36]++tx++[41]))=(l++[40])++([36]++tx)++[41] by first | rfl | simp only [Tn]] at h;exact h
     have hx:exT (.mk op tx nn xs at')=([36]++tx)++Wm [40] [41] xs:=by rw [exT,exN,Tf c1,Tf c2,Tf c3,Tf c4,Th c5,Zcx,Tf ky,UV,Tn];rfl
     rw [hx] at h aa
     (try simp only [Ta,Td,Tg] at aa)
     conv=>whnf
     refine wk _ ([36]++tx) ⟨[[36],tx],rfl,sM,sM,sM⟩ ?_;(conv=>whnf);refine ZEw (fun g=>?_) (fun g=>?_)
     case refine_2=>exact absurd (show ((Zp pl xs).length:Int)>0 by omega) g
     conv=>whnf
     refine ⟨oM,wk _ (Wm [40] [41] xs) ⟨[40],[41],pl,xs,rfl,⟨Tq.2 m5,oM,oM⟩,rfl⟩ ?_⟩;(conv=>whnf);refine ⟨Tc rfl,wN ?_⟩;refine ⟨_,dM,rfl,wN ?_⟩;refine wk _ [41] ⟨rfl,rfl⟩ ?_;(conv=>whnf);refine Zj ?_;rw [show l++([40]++(([36]++tx)++Wm [40] [41] xs++[41]))=(l++[40])++([36]++tx)++Wm [40] [41] xs++[41] by first | rfl | simp only [Tn]] at h;exact h
    have c5:¬op=7:=oM;refine ZEw (fun c6=>wN ?_) (fun c6=>wN ?_)
    ·have c6':op=3:=by omega
     obtain ⟨i0,i1⟩:=m4;refine ZEw (fun gn=>wN ?_) (fun gn=>wN ?_)
     ·obtain ⟨j0,j1,j2⟩:=ZlG gn i0;obtain ⟨wn,hwn⟩:∃wn,IntKind.u64.wrap nn=wn:=⟨_,rfl⟩
      rw [hwn] at j0 j1 j2;refine Or.inr ?_;rw [hwn];have hx:exT (.mk op tx nn xs at')=Zfq nn:=by rw [exT,exN,Tf c1,Tf c2,Tf c3,Tf c4,Tf c5,Th c6']
      rw [hx] at h aa
      (try simp only [Ta,Td,Tg] at aa)
      conv=>whnf
      refine ⟨⟨rfl,j0,j1⟩,?_⟩;obtain ⟨T,hT⟩:∃T,Vp 16 wn.toNat=T:=⟨_,rfl⟩
      rw [hT] at j2 |-;rw [j2] at h aa
      (try simp only [Ta,Td,Tg] at aa)
      conv=>whnf
      refine wk _ ([48,120]++T) ⟨[[48,120],T],rfl,sM,sM,sM⟩ ?_;(conv=>whnf);refine ⟨Tc rfl,wN ?_⟩;refine ⟨_,dM,rfl,wN ?_⟩;refine wk _ [41] ⟨rfl,rfl⟩ ?_;(conv=>whnf);refine Zj ?_;rw [show l++([40]++(([48,120]++T)++[41]))=(l++[40])++([48,120]++T)++[41] by first | rfl | simp only [Tn]] at h;exact h
     refine ZEw (fun _=>?_) (fun g=>absurd c6 g);have hx:exT (.mk op tx nn xs at')=Zfq nn:=by rw [exT,exN,Tf c1,Tf c2,Tf c3,Tf c4,Tf c5,Th c6']
     rw [hx] at h aa
     (try simp only [Ta,Td,Tg] at aa)
     conv=>whnf
     refine ⟨⟨rfl,oM,i1⟩,wN ?_⟩;refine wk _ (Zfq nn) ⟨[Zfq nn],rfl,sM,sM,sM⟩ ?_;(conv=>whnf);refine ⟨Tc rfl,wN ?_⟩;refine ⟨_,dM,rfl,wN ?_⟩;refine wk _ [41] ⟨rfl,rfl⟩ ?_;(conv=>whnf);refine Zj ?_;rw [show l++([40]++(Zfq nn++[41]))=(l++[40])++Zfq nn++[41] by first | rfl | simp only [Tn]] at h;exact h
    have c6':¬op=3:=oM;refine ZEw (fun g=>absurd g c6) (fun _=>wN ?_);refine ZEw (fun c7=>?_) (fun c7=>wN ?_)
    ·have c7':op=4:=by omega
     have hq:(Jq tx).isSome=true:=by unfold V9 at m3;rw [Tf oM,Th c7'] at m3;exact m3
     obtain ⟨q,hq⟩:=SA.1 hq;have hqT:ZvP tx=q:=by rw [ZvP,hq];rfl
     have hx:exT (.mk op tx nn xs at')=q:=by rw [exT,exN,Tf c1,Tf c2,Tf c3,Tf c4,Tf c5,Tf c6',Th c7',hqT]
     rw [hx] at h aa
     (try simp only [Ta,Td,Tg] at aa)
     conv=>whnf
     refine ⟨oM,wN ?_⟩;refine ⟨fun g=>?_,fun q' jd=>?_⟩
     case refine_1=>exact absurd (hq.symm.trans g) sM
     obtain rfl:q=q':=by rw [hq] at jd;exact Option.some.inj jd
     conv=>whnf
     refine wk _ q ⟨[q],rfl,sM,sM,sM⟩ ?_;(conv=>whnf);refine ⟨Tc rfl,wN ?_⟩;refine ⟨_,dM,rfl,wN ?_⟩;refine wk _ [41] ⟨rfl,rfl⟩ ?_;(conv=>whnf);refine Zj ?_;rw [show l++([40]++(q++[41]))=(l++[40])++q++[41] by first | rfl | simp only [Tn]] at h;exact h
    have c7':¬op=4:=oM;refine ZEw (fun c8=>?_) (fun c8=>wN ?_)
    ·have c8':op=5:=by omega
     have hx:exT (.mk op tx nn xs at')=[110,105,108]:=by rw [exT,exN,Tf c1,Tf c2,Tf c3,Tf c4,Tf c5,Tf c6',Tf c7',Th c8']
     rw [hx] at h aa
     (try simp only [Ta,Td,Tg] at aa)
     conv=>whnf
     refine wk _ [110,105,108] ⟨[[110,105,108]],rfl,sM,sM,sM⟩ ?_;(conv=>whnf);refine ⟨Tc rfl,wN ?_⟩;refine ⟨_,dM,rfl,wN ?_⟩;refine wk _ [41] ⟨rfl,rfl⟩ ?_;(conv=>whnf);refine Zj ?_;rw [show l++([40]++([110,105,108]++[41]))=(l++[40])++[110,105,108]++[41] by first | rfl | simp only [Tn]] at h;exact h
    have c8':¬op=5:=oM;refine ZEw (fun c9=>?_) (fun c9=>?_)
    ·have c9':op=2:=by omega
     have hx:exT (.mk op tx nn xs at')=[95]:=by rw [exT,exN,Tf c1,Tf c2,Tf c3,Tf c4,Tf c5,Tf c6',Tf c7',Tf c8',Th c9']
     rw [hx] at h aa
     (try simp only [Ta,Td,Tg] at aa)
     conv=>whnf
     refine wk _ [95] ⟨[[95]],rfl,sM,sM,sM⟩ ?_;(conv=>whnf);refine ⟨Tc rfl,wN ?_⟩;refine ⟨_,dM,rfl,wN ?_⟩;refine wk _ [41] ⟨rfl,rfl⟩ ?_;(conv=>whnf);refine Zj ?_;rw [show l++([40]++([95]++[41]))=(l++[40])++[95]++[41] by first | rfl | simp only [Tn]] at h;exact h
    have c9':¬op=2:=oM;have hx:exT (.mk op tx nn xs at')=tx:=by rw [exT,exN,Tf c1,Tf c2,Tf c3,Tf c4,Tf c5,Tf c6',Tf c7',Tf c8',Tf c9']
    rw [hx] at h aa
    (try simp only [Ta,Td,Tg] at aa)
    conv=>whnf
    refine wk _ tx ⟨[tx],rfl,sM,sM,sM⟩ ?_;(conv=>whnf);refine ⟨Tc rfl,wN ?_⟩;refine ⟨_,dM,rfl,wN ?_⟩;refine wk _ [41] ⟨rfl,rfl⟩ ?_;(conv=>whnf);refine Zj ?_;rw [show l++([40]++(tx++[41]))=(l++[40])++tx++[41] by first | rfl | simp only [Tn]] at h;exact h
   have hW:exW want.toNat (.mk op tx nn xs at')=exT (.mk op tx nn xs at'):=by rw [exW,Zsg,Tf (by show ¬ZY op<_;omega)]
   rw [hW] at h aa;refine ZEw (fun c1=>?_) (fun c1=>wN ?_)
   ·have c1:ZY op<5:=by omega
    have dl:xs.length=2:=by have:=k1 c1;omega
    obtain ⟨x0,x1,rfl⟩:∃x0 x1,xs=[x0,x1]:=by match xs,dl with | [a,b],_=>exact ⟨a,b,rfl⟩
    simp only [szS] at eg;have g0:=m5 x0 sM;have g1:=m5 x1 sM;have z0:wE x0<=n - 1:=oM;have z1:wE x1<=n - 1:=oM;obtain ⟨o0,t0,n0,y0,q0⟩:=x0;obtain ⟨o1,t1,n1,y1,q1⟩:=x1;have hx:exT (.mk op tx nn [(.mk o0 t0 n0 y0 q0),(.mk o1 t1 n1 y1 q1)] at')=exW (ZY op) (.mk o0 t0 n0 y0 q0)++(([32]++(w1++[32]))++exW (ZY op+1) (.mk o1 t1 n1 y1 q1)):=by rw [exT,exN,Th c1,e2];rfl
    rw [hx] at h aa
    (try simp only [Ta,Td,Tg] at aa)
    conv=>whnf
    refine ⟨_,dM,rfl,wN ?_⟩;refine ⟨oM,wk _ (exW (ZY op) (.mk o0 t0 n0 y0 q0)) ⟨pl,(.mk o0 t0 n0 y0 q0),(ZY op:Int),rfl,⟨g0,oM,oM,oM,oM⟩,rfl⟩ ?_⟩;(conv=>whnf);refine wk _ ([32]++(w1++[32])) ⟨[[32],w1,[32]],rfl,sM,sM,sM⟩ ?_;(conv=>whnf);refine ⟨_,dM,rfl,wN ?_⟩;refine Zj ?_;refine ⟨oM,wk _ (exW (ZY op+1) (.mk o1 t1 n1 y1 q1)) ⟨pl,(.mk o1 t1 n1 y1 q1),((ZY op:Int)+1),rfl,⟨g1,oM,oM,oM,oM⟩,rfl⟩ ?_⟩;rw [show l++(exW (ZY op) (.mk o0 t0 n0 y0 q0)++(([32]++(w1++[32]))++exW (ZY op+1) (.mk o1 t1 n1 y1 q1)))=l++exW (ZY op) (.mk o0 t0 n0 y0 q0)++([32]++(w1++[32]))++exW (ZY op+1) (.mk o1 t1 n1 y1 q1) by first | rfl | simp only [Tn]] at h;exact mq51
   have c1:¬ZY op<5:=oM;refine ZEw (fun c2=>?_) (fun c2=>wN ?_)
   ·have c2:ZY op=5:=by omega
    have dl:xs.length=1:=by have:=k2 c2;omega
    obtain ⟨x0,rfl⟩:∃x0,xs=[x0]:=by match xs,dl with | [a],_=>exact ⟨a,rfl⟩
    simp only [szS] at eg;have g0:=m5 x0 sM;have z0:wE x0<=n - 1:=oM;obtain ⟨o0,t0,n0,y0,q0⟩:=x0;have hx:exT (.mk op tx nn [(.mk o0 t0 n0 y0 q0)] at')=w1++exW 5 (.mk o0 t0 n0 y0 q0):=by rw [exT,exN,Tf c1,Th c2,e2];rfl
    rw [hx] at h aa
    (try simp only [Ta,Td,Tg] at aa)
    conv=>whnf
    refine wk _ w1 ⟨[w1],rfl,sM,sM,sM⟩ ?_;(conv=>whnf);refine ⟨_,dM,rfl,wN ?_⟩;refine ⟨oM,wk _ (exW 5 (.mk o0 t0 n0 y0 q0)) ⟨pl,(.mk o0 t0 n0 y0 q0),5,rfl,⟨g0,oM,oM,oM,oM⟩,rfl⟩ ?_⟩;rw [show l++(w1++exW 5 (.mk o0 t0 n0 y0 q0))=l++w1++exW 5 (.mk o0 t0 n0 y0 q0) by first | rfl | simp only [Tn]] at h;exact mq51
   have c2:¬ZY op=5:=oM;refine ZEy (fun c3=>?_) (fun c3=>wN ?_)
   ·have c3:VR op≠[]:=by rw [e2];exact c3
    have hx:exT (.mk op tx nn xs at')=w1++Wm [40] [41] xs:=by rw [exT,exN,Tf c1,Tf c2,Th c3,e2,UV];rfl
    rw [hx] at h aa
    (try simp only [Ta,Td,Tg] at aa)
    conv=>whnf
    refine wk _ w1 ⟨[w1],rfl,sM,sM,sM⟩ ?_;(conv=>whnf);refine ⟨oM,wk _ (Wm [40] [41] xs) ⟨[40],[41],pl,xs,rfl,⟨Tq.2 m5,oM,oM⟩,rfl⟩ ?_⟩;rw [show l++(w1++Wm [40] [41] xs)=l++w1++Wm [40] [41] xs by first | rfl | simp only [Tn]] at h;exact mq51
   have c3:¬VR op≠[]:=by rw [e2];exact fun g=>g c3
   refine ZEw (fun c4=>?_) (fun c4=>wN ?_)
   ·have c4:op=6:=by omega
    have hx:exT (.mk op tx nn xs at')=Wm [91] [93] xs:=by rw [exT,exN,Tf c1,Tf c2,Tf c3,Th c4,UV];rfl
    rw [hx] at h aa
    (try simp only [Ta,Td,Tg] at aa)
    conv=>whnf
    refine ⟨oM,wk _ (Wm [91] [93] xs) ⟨[91],[93],pl,xs,rfl,⟨Tq.2 m5,oM,oM⟩,rfl⟩ ?_⟩;rw [show l++(Wm [91] [93] xs)=l++Wm [91] [93] xs by first | rfl | simp only [Tn]] at h;exact mq51
   have c4:¬op=6:=oM;refine ZEw (fun c5=>?_) (fun c5=>wN ?_)
   ·have c5:op=7:=by omega
    have hxl:(Zp pl xs).length=xs.length:=by rw [Ze,Te]
    by_cases ky:xs.length=0
    ·have hx:exT (.mk op tx nn xs at')=[36]++tx:=by rw [exT,exN,Tf c1,Tf c2,Tf c3,Tf c4,Th c5,Zcx,Th ky,T2]
     rw [hx] at h aa
     (try simp only [Ta,Td,Tg] at aa)
     conv=>whnf
     refine wk _ ([36]++tx) ⟨[[36],tx],rfl,sM,sM,sM⟩ ?_;(conv=>whnf);refine ZEw (fun g=>?_) (fun g=>?_)
     case refine_1=>exact absurd (show ((Zp pl xs).length:Int)>0 from g) oM
     rw [show l++([36]++tx)=l++([36]++tx) by first | rfl | simp only [Tn]] at h;exact mq51
    have hx:exT (.mk op tx nn xs at')=([36]++tx)++Wm [40] [41] xs:=by rw [exT,exN,Tf c1,Tf c2,Tf c3,Tf c4,Th c5,Zcx,Tf ky,UV,Tn];rfl
    rw [hx] at h aa
    (try simp only [Ta,Td,Tg] at aa)
    conv=>whnf
    refine wk _ ([36]++tx) ⟨[[36],tx],rfl,sM,sM,sM⟩ ?_;(conv=>whnf);refine ZEw (fun g=>?_) (fun g=>?_)
    case refine_2=>exact absurd (show ((Zp pl xs).length:Int)>0 by omega) g
    conv=>whnf
    refine ⟨oM,wk _ (Wm [40] [41] xs) ⟨[40],[41],pl,xs,rfl,⟨Tq.2 m5,oM,oM⟩,rfl⟩ ?_⟩;rw [show l++(([36]++tx)++Wm [40] [41] xs)=l++([36]++tx)++Wm [40] [41] xs by first | rfl | simp only [Tn]] at h;exact mq51
   have c5:¬op=7:=oM;refine ZEw (fun c6=>wN ?_) (fun c6=>wN ?_)
   ·have c6':op=3:=by omega
    obtain ⟨i0,i1⟩:=m4;refine ZEw (fun gn=>wN ?_) (fun gn=>wN ?_)
    ·obtain ⟨j0,j1,j2⟩:=ZlG gn i0;obtain ⟨wn,hwn⟩:∃wn,IntKind.u64.wrap nn=wn:=⟨_,rfl⟩
     rw [hwn] at j0 j1 j2;refine Or.inr ?_;rw [hwn];have hx:exT (.mk op tx nn xs at')=Zfq nn:=by rw [exT,exN,Tf c1,Tf c2,Tf c3,Tf c4,Tf c5,Th c6']
     rw [hx] at h aa
     (try simp only [Ta,Td,Tg] at aa)
     conv=>whnf
     refine ⟨⟨rfl,j0,j1⟩,?_⟩;obtain ⟨T,hT⟩:∃T,Vp 16 wn.toNat=T:=⟨_,rfl⟩
     rw [hT] at j2 |-;rw [j2] at h aa
     (try simp only [Ta,Td,Tg] at aa)
     conv=>whnf
     refine wk _ ([48,120]++T) ⟨[[48,120],T],rfl,sM,sM,sM⟩ ?_;rw [show l++(([48,120]++T))=l++([48,120]++T) by first | rfl | simp only [Tn]] at h;exact mq51
    refine ZEw (fun _=>?_) (fun g=>absurd c6 g);have hx:exT (.mk op tx nn xs at')=Zfq nn:=by rw [exT,exN,Tf c1,Tf c2,Tf c3,Tf c4,Tf c5,Th c6']
    rw [hx] at h aa
    (try simp only [Ta,Td,Tg] at aa)
    conv=>whnf
    refine ⟨⟨rfl,oM,i1⟩,wN ?_⟩;refine wk _ (Zfq nn) ⟨[Zfq nn],rfl,sM,sM,sM⟩ ?_;rw [show l++(Zfq nn)=l++Zfq nn by first | rfl | simp only [Tn]] at h;exact mq51
   have c6':¬op=3:=oM;refine ZEw (fun g=>absurd g c6) (fun _=>wN ?_);refine ZEw (fun c7=>?_) (fun c7=>wN ?_)
   ·have c7':op=4:=by omega
    have hq:(Jq tx).isSome=true:=by unfold V9 at m3;rw [Tf oM,Th c7'] at m3;exact m3
    obtain ⟨q,hq⟩:=SA.1 hq;have hqT:ZvP tx=q:=by rw [ZvP,hq];rfl
    have hx:exT (.mk op tx nn xs at')=q:=by rw [exT,exN,Tf c1,Tf c2,Tf c3,Tf c4,Tf c5,Tf c6',Th c7',hqT]
    rw [hx] at h aa
    (try simp only [Ta,Td,Tg] at aa)
    conv=>whnf
    refine ⟨oM,wN ?_⟩;refine ⟨fun g=>?_,fun q' jd=>?_⟩
    case refine_1=>exact absurd (hq.symm.trans g) sM
    obtain rfl:q=q':=by rw [hq] at jd;exact Option.some.inj jd
    conv=>whnf
    refine wk _ q ⟨[q],rfl,sM,sM,sM⟩ ?_;rw [show l++(q)=l++q by first | rfl | simp only [Tn]] at h;exact mq51
   have c7':¬op=4:=oM;refine ZEw (fun c8=>?_) (fun c8=>wN ?_)
   ·have c8':op=5:=by omega
    have hx:exT (.mk op tx nn xs at')=[110,105,108]:=by rw [exT,exN,Tf c1,Tf c2,Tf c3,Tf c4,Tf c5,Tf c6',Tf c7',Th c8']
    rw [hx] at h aa
    (try simp only [Ta,Td,Tg] at aa)
    conv=>whnf
    refine wk _ [110,105,108] ⟨[[110,105,108]],rfl,sM,sM,sM⟩ ?_;rw [show l++([110,105,108])=l++[110,105,108] by first | rfl | simp only [Tn]] at h;exact mq51
   have c8':¬op=5:=oM;refine ZEw (fun c9=>?_) (fun c9=>?_)
   ·have c9':op=2:=by omega
    have hx:exT (.mk op tx nn xs at')=[95]:=by rw [exT,exN,Tf c1,Tf c2,Tf c3,Tf c4,Tf c5,Tf c6',Tf c7',Tf c8',Th c9']
    rw [hx] at h aa
    (try simp only [Ta,Td,Tg] at aa)
    conv=>whnf
    refine wk _ [95] ⟨[[95]],rfl,sM,sM,sM⟩ ?_;rw [show l++([95])=l++[95] by first | rfl | simp only [Tn]] at h;exact mq51
   have c9':¬op=2:=oM;have hx:exT (.mk op tx nn xs at')=tx:=by rw [exT,exN,Tf c1,Tf c2,Tf c3,Tf c4,Tf c5,Tf c6',Tf c7',Tf c8',Tf c9']
   rw [hx] at h aa
   (try simp only [Ta,Td,Tg] at aa)
   conv=>whnf
   refine wk _ tx ⟨[tx],rfl,sM,sM,sM⟩ ?_;rw [show l++(tx)=l++tx by first | rfl | simp only [Tn]] at h;exact mq51
 exact h.elim
end Go.PM.Lex
end

section
namespace Go.PM.Lex
open Go.Proofs Go.Shelf Go.RowKit
variable {w0:World} {nG:Nat}
def Znf (w:World) (g n:Nat) {cs:Array Value} {ty:TypeId} {fz:Nat×Nat} (h:w.heap[g]?=some (.cells cs ty fz)) (h1:fz.1<=fz.2) (h2:∀o,n<=o->fz.1<=o->fz.2<=o) :
  ∃fz',(w.drew.freeze ⟨g,0,none⟩ n).heap[g]?=some (.cells cs ty fz')/\fz'.1<=fz'.2/\∀o,n<=o->fz'.1<=o->fz'.2<=o:=by
 have h':w.drew.heap[g]?=some (.cells cs ty fz):=h;obtain ⟨lo,hi⟩:=fz;unfold World.freeze
 split
 ·exact ⟨_,h',h1,h2⟩
 simp only [SF,if_true,h',Sc];refine ⟨_,rfl,?_,?_⟩
 ·split
  ·exact Se _
  simp only at h1 |-;omega
 intro o ho ah
 split
 ·simp only;omega
 rename_i ai
 have ai:lo≠hi:=by simpa using ai
 simp only at h1 |-;have k:=h2 (max lo n) oM (by simp only;omega);simp only at k;omega
def _root_.Go.PM.Owned.grow {G:GE} {e:Env} {w w':World} {t el:Nat} {rows:List (List D)} {v:Value} (h:Owned G e w t el rows v) (g:Grows w w'):Owned G e w' t el rows v:=by
 rcases h with h | ⟨sz,a1,a2,a3,b,off,cap,cs,ty,fz,a4,a5,a6,a7,a8,a9,a10⟩
 ·exact .inl h
 exact .inr ⟨sz,a1,a2,a3,b,off,cap,cs,ty,fz,a4,a5,a6,(g.old _ (To.1 a7).1).trans a7,a8,a9,a10⟩
def _root_.Go.PM.Owned.refreeze {G:GE} {e:Env} {w w':World} {t:Nat} {rows:List (List D)} {v:Value} {g n:Nat} {cs:Array Value} {ty:TypeId} {fz fz':Nat×Nat} (h:Owned G e w t 5 rows v) (hM:e.M t=some (g,n))
  (h':w'.heap[g]?=some (.cells cs ty fz')) (h0:w.heap[g]?=some (.cells cs ty fz)) (h1:fz'.1<=fz'.2) (h2:∀o,n<=o->fz'.1<=o->fz'.2<=o):Owned G e w' t 5 rows v:=by
 rcases h with ⟨_,_,h⟩ | ⟨sz,a1,a2,a3,b,off,cap,cs2,ty2,fz2,a4,a5,a6,a7,a8,a9,a10⟩
 ·rw [hM] at h;cases h
 rw [hM] at a10;simp only [Option.some.injEq,Prod.mk.injEq] at a10;obtain ⟨rfl,rfl⟩:=a10;rw [h0] at a7
 cases a7
 exact .inr ⟨sz,a1,a2,a3,g,off,cap,cs,ty,fz',a4,a5,a6,h',a8,⟨h1,h2⟩,hM⟩
def Zx3 {G:GE} {e:Env} {w w':World} {t:TypeId} {p:PV} {rows:List (List D)} (hp:p=.d .nilp\/p=.ptr 0 0) (hS:SRel G e ⟨[.cells t [p,.sl 0 5 rows]],[0],1⟩ w)
  (hsz:w.heap.size<=w'.heap.size) (qp:w'.os=w.os) (htp:w'.tape=w.tape) (kb:w'.output=w.output)
  (ay:∀b off u,w.cell? ⟨b,off,none⟩=some u->w'.cell? ⟨b,off,none⟩=some u)
  (f7:∀b,b<w.heap.size->(∀q,e.M 0=some q->q.1≠b)->w'.heap[b]?=w.heap[b]?)
  (ke:∀v,Owned G e w 0 5 rows v->Owned G e w' 0 5 rows v) (ad6:∀q,e.M 0=some q->∃cs ty fz,w'.heap[q.1]?=some (.cells cs ty fz)) :
  SRel G e ⟨[.cells t [p,.sl 0 5 rows]],[0],1⟩ w'/\Later e ⟨[.cells t [p,.sl 0 5 rows]],[0],1⟩ w e ⟨[.cells t [p,.sl 0 5 rows]],[0],1⟩ w':=by
 have hL:Later e ⟨[.cells t [p,.sl 0 5 rows]],[0],1⟩ w e ⟨[.cells t [p,.sl 0 5 rows]],[0],1⟩ w':={
  len:=Tz _
  beta:=fun _ _=>rfl
  X:=fun _ _ h=>h
  pres:=fun b off u hu ho=>⟨ho,ay b off u hu⟩
  fhid:=fun b h=>.inr (.inr h)
  blocks:=fun b hb h1 h2 _=>f7 b hb fun q hq=>h2 0 sM q hq
  size:=hsz
  os:=qp
  tape:=htp
  output:=kb
  fresh:=fun i h1 h2=>by simp at h1 h2;omega
  ftok:=fun x hx q hq=>.inr (.inl ⟨x,hx,q,hq,rfl⟩) }
 have ab:=hS.lt (i:=0) sM;have pb:w'.heap[e.β 0]?=w.heap[e.β 0]?:=f7 _ ab fun q hq=>fun h=>(hS.own 0 sM q hq).2.1 0 sM h.symm
 refine ⟨?_,hL⟩;exact {
  inj:=hS.inj
  box:=fun i x hx=>by
   match i,hx with
   | 0,hx =>
    cases hx
    obtain ⟨cv,h1,h2,h3⟩:=hS.box 0 _ rfl;refine ⟨cv,pb.trans h1,h2,fun j y u hy hu=>?_⟩
    match j,hy with
    | 0,hy =>
     exact mq92
    | 1,hy =>
     cases hy
     obtain ⟨q1,q2⟩:=h3 1 (.sl 0 5 rows) u rfl hu;refine ⟨?_,q2⟩
     cases q1 with
     | sl _ _ _ _ hn hd ht=>exact .sl _ _ _ _ hn (hd.later hL) (fun h=>ke _ (ht h))
    | j+2,hy=>simp at hy
   | i+1,hx=>simp at hx
  low:=hS.low
  tkn:=hS.tkn
  own:=fun x hx q hq=>by
   obtain ⟨a,b,_⟩:=hS.own x hx q hq;obtain rfl:x=0:=by simpa using hx
   exact ⟨a,b,ad6 q hq⟩
  dis:=hS.dis
  xlt:=fun b off hx=>TF (hS.xlt b off hx) hsz
  xown:=hS.xown
  hid:=fun b q hq=>let ⟨k1,k2,k3,k4,k5⟩:=hS.hid b q hq;⟨k1,TF k2 hsz,k3,k4,k5⟩
  glob:=fun b hb=>by
   rw [f7 b (TF hb hS.big) fun q hq=>fun h=>by have:=(hS.own 0 sM q hq).1;omega];exact hS.glob b hb
  big:=Sa hS.big hsz }
def ZaH:Zm:=fun args σ K=>match args,σ with
 | [.ptr 0 0],⟨[.cells t [p,.sl 0 e rows]],[0],1⟩=>∃l:Bs,(rows=Zg l/\t=119/\e=5/\(p=.d .nilp\/p=.ptr 0 0)/\l.length<70368744177664)/\K (.ret (.d (.str l))) ⟨[.cells t [p,.sl 0 e rows]],[0],1⟩
 | _,_=>False
def ZfC:PC w0 nG 47 ZaH:=VM (Zl Tryz.func47 kR rfl) fun args σ K h e w vs hS ha=>by
 unfold ZaH at h
 split at h
 ·rename_i t p el rows
  obtain ⟨l,⟨rfl,rfl,rfl,hp,dr⟩,hK⟩:=h;obtain ⟨u,rfl,hu⟩:=Zgy ha;obtain ⟨cv,dh,bj,kq⟩:=hS.box 0 _ rfl;have dk:cv.size=2:=bj;obtain ⟨v0,v1,rfl⟩:∃v0 v1,cv=#[v0,v1]:=by
   obtain ⟨lst⟩:=cv
   match lst,dk with
   | [a,b],_=>exact ⟨a,b,rfl⟩
  have cn:=(kq 1 (.sl 0 5 (Zg l)) v1 rfl rfl).1
  cases hu with
  | ptr b off hb =>
  refine ⟨_,_,.string ⟨l.toArray⟩,hK,?_⟩;have fin:∀w',w.heap.size<=w'.heap.size->w'.os=w.os->w'.tape=w.tape->w'.output=w.output ->
    (∀b off u,w.cell? ⟨b,off,none⟩=some u->w'.cell? ⟨b,off,none⟩=some u) ->
    (∀b,b<w.heap.size->(∀q,e.M 0=some q->q.1≠b)->w'.heap[b]?=w.heap[b]?)->(∀v,Owned (GG w0 nG) e w 0 5 (Zg l) v->Owned (GG w0 nG) e w' 0 5 (Zg l) v)->(∀q,e.M 0=some q->∃cs ty fz,w'.heap[q.1]?=some (.cells cs ty fz)) ->
    VRel (GG w0 nG) e ⟨[.cells 119 [p,.sl 0 5 (Zg l)]],[0],1⟩ w' (.d (.str l)) (.string ⟨l.toArray⟩)/\SRel (GG w0 nG) e ⟨[.cells 119 [p,.sl 0 5 (Zg l)]],[0],1⟩ w'/\Later e ⟨[.cells 119 [p,.sl 0 5 (Zg l)]],[0],1⟩ w e ⟨[.cells 119 [p,.sl 0 5 (Zg l)]],[0],1⟩ w':=fun w' h1 h2 h3 h4 h5 h6 h7 h8 =>
   ⟨.mkstr,Zx3 hp hS h1 h2 h3 h4 h5 h6 h7 h8⟩
  have grown:∀w',Grows w w'->_:=fun w' g=>fin w' g.size g.os g.tape g.output (fun b off u hu=>(g.cell (VE hu)).trans hu) (fun b hb _=>g.old b hb) (fun v hv=>hv.grow g) (fun q hq=>by obtain ⟨_,_,cs,ty,fz,hh⟩:=hS.own 0 sM q hq;exact ⟨cs,ty,fz,(g.old _ (To.1 hh).1).trans hh⟩)
  cases cn with
  | sl _ _ _ _ hn hd ht =>
  rcases ht sM with ⟨rfl,bq,hM⟩ | ⟨sz,g1,g2,g3,g,off,cap,cs,ty,fz,rfl,g4,g5,g6,⟨g7,rfl,rfl,g8⟩,g9,hM⟩
  ·have hl:l=[]:=by simpa [Zg] using bq
   subst hl;refine (Zs8 Tryz.lays169 Tryz.Builder_Extra_169 w.heap.size (e.β 0) v0 w dh).mono fun en w' ⟨h1,h2⟩=>?_
   exact ⟨h1,grown w' (ZEC h2)⟩
  have lf:sz=1:=by
   have:(Tryz.prog.info? 5).map (·.size)=some sz:=g1
   rw [Zzo] at this;cases this;rfl
  subst lf;rw [Y4] at g5 dh g9 hM hd
  by_cases hl:l=[]
  ·subst hl;refine (Zp0 Tryz.lays169 Tryz.Builder_Extra_169 w.heap.size (e.β 0) g cap v0 w oM dh).mono fun en w' ⟨h1,h2⟩=>?_
   exact ⟨h1,grown w' (ZEC h2)⟩
  have ay:∀j x,l[j]?=some x->w.cell? ⟨g,j,none⟩=some (.int .u8 x.toNat):=by
   exact mq29
  obtain ⟨fz',rb,hfa,hfb⟩:=Znf w g l.length g6 g9.1 (fun o ho=>g9.2 o oM);refine (Znb Tryz.lays169 Tryz.Builder_Extra_169 (e.β 0) g cap v0 cs fz l w hl dh g6 oM oM oM ay).mono fun en w' ⟨h1,h2⟩=>?_
  rw [h2];refine ⟨h1,fin _ ?_ ?_ ?_ ?_ ?_ ?_ ?_ ?_⟩
  ·unfold World.freeze;split <;> first | exact Tz _ | (simp only [Array.size_modify];exact Tz _)
  ·exact mq164
  ·exact mq164
  ·exact mq164
  ·exact mq115
  ·intro b hb hq
   exact VO w g l.length b fun h=>hq _ hM h.symm
  ·intro v hv
   exact hv.refreeze hM rb g6 hfa (by simpa [Y4] using hfb)
  intro q hq
  rw [hM] at hq;cases hq;exact ⟨_,_,_,rb⟩
 exact h.elim
end Go.PM.Lex
end

section
namespace Go.PM.Lex
open Go.Proofs
variable {w0:World} {nG:Nat}
def Zx5 {n:Nat}:OKw w0 nG [(144,ZgT),(204,ZgS (YI ZW) Zj7 exT wE n)] 203 (Zp1 204 ZW Zj7 exT wE n):=by
 refine pwo Tryz.func203 fun args σ K h=>?_
 unfold Zp1 at h
 split at h
 ·rename_i r bt g t e rows tp
  obtain ⟨l,pl,xs,rfl,rfl,⟨rfl,rfl,rfl⟩,⟨bo,hz,hn⟩,aa,h⟩:=h;have cg:(xs.map (ZW pl)).length=xs.length:=Te ..;have hsz:=ZA wE xs;refine pwv [(1,⟨[12],[0,1,2,3,10,11],fun vs σ=>∃i:Nat,vs=[.d (.int .i64 i)]/\σ=⟨[.cells 119 [.ptr 0 0,.sl 0 5 (Zg (l++Zi bt ((xs.take i).map exT)))],.cells tp [.ptr 0 0]],[0],1⟩/\i<=xs.length,mu1 xs.length⟩)] 2 true ?_;refine ⟨⟨0,rfl,(by simp only [T8,TM,Zi,T2];rfl),oM⟩,?_⟩;intro vs σ hI
  obtain ⟨i,rfl,rfl,hi⟩:=hI;(conv=>whnf);refine ZEw (fun ac=>wN ?_) (fun ac=>?_)
  ·have ac:i<xs.length:=lzI cg ac;have hg:=ZE wE xs i ac;have ji:Zj7 xs[i]=true:=Tq.1 bo _ (TE ac);have cu:=VW bt exT ac;have ar:=ZaG bt exT xs (i+1);obtain ⟨eA,hA⟩:∃x,xs[i]=x:=⟨_,rfl⟩
   obtain ⟨a1,a2,a3,a4,a5⟩:=eA;rw [hA] at hg ji cu;have cn:(xs.map (ZW pl))[((i:Nat):Int).toNat]?=some (ZW pl (.mk a1 a2 a3 a4 a5)):=by simp [ac,hA]
   refine ⟨_,oM,cn,wN ?_⟩;refine ZEw (fun h0=>wN ?_) (fun h0=>?_)
   ·have h0:0<i:=by omega
    rw [Tf oM] at cu;rw [cu] at ar;simp only [Ta] at ar;refine wk _ bt ⟨rfl,rfl⟩ (wN ?_);refine ⟨l++Zi bt ((xs.take i).map exT)++bt,pl,(.mk a1 a2 a3 a4 a5),rfl,rfl,⟨rfl,rfl⟩,⟨ji,oM,oM⟩,by simp only [Ta];omega,wN ?_⟩;exact mq71
   obtain rfl:i=0:=by omega
   rw [Th rfl] at cu;rw [cu] at ar;(conv=>whnf);refine ⟨l++Zi bt ((xs.take 0).map exT),pl,(.mk a1 a2 a3 a4 a5),rfl,rfl,⟨rfl,rfl⟩,⟨ji,oM,oM⟩,by simp only [T8,TM,Zi,Ta,Tg];omega,wN ?_⟩;exact mq66
  exact mq183
 exact h.elim
def ZuD {n:Nat} (h:PC w0 nG 205 (Zti n)):PC w0 nG 148 (Ztj n) :=
 ZCH ⟨ZaE,Zx5 ⟨Zp2,ZAN ⟨h,trivial⟩,trivial⟩,trivial⟩
def cWE (hN:NumOK w0 nG) (hL:LexC w0 nG):∀n,PC w0 nG 205 (Zti n)
 | 0=>ZAQ ⟨Zs7,ZaE,Z0 (Zl Tryz.func205 kR rfl),Z0 (Zl Tryz.func148 kR rfl),Zp5 hN,Zp8 hN,hL.quote,trivial⟩
 | n+1=>ZAQ ⟨Zs7,ZaE,Z1 (sp:=Zti) (cWE hN hL n),Z1 (sp:=Ztj) (ZuD (cWE hN hL n)),Zp5 hN,Zp8 hN,hL.quote,trivial⟩
def Zqg:Zm:=fun args σ K=>match args,σ with
 | [.ptr 0 0,.d (.int .i64 c)],⟨[.cells t [p,.sl 0 e rows]],[0],1⟩=>∃l:Bs,(rows=Zg l/\t=119/\e=5/\(p=.d .nilp\/p=.ptr 0 0)/\l.length<70368744177664) /\
   ((c=3\/c=151->K (.ret (.tuple [.d (.str []),.d (.int .i64 3)])) ⟨[.cells t [p,.sl 0 e rows]],[0],1⟩)/\(c≠3/\c≠151->K (.ret (.tuple [.d (.str l),.d (.int .i64 0)])) ⟨[.cells t [p,.sl 0 e rows]],[0],1⟩))
 | _,_=>False
def Zx6:Tbl:=[(47,ZaH)]
def Zx7:PC w0 nG 48 Zqg:=by
 refine pwt (tbl:=Zx6) ⟨ZfC,trivial⟩ Tryz.func48 fun args σ K h=>?_
 unfold Zqg at h
 split at h
 ·rename_i c t p e rows
  obtain ⟨l,⟨rfl,rfl,rfl,hp,aa⟩,ha,hb⟩:=h;refine pwu [] 1 true ?_;rcases hp with rfl | rfl
  all_goals
   conv=>whnf
   refine ZEw (fun c1=>wN ?_) (fun c1=>wN ?_)
   ·exact ha (.inl c1)
   refine ZEw (fun c2=>wN ?_) (fun c2=>wN ?_)
   ·exact ha (.inr c2)
   refine ⟨l,⟨rfl,rfl,rfl,iM,aa⟩,?_⟩;(conv=>whnf);exact hb ⟨c1,c2⟩
 exact h.elim
def Zd2 (txt:Bs) {α:Type}:Top α->Bs×Nat
 | .ok _ _=>(txt,0)
 | .err _ e=>if e=3\/e=151 then ([],3) else (txt,0)
def nmT (s:Bs):T0:=⟨1,s,0⟩
def sgT (s:Bs):T0:=⟨4,s,0⟩
def ZuE (sep:Bs):List Ts->Ts
 | []=>[]
 | x::l=>sgT sep::(x++ZuE sep l)
def Zx8 (sep:Bs):List Ts->Ts
 | []=>[]
 | x::l=>x++ZuE sep l
def ZBF (want:Nat) (p:Nat×Ts):Ts:=if p.1<want then sgT [40]::(p.2++[sgT [41]]) else p.2
def opT (op:Nat):T0:=if 15<=op/\op<=19 then nmT (VR op) else sgT (VR op)
def ZDo (w1 w2:Nat) (mid:Ts):List (Nat×Ts)->Ts
 | []=>[]
 | [a]=>ZBF w1 a
 | a::b::_=>ZBF w1 a++(mid++ZBF w2 b)
def brK (fr fin:Bs) (ps:List Ts):Ts:=sgT fr::(Zx8 [44] ps++[sgT fin])
def ZDL (op:Nat) (text:Bs) (n:Int) (ps:List (Nat×Ts)):Ts :=
 if ZY op<5 then ZDo (ZY op) (ZY op+1) [opT op] ps
 else if ZY op=5 then sgT (VR op)::ZDo 5 5 [] ps
 else if VR op≠[] then nmT (VR op)::brK [40] [41] (ps.map Prod.snd)
 else if op=6 then brK [91] [93] (ps.map Prod.snd)
 else if op=7 then sgT [36]::nmT text::(if ps.length=0 then [] else brK [40] [41] (ps.map Prod.snd))
 else if op=3 then [⟨2,[],n⟩]
 else if op=4 then [⟨3,text,0⟩]
 else if op=5 then [nmT [110,105,108]]
 else if op=2 then [nmT [95]]
 else [nmT text]
mutual
def exK:Ex->Ts
 | .mk op text n args _=>ZDL op text n (ZDp args)
def ZDp:List Ex->List (Nat×Ts)
 | []=>[]
 | e::l=>(ZY (opE e),exK e)::ZDp l
end
def ZDq (want:Nat) (e:Ex):Ts:=ZBF want (ZY (opE e),exK e)
def Lim {α:Type} (x:R α):Prop:=∃p,x=.err p 3\/x=.err p 151
def Rd {α β:Type} (er:α->β) (v:α) (r:Ts) (x:R α):Prop:=(∃v',er v'=er v/\x=.ok v' r)\/Lim x
def Lim.bind {α β:Type} {x:R α} {f:α->Ts->R β} (h:Lim x):Lim (x.bind f):=by
 obtain ⟨p,rfl | rfl⟩:=h
 ·exact ⟨p,.inl rfl⟩
 exact ⟨p,.inr rfl⟩
def Rd.bind {α β γ δ:Type} {er:α->β} {er2:γ->δ} {v:α} {u:γ} {r s:Ts} {x:R α} {f:α->Ts->R γ} (h:Rd er v r x) (hf:∀v',er v'=er v->Rd er2 u s (f v' r)):Rd er2 u s (x.bind f):=by
 rcases h with ⟨v',e,rfl⟩ | h
 ·exact hf v' e
 exact .inr h.bind
def Rd.ok {α β:Type} {er:α->β} {v v':α} {r:Ts} (h:er v'=er v):Rd er v r (.ok v' r):=.inl ⟨v',h,rfl⟩
def Rd.id {α:Type} {v:α} {r:Ts}:Rd (fun x:α=>x) v r (.ok v r):=.inl ⟨v,rfl,rfl⟩
def Rd.binds {α γ δ:Type} {er2:γ->δ} {v:α} {u:γ} {r s:Ts} {x:R α} {f:α->Ts->R γ} (h:Rd (fun x:α=>x) v r x) (hf:Rd er2 u s (f v r)):Rd er2 u s (x.bind f):=h.bind fun v' e=>by cases (show v'=v from e);exact hf
structure Nx (r:Ts):Prop where
 par:isW r [[40]]=false
 bin:(Zcf r).1=0
def ZuF {l:List Ex} (h:l.length=2):∃a b,l=[a,b]:=by match l,h with | [a,b],_=>exact ⟨a,b,rfl⟩
def ZAR {l:List Ex} (h:l.length=1):∃a,l=[a]:=by match l,h with | [a],_=>exact ⟨a,rfl⟩
def Ln (e:Ex) (r:Ts) (sub:Nat->Ts->R Ex) (least:Nat) (x:R Ex):Prop:=(∃f e',r.length<f/\erE e'=erE e/\x=Zas sub least f e' r)\/Lim x
structure ExR (e:Ex):Prop where
 sg:∀d r,isW r [[40]]=false->Rd erE e r (XA d (ZDq 5 e++r))
 ln:∀d k w l r,w<=l->l<=5->6<=k+w->isW r [[40]]=false->(Zcf r).1<l+2->Ln e r (JI (XA d) (k - 1)) (w+1) (JI (XA d) k (w+1) (ZDq l e++r))
def Zx9 {op:Nat} {rel:Bs} {args:List Ex} {body:List Li} {a:Nat} (h:YJ (.mk op rel args body a)=true):YV op rel args.length body.length=true/\(∀x∈args,Yj x=true)/\∀x∈body,YJ x=true:=by
 simp only [YJ,Zx,Xj,Tm] at h;exact ⟨h.1,Tq.1 h.2.1,Tq.1 h.2.2⟩
def Zya {op:Nat} {rel:Bs} {na nb:Nat} (h:YV op rel na nb=true):((op=1\/op=2)/\Xi rel=true/\nb=0)\/(3<=op/\op<=8/\rel=[]/\na=2/\nb=0)\/(op=9/\rel=[]/\na=1/\0<nb)\/(9<op/\op<=12/\rel=[]/\na=2/\0<nb):=by
 unfold YV at h
 split at h
 ·rename_i c
  simp only [Tm,TZ,decide_eq_false_iff_not] at h;exact .inl ⟨c,h.1,oM⟩
 split at h
 ·rename_i c
  simp only [Tm,TZ,decide_eq_false_iff_not,TQ] at h;exact .inr (.inl ⟨c.1,c.2,h.1,h.2.1,oM⟩)
 split at h
 ·rename_i c
  simp only [Tm,TQ] at h;exact .inr (.inr (.inl ⟨c,h.1,h.2.1,h.2.2⟩))
 split at h
 ·rename_i c
  simp only [Tm,TQ] at h;exact .inr (.inr (.inr ⟨c.1,c.2,h.1,h.2.1,h.2.2⟩))
 cases h
def Ztk (x:Li):Bool:=YJ x && ZuB x
def Zyb {op:Nat} {rel:Bs} {args:List Ex} {body:List Li} {a:Nat} (h:Ztk (.mk op rel args body a)=true):YV op rel args.length body.length=true/\(∀x∈args,Zj7 x=true)/\∀x∈body,Ztk x=true:=by
 simp only [Ztk,Tm] at h;obtain ⟨h1,h2⟩:=h;obtain ⟨m1,m2,m3⟩:=Zx9 h1;obtain ⟨r1,r2⟩:=Zqa h2;exact ⟨m1,fun x hx=>by rw [Zj7,m2 x hx,r1 x hx];rfl,fun x hx=>by rw [Ztk,m3 x hx,r2 x hx];rfl⟩
def ZAS (n:Nat):Zm:=ZiY (.tuple []) fun rest txt=>∃pl x,rest=[YI Xp pl x]/\(Ztk x=true/\wL x<=n/\n<=1073741824)/\txt=liT x
def Zng (n:Nat):Zm:=fun args σ K=>match args,σ with
 | [.ptr 0 0,.d (.sl r),.d (.str bt),.func g [.ptr 0 0] []],⟨[.cells t [p,.sl 0 e rows]],[0],1⟩=>∃l pl xs,rows=Zg l/\r=xs.map (Xp pl)/\(p=.ptr 0 0/\t=119/\e=5/\g=150)/\(xs.all Ztk=true/\szS wL xs<=n/\n<=1073741824)/\l.length+(Zi bt (xs.map liT)).length<70368744177664 /\
   K (.ret (.tuple [])) ⟨[.cells t [.ptr 0 0,.sl 0 e (Zg (l++Zi bt (xs.map liT)))]],[0],1⟩
 | _,_=>False
def ZAU {n:Nat}:OKw w0 nG [(144,ZgT),(150,ZAS n)] 149 (Zng n):=by
 refine pwo Tryz.func149 fun args σ K h=>?_
 unfold Zng at h
 split at h
 ·rename_i r bt g t p e rows
  obtain ⟨l,pl,xs,rfl,rfl,⟨rfl,rfl,rfl,rfl⟩,⟨bo,hz,hn⟩,aa,h⟩:=h;have cg:(xs.map (Xp pl)).length=xs.length:=Te ..;have hsz:=ZA wL xs;refine pwv [(1,⟨[12],[0,1,2,3,10,11],fun vs σ=>∃i:Nat,vs=[.d (.int .i64 i)]/\σ=⟨[.cells 119 [.ptr 0 0,.sl 0 5 (Zg (l++Zi bt ((xs.take i).map liT)))]],[0],1⟩/\i<=xs.length,mu1 xs.length⟩)] 1 true ?_;refine ⟨⟨0,rfl,(by simp only [T8,TM,Zi,T2];rfl),oM⟩,?_⟩;intro vs σ hI
  obtain ⟨i,rfl,rfl,hi⟩:=hI;(conv=>whnf);refine ZEw (fun ac=>wN ?_) (fun ac=>?_)
  ·have ac:i<xs.length:=lzI cg ac;have hg:=ZE wL xs i ac;have ji:Ztk xs[i]=true:=Tq.1 bo _ (TE ac);have cu:=VW bt liT ac;have ar:=ZaG bt liT xs (i+1);obtain ⟨eA,hA⟩:∃x,xs[i]=x:=⟨_,rfl⟩
   obtain ⟨a1,a2,a3,a4,a5⟩:=eA;rw [hA] at hg ji cu;have cn:(xs.map (Xp pl))[((i:Nat):Int).toNat]?=some (Xp pl (.mk a1 a2 a3 a4 a5)):=by simp [ac,hA]
   refine ⟨_,oM,cn,wN ?_⟩;refine ZEw (fun h0=>wN ?_) (fun h0=>?_)
   ·have h0:0<i:=by omega
    rw [Tf oM] at cu;rw [cu] at ar;simp only [Ta] at ar;refine wk _ bt ⟨rfl,rfl⟩ (wN ?_);refine wk _ (liT (.mk a1 a2 a3 a4 a5)) ⟨pl,(.mk a1 a2 a3 a4 a5),rfl,⟨ji,oM,oM⟩,rfl⟩ (wN ?_);exact mq71
   obtain rfl:i=0:=by omega
   rw [Th rfl] at cu;rw [cu] at ar;(conv=>whnf);refine ⟨l++Zi bt ((xs.take 0).map liT),liT (.mk a1 a2 a3 a4 a5),rfl,⟨.inr rfl,rfl,rfl⟩,⟨pl,(.mk a1 a2 a3 a4 a5),rfl,⟨ji,oM,oM⟩,rfl⟩,by simp only [T8,TM,Zi,Ta,Tg];omega,wN ?_⟩;exact mq66
  exact mq183
 exact h.elim
def ZAV (n:Nat):Tbl:=[(81,ZeC),(148,Ztj n),(205,Zti n),(149,spB Zng n)]
def ZAW {n:Nat} (ht:TO w0 nG (ZAV n)):PC w0 nG 150 (ZAS n):=by
 refine YF ZC mixed (tbl:=ZAV n) ht Tryz.func150 rfl kR kR ?_;intro args σ K h
 unfold ZAS ZiY at h
 split at h
 ·rename_i rest t p e rows
  obtain ⟨l,txt,rfl,⟨hp,rfl,rfl⟩,⟨pl,⟨op,rel,xs,body,at'⟩,rfl,⟨bo,hz,hn⟩,rfl⟩,aa,h⟩:=h;obtain ⟨m1,m2,m3⟩:=Zyb bo;have eg:szS wE xs+szS wL body+rel.length+1<=n:=by rw [wL,Zis] at hz;omega
  refine ⟨Zk [],Ye [(13,2)],ZB [],1,true,sM,Tc rfl,?_⟩;have wc:((op=1\/op=2)/\Xi rel=true/\body.length=0)\/(3<=op/\op<=8/\rel=[]/\xs.length=2/\body.length=0)\/(op=9/\rel=[]/\xs.length=1/\0<body.length)\/(9<op/\op<=12/\rel=[]/\xs.length=2/\0<body.length):=Zya m1;rcases wc with ⟨fg,z4,hb⟩ | ⟨c1,c2,rfl,ca,hb⟩ | ⟨rfl,rfl,dv,hb⟩ | ⟨c1,c2,rfl,ca,hb⟩
  ·rcases fg with rfl | rfl
   ·rcases hp with rfl | rfl
    all_goals
     have hx:liT (.mk 1 rel xs body at')=rel++Wm [40] [41] xs:=by rw [liT];rfl
     rw [hx] at h aa
     (try simp only [Ta,Td,Tg] at aa)
     conv=>whnf
     refine wk _ rel ⟨[rel],rfl,sM,sM,sM⟩ ?_;(conv=>whnf);refine wk _ (Wm [40] [41] xs) ⟨[40],[41],pl,xs,rfl,⟨Tq.2 m2,oM,oM⟩,rfl⟩ ?_;rw [show l++(rel++Wm [40] [41] xs)=l++rel++Wm [40] [41] xs by simp only [Tn]] at h;(conv=>whnf);exact h
   rcases hp with rfl | rfl
   all_goals
    have hx:liT (.mk 2 rel xs body at')=[33]++(rel++Wm [40] [41] xs):=by rw [liT];rfl
    rw [hx] at h aa
    (try simp only [Ta,Td,Tg] at aa)
    conv=>whnf
    refine wk _ [33] ⟨[[33]],rfl,sM,sM,sM⟩ ?_;(conv=>whnf);refine wk _ rel ⟨[rel],rfl,sM,sM,sM⟩ ?_;(conv=>whnf);refine wk _ (Wm [40] [41] xs) ⟨[40],[41],pl,xs,rfl,⟨Tq.2 m2,oM,oM⟩,rfl⟩ ?_;rw [show l++([33]++(rel++Wm [40] [41] xs))=l++[33]++rel++Wm [40] [41] xs by simp only [Tn]] at h;(conv=>whnf);exact h
  ·obtain ⟨x0,x1,rfl⟩:=ZuF ca;simp only [szS] at eg;have g0:=m2 x0 sM;have g1:=m2 x1 sM;have z0:wE x0<=n:=oM;have z1:wE x1<=n:=oM;obtain ⟨o0,t0,n0,y0,q0⟩:=x0;obtain ⟨o1,t1,n1,y1,q1⟩:=x1;obtain rfl | rfl | rfl | rfl | rfl | rfl:op=3\/op=4\/op=5\/op=6\/op=7\/op=8:=oM
   ·rcases hp with rfl | rfl
    all_goals
     have hx:liT (.mk 3 [] [(.mk o0 t0 n0 y0 q0),(.mk o1 t1 n1 y1 q1)] body at')=exW 0 (.mk o0 t0 n0 y0 q0)++([32,61,32]++exW 0 (.mk o1 t1 n1 y1 q1)):=by rw [liT,Vv,Vv];rfl
     rw [hx] at h aa
     (try simp only [Ta,Td,Tg] at aa)
     conv=>whnf
     refine ⟨_,dM,rfl,wN ?_⟩;refine wk _ (exW 0 (.mk o0 t0 n0 y0 q0)) ⟨pl,(.mk o0 t0 n0 y0 q0),0,rfl,⟨g0,oM,oM,oM,oM⟩,rfl⟩ ?_;(conv=>whnf);refine Or.inl ⟨InR.u8 dM dM,wN ?_⟩;refine ⟨dM,dM,wN ?_⟩;refine wk _ [32,61,32] ⟨[[32,61,32]],rfl,sM,sM,sM⟩ ?_;(conv=>whnf);refine ⟨_,dM,rfl,wN ?_⟩;refine wk _ (exW 0 (.mk o1 t1 n1 y1 q1)) ⟨pl,(.mk o1 t1 n1 y1 q1),0,rfl,⟨g1,oM,oM,oM,oM⟩,rfl⟩ ?_;rw [show l++(exW 0 (.mk o0 t0 n0 y0 q0)++([32,61,32]++exW 0 (.mk o1 t1 n1 y1 q1)))=l++exW 0 (.mk o0 t0 n0 y0 q0)++[32,61,32]++exW 0 (.mk o1 t1 n1 y1 q1) by simp only [Tn]] at h;(conv=>whnf);exact h
   ·rcases hp with rfl | rfl
    all_goals
     have hx:liT (.mk 4 [] [(.mk o0 t0 n0 y0 q0),(.mk o1 t1 n1 y1 q1)] body at')=exW 0 (.mk o0 t0 n0 y0 q0)++([32,33,61,32]++exW 0 (.mk o1 t1 n1 y1 q1)):=by rw [liT,Vv,Vv];rfl
     rw [hx] at h aa
     (try simp only [Ta,Td,Tg] at aa)
     conv=>whnf
     refine ⟨_,dM,rfl,wN ?_⟩;refine wk _ (exW 0 (.mk o0 t0 n0 y0 q0)) ⟨pl,(.mk o0 t0 n0 y0 q0),0,rfl,⟨g0,oM,oM,oM,oM⟩,rfl⟩ ?_;(conv=>whnf);refine Or.inl ⟨InR.u8 dM dM,wN ?_⟩;refine ⟨dM,dM,wN ?_⟩;refine wk _ [32,33,61,32] ⟨[[32,33,61,32]],rfl,sM,sM,sM⟩ ?_;(conv=>whnf);refine ⟨_,dM,rfl,wN ?_⟩;refine wk _ (exW 0 (.mk o1 t1 n1 y1 q1)) ⟨pl,(.mk o1 t1 n1 y1 q1),0,rfl,⟨g1,oM,oM,oM,oM⟩,rfl⟩ ?_;rw [show l++(exW 0 (.mk o0 t0 n0 y0 q0)++([32,33,61,32]++exW 0 (.mk o1 t1 n1 y1 q1)))=l++exW 0 (.mk o0 t0 n0 y0 q0)++[32,33,61,32]++exW 0 (.mk o1 t1 n1 y1 q1) by simp only [Tn]] at h;(conv=>whnf);exact h
   ·rcases hp with rfl | rfl
    all_goals
     have hx:liT (.mk 5 [] [(.mk o0 t0 n0 y0 q0),(.mk o1 t1 n1 y1 q1)] body at')=exW 0 (.mk o0 t0 n0 y0 q0)++([32,60,32]++exW 0 (.mk o1 t1 n1 y1 q1)):=by rw [liT,Vv,Vv];rfl
     rw [hx] at h aa
     (try simp only [Ta,Td,Tg] at aa)
     conv=>whnf
     refine ⟨_,dM,rfl,wN ?_⟩;refine wk _ (exW 0 (.mk o0 t0 n0 y0 q0)) ⟨pl,(.mk o0 t0 n0 y0 q0),0,rfl,⟨g0,oM,oM,oM,oM⟩,rfl⟩ ?_;(conv=>whnf);refine Or.inl ⟨InR.u8 dM dM,wN ?_⟩;refine ⟨dM,dM,wN ?_⟩;refine wk _ [32,60,32] ⟨[[32,60,32]],rfl,sM,sM,sM⟩ ?_;(conv=>whnf);refine ⟨_,dM,rfl,wN ?_⟩;refine wk _ (exW 0 (.mk o1 t1 n1 y1 q1)) ⟨pl,(.mk o1 t1 n1 y1 q1),0,rfl,⟨g1,oM,oM,oM,oM⟩,rfl⟩ ?_;rw [show l++(exW 0 (.mk o0 t0 n0 y0 q0)++([32,60,32]++exW 0 (.mk o1 t1 n1 y1 q1)))=l++exW 0 (.mk o0 t0 n0 y0 q0)++[32,60,32]++exW 0 (.mk o1 t1 n1 y1 q1) by simp only [Tn]] at h;(conv=>whnf);exact h
   ·rcases hp with rfl | rfl
    all_goals
     have hx:liT (.mk 6 [] [(.mk o0 t0 n0 y0 q0),(.mk o1 t1 n1 y1 q1)] body at')=exW 0 (.mk o0 t0 n0 y0 q0)++([32,60,61,32]++exW 0 (.mk o1 t1 n1 y1 q1)):=by rw [liT,Vv,Vv];rfl
     rw [hx] at h aa
     (try simp only [Ta,Td,Tg] at aa)
     conv=>whnf
     refine ⟨_,dM,rfl,wN ?_⟩;refine wk _ (exW 0 (.mk o0 t0 n0 y0 q0)) ⟨pl,(.mk o0 t0 n0 y0 q0),0,rfl,⟨g0,oM,oM,oM,oM⟩,rfl⟩ ?_;(conv=>whnf);refine Or.inl ⟨InR.u8 dM dM,wN ?_⟩;refine ⟨dM,dM,wN ?_⟩;refine wk _ [32,60,61,32] ⟨[[32,60,61,32]],rfl,sM,sM,sM⟩ ?_;(conv=>whnf);refine ⟨_,dM,rfl,wN ?_⟩;refine wk _ (exW 0 (.mk o1 t1 n1 y1 q1)) ⟨pl,(.mk o1 t1 n1 y1 q1),0,rfl,⟨g1,oM,oM,oM,oM⟩,rfl⟩ ?_;rw [show l++(exW 0 (.mk o0 t0 n0 y0 q0)++([32,60,61,32]++exW 0 (.mk o1 t1 n1 y1 q1)))=l++exW 0 (.mk o0 t0 n0 y0 q0)++[32,60,61,32]++exW 0 (.mk o1 t1 n1 y1 q1) by simp only [Tn]] at h;(conv=>whnf);exact h
   ·rcases hp with rfl | rfl
    all_goals
     have hx:liT (.mk 7 [] [(.mk o0 t0 n0 y0 q0),(.mk o1 t1 n1 y1 q1)] body at')=exW 0 (.mk o0 t0 n0 y0 q0)++([32,62,32]++exW 0 (.mk o1 t1 n1 y1 q1)):=by rw [liT,Vv,Vv];rfl
     rw [hx] at h aa
     (try simp only [Ta,Td,Tg] at aa)
     conv=>whnf
     refine ⟨_,dM,rfl,wN ?_⟩;refine wk _ (exW 0 (.mk o0 t0 n0 y0 q0)) ⟨pl,(.mk o0 t0 n0 y0 q0),0,rfl,⟨g0,oM,oM,oM,oM⟩,rfl⟩ ?_;(conv=>whnf);refine Or.inl ⟨InR.u8 dM dM,wN ?_⟩;refine ⟨dM,dM,wN ?_⟩;refine wk _ [32,62,32] ⟨[[32,62,32]],rfl,sM,sM,sM⟩ ?_;(conv=>whnf);refine ⟨_,dM,rfl,wN ?_⟩;refine wk _ (exW 0 (.mk o1 t1 n1 y1 q1)) ⟨pl,(.mk o1 t1 n1 y1 q1),0,rfl,⟨g1,oM,oM,oM,oM⟩,rfl⟩ ?_;rw [show l++(exW 0 (.mk o0 t0 n0 y0 q0)++([32,62,32]++exW 0 (.mk o1 t1 n1 y1 q1)))=l++exW 0 (.mk o0 t0 n0 y0 q0)++[32,62,32]++exW 0 (.mk o1 t1 n1 y1 q1) by simp only [Tn]] at h;(conv=>whnf);exact h
   rcases hp with rfl | rfl
   all_goals
    have hx:liT (.mk 8 [] [(.mk o0 t0 n0 y0 q0),(.mk o1 t1 n1 y1 q1)] body at')=exW 0 (.mk o0 t0 n0 y0 q0)++([32,62,61,32]++exW 0 (.mk o1 t1 n1 y1 q1)):=by rw [liT,Vv,Vv];rfl
    rw [hx] at h aa
    (try simp only [Ta,Td,Tg] at aa)
    conv=>whnf
    refine ⟨_,dM,rfl,wN ?_⟩;refine wk _ (exW 0 (.mk o0 t0 n0 y0 q0)) ⟨pl,(.mk o0 t0 n0 y0 q0),0,rfl,⟨g0,oM,oM,oM,oM⟩,rfl⟩ ?_;(conv=>whnf);refine Or.inl ⟨InR.u8 dM dM,wN ?_⟩;refine ⟨dM,dM,wN ?_⟩;refine wk _ [32,62,61,32] ⟨[[32,62,61,32]],rfl,sM,sM,sM⟩ ?_;(conv=>whnf);refine ⟨_,dM,rfl,wN ?_⟩;refine wk _ (exW 0 (.mk o1 t1 n1 y1 q1)) ⟨pl,(.mk o1 t1 n1 y1 q1),0,rfl,⟨g1,oM,oM,oM,oM⟩,rfl⟩ ?_;rw [show l++(exW 0 (.mk o0 t0 n0 y0 q0)++([32,62,61,32]++exW 0 (.mk o1 t1 n1 y1 q1)))=l++exW 0 (.mk o0 t0 n0 y0 q0)++[32,62,61,32]++exW 0 (.mk o1 t1 n1 y1 q1) by simp only [Tn]] at h;(conv=>whnf);exact h
  ·obtain ⟨x0,rfl⟩:=ZAR dv;simp only [szS] at eg;have g0:=m2 x0 sM;have z0:wE x0<=n:=oM;obtain ⟨o0,t0,n0,y0,q0⟩:=x0;rcases hp with rfl | rfl
   all_goals
    have hx:liT (.mk 9 [] [(.mk o0 t0 n0 y0 q0)] body at')=exW 0 (.mk o0 t0 n0 y0 q0)++(([32,61,32]++[99,111,117,110,116])++([32,58,32,123,32]++(Zi cmm (body.map liT)++([32,125])))):=by rw [liT,Zdy,Vv];simp [Zk6,Zsh,ZjH]
    rw [hx] at h aa
    (try simp only [Ta,Td,Tg] at aa)
    conv=>whnf
    refine ⟨_,dM,rfl,wN ?_⟩;refine wk _ (exW 0 (.mk o0 t0 n0 y0 q0)) ⟨pl,(.mk o0 t0 n0 y0 q0),0,rfl,⟨g0,oM,oM,oM,oM⟩,rfl⟩ ?_;(conv=>whnf);refine Or.inl ⟨InR.u8 dM dM,wN ?_⟩;refine ⟨dM,dM,wN ?_⟩;refine wk _ ([32,61,32]++[99,111,117,110,116]) ⟨[[32,61,32],[99,111,117,110,116]],rfl,sM,sM,sM⟩ ?_;(conv=>whnf);refine ⟨fun r hr=>?_,dM,by rw [Ze];simp,wN ?_⟩
    ·rw [Ze] at hr;simp only [TD,TM,Tv,Sv,or_false] at hr;rcases hr with rfl;rfl
    refine wk _ [32,58,32,123,32] ⟨[[32,58,32,123,32]],rfl,sM,sM,sM⟩ ?_;(conv=>whnf);refine ⟨oM,l++exW 0 (.mk o0 t0 n0 y0 q0)++([32,61,32]++[99,111,117,110,116])++[32,58,32,123,32],pl,body,rfl,ZD pl body,⟨rfl,rfl,rfl,rfl⟩,⟨Tq.2 m3,oM,oM⟩,(by (try simp only [Ta,Td,Tg]);show _+(Zi cmm (body.map liT)).length<_;omega),?_⟩;(conv=>whnf);refine wk (l++exW 0 (.mk o0 t0 n0 y0 q0)++([32,61,32]++[99,111,117,110,116])++[32,58,32,123,32]++Zi cmm (body.map liT)) [32,125] ⟨[[32,125]],rfl,sM,sM,sM⟩ ?_;rw [show l++(exW 0 (.mk o0 t0 n0 y0 q0)++(([32,61,32]++[99,111,117,110,116])++([32,58,32,123,32]++(Zi cmm (body.map liT)++([32,125])))))=l++exW 0 (.mk o0 t0 n0 y0 q0)++([32,61,32]++[99,111,117,110,116])++[32,58,32,123,32]++Zi cmm (body.map liT)++[32,125] by simp only [Tn]] at h;(conv=>whnf);exact h
  obtain ⟨x0,x1,rfl⟩:=ZuF ca;simp only [szS] at eg;have g0:=m2 x0 sM;have g1:=m2 x1 sM;have z0:wE x0<=n:=oM;have z1:wE x1<=n:=oM;obtain ⟨o0,t0,n0,y0,q0⟩:=x0;obtain ⟨o1,t1,n1,y1,q1⟩:=x1;obtain rfl | rfl | rfl:op=10\/op=11\/op=12:=oM
  ·rcases hp with rfl | rfl
   all_goals
    have hx:liT (.mk 10 [] [(.mk o0 t0 n0 y0 q0),(.mk o1 t1 n1 y1 q1)] body at')=exW 0 (.mk o0 t0 n0 y0 q0)++(([32,61,32]++[115,117,109])++([32]++(exW 0 (.mk o1 t1 n1 y1 q1)++([32,58,32,123,32]++(Zi cmm (body.map liT)++([32,125])))))):=by rw [liT,Zdy,Vv,Vv];simp [Zk6,Zsh,ZjH]
    rw [hx] at h aa
    (try simp only [Ta,Td,Tg] at aa)
    conv=>whnf
    refine ⟨_,dM,rfl,wN ?_⟩;refine wk _ (exW 0 (.mk o0 t0 n0 y0 q0)) ⟨pl,(.mk o0 t0 n0 y0 q0),0,rfl,⟨g0,oM,oM,oM,oM⟩,rfl⟩ ?_;(conv=>whnf);refine Or.inl ⟨InR.u8 dM dM,wN ?_⟩;refine ⟨dM,dM,wN ?_⟩;refine wk _ ([32,61,32]++[115,117,109]) ⟨[[32,61,32],[115,117,109]],rfl,sM,sM,sM⟩ ?_;(conv=>whnf);refine ⟨fun r hr=>?_,dM,by rw [Ze];simp,wN ?_⟩
    ·exact mq112
    refine ⟨_,dM,rfl,wN ?_⟩;refine wk _ [32] ⟨[[32]],rfl,sM,sM,sM⟩ ?_;(conv=>whnf);refine wk _ (exW 0 (.mk o1 t1 n1 y1 q1)) ⟨pl,(.mk o1 t1 n1 y1 q1),0,rfl,⟨g1,oM,oM,oM,oM⟩,rfl⟩ ?_;(conv=>whnf);refine Vd ?_;refine wk _ [32,58,32,123,32] ⟨[[32,58,32,123,32]],rfl,sM,sM,sM⟩ ?_;(conv=>whnf);refine ⟨oM,l++exW 0 (.mk o0 t0 n0 y0 q0)++([32,61,32]++[115,117,109])++[32]++exW 0 (.mk o1 t1 n1 y1 q1)++[32,58,32,123,32],pl,body,rfl,ZD pl body,⟨rfl,rfl,rfl,rfl⟩,⟨Tq.2 m3,oM,oM⟩,(by (try simp only [Ta,Td,Tg]);show _+(Zi cmm (body.map liT)).length<_;omega),?_⟩;(conv=>whnf);refine wk (l++exW 0 (.mk o0 t0 n0 y0 q0)++([32,61,32]++[115,117,109])++[32]++exW 0 (.mk o1 t1 n1 y1 q1)++[32,58,32,123,32]++Zi cmm (body.map liT)) [32,125] ⟨[[32,125]],rfl,sM,sM,sM⟩ ?_;rw [show l++(exW 0 (.mk o0 t0 n0 y0 q0)++(([32,61,32]++[115,117,109])++([32]++(exW 0 (.mk o1 t1 n1 y1 q1)++([32,58,32,123,32]++(Zi cmm (body.map liT)++([32,125])))))))=l++exW 0 (.mk o0 t0 n0 y0 q0)++([32,61,32]++[115,117,109])++[32]++exW 0 (.mk o1 t1 n1 y1 q1)++[32,58,32,123,32]++Zi cmm (body.map liT)++[32,125] by simp only [Tn]] at h;(conv=>whnf);exact h
  ·rcases hp with rfl | rfl
   all_goals
    have hx:liT (.mk 11 [] [(.mk o0 t0 n0 y0 q0),(.mk o1 t1 n1 y1 q1)] body at')=exW 0 (.mk o0 t0 n0 y0 q0)++(([32,61,32]++[109,105,110])++([32]++(exW 0 (.mk o1 t1 n1 y1 q1)++([32,58,32,123,32]++(Zi cmm (body.map liT)++([32,125])))))):=by rw [liT,Zdy,Vv,Vv];simp [Zk6,Zsh,ZjH]
    rw [hx] at h aa
    (try simp only [Ta,Td,Tg] at aa)
    conv=>whnf
    refine ⟨_,dM,rfl,wN ?_⟩;refine wk _ (exW 0 (.mk o0 t0 n0 y0 q0)) ⟨pl,(.mk o0 t0 n0 y0 q0),0,rfl,⟨g0,oM,oM,oM,oM⟩,rfl⟩ ?_;(conv=>whnf);refine Or.inl ⟨InR.u8 dM dM,wN ?_⟩;refine ⟨dM,dM,wN ?_⟩;refine wk _ ([32,61,32]++[109,105,110]) ⟨[[32,61,32],[109,105,110]],rfl,sM,sM,sM⟩ ?_;(conv=>whnf);refine ⟨fun r hr=>?_,dM,by rw [Ze];simp,wN ?_⟩
    ·exact mq112
    refine ⟨_,dM,rfl,wN ?_⟩;refine wk _ [32] ⟨[[32]],rfl,sM,sM,sM⟩ ?_;(conv=>whnf);refine wk _ (exW 0 (.mk o1 t1 n1 y1 q1)) ⟨pl,(.mk o1 t1 n1 y1 q1),0,rfl,⟨g1,oM,oM,oM,oM⟩,rfl⟩ ?_;(conv=>whnf);refine Vd ?_;refine wk _ [32,58,32,123,32] ⟨[[32,58,32,123,32]],rfl,sM,sM,sM⟩ ?_;(conv=>whnf);refine ⟨oM,l++exW 0 (.mk o0 t0 n0 y0 q0)++([32,61,32]++[109,105,110])++[32]++exW 0 (.mk o1 t1 n1 y1 q1)++[32,58,32,123,32],pl,body,rfl,ZD pl body,⟨rfl,rfl,rfl,rfl⟩,⟨Tq.2 m3,oM,oM⟩,(by (try simp only [Ta,Td,Tg]);show _+(Zi cmm (body.map liT)).length<_;omega),?_⟩;(conv=>whnf);refine wk (l++exW 0 (.mk o0 t0 n0 y0 q0)++([32,61,32]++[109,105,110])++[32]++exW 0 (.mk o1 t1 n1 y1 q1)++[32,58,32,123,32]++Zi cmm (body.map liT)) [32,125] ⟨[[32,125]],rfl,sM,sM,sM⟩ ?_;rw [show l++(exW 0 (.mk o0 t0 n0 y0 q0)++(([32,61,32]++[109,105,110])++([32]++(exW 0 (.mk o1 t1 n1 y1 q1)++([32,58,32,123,32]++(Zi cmm (body.map liT)++([32,125])))))))=l++exW 0 (.mk o0 t0 n0 y0 q0)++([32,61,32]++[109,105,110])++[32]++exW 0 (.mk o1 t1 n1 y1 q1)++[32,58,32,123,32]++Zi cmm (body.map liT)++[32,125] by simp only [Tn]] at h;(conv=>whnf);exact h
  rcases hp with rfl | rfl
  all_goals
   have hx:liT (.mk 12 [] [(.mk o0 t0 n0 y0 q0),(.mk o1 t1 n1 y1 q1)] body at')=exW 0 (.mk o0 t0 n0 y0 q0)++(([32,61,32]++[109,97,120])++([32]++(exW 0 (.mk o1 t1 n1 y1 q1)++([32,58,32,123,32]++(Zi cmm (body.map liT)++([32,125])))))):=by rw [liT,Zdy,Vv,Vv];simp [Zk6,Zsh,ZjH]
   rw [hx] at h aa
   (try simp only [Ta,Td,Tg] at aa)
   conv=>whnf
   refine ⟨_,dM,rfl,wN ?_⟩;refine wk _ (exW 0 (.mk o0 t0 n0 y0 q0)) ⟨pl,(.mk o0 t0 n0 y0 q0),0,rfl,⟨g0,oM,oM,oM,oM⟩,rfl⟩ ?_;(conv=>whnf);refine Or.inl ⟨InR.u8 dM dM,wN ?_⟩;refine ⟨dM,dM,wN ?_⟩;refine wk _ ([32,61,32]++[109,97,120]) ⟨[[32,61,32],[109,97,120]],rfl,sM,sM,sM⟩ ?_;(conv=>whnf);refine ⟨fun r hr=>?_,dM,by rw [Ze];simp,wN ?_⟩
   ·exact mq112
   refine ⟨_,dM,rfl,wN ?_⟩;refine wk _ [32] ⟨[[32]],rfl,sM,sM,sM⟩ ?_;(conv=>whnf);refine wk _ (exW 0 (.mk o1 t1 n1 y1 q1)) ⟨pl,(.mk o1 t1 n1 y1 q1),0,rfl,⟨g1,oM,oM,oM,oM⟩,rfl⟩ ?_;(conv=>whnf);refine Vd ?_;refine wk _ [32,58,32,123,32] ⟨[[32,58,32,123,32]],rfl,sM,sM,sM⟩ ?_;(conv=>whnf);refine ⟨oM,l++exW 0 (.mk o0 t0 n0 y0 q0)++([32,61,32]++[109,97,120])++[32]++exW 0 (.mk o1 t1 n1 y1 q1)++[32,58,32,123,32],pl,body,rfl,ZD pl body,⟨rfl,rfl,rfl,rfl⟩,⟨Tq.2 m3,oM,oM⟩,(by (try simp only [Ta,Td,Tg]);show _+(Zi cmm (body.map liT)).length<_;omega),?_⟩;(conv=>whnf);refine wk (l++exW 0 (.mk o0 t0 n0 y0 q0)++([32,61,32]++[109,97,120])++[32]++exW 0 (.mk o1 t1 n1 y1 q1)++[32,58,32,123,32]++Zi cmm (body.map liT)) [32,125] ⟨[[32,125]],rfl,sM,sM,sM⟩ ?_;rw [show l++(exW 0 (.mk o0 t0 n0 y0 q0)++(([32,61,32]++[109,97,120])++([32]++(exW 0 (.mk o1 t1 n1 y1 q1)++([32,58,32,123,32]++(Zi cmm (body.map liT)++([32,125])))))))=l++exW 0 (.mk o0 t0 n0 y0 q0)++([32,61,32]++[109,97,120])++[32]++exW 0 (.mk o1 t1 n1 y1 q1)++[32,58,32,123,32]++Zi cmm (body.map liT)++[32,125] by simp only [Tn]] at h;(conv=>whnf);exact h
 exact h.elim
def cWA (hN:NumOK w0 nG) (hL:LexC w0 nG) (n:Nat):PC w0 nG 148 (Ztj n):=ZuD (cWE hN hL n)
def Zqh {n:Nat} (h:PC w0 nG 150 (ZAS n)):PC w0 nG 149 (Zng n):=ZAU ⟨Zp2,h,trivial⟩
def cWL (hN:NumOK w0 nG) (hL:LexC w0 nG):∀n,PC w0 nG 150 (ZAS n)
 | 0=>ZAW ⟨ZaE,cWA hN hL 0,cWE hN hL 0,Z0 (Zl Tryz.func149 kR rfl),trivial⟩
 | n+1=>ZAW ⟨ZaE,cWA hN hL (n+1),cWE hN hL (n+1),Z1 (sp:=Zng) (Zqh (cWL hN hL n)),trivial⟩
def ZAX (r:Ru):Bool:=XT r && Zqb r
def Zyc {r:Ru} (h:ZAX r=true):(∀x∈r.args,Zj7 x=true)/\∀x∈r.body,Ztk x=true:=by
 simp only [ZAX,XT,Zqb,Tm] at h;obtain ⟨⟨_,h1,h2⟩,h3,h4⟩:=h;rw [Tq] at h1 h2 h3 h4;exact ⟨fun x hx=>by rw [Zj7,h1 x hx,h3 x hx];rfl,fun x hx=>by rw [Ztk,h2 x hx,h4 x hx];rfl⟩
def ZBG (n:Nat):Zm:=ZiY (.tuple []) fun rest txt=>∃pl x,rest=[YI ZS pl x]/\(ZAX x=true/\wRu x<=n/\n<=1073741824)/\txt=ruT x
def ZCI {n:Nat}:OKw w0 nG [(81,ZeC),(148,Ztj n),(149,Zng n)] 86 (ZBG n):=by
 refine pwo Tryz.func86 fun args σ K h=>?_
 unfold ZBG ZiY at h
 split at h
 ·rename_i rest t p e rows
  obtain ⟨l,txt,rfl,⟨hp,rfl,rfl⟩,⟨pl,⟨head,xs,body,at'⟩,rfl,⟨bo,hz,hn⟩,rfl⟩,aa,h⟩:=h;obtain ⟨m2,m3⟩:=Zyc bo;simp only at m2 m3;have eg:szS wE xs+szS wL body+head.length+1<=n:=by unfold wRu at hz;simp only at hz;omega
  have cp:(Y6 pl body).length=body.length:=by rw [ZD,Te]
  refine pwu [] 1 true ?_;have pr:l.length+head.length+(Wm [40] [41] xs).length+10<70368744177664+10:=by
   have e:(ruT ⟨head,xs,body,at'⟩).length>=head.length+(Wm [40] [41] xs).length:=by rw [ruT];simp only [Ta];omega
   omega
  rcases hp with rfl | rfl
  all_goals
   conv=>whnf
   refine wk _ head ⟨[head],rfl,sM,sM,sM⟩ ?_;(conv=>whnf);refine wk _ (Wm [40] [41] xs) ⟨[40],[41],pl,xs,rfl,⟨Tq.2 m2,oM,oM⟩,rfl⟩ ?_;(conv=>whnf);refine ZEw (fun c=>wN ?_) (fun c=>wN ?_)
   ·have c:0<body.length:=by have c:((Y6 pl body).length:Int)>0:=c;omega
    have hx:ruT ⟨head,xs,body,at'⟩=head++(Wm [40] [41] xs++([32,58,45,32]++(Zi cmm (body.map liT)++[46]))):=by rw [ruT,Th c,Zdy];simp
    rw [hx] at h aa;simp only [Ta,Td,Tg] at aa;refine wk _ [32,58,45,32] ⟨[[32,58,45,32]],rfl,sM,sM,sM⟩ ?_;(conv=>whnf);refine ⟨l++head++Wm [40] [41] xs++[32,58,45,32],pl,body,rfl,ZD pl body,⟨rfl,rfl,rfl,rfl⟩,⟨Tq.2 m3,oM,oM⟩,(by (try simp only [Ta,Td,Tg]);show _+(Zi cmm (body.map liT)).length<_;omega),?_⟩;(conv=>whnf);refine wk (l++head++Wm [40] [41] xs++[32,58,45,32]++Zi cmm (body.map liT)) [46] ⟨[[46]],rfl,sM,sM,sM⟩ ?_;simp only [<- Tn] at h;exact mq51
   have c:¬0<body.length:=by have c:¬((Y6 pl body).length:Int)>0:=c;omega
   have hx:ruT ⟨head,xs,body,at'⟩=head++(Wm [40] [41] xs++[46]):=by rw [ruT,Tf c,Sh]
   rw [hx] at h aa;simp only [Ta,Td,Tg] at aa;refine wk _ [46] ⟨[[46]],rfl,sM,sM,sM⟩ ?_;simp only [<- Tn] at h;exact mq51
 exact h.elim
def cWR (hN:NumOK w0 nG) (hL:LexC w0 nG) (n:Nat):PC w0 nG 86 (ZBG n):=ZCI ⟨ZaE,cWA hN hL n,Zqh (cWL hN hL n),trivial⟩
def Ztl {t:Ty} (h:Yq t=true):Xi t.name=true/\(∀f∈t.fields,YP f=true)/\(∀c∈t.cases,Xo c=true) /\
  ((t.kind=1/\Xi t.base=true/\t.fields=[]/\t.cases=[])\/(t.kind=2/\t.base=[]/\t.cases=[])\/(t.kind=3/\t.base=[]/\t.fields=[]/\t.cases≠[])):=by
 simp only [Yq,Tm] at h;obtain ⟨h1,h2,h3,h4⟩:=h;refine ⟨h2,Tq.1 h3,Tq.1 h4,?_⟩;unfold Zb1 at h1
 split at h1
 ·rename_i c
  simp only [Tm,TQ] at h1;exact .inl ⟨c,h1.1,TY h1.2.1,TY h1.2.2⟩
 split at h1
 ·rename_i c
  simp only [Tm,TQ] at h1;exact .inr (.inl ⟨c,h1.1,TY h1.2⟩)
 split at h1
 ·rename_i c
  simp only [Tm,TQ,TZ,decide_eq_false_iff_not] at h1;exact .inr (.inr ⟨c,h1.1,TY h1.2.1,fun e=>h1.2.2 (by rw [e];rfl)⟩)
 cases h1
def Zyd {tys:List Ty} {rels:List Re} {rules:List Ru} {comps:List Co} {inits:List Ini} {overs:List Ov} (h:Zey (.mk tys rels rules comps inits overs)=true) :
  (∀x∈tys,Yq x=true)/\(∀x∈rels,Wd x=true)/\(∀x∈rules,XT x=true)/\(∀x∈comps,Yl x=true)/\(∀x∈inits,WI x=true)/\∀x∈overs,W9 x=true:=by
 simp only [Zey,WJ,Tm] at h;obtain ⟨h1,h2,h3,h4,h5,h6⟩:=h;exact ⟨Tq.1 h1,Tq.1 h2,Tq.1 h3,Tq.1 h4,Tq.1 h5,Tq.1 h6⟩
end Go.PM.Lex
end

section
namespace Go.PM.Lex
open Go.Proofs Go.RowKit
variable {w0:World} {nG:Nat}
def ZAZ:Tbl:=[(81,ZeC)]
def ZA0 {n:Nat}:PC w0 nG 146 (ZgS (YI (fun _=>Zn)) YP fiT wFi n):=by
 refine pwt (tbl:=ZAZ) ⟨ZaE,trivial⟩ Tryz.func146 fun args σ K h=>?_
 unfold ZgS at h
 split at h
 ·obtain ⟨l,pl,⟨nm,ty⟩,rfl,rfl,⟨rfl,rfl⟩,⟨bo,hz,hn⟩,aa,h⟩:=h;refine pwv [] 2 true ?_;refine ⟨l,fiT ⟨nm,ty⟩,rfl,⟨.inr rfl,rfl,rfl⟩,⟨[nm,[58,32],ty],rfl,sM,sM,by simp [fiT]⟩,aa,wN ?_⟩;exact h
 exact h.elim
def ZDM (n:Nat):PC w0 nG 145 (Zp1 146 (fun _=>Zn) YP fiT wFi n):=ZxQ ⟨Zp2,ZA0,trivial⟩
def Ztm (n:Nat):Zm:=ZiY (.tuple []) fun rest txt=>∃(fr fin:Bs) (xs:List Fi),rest=[.d (.str fr),.d (.sl (xs.map Zn)),.d (.str fin)]/\(xs.all YP=true/\szS wFi xs<=n/\n<=1073741824)/\txt=Vq fr xs fin
def ZuG {n:Nat}:PC w0 nG 82 (Ztm n):=by
 refine pwt (tbl:=[(81,ZeC),(145,Zp1 146 (fun _=>Zn) YP fiT wFi n)]) ⟨ZaE,ZDM n,trivial⟩ Tryz.func82 fun args σ K h=>?_
 unfold Ztm ZiY at h
 split at h
 ·rename_i rest t p e rows
  obtain ⟨l,txt,rfl,⟨hp,rfl,rfl⟩,⟨fr,fin,xs,rfl,⟨bo,hz,hn⟩,rfl⟩,aa,h⟩:=h;have key:l++Vq fr xs fin=l++fr++Zi cmm (xs.map fiT)++fin:=by simp only [Vq,Tn]
  rw [key] at h;have aa:l.length+(fr.length+((Zi cmm (xs.map fiT)).length+fin.length))<70368744177664:=by have:=aa;simp only [Vq,Ta] at this;exact this
  refine pwu [] 1 true ?_;rcases hp with rfl | rfl
  all_goals
   conv=>whnf
   refine wk _ fr ⟨[fr],rfl,sM,sM,sM⟩ ?_;(conv=>whnf);refine ⟨l++fr,fun _=>0,xs,rfl,rfl,⟨rfl,rfl,rfl⟩,⟨bo,hz,hn⟩,by rw [Ta];show _+(Zi cmm (xs.map fiT)).length<_;omega,wN ?_⟩;refine wk (l++fr++Zi cmm (xs.map fiT)) fin ⟨[fin],rfl,sM,sM,sM⟩ (wN ?_);exact h
 exact h.elim
def ZA3 {n:Nat}:PC w0 nG 84 (ZgS (YI (fun _=>Zt)) Xo caT wCa n):=by
 refine pwt (tbl:=[(82,Ztm n)]) ⟨ZuG,trivial⟩ Tryz.func84 fun args σ K h=>?_
 unfold ZgS at h
 split at h
 ·obtain ⟨l,pl,⟨nm,fs⟩,rfl,rfl,⟨rfl,rfl⟩,⟨bo,hz,hn⟩,aa,h⟩:=h;have hm:fs.all YP=true:=by simp only [Xo,Tm] at bo;exact bo.2
  have hz:nm.length+szS wFi fs<=n:=by unfold wCa at hz;simp only at hz;omega
  refine pwv [] 2 true ?_;refine ⟨by simp only [Td,Tg];omega,wN ?_⟩;refine ⟨l,caT ⟨nm,fs⟩,rfl,⟨.inr rfl,rfl,rfl⟩,⟨nm++[32,123],[125],fs,rfl,⟨hm,oM,hn⟩,rfl⟩,aa,wN ?_⟩;exact h
 exact h.elim
def ZDN (n:Nat):PC w0 nG 83 (Zp1 84 (fun _=>Zt) Xo caT wCa n):=ZxS ⟨Zp2,ZA3,trivial⟩
end Go.PM.Lex
end

section
namespace Go.PM.Lex
open Go.Proofs
variable {w0:World} {nG:Nat}
def ZBH (x:Un):Bool:=Zey x && ZuC x
def ZA4 (x:Co):Bool:=Yl x && Zqc x
def Zye {tys:List Ty} {rels:List Re} {rules:List Ru} {comps:List Co} {inits:List Ini} {overs:List Ov} (h:ZBH (.mk tys rels rules comps inits overs)=true) :
  (∀x∈tys,Yq x=true)/\(∀x∈rels,Wd x=true)/\(∀x∈rules,ZAX x=true)/\∀x∈comps,ZA4 x=true:=by
 simp only [ZBH,Tm] at h;obtain ⟨h,hr⟩:=h;obtain ⟨m1,m2,m3,m4,m5,m6⟩:=Zyd h;simp only [ZuC,Zqd,Tm] at hr;have r1:=Tq.1 hr.1;have r2:=Tq.1 hr.2;exact ⟨m1,m2,fun x hx=>by rw [ZAX,m3 x hx,r1 x hx];rfl,fun x hx=>by rw [ZA4,m4 x hx,r2 x hx];rfl⟩
def Zro (r:Ru):Bs:=ruT r++[10]
def ZA5 (body:List PV->Bs->Prop):Zm:=fun args σ K=>match args,σ with
 | .ptr 0 0::rest,⟨[.cells t [p,.sl 0 e rows]],[0],1⟩=>∃l txt,rows=Zg l/\((p=.d .nilp\/p=.ptr 0 0)/\t=119/\e=5)/\body rest txt/\l.length+txt.length<70368744177664 /\
   ∀p',(p'=.d .nilp\/p'=.ptr 0 0)->K (.ret (.tuple [])) ⟨[.cells t [p',.sl 0 e (Zg (l++txt))]],[0],1⟩
 | _,_=>False
def ZBI (n:Nat):Zm:=ZA5 fun rest txt=>∃pl x,rest=[YI XY pl x]/\(ZBH x=true/\wUn x<=n/\n<=1073741824/\noC x)/\txt=unT x
def Zd3 {α:Type} (T:α->Bs) {xs:List α} {i:Nat} (h:i<xs.length):((xs.take (i+1)).map T).flatten=((xs.take i).map T).flatten++T xs[i]:=by
 rw [List.take_succ_eq_append_getElem h,TP,List.flatten_append];simp
def Zj8 {α:Type} (T:α->Bs) (xs:List α) (i:Nat):((xs.take i).map T).flatten.length<=(xs.map T).flatten.length:=by
 have e:(xs.map T).flatten=((xs.take i).map T).flatten++((xs.drop i).map T).flatten:=by rw [<- List.flatten_append,<- TP,List.take_append_drop]
 rw [e,Ta];omega
def ZA6 (n:Nat):Tbl:=[(81,ZeC),(82,Ztm n),(83,Zp1 84 (fun _=>Zt) Xo caT wCa n),(86,ZBG n)]
def ZCJ {n:Nat} (ht:TO w0 nG (ZA6 n)):PC w0 nG 45 (ZBI n):=by
 refine Zor ZC mixed (tbl:=ZA6 n) ht Tryz.func45 rfl kR kR ?_;intro args σ K h
 unfold ZBI ZA5 at h
 split at h
 ·rename_i rest t p e rows
  obtain ⟨l,txt,rfl,⟨hp,rfl,rfl⟩,⟨pl,⟨tys,rels,rules,comps,inits,overs⟩,rfl,⟨bo,hz,hn,rfl,rfl,rfl⟩,rfl⟩,aa,h⟩:=h;obtain ⟨m1,m2,m3,m4⟩:=Zye bo;have hz:szS wTy tys+szS wRe rels+szS wRu rules+1<=n:=by rw [wUn] at hz;omega
  have hu:unT (.mk tys rels rules [] [] [])=(tys.map tyT).flatten++((rels.map reT).flatten++(rules.map Zro).flatten):=by rw [unT,Zy3];rfl
  rw [hu] at aa;simp only [Ta] at aa;have h:∀p',(p'=.d .nilp\/p'=.ptr 0 0)->K (.ret (.tuple [])) ⟨[.cells 119 [p',.sl 0 5 (Zg (l++(tys.map tyT).flatten++(rels.map reT).flatten++(rules.map Zro).flatten))]],[0],1⟩:=by
   rw [hu] at h;simpa only [Tn] using h
  have s1:=ZA wTy tys;have s2:=ZA wRe rels;have s3:=ZA wRu rules;refine ⟨Zk [(2,⟨[21],[2,3,19,20],fun vs σ=>∃(i:Nat) (P:PV),vs=[.d (.int .i64 i)]/\σ=⟨[.cells 119 [P,.sl 0 5 (Zg (l++((tys.take i).map tyT).flatten))],.cells 114 [.ptr 0 0],.cells 64 ((XY pl (.mk tys rels rules [] [] [])).map .d)],[0],1⟩/\(P=.d .nilp\/P=.ptr 0 0)/\i<=tys.length,mu1 tys.length⟩),(15,⟨[60],[2,3,58,59],fun vs σ=>∃(i:Nat) (P:PV),vs=[.d (.int .i64 i)]/\σ=⟨[.cells 119 [P,.sl 0 5 (Zg (l++(tys.map tyT).flatten++((rels.take i).map reT).flatten))],.cells 114 [.ptr 0 0],.cells 64 ((XY pl (.mk tys rels rules [] [] [])).map .d)],[0],1⟩/\(P=.d .nilp\/P=.ptr 0 0)/\i<=rels.length,mu1 rels.length⟩),(47,⟨[166],[2,3,164,165],fun vs σ=>∃(i:Nat) (P:PV),vs=[.d (.int .i64 i)]/\σ=⟨[.cells 119 [P,.sl 0 5 (Zg (l++(tys.map tyT).flatten++(rels.map reT).flatten++((rules.take i).map Zro).flatten))],.cells 114 [.ptr 0 0],.cells 64 ((XY pl (.mk tys rels rules [] [] [])).map .d)],[0],1⟩/\(P=.d .nilp\/P=.ptr 0 0)/\i<=rules.length,mu1 rules.length⟩)],Ye [(19,4),(27,1),(37,1),(42,1)],ZB [],ZB [],ZB [],Zva [(14,([2,3],fun vs σ=>∃P:PV,vs=[.ptr 1 0,.ptr 2 0]/\σ=⟨[.cells 119 [P,.sl 0 5 (Zg (l++(tys.map tyT).flatten))],.cells 114 [.ptr 0 0],.cells 64 ((XY pl (.mk tys rels rules [] [] [])).map .d)],[0],1⟩/\(P=.d .nilp\/P=.ptr 0 0))),(26,([2,3],fun vs σ=>∃P:PV,vs=[.ptr 1 0,.ptr 2 0]/\σ=⟨[.cells 119 [P,.sl 0 5 (Zg (l++(tys.map tyT).flatten++(rels.map reT).flatten))],.cells 114 [.ptr 0 0],.cells 64 ((XY pl (.mk tys rels rules [] [] [])).map .d)],[0],1⟩/\(P=.d .nilp\/P=.ptr 0 0)))],1,true,sM,Tc rfl,?_⟩;rcases hp with rfl | rfl
  all_goals
   conv=>whnf
   refine ⟨wN ?_,?_⟩
   ·refine ⟨⟨0,_,rfl,zN,iM,oM⟩,?_⟩;intro vs σ hI
    obtain ⟨i,P,rfl,rfl,hP,hi⟩:=hI;(conv=>whnf);refine ZEw (fun ac=>?_) (fun ac=>?_)
    ·have cg:(tys.map (Zq pl)).length=tys.length:=Te ..;have ac:i<tys.length:=lzI cg ac;have hg:=ZE wTy tys i ac;have cu:=Zd3 tyT ac;have ar:=Zj8 tyT tys (i+1);have cy:=TE ac;obtain ⟨L,hL⟩:∃L,l++((tys.take i).map tyT).flatten=L:=⟨_,rfl⟩
     have hLl:L.length=(l).length+((tys.take i).map tyT).flatten.length:=by rw [<- hL,Ta]
     (try simp only [Ta] at hLl)
     rw [cu,Ta] at ar;rw [hL];obtain ⟨x,hX⟩:∃x,tys[i]=x:=⟨_,rfl⟩
     rw [hX] at hg cy cu ar;obtain ⟨kd,nm,base,fs,cs,at'⟩:=x;have ki:l++((tys.take (i+1)).map tyT).flatten=L++tyT ⟨kd,nm,base,fs,cs,at'⟩:=by rw [cu,<- Tn,hL]
     have cn:(tys.map (Zq pl))[((i:Nat):Int).toNat]?=some (Zq pl ⟨kd,nm,base,fs,cs,at'⟩):=by simp [ac,hX]
     obtain ⟨q1,q2,q3,q4⟩:=Ztl (m1 _ cy);simp only at q1 q2 q3 q4;have hg2:wTy ⟨kd,nm,base,fs,cs,at'⟩=1+nm.length+base.length+szS wFi fs+szS wCa cs:=rfl;have hw:nm.length+base.length+szS wFi fs+szS wCa cs<=n:=oM;(conv=>whnf);refine ⟨_,oM,cn,?_⟩
     by_cases k1:kd=1
     ·have hT:tyT ⟨kd,nm,base,fs,cs,at'⟩=[116,121,112,101,32]++(nm++(([32,60,58,32]++base)++[10])):=by rw [tyT,Th k1]
      rw [hT] at ar;simp only [Ta,Td,Tg] at ar;rcases hP with rfl | rfl
      all_goals
       conv=>whnf
       refine ⟨L,[116,121,112,101,32]++nm,rfl,⟨iM,rfl,rfl⟩,⟨[[116,121,112,101,32],nm],rfl,sM,sM,sM⟩,(by (try simp only [Ta,Td,Tg]);omega),?_⟩;(conv=>whnf);refine ZEw (fun _=>?_) (fun g=>absurd (show (kd:Int)=1 by omega) g);(conv=>whnf);refine ⟨L++([116,121,112,101,32]++nm),[32,60,58,32]++base,rfl,⟨.inr rfl,rfl,rfl⟩,⟨[[32,60,58,32],base],rfl,sM,sM,sM⟩,(by (try simp only [Ta,Td,Tg]);omega),?_⟩;(conv=>whnf);refine ⟨L++([116,121,112,101,32]++nm)++([32,60,58,32]++base),[10],rfl,⟨.inr rfl,rfl,rfl⟩,⟨[[10]],rfl,sM,sM,sM⟩,(by (try simp only [Ta,Td,Tg]);omega),?_⟩;(conv=>whnf);refine Zj ?_;refine ⟨⟨i+1,_,rfl,(by rw [ki,hT];simp only [Tn];rfl),.inr rfl,oM⟩,?_⟩;exact lzM oM
     by_cases k2:kd=2
     ·have hT:tyT ⟨kd,nm,base,fs,cs,at'⟩=[116,121,112,101,32]++(nm++(Vq [32,61,32,91] fs [93]++[10])):=by rw [tyT,Tf k1,Th k2]
      rw [hT] at ar;simp only [Ta,Td,Tg] at ar;rcases hP with rfl | rfl
      all_goals
       conv=>whnf
       refine ⟨L,[116,121,112,101,32]++nm,rfl,⟨iM,rfl,rfl⟩,⟨[[116,121,112,101,32],nm],rfl,sM,sM,sM⟩,(by (try simp only [Ta,Td,Tg]);omega),?_⟩;(conv=>whnf);refine ZEw (fun g=>absurd (show kd=1 by have g:(kd:Int)=1:=g;omega) k1) (fun _=>wN ?_);refine ZEw (fun _=>?_) (fun g=>absurd (show (kd:Int)=2 by omega) g);(conv=>whnf);refine ⟨L++([116,121,112,101,32]++nm),Vq [32,61,32,91] fs [93],rfl,⟨.inr rfl,rfl,rfl⟩,⟨[32,61,32,91],[93],fs,rfl,⟨Tq.2 q2,oM,oM⟩,rfl⟩,(by (try simp only [Ta,Td,Tg]);omega),?_⟩;(conv=>whnf);refine ⟨L++([116,121,112,101,32]++nm)++Vq [32,61,32,91] fs [93],[10],rfl,⟨.inr rfl,rfl,rfl⟩,⟨[[10]],rfl,sM,sM,sM⟩,(by (try simp only [Ta,Td,Tg]);omega),?_⟩;(conv=>whnf);refine Zj ?_;refine ⟨⟨i+1,_,rfl,(by rw [ki,hT];simp only [Tn];rfl),.inr rfl,oM⟩,?_⟩;exact lzM oM
     have hT:tyT ⟨kd,nm,base,fs,cs,at'⟩=[116,121,112,101,32]++(nm++([32,61,32]++(Zi [32,124,32] (cs.map caT)++[10]))):=by rw [tyT,Tf k1,Tf k2];simp only [Tn]
     rw [hT] at ar;simp only [Ta,Td,Tg] at ar;rcases hP with rfl | rfl
     all_goals
      conv=>whnf
      refine ⟨L,[116,121,112,101,32]++nm,rfl,⟨iM,rfl,rfl⟩,⟨[[116,121,112,101,32],nm],rfl,sM,sM,sM⟩,(by (try simp only [Ta,Td,Tg]);omega),?_⟩;(conv=>whnf);refine ZEw (fun g=>absurd (show kd=1 by have g:(kd:Int)=1:=g;omega) k1) (fun _=>wN ?_);refine ZEw (fun g=>absurd (show kd=2 by have g:(kd:Int)=2:=g;omega) k2) (fun _=>wN ?_);refine ⟨L++([116,121,112,101,32]++nm),[32,61,32],rfl,⟨.inr rfl,rfl,rfl⟩,⟨[[32,61,32]],rfl,sM,sM,sM⟩,(by (try simp only [Ta,Td,Tg]);omega),?_⟩;(conv=>whnf);refine ⟨L++([116,121,112,101,32]++nm)++[32,61,32],fun _=>0,cs,rfl,rfl,⟨rfl,rfl,rfl⟩,⟨Tq.2 q3,oM,oM⟩,(by (try simp only [Ta,Td,Tg]);show _+(Zi [32,124,32] (cs.map caT)).length<_;omega),?_⟩;(conv=>whnf);refine ⟨L++([116,121,112,101,32]++nm)++[32,61,32]++Zi [32,124,32] (cs.map caT),[10],rfl,⟨.inr rfl,rfl,rfl⟩,⟨[[10]],rfl,sM,sM,sM⟩,(by (try simp only [Ta,Td,Tg]);omega),?_⟩;(conv=>whnf);refine Zj ?_;refine ⟨⟨i+1,_,rfl,(by rw [ki,hT];simp only [Tn];rfl),.inr rfl,oM⟩,?_⟩;exact lzM oM
    have ac:i=tys.length:=by
     have cg:(tys.map (Zq pl)).length=tys.length:=Te ..;have ac:¬(i:Int)<(tys.map (Zq pl)).length:=ac;rw [cg] at ac;omega
    subst ac;rw [T6];rcases hP with rfl | rfl
    all_goals
     conv=>whnf
     exact ⟨_,rfl,rfl,iM⟩
   intro vs σ hI
   obtain ⟨P,rfl,rfl,hP⟩:=hI;(conv=>whnf);refine ⟨?_,?_⟩
   ·rcases hP with rfl | rfl
    all_goals
     conv=>whnf
     refine ⟨⟨0,_,rfl,zN,iM,oM⟩,?_⟩;intro vs σ hI
     obtain ⟨i,P,rfl,rfl,hP,hi⟩:=hI;(conv=>whnf);refine ZEw (fun ac=>?_) (fun ac=>?_)
     ·have cg:(rels.map (ZN pl)).length=rels.length:=Te ..;have ac:i<rels.length:=lzI cg ac;have hg:=ZE wRe rels i ac;have cu:=Zd3 reT ac;have ar:=Zj8 reT rels (i+1);have cy:=TE ac;obtain ⟨L,hL⟩:∃L,l++(tys.map tyT).flatten++((rels.take i).map reT).flatten=L:=⟨_,rfl⟩
      have hLl:L.length=(l++(tys.map tyT).flatten).length+((rels.take i).map reT).flatten.length:=by rw [<- hL,Ta]
      (try simp only [Ta] at hLl)
      rw [cu,Ta] at ar;rw [hL];obtain ⟨x,hX⟩:∃x,rels[i]=x:=⟨_,rfl⟩
      rw [hX] at hg cy cu ar;obtain ⟨nm,fs,b1,b2,b3,at'⟩:=x;have ki:l++(tys.map tyT).flatten++((rels.take (i+1)).map reT).flatten=L++reT ⟨nm,fs,b1,b2,b3,at'⟩:=by rw [cu,<- Tn,hL]
      have cn:(rels.map (ZN pl))[((i:Nat):Int).toNat]?=some (ZN pl ⟨nm,fs,b1,b2,b3,at'⟩):=by simp [ac,hX]
      have q:=m2 _ cy;simp only [Wd,Tm] at q;obtain ⟨q1,q2⟩:=q;have q2:=Tq.1 q2;have hg2:wRe ⟨nm,fs,b1,b2,b3,at'⟩=1+nm.length+szS wFi fs:=rfl;have hw:nm.length+szS wFi fs<=n:=oM;(conv=>whnf);refine ⟨_,oM,cn,?_⟩;have ta:reT ⟨nm,fs,b1,b2,b3,at'⟩=Vq ([100,101,99,108,32]++nm++[40]) fs [41]++((if b1 then [32,105,110,112,117,116] else [])++((if b2 then [32,111,117,116,112,117,116] else [])++((if b3 then [32,105,110,108,105,110,101] else [])++[10]))):=by rw [reT];simp only [Tn]
      rcases hP with rfl | rfl
      all_goals
       conv=>whnf
       refine ⟨by simp only [Td,Tg];omega,wN ?_⟩;refine ⟨by simp only [Ta,Td,Tg];omega,?_⟩
       cases b1 <;> cases b2 <;> cases b3
       ·have hT:=ta;simp only [if_true,Tt,if_false,Sh] at hT;rw [hT] at ar;simp only [Ta,Td,Tg] at ar;(conv=>whnf);refine ⟨L,Vq ([100,101,99,108,32]++nm++[40]) fs [41],rfl,⟨iM,rfl,rfl⟩,⟨([100,101,99,108,32]++nm++[40]),[41],fs,rfl,⟨Tq.2 q2,oM,oM⟩,rfl⟩,(by (try simp only [Ta,Td,Tg]);omega),?_⟩;(conv=>whnf);refine ⟨dM,dM,wN ?_⟩;refine Vd ?_;refine ⟨dM,dM,wN ?_⟩;refine Vd ?_;refine ⟨dM,dM,wN ?_⟩;refine Vd ?_;refine ⟨L++Vq ([100,101,99,108,32]++nm++[40]) fs [41],[10],rfl,⟨.inr rfl,rfl,rfl⟩,⟨[[10]],rfl,sM,sM,sM⟩,(by (try simp only [Ta,Td,Tg]);omega),?_⟩;exact mq27
       ·have hT:=ta;simp only [if_true,Tt,if_false,Sh] at hT;rw [hT] at ar;simp only [Ta,Td,Tg] at ar;(conv=>whnf);refine ⟨L,Vq ([100,101,99,108,32]++nm++[40]) fs [41],rfl,⟨iM,rfl,rfl⟩,⟨([100,101,99,108,32]++nm++[40]),[41],fs,rfl,⟨Tq.2 q2,oM,oM⟩,rfl⟩,(by (try simp only [Ta,Td,Tg]);omega),?_⟩;(conv=>whnf);refine ⟨dM,dM,wN ?_⟩;refine Vd ?_;refine ⟨dM,dM,wN ?_⟩;refine Vd ?_;refine ⟨dM,dM,wN ?_⟩;refine ⟨dM,dM,wN ?_⟩;refine ⟨L++Vq ([100,101,99,108,32]++nm++[40]) fs [41],[32,105,110,108,105,110,101],rfl,⟨.inr rfl,rfl,rfl⟩,⟨[[32,105,110,108,105,110,101]],rfl,sM,sM,sM⟩,(by (try simp only [Ta,Td,Tg]);omega),?_⟩;(conv=>whnf)
        (repeat (refine ⟨rfl,?_⟩;conv=>whnf))
        conv=>whnf
        refine Vd ?_;refine ⟨L++Vq ([100,101,99,108,32]++nm++[40]) fs [41]++[32,105,110,108,105,110,101],[10],rfl,⟨.inr rfl,rfl,rfl⟩,⟨[[10]],rfl,sM,sM,sM⟩,(by (try simp only [Ta,Td,Tg]);omega),?_⟩;exact mq27
       ·have hT:=ta;simp only [if_true,Tt,if_false,Sh] at hT;rw [hT] at ar;simp only [Ta,Td,Tg] at ar;(conv=>whnf);refine ⟨L,Vq ([100,101,99,108,32]++nm++[40]) fs [41],rfl,⟨iM,rfl,rfl⟩,⟨([100,101,99,108,32]++nm++[40]),[41],fs,rfl,⟨Tq.2 q2,oM,oM⟩,rfl⟩,(by (try simp only [Ta,Td,Tg]);omega),?_⟩;(conv=>whnf);refine ⟨dM,dM,wN ?_⟩;refine Vd ?_;refine ⟨dM,dM,wN ?_⟩;refine ⟨dM,dM,wN ?_⟩;refine ⟨L++Vq ([100,101,99,108,32]++nm++[40]) fs [41],[32,111,117,116,112,117,116],rfl,⟨.inr rfl,rfl,rfl⟩,⟨[[32,111,117,116,112,117,116]],rfl,sM,sM,sM⟩,(by (try simp only [Ta,Td,Tg]);omega),?_⟩;(conv=>whnf)
        (repeat (refine ⟨rfl,?_⟩;conv=>whnf))
        conv=>whnf
        refine Vd ?_;refine ⟨dM,dM,wN ?_⟩;refine Vd ?_;refine ⟨L++Vq ([100,101,99,108,32]++nm++[40]) fs [41]++[32,111,117,116,112,117,116],[10],rfl,⟨.inr rfl,rfl,rfl⟩,⟨[[10]],rfl,sM,sM,sM⟩,(by (try simp only [Ta,Td,Tg]);omega),?_⟩;exact mq27
       ·have hT:=ta;simp only [if_true,Tt,if_false,Sh] at hT;rw [hT] at ar;simp only [Ta,Td,Tg] at ar;(conv=>whnf);refine ⟨L,Vq ([100,101,99,108,32]++nm++[40]) fs [41],rfl,⟨iM,rfl,rfl⟩,⟨([100,101,99,108,32]++nm++[40]),[41],fs,rfl,⟨Tq.2 q2,oM,oM⟩,rfl⟩,(by (try simp only [Ta,Td,Tg]);omega),?_⟩;(conv=>whnf);refine ⟨dM,dM,wN ?_⟩;refine Vd ?_;refine ⟨dM,dM,wN ?_⟩;refine ⟨dM,dM,wN ?_⟩;refine ⟨L++Vq ([100,101,99,108,32]++nm++[40]) fs [41],[32,111,117,116,112,117,116],rfl,⟨.inr rfl,rfl,rfl⟩,⟨[[32,111,117,116,112,117,116]],rfl,sM,sM,sM⟩,(by (try simp only [Ta,Td,Tg]);omega),?_⟩;(conv=>whnf)
        (repeat (refine ⟨rfl,?_⟩;conv=>whnf))
        conv=>whnf
        refine Vd ?_;refine ⟨dM,dM,wN ?_⟩;refine ⟨dM,dM,wN ?_⟩;refine ⟨L++Vq ([100,101,99,108,32]++nm++[40]) fs [41]++[32,111,117,116,112,117,116],[32,105,110,108,105,110,101],rfl,⟨.inr rfl,rfl,rfl⟩,⟨[[32,105,110,108,105,110,101]],rfl,sM,sM,sM⟩,(by (try simp only [Ta,Td,Tg]);omega),?_⟩;(conv=>whnf)
        (repeat (refine ⟨rfl,?_⟩;conv=>whnf))
        conv=>whnf
        refine Vd ?_;refine ⟨L++Vq ([100,101,99,108,32]++nm++[40]) fs [41]++[32,111,117,116,112,117,116]++[32,105,110,108,105,110,101],[10],rfl,⟨.inr rfl,rfl,rfl⟩,⟨[[10]],rfl,sM,sM,sM⟩,(by (try simp only [Ta,Td,Tg]);omega),?_⟩;exact mq27
       ·have hT:=ta;simp only [if_true,Tt,if_false,Sh] at hT;rw [hT] at ar;simp only [Ta,Td,Tg] at ar;(conv=>whnf);refine ⟨L,Vq ([100,101,99,108,32]++nm++[40]) fs [41],rfl,⟨iM,rfl,rfl⟩,⟨([100,101,99,108,32]++nm++[40]),[41],fs,rfl,⟨Tq.2 q2,oM,oM⟩,rfl⟩,(by (try simp only [Ta,Td,Tg]);omega),?_⟩;(conv=>whnf);refine ⟨dM,dM,wN ?_⟩;refine ⟨dM,dM,wN ?_⟩;refine ⟨L++Vq ([100,101,99,108,32]++nm++[40]) fs [41],[32,105,110,112,117,116],rfl,⟨.inr rfl,rfl,rfl⟩,⟨[[32,105,110,112,117,116]],rfl,sM,sM,sM⟩,(by (try simp only [Ta,Td,Tg]);omega),?_⟩;(conv=>whnf)
        (repeat (refine ⟨rfl,?_⟩;conv=>whnf))
        conv=>whnf
        refine Vd ?_;refine ⟨dM,dM,wN ?_⟩;refine Vd ?_;refine ⟨dM,dM,wN ?_⟩;refine Vd ?_;refine ⟨L++Vq ([100,101,99,108,32]++nm++[40]) fs [41]++[32,105,110,112,117,116],[10],rfl,⟨.inr rfl,rfl,rfl⟩,⟨[[10]],rfl,sM,sM,sM⟩,(by (try simp only [Ta,Td,Tg]);omega),?_⟩;exact mq27
       ·have hT:=ta;simp only [if_true,Tt,if_false,Sh] at hT;rw [hT] at ar;simp only [Ta,Td,Tg] at ar;(conv=>whnf);refine ⟨L,Vq ([100,101,99,108,32]++nm++[40]) fs [41],rfl,⟨iM,rfl,rfl⟩,⟨([100,101,99,108,32]++nm++[40]),[41],fs,rfl,⟨Tq.2 q2,oM,oM⟩,rfl⟩,(by (try simp only [Ta,Td,Tg]);omega),?_⟩;(conv=>whnf);refine ⟨dM,dM,wN ?_⟩;refine ⟨dM,dM,wN ?_⟩;refine ⟨L++Vq ([100,101,99,108,32]++nm++[40]) fs [41],[32,105,110,112,117,116],rfl,⟨.inr rfl,rfl,rfl⟩,⟨[[32,105,110,112,117,116]],rfl,sM,sM,sM⟩,(by (try simp only [Ta,Td,Tg]);omega),?_⟩;(conv=>whnf)
        (repeat (refine ⟨rfl,?_⟩;conv=>whnf))
        conv=>whnf
        refine Vd ?_;refine ⟨dM,dM,wN ?_⟩;refine Vd ?_;refine ⟨dM,dM,wN ?_⟩;refine ⟨dM,dM,wN ?_⟩;refine ⟨L++Vq ([100,101,99,108,32]++nm++[40]) fs [41]++[32,105,110,112,117,116],[32,105,110,108,105,110,101],rfl,⟨.inr rfl,rfl,rfl⟩,⟨[[32,105,110,108,105,110,101]],rfl,sM,sM,sM⟩,(by (try simp only [Ta,Td,Tg]);omega),?_⟩;(conv=>whnf)
        (repeat (refine ⟨rfl,?_⟩;conv=>whnf))
        conv=>whnf
        refine Vd ?_;refine ⟨L++Vq ([100,101,99,108,32]++nm++[40]) fs [41]++[32,105,110,112,117,116]++[32,105,110,108,105,110,101],[10],rfl,⟨.inr rfl,rfl,rfl⟩,⟨[[10]],rfl,sM,sM,sM⟩,(by (try simp only [Ta,Td,Tg]);omega),?_⟩;exact mq27
       ·have hT:=ta;simp only [if_true,Tt,if_false,Sh] at hT;rw [hT] at ar;simp only [Ta,Td,Tg] at ar;(conv=>whnf);refine ⟨L,Vq ([100,101,99,108,32]++nm++[40]) fs [41],rfl,⟨iM,rfl,rfl⟩,⟨([100,101,99,108,32]++nm++[40]),[41],fs,rfl,⟨Tq.2 q2,oM,oM⟩,rfl⟩,(by (try simp only [Ta,Td,Tg]);omega),?_⟩;(conv=>whnf);refine ⟨dM,dM,wN ?_⟩;refine ⟨dM,dM,wN ?_⟩;refine ⟨L++Vq ([100,101,99,108,32]++nm++[40]) fs [41],[32,105,110,112,117,116],rfl,⟨.inr rfl,rfl,rfl⟩,⟨[[32,105,110,112,117,116]],rfl,sM,sM,sM⟩,(by (try simp only [Ta,Td,Tg]);omega),?_⟩;(conv=>whnf)
        (repeat (refine ⟨rfl,?_⟩;conv=>whnf))
        conv=>whnf
        refine Vd ?_;refine ⟨dM,dM,wN ?_⟩;refine ⟨dM,dM,wN ?_⟩;refine ⟨L++Vq ([100,101,99,108,32]++nm++[40]) fs [41]++[32,105,110,112,117,116],[32,111,117,116,112,117,116],rfl,⟨.inr rfl,rfl,rfl⟩,⟨[[32,111,117,116,112,117,116]],rfl,sM,sM,sM⟩,(by (try simp only [Ta,Td,Tg]);omega),?_⟩;(conv=>whnf)
        (repeat (refine ⟨rfl,?_⟩;conv=>whnf))
        conv=>whnf
        refine Vd ?_;refine ⟨dM,dM,wN ?_⟩;refine Vd ?_;refine ⟨L++Vq ([100,101,99,108,32]++nm++[40]) fs [41]++[32,105,110,112,117,116]++[32,111,117,116,112,117,116],[10],rfl,⟨.inr rfl,rfl,rfl⟩,⟨[[10]],rfl,sM,sM,sM⟩,(by (try simp only [Ta,Td,Tg]);omega),?_⟩;exact mq27
       have hT:=ta;simp only [if_true,Tt,if_false,Sh] at hT;rw [hT] at ar;simp only [Ta,Td,Tg] at ar;(conv=>whnf);refine ⟨L,Vq ([100,101,99,108,32]++nm++[40]) fs [41],rfl,⟨iM,rfl,rfl⟩,⟨([100,101,99,108,32]++nm++[40]),[41],fs,rfl,⟨Tq.2 q2,oM,oM⟩,rfl⟩,(by (try simp only [Ta,Td,Tg]);omega),?_⟩;(conv=>whnf);refine ⟨dM,dM,wN ?_⟩;refine ⟨dM,dM,wN ?_⟩;refine ⟨L++Vq ([100,101,99,108,32]++nm++[40]) fs [41],[32,105,110,112,117,116],rfl,⟨.inr rfl,rfl,rfl⟩,⟨[[32,105,110,112,117,116]],rfl,sM,sM,sM⟩,(by (try simp only [Ta,Td,Tg]);omega),?_⟩;(conv=>whnf)
       (repeat (refine ⟨rfl,?_⟩;conv=>whnf))
       conv=>whnf
       refine Vd ?_;refine ⟨dM,dM,wN ?_⟩;refine ⟨dM,dM,wN ?_⟩;refine ⟨L++Vq ([100,101,99,108,32]++nm++[40]) fs [41]++[32,105,110,112,117,116],[32,111,117,116,112,117,116],rfl,⟨.inr rfl,rfl,rfl⟩,⟨[[32,111,117,116,112,117,116]],rfl,sM,sM,sM⟩,(by (try simp only [Ta,Td,Tg]);omega),?_⟩;(conv=>whnf)
       (repeat (refine ⟨rfl,?_⟩;conv=>whnf))
       conv=>whnf
       refine Vd ?_;refine ⟨dM,dM,wN ?_⟩;refine ⟨dM,dM,wN ?_⟩;refine ⟨L++Vq ([100,101,99,108,32]++nm++[40]) fs [41]++[32,105,110,112,117,116]++[32,111,117,116,112,117,116],[32,105,110,108,105,110,101],rfl,⟨.inr rfl,rfl,rfl⟩,⟨[[32,105,110,108,105,110,101]],rfl,sM,sM,sM⟩,(by (try simp only [Ta,Td,Tg]);omega),?_⟩;(conv=>whnf)
       (repeat (refine ⟨rfl,?_⟩;conv=>whnf))
       conv=>whnf
       refine Vd ?_;refine ⟨L++Vq ([100,101,99,108,32]++nm++[40]) fs [41]++[32,105,110,112,117,116]++[32,111,117,116,112,117,116]++[32,105,110,108,105,110,101],[10],rfl,⟨.inr rfl,rfl,rfl⟩,⟨[[10]],rfl,sM,sM,sM⟩,(by (try simp only [Ta,Td,Tg]);omega),?_⟩;exact mq27
     have ac:i=rels.length:=by
      have cg:(rels.map (ZN pl)).length=rels.length:=Te ..;have ac:¬(i:Int)<(rels.map (ZN pl)).length:=ac;rw [cg] at ac;omega
     subst ac;rw [T6];rcases hP with rfl | rfl
     all_goals
      conv=>whnf
      exact ⟨_,rfl,rfl,iM⟩
   intro vs σ hI
   obtain ⟨P,rfl,rfl,hP⟩:=hI;(conv=>whnf);rcases hP with rfl | rfl
   all_goals
    conv=>whnf
    refine ⟨⟨0,_,rfl,zN,iM,oM⟩,?_⟩;intro vs σ hI
    obtain ⟨i,P,rfl,rfl,hP,hi⟩:=hI;(conv=>whnf);refine ZEw (fun ac=>?_) (fun ac=>?_)
    ·have cg:(rules.map (ZS pl)).length=rules.length:=Te ..;have ac:i<rules.length:=lzI cg ac;have hg:=ZE wRu rules i ac;have cu:=Zd3 Zro ac;have ar:=Zj8 Zro rules (i+1);have cy:=TE ac;obtain ⟨L,hL⟩:∃L,l++(tys.map tyT).flatten++(rels.map reT).flatten++((rules.take i).map Zro).flatten=L:=⟨_,rfl⟩
     have hLl:L.length=(l++(tys.map tyT).flatten++(rels.map reT).flatten).length+((rules.take i).map Zro).flatten.length:=by rw [<- hL,Ta]
     (try simp only [Ta] at hLl)
     rw [cu,Ta] at ar;rw [hL];obtain ⟨x,hX⟩:∃x,rules[i]=x:=⟨_,rfl⟩
     rw [hX] at hg cy cu ar;obtain ⟨head,as',bd,at'⟩:=x;have ki:l++(tys.map tyT).flatten++(rels.map reT).flatten++((rules.take (i+1)).map Zro).flatten=L++Zro ⟨head,as',bd,at'⟩:=by rw [cu,<- Tn,hL]
     have cn:(rules.map (ZS pl))[((i:Nat):Int).toNat]?=some (ZS pl ⟨head,as',bd,at'⟩):=by simp [ac,hX]
     have hw:wRu ⟨head,as',bd,at'⟩<=n:=oM;have hT:Zro ⟨head,as',bd,at'⟩=(ruT ⟨head,as',bd,at'⟩)++[10]:=rfl;rw [hT] at ar;simp only [Ta,Td,Tg] at ar;(conv=>whnf);refine ⟨_,oM,cn,?_⟩;rcases hP with rfl | rfl
     all_goals
      conv=>whnf
      refine ⟨L,(ruT ⟨head,as',bd,at'⟩),rfl,⟨iM,rfl,rfl⟩,⟨pl,⟨head,as',bd,at'⟩,rfl,⟨m3 _ cy,hw,hn⟩,rfl⟩,(by (try simp only [Ta,Td,Tg]);omega),?_⟩;(conv=>whnf);refine ⟨L++(ruT ⟨head,as',bd,at'⟩),[10],rfl,⟨.inr rfl,rfl,rfl⟩,⟨[[10]],rfl,sM,sM,sM⟩,(by (try simp only [Ta,Td,Tg]);omega),?_⟩;(conv=>whnf);refine Zj ?_;refine ⟨⟨i+1,_,rfl,(by rw [ki,hT];simp only [Tn];rfl),.inr rfl,oM⟩,?_⟩;exact lzM oM
    have ac:i=rules.length:=by
     have cg:(rules.map (ZS pl)).length=rules.length:=Te ..;have ac:¬(i:Int)<(rules.map (ZS pl)).length:=ac;rw [cg] at ac;omega
    subst ac;rw [T6];rcases hP with rfl | rfl
    all_goals
     conv=>whnf
     exact h _ iM
 exact h.elim
def cWU (hN:NumOK w0 nG) (hL:LexC w0 nG) (n:Nat):PC w0 nG 45 (ZBI n) :=
 ZCJ ⟨ZaE,ZuG,ZDN _,cWR hN hL _,trivial⟩
def Zyf {z:Bs} {c:UInt8} (hc:c.toNat<128):pk (c::z)=((c.toNat:Int),1):=by
 have e:Lib.decodeL (c::z)=(c.toNat,1):=by
  rw [Lib.decodeL_N];unfold Lib.decodeN;rw [Th (by simpa using hc)];simp
 unfold pk
 rw [e,Tf sO]
structure Fol (c:UInt8) (z:Bs):Prop where
 low:c.toNat<128
 let':Zd c.toNat=false
 dig:Zf c.toNat=false
 dot:c=46->Zd (pk z).1=false
def Fol.pk {c:UInt8} {z:Bs} (h:Fol c z):Lex.pk (c::z)=((c.toNat:Int),1):=Zyf h.low
inductive Pc where
 | blank (b:UInt8) | tok (s:Bs) (t:T0)
def Pc.bs:Pc->Bs | .blank b=>[b] | .tok s _=>s
def Pc.ts:Pc->Ts | .blank _=>[] | .tok _ t=>[t]
def bsP (l:List Pc):Bs:=(l.map Pc.bs).flatten
def tsP (l:List Pc):Ts:=(l.map Pc.ts).flatten
@[simp] theorem bsP_nil:bsP []=[]:=rfl
@[simp] theorem tsP_nil:tsP []=[]:=rfl
@[simp] theorem bsP_cons (p:Pc) (l:List Pc):bsP (p::l)=p.bs++bsP l:=by simp [bsP]
@[simp] theorem tsP_cons (p:Pc) (l:List Pc):tsP (p::l)=p.ts++tsP l:=by simp [tsP]
@[simp] theorem bsP_app (l m:List Pc):bsP (l++m)=bsP l++bsP m:=by simp [bsP]
@[simp] theorem tsP_app (l m:List Pc):tsP (l++m)=tsP l++tsP m:=by simp [tsP]
def nmP (s:Bs):Pc:=.tok s (nmT s)
def sgP (s:Bs):Pc:=.tok s (sgT s)
def Znh:∀d:Fin 16,J1 (ZiV d.val)=d.val/\YR true (ZiV d.val)=true/\(d.val<10->YR false (ZiV d.val)=true)/\ZiV d.val≠120:=by decide +kernel
def Ztn (base:Nat) (l:Bs) (b:UInt8):YY base (l++[b])=YY base l * base+J1 b:=by simp [YY]
def ZbB {base:Nat} (hb:base=10\/base=16):∀(f n:Nat),n<f->YY base (JL base f n)=n/\(∀b∈JL base f n,YR (decide (base=16)) b=true/\b≠120)/\JL base f n≠[]/\∀k,n<base ^ (k+1)->(JL base f n).length<=k+1
 | 0,n,h=>oM
 | f+1,n,h=>by
  have hd:∀d,d<base->J1 (ZiV d)=d/\YR (decide (base=16)) (ZiV d)=true/\ZiV d≠120:=fun d hd=>by
   obtain ⟨h1,h2,h3,h4⟩:=Znh ⟨d,oM⟩;refine ⟨h1,?_,h4⟩;rcases hb with rfl | rfl
   ·exact h3 hd
   exact h2
  rw [JL]
  by_cases c:n<base
  ·rw [Th c];obtain ⟨h1,h2,h3⟩:=hd n c;refine ⟨by simpa [YY] using h1,fun b hb=>?_,sM,fun k _=>sM⟩;rw [List.mem_singleton.1 hb];exact ⟨h2,h3⟩
  rw [Tf c];have ab:n / base<n:=Nat.div_lt_self oM oM;obtain ⟨i1,i2,i3,i4⟩:=ZbB hb f (n / base) oM;obtain ⟨h1,h2,h3⟩:=hd (n % base) (Nat.mod_lt _ oM);refine ⟨?_,fun b hb=>?_,sM,fun k hk=>?_⟩
  ·rw [Ztn,i1,h1,Nat.mul_comm];exact Nat.div_add_mod n base
  ·rcases TJ.1 hb with hb | hb
   ·exact i2 b hb
   rw [List.mem_singleton.1 hb];exact ⟨h2,h3⟩
  cases k with
  | zero=>simp at hk;omega
  | succ k =>
  have:n / base<base ^ (k+1):=by
   rw [Nat.div_lt_iff_lt_mul oM];rw [Nat.pow_succ] at hk;exact hk
  have:=i4 k this;exact mq96
def spP:Pc:=.blank 32
def nlP:Pc:=.blank 10
@[simp] theorem bs_sp:spP.bs=[32]:=rfl
@[simp] theorem bs_nl:nlP.bs=[10]:=rfl
@[simp] theorem ts_sp:spP.ts=[]:=rfl
@[simp] theorem ts_nl:nlP.ts=[]:=rfl
@[simp] theorem bs_nm (s:Bs):(nmP s).bs=s:=rfl
@[simp] theorem bs_sg (s:Bs):(sgP s).bs=s:=rfl
@[simp] theorem ts_nm (s:Bs):(nmP s).ts=[nmT s]:=rfl
@[simp] theorem ts_sg (s:Bs):(sgP s).ts=[sgT s]:=rfl
@[simp] theorem bs_tok (s:Bs) (t:T0):(Pc.tok s t).bs=s:=rfl
@[simp] theorem ts_tok (s:Bs) (t:T0):(Pc.tok s t).ts=[t]:=rfl
def ts2 (p:Nat×List Pc):Nat×Ts:=(p.1,tsP p.2)
def Zd4:∀(f:Nat) (r out q:Bs),VP f r out=some q->q.length<=out.length+4 * r.length
 | 0,r,out,q,h=>by simp [VP] at h
 | f+1,r,out,q,h=>by
  unfold VP at h
  split at h
  ·cases h;omega
  rename_i hr
  have hd:=Lib.decodeL_le r hr;have hg:=Zbg r;split at h
  ·have:=Zd4 f _ _ _ h;simp only [Ta,Td,Tg,Tu] at this;omega
  split at h
  ·cases h
  have:=Zd4 f _ _ _ h;have h4:=ZB6 (Lib.decodeL r).1;simp only [Ta,Tu] at this;omega
def Zto (s:Bs):(ZvP s).length<=4 * s.length+2:=by
 unfold ZvP Jq
 split
 ·cases hq:VP (s.length+1) s [34] with
  | none=>simp
  | some q =>
  have:=Zd4 _ _ _ _ hq;simp only [Sc,Sw,Ta,Td,Tg] at this |-;omega
 simp
def Ztp {n:Int} (h0:-9223372036854775808<=n) (h1:n<9223372036854775808):(Zfq n).length<=20:=by
 unfold Zfq
 split
 ·have h:=(ZbB (base:=16) (.inr rfl) ((n+18446744073709551616).toNat+1) (n+18446744073709551616).toNat oM).2.2.2 15 (by
   have:(16:Nat) ^ (15+1)=18446744073709551616:=dM;omega)
  simp only [Ta,Td,Tg,Vp];omega
 have h:=(ZbB (base:=10) (.inl rfl) (n.toNat+1) n.toNat oM).2.2.2 18 (by
  have:(10:Nat) ^ (18+1)=10000000000000000000:=dM;omega)
 rw [Vp];omega
def Ztq (op:Nat):(VR op).length<=6:=by
 by_cases h:op<26
 ·have hk:∀o:Fin 26,(VR o.val).length<=6:=by decide
  exact hk ⟨op,h⟩
 unfold VR
 (repeat rw [Tf oM])
 decide
def ZuH (l:List (Nat×Bs)):Nat:=(l.map fun p=>p.2.length+4).sum
def Vw (l:List Bs):(Zi cmm l).length<=(l.map fun s=>s.length+4).sum:=by
 match l with
 | []=>exact Se _
 | [x]=>simp [Zi]
 | x::y::l =>
  have ih:=Vw (y::l);rw [Zi]
  ·simp only [Ta,TD,List.sum_cons] at ih |-;have:cmm.length=2:=rfl;omega
  intro h;cases h
def ZgV (w:Nat) (p:Nat×Bs):(Zsg w p).length<=p.2.length+2:=by
 unfold Zsg;split
 ·exact mq96
 omega
def Zqi (w1 w2:Nat) (sep:Bs) (l:List (Nat×Bs)):(exA w1 w2 sep l).length<=ZuH l+sep.length:=by
 match l with
 | []=>simp [exA]
 | [a]=>have:=ZgV w1 a;simp only [exA,ZuH,TD,TM,List.sum_cons,List.sum_nil];omega
 | a::b::l =>
  have h1:=ZgV w1 a;have h2:=ZgV w2 b;simp only [exA,ZuH,TD,List.sum_cons,Ta];omega
def Zqj (op:Nat) (t:Bs) (n:Int) (l:List (Nat×Bs)) (h0:-9223372036854775808<=n) (h1:n<9223372036854775808):(exN op t n l).length<=ZuH l+5 * t.length+30:=by
 have hw:=Ztq op;have hn:=Ztp h0 h1;have hq:=Zto t;have hc:(Zi cmm (l.map Prod.snd)).length<=ZuH l:=by
  have:=Vw (l.map Prod.snd);rw [SH] at this;exact this
 unfold exN
 split
 ·have:=Zqi (ZY op) (ZY op+1) ([32]++(VR op++[32])) l;simp only [Ta,Td,Tg] at this;omega
 split
 ·have:=Zqi 5 5 [] l;simp only [Ta,Tg] at this |-;omega
 split
 ·exact mq96
 split
 ·exact mq96
 split
 ·simp only [Ta,Td,Tg];split
  ·simp only [Tg];omega
  exact mq96
 split
 ·omega
 split
 ·omega
 split
 ·simp only [Td,Tg];omega
 split
 ·simp only [Td,Tg];omega
 omega
mutual
def Zd5:∀e:Ex,Zp9 e=true->(exT e).length+4<=64 * wE e
 | .mk op t n l a,h=>by
  obtain ⟨r1,r2⟩:=Zd1 h;have ih:=ZbC l (by rw [ZcD];exact Tq.2 r2);have:=Zqj op t n (Zo7 l) r1.1 r1.2;rw [exT,wE];omega
def ZbC:∀l:List Ex,Zj6 l=true->ZuH (Zo7 l)<=64 * wEs l
 | [],h=>by rw [Zo7];simp [ZuH]
 | x::l,h=>by
  rw [Zj6,Tm] at h;have h1:=Zd5 x h.1;have h2:=ZbC l h.2;rw [Zo7,wEs];unfold ZuH at h2 |-
  simp only [TD,List.sum_cons];omega
end
def Zqk {α:Type} {T:α->Bs} {w:α->Nat}:∀l:List α,(∀x∈l,(T x).length+4<=64 * w x)->(l.map fun x=>(T x).length+4).sum<=64 * szS w l
 | [],h=>Se _
 | x::l,h=>by
  have h1:=h x sM;have h2:=Zqk l fun y hy=>h y (TA _ hy)
  simp only [TD,List.sum_cons,szS];omega
def JV {α:Type} {T:α->Bs} {w:α->Nat} {l:List α} (h:∀x∈l,(T x).length+4<=64 * w x):(Zi cmm (l.map T)).length<=64 * szS w l:=by
 have h1:=Vw (l.map T);rw [SH] at h1;exact Sa h1 (Zqk l h)
def WN {α:Type} {T:α->Bs} {w:α->Nat}:∀{l:List α},(∀x∈l,(T x).length+4<=64 * w x)->((l.map T).flatten).length<=64 * szS w l
 | [],h=>Se _
 | x::l,h=>by
  have h1:=h x sM;have h2:=WN (l:=l) fun y hy=>h y (TA _ hy)
  simp only [TD,List.flatten_cons,Ta,szS];omega
def Zj9:∀{l:List Ex},(∀x∈l,Zp9 x=true)->(Zk6 l).length+(Zsh l.tail).length<=64 * szS wE l/\(Zk6 l).length+(Zk6 l.tail).length<=64 * szS wE l
 | [],h=>by simp [Zk6,Zsh]
 | x::l,h=>by
  have h1:=Zd5 x (h x sM);have h2:=WN (T:=fun e=>[32]++exT e) (w:=fun e=>wE e) (l:=l) fun y hy=>by
   have:=Zd5 y (h y (TA _ hy))
   cases y with
   | mk o t n a b =>
   have hw:1<=wE (.mk o t n a b):=by rw [wE];omega
   have h3:=Zqj o t n (Zo7 a) (Zd1 (h _ (TA _ hy))).1.1 (Zd1 (h _ (TA _ hy))).1.2;have h4:=ZbC a (by rw [ZcD];exact Tq.2 (Zd1 (h _ (TA _ hy))).2);simp only [Ta,Td,Tg];rw [exT,wE];omega
  refine ⟨?_,?_⟩
  ·show (exT x).length+(Zsh l).length<=64 * szS wE (x::l);rw [szS];unfold Zsh
   have:szS (fun e=>wE e) l=szS wE l:=rfl;omega
  show (exT x).length+(Zk6 l).length<=64 * szS wE (x::l)
  cases l with
  | nil=>rw [szS,szS];simp [Zk6];omega
  | cons y l =>
  have h5:=Zd5 y (h y sM);rw [szS,szS];simp only [Zk6];omega
def Zyg (op:Nat):(ZvQ op).length<=4:=by unfold ZvQ;(repeat' split) <;> decide
def Zyh (op:Nat):(ZjH op).length<=5:=by unfold ZjH;(repeat' split) <;> decide
def Ziv {fr fin:Bs} {l:List Ex} (h:∀x∈l,Zp9 x=true):(Wm fr fin l).length<=fr.length+64 * szS wE l+fin.length:=by
 have:=JV (T:=exT) (w:=wE) fun x hx=>Zd5 x (h x hx)
 unfold Wm Zzw
 simp only [Ta];omega
mutual
def Zyi:∀x:Li,ZuB x=true->(liT x).length+4<=64 * wL x
 | .mk op rel args body a,h=>by
  obtain ⟨r1,r2⟩:=Zqa h;have h1:=ZgW body (by rw [ZgU];exact Tq.2 r2);have h2:=Ziv (fr:=[40]) (fin:=[41]) r1;obtain ⟨h3,h4⟩:=Zj9 r1;have h5:=Zyg op;have h6:=Zyh op;have h7:=Vw (Zrn body);rw [liT,wL];simp only [Td,Tg] at h2;split
  ·exact mq96
  split
  ·simp only [Ta];omega
  split
  ·simp only [Ta];omega
  exact mq96
def ZgW:∀l:List Li,Zne l=true->((Zrn l).map fun s=>s.length+4).sum<=64 * wLs l
 | [],h=>by rw [Zrn];simp
 | x::l,h=>by
  rw [Zne,Tm] at h;have h1:=Zyi x h.1;have h2:=ZgW l h.2;rw [Zrn,wLs];simp only [TD,List.sum_cons];omega
end
def Zyj {r:Ru} (h:Zqb r=true):(ruT r).length+10<=64 * wRu r:=by
 simp only [Zqb,Tm] at h;have r1:=Tq.1 h.1;have r2:=Tq.1 h.2;have h1:=Ziv (fr:=[40]) (fin:=[41]) r1;have h2:=ZgW r.body (by rw [ZgU];exact h.2);have h3:=Vw (Zrn r.body);rw [Zis] at h2;unfold ruT wRu
 simp only [Td,Tg] at h1;split
 ·exact mq96
 exact mq96
def Zyk (f:Fi):(fiT f).length+4<=64 * wFi f:=by
 unfold fiT wFi;simp only [Ta,Td,Tg];omega
def Zka (fr fin:Bs) (l:List Fi):(Vq fr l fin).length<=fr.length+64 * szS wFi l+fin.length:=by
 have:=JV (T:=fiT) (w:=wFi) (l:=l) fun x _=>Zyk x
 unfold Vq
 simp only [Ta];omega
def Zyl (c:Ca):(caT c).length+4<=64 * wCa c:=by
 have:=Zka (c.name++[32,123]) [125] c.fields;unfold caT wCa
 simp only [Ta,Td,Tg] at this |-;omega
def ZfD (l:List Bs):(Zi [32,124,32] l).length<=(l.map fun s=>s.length+4).sum:=by
 match l with
 | []=>exact Se _
 | [x]=>simp [Zi]
 | x::y::l =>
  have ih:=ZfD (y::l);rw [Zi]
  ·simp only [Ta,TD,List.sum_cons,Td,Tg] at ih |-;omega
  intro h;cases h
def Zym (t:Ty):(tyT t).length+4<=64 * wTy t:=by
 have h1:=Zka [32,61,32,91] [93] t.fields;have h2:=ZfD (t.cases.map caT);rw [SH] at h2;have h3:=Zqk (T:=caT) (w:=wCa) t.cases fun x _=>Zyl x
 have h4:(t.cases.map fun x=>(caT x).length+4).sum=(t.cases.map ((fun s:Bs=>s.length+4)∘caT)).sum:=rfl;rw [h4] at h3;unfold tyT wTy
 simp only [Td,Tg] at h1;simp only [Ta,Td,Tg];split
 ·exact mq96
 split
 ·omega
 exact mq96
def Zyn (d:Re):(reT d).length+4<=64 * wRe d:=by
 have h1:=Zka ([100,101,99,108,32]++(d.name++[40])) [41] d.fields;have hi:∀(b:Bool) (s:Bs),(if b then s else []).length<=s.length:=fun b s=>by cases b <;> simp
 have i1:=hi d.inn [32,105,110,112,117,116];have i2:=hi d.out [32,111,117,116,112,117,116];have i3:=hi d.inl [32,105,110,108,105,110,101];unfold reT wRe
 simp only [Ta,Td,Tg] at h1 i1 i2 i3 |-;omega
def Zkb (l:List Bs):(Zzx l).length<=2+64 * szS wBs l:=by
 have h1:=JV (T:=fun s:Bs=>s) (w:=wBs) (l:=l) fun x _=>by unfold wBs;omega
 rw [List.map_id'] at h1;unfold Zzx
 split
 ·simp
 exact mq96
def Zyo (i:Ini):(inT i).length+4<=64 * wIn i:=by
 have:=Zkb i.types;unfold inT wIn
 exact mq96
def Zyp (o:Ov):(ovT o).length+4<=64 * wOv o:=by
 unfold ovT wOv
 exact mq96
mutual
def Zql:∀u:Un,ZuC u=true->(unT u).length+4<=64 * wUn u
 | .mk a b c d e f,h=>by
  simp only [ZuC,Tm] at h;have r1:=Tq.1 h.1;have h1:=WN (T:=tyT) (w:=wTy) (l:=a) fun x _=>Zym x
  have h2:=WN (T:=reT) (w:=wRe) (l:=b) fun x _=>Zyn x
  have h3:=WN (T:=fun r=>ruT r++[10]) (w:=wRu) (l:=c) fun x hx=>by
   have:=Zyj (r1 x hx);exact mq96
  have h4:=ZlH d h.2;have h5:=WN (T:=inT) (w:=wIn) (l:=e) fun x _=>Zyo x
  have h6:=WN (T:=ovT) (w:=wOv) (l:=f) fun x _=>Zyp x
  rw [unT,wUn];simp only [Ta];omega
def Zyq:∀c:Co,Zqc c=true->(coT c).length+4<=64 * wCo c+64
 | .mk nm ps base tys u a,h=>by
  rw [Zqc] at h;have h1:=Zql u h;have h2:=Zkb ps;have h3:=Zkb tys;rw [coT,wCo];split
  ·exact mq96
  exact mq96
def ZlH:∀l:List Co,ZfB l=true->((Zy3 l).flatten).length<=64 * Zuz l
 | [],h=>by rw [Zy3];simp
 | x::l,h=>by
  rw [ZfB,Tm] at h;have h1:=Zyq x h.1;have h2:=ZlH l h.2;rw [Zy3,Zuz];simp only [List.flatten_cons,Ta];omega
end
def Ztr (n:Nat):Zm:=fun args σ K=>match args,σ with
 | [.agg c],⟨[],[],0⟩=>∃pl x,c=(XY pl x).map .d/\((Zey x=true->ZuC x=true)/\wUn x<=n/\n<=16777216/\noC x) /\
   ((Zey x=false->K (.ret (.tuple [.d (.str []),.d (.int .i64 160)])) ⟨[],[],0⟩)/\(Zey x=true->∀r,JU 65536 16384 Zbn (unT x)=r->K (.ret (.tuple [.d (.str (Zd2 (unT x) r).1),.d (.int .i64 (Zd2 (unT x) r).2)])) ⟨[],[],0⟩))
 | _,_=>False
def ZA8 {n:Nat}:OKw w0 nG [(44,YT (YI XY) Zey wUn n),(45,ZBI n),(47,ZaH),(46,ZlD),(48,Zqg)] 26 (Ztr n):=by
 refine pwo Tryz.func26 fun args σ K h=>?_
 unfold Ztr at h
 split at h
 ·obtain ⟨pl,⟨u1,u2,u3,u4,u5,u6⟩,rfl,⟨wu,hz,hn,hnc⟩,ha,hb⟩:=h;refine pwv [] 0 true ?_;refine ⟨pl,(.mk u1 u2 u3 u4 u5 u6),rfl,⟨hz,oM⟩,fun b bu=>?_⟩
  cases b with
  | false =>
   conv=>whnf
   exact ha bu
  | true =>
  have h1:=wu bu;have h2:=Zql _ h1;have hb:=hb bu;(conv=>whnf);refine ⟨[],unT (.mk u1 u2 u3 u4 u5 u6),rfl,⟨.inl rfl,rfl,rfl⟩,⟨pl,(.mk u1 u2 u3 u4 u5 u6),rfl,⟨by rw [ZBH,bu,h1];rfl,hz,oM,hnc⟩,rfl⟩,by simp only [Tg];omega,fun p' ja=>?_⟩;obtain ⟨T,hT⟩:∃T,unT (.mk u1 u2 u3 u4 u5 u6)=T:=⟨_,rfl⟩
  rw [hT] at hb h2 |-;rcases ja with rfl | rfl
  all_goals
   conv=>whnf
   refine ⟨T,⟨rfl,rfl,rfl,iM,oM⟩,?_⟩;(conv=>whnf);refine ⟨oM,fun x hx=>?_⟩;have hb:=hb x hx
   cases x with
   | ok v L =>
    obtain ⟨v1,v2,v3,v4,v5,v6⟩:=v;unfold ZC9
    dsimp only;(conv=>whnf);refine ⟨T,⟨rfl,rfl,rfl,iM,oM⟩,?_⟩;(conv=>whnf);refine ⟨fun g=>absurd g dM,fun _=>wN ?_⟩;exact hb
   | err p c =>
   conv=>whnf
   refine ⟨T,⟨rfl,rfl,rfl,iM,oM⟩,?_⟩;(conv=>whnf);refine ⟨fun g=>wN ?_,fun g=>wN ?_⟩
   ·rw [Zd2,Th oM] at hb;exact hb
   rw [Zd2,Tf oM] at hb;exact hb
 exact h.elim
def ZDO (hg:GlobOK w0 nG) (hN:NumOK w0 nG) (hL:LexC w0 nG) (n:Nat):PC w0 nG 26 (Ztr n) :=
 ZA8 ⟨ZDh hL n,cWU hN hL n,ZfC,ZCp hg,Zx7,trivial⟩
def Zni {α:Type} (enc:Pl->α->List D) (c:Nat->α->Prop) (f:α->Bs×Nat) (n:Nat):Zm:=fun args σ K=>match args,σ with
 | [.agg cs],⟨[],[],0⟩=>∃pl e,cs=(enc pl e).map .d/\(c n e/\n<=16777216)/\∀s k,f e=(s,k)->K (.ret (.tuple [.d (.str s),.d (.int .i64 (k:Nat))])) ⟨[],[],0⟩
 | _,_=>False
def UC (x:Un):Bs×Nat:=if Zey x=true then Zd2 (unT x) (JU 65536 16384 Zbn (unT x)) else ([],160)
def Zd6 (n:Nat) (x:Un):Prop:=ZuC x=true/\wUn x<=n/\(unT x).length<1073741824/\noC x
def Znj (hg:GlobOK w0 nG) (hN:NumOK w0 nG) (hL:LexC w0 nG) (n:Nat):PC w0 nG 26 (Zni XY Zd6 UC n):=(ZDO hg hN hL n).weaken1 fun args σ K h=>by
 unfold Zni at h
 unfold Ztr
 split at h
 ·obtain ⟨pl,e,h1,⟨⟨h2,h3,h4,h6⟩,h5⟩,h⟩:=h;exact ⟨pl,e,h1,⟨fun _=>h2,h3,oM,h6⟩,fun g=>h _ _ (by rw [UC,Tf (by rw [g];simp)]),fun g x hx=>h _ _ (by rw [UC,Th g,hx])⟩
 exact h.elim
structure Pr where
 types:List Ty
 rels:List Re
 rules:List Ru
def ZeD (pl:Pl) (p:Pr):List D:=[.sl (p.types.map (Zq pl)),.sl (p.rels.map (ZN pl)),.sl (p.rules.map (ZS pl))]
def Znk (p:Pr):Nat:=1+szS ZBC p.types+szS ZBD p.rels+szS ZlE p.rules
def mvM {α:Type} (f:α->MV) (m:List (Bs×α)):List (Bs×MV):=m.map fun x=>(x.1,f x.2)
def mvI (n:Int):MV:=.one (.int .i64 n)
def mvB (b:Bool):MV:=.one (.bool b)
def mvC (c:Int×Int):MV:=.agg [.int .i64 c.1,.int .i64 c.2]
def ZQ {α:Type} {f:α->MV} {k:Bs}:∀m:List (Bs×α),lkM k (mvM f m)=(lkM k m).map f
 | []=>rfl
 | (x,v)::l=>by
  have ih:=ZQ (f:=f) (k:=k) l;simp only [mvM,TD,lkM] at ih |-
  cases decide (k=x) with
  | true=>rfl
  | false=>exact ih
def VX {α:Type} {f:α->MV} {k:Bs} {v:α}:∀m:List (Bs×α),YB k (f v) (mvM f m)=mvM f (YB k v m)
 | []=>rfl
 | (x,u)::l=>by
  have ih:=VX (f:=f) (k:=k) (v:=v) l;simp only [mvM,TD,YB] at ih |-
  cases decide (k=x) with
  | true=>rfl
  | false=>simp only [ih];rfl
def Zkc {α:Type} {f:α->MV} (m:List (Bs×α)):(mvM f m).length=m.length:=Te ..
def JW {α:Type} {k s:Bs} {v:α}:∀m:List (Bs×α),lkM s (YB k v m)=if s=k then some v else lkM s m
 | []=>by simp only [YB,lkM];by_cases h:s=k <;> simp [h]
 | (x,u)::l=>by
  have ih:=JW (k:=k) (s:=s) (v:=v) l;simp only [YB]
  by_cases h:k=x
  ·subst h;rw [TL rfl];simp only [lkM]
   by_cases g:s=k <;> simp [g]
  rw [decide_eq_false h];simp only [lkM,ih]
  by_cases g:s=x
  ·subst g;rw [TL rfl];simp only;rw [Tf (fun e=>h e.symm)]
  rw [decide_eq_false g]
def putM_len {α:Type} {k:Bs} {v:α}:∀{m:List (Bs×α)},lkM k m=none->(YB k v m).length=m.length+1
 | [],_=>rfl
 | (x,u)::l,h=>by
  simp only [lkM] at h;simp only [YB]
  cases hd:decide (k=x) with
  | true=>rw [hd] at h;cases h
  | false=>rw [hd] at h;simp only [Td,putM_len h]
def Zy9:Bs:=[110,117,109,98,101,114]
def ZBJ:Bs:=[115,121,109,98,111,108]
def Ziw (s:Bs):Bool:=decide (s=Zy9) || decide (s=ZBJ)
def Wg:Nat->List Bs->List (Bs×Int)->List (Bs×Int)
 | _,[],m=>m
 | i,s::l,m=>Wg (i+1) l (if (lkM s m).isNone=true then YB s (i:Int) m else m)
def YU (l:List Bs):List (Bs×Int):=Wg 0 l []
def Zts (p:Pr):List (Bs×Int):=YU (p.types.map (·.name))
def JX (p:Pr):List (Bs×Int):=YU (p.rels.map (·.name))
def Yv (i:Nat):Nat->List Ca->List (Bs×(Int×Int))->List (Bs×(Int×Int))
 | _,[],m=>m
 | k,c::l,m=>Yv i (k+1) l (if (lkM c.name m).isNone=true then YB c.name ((i:Int),(k:Int)) m else m)
def JY:Nat->List Ty->List (Bs×(Int×Int))->List (Bs×(Int×Int))
 | _,[],m=>m
 | i,t::l,m=>JY (i+1) l (Yv i 0 t.cases m)
def Xc (p:Pr):List (Bs×(Int×Int)):=JY 0 p.types []
def Wh:List Ty->List (Bs×Int)->List (Bs×Int)
 | [],m=>m
 | t::l,m=>Wh l (if t.kind≠1/\(lkM t.name m).isNone=true then YB t.name (m.length:Int) m else m)
def JZ (p:Pr):List (Bs×Int):=Wh p.types [(Zy9,0),(ZBJ,1)]
def X0 (p:Pr) (s:Bs):Option Bs:=match lkM s (Zts p) with
 | none=>none
 | some i=>if Ziw s=true then none else match p.types[i.toNat]? with
  | some t=>if t.kind=1/\t.base≠[] then some t.base else none
  | none=>none
def W3 (p:Pr) (s:Bs):Bool:=(lkM s (Zts p)).isSome || Ziw s
def Zd7 {s:Bs}:∀(l:List Bs) (i:Nat) (m:List (Bs×Int)) (n:Int),lkM s (Wg i l m)=some n->lkM s m=some n\/∃k:Nat,n=i+k/\l[k]?=some s
 | [],i,m,n,h=>.inl h
 | x::l,i,m,n,h=>by
  rcases Zd7 l (i+1) _ n h with h | ⟨k,h1,h2⟩
  ·split at h
   ·rw [JW] at h;split at h
    ·rename_i e;cases h;exact .inr ⟨0,oM,by simp [e]⟩
    exact .inl h
   exact .inl h
  exact .inr ⟨k+1,oM,by simpa using h2⟩
def ZfE {s:Bs} {l:List Bs} {n:Int} (h:lkM s (YU l)=some n):∃k:Nat,n=k/\l[k]?=some s:=by
 rcases Zd7 l 0 [] n h with h | ⟨k,h1,h2⟩
 ·cases h
 exact ⟨k,oM,h2⟩
def Zqm {p:Pr} {s:Bs} {n:Int} (h:lkM s (Zts p)=some n):∃(k:Nat) (t:Ty),n=k/\p.types[k]?=some t/\t.name=s:=by
 exact mq158
abbrev Zix (pl:Pl) (p:Pr) (b:Nat):List PV:=[.mp b,.mp (b+1),.mp (b+2),.mp (b+3),.d (.sl (p.types.map (Zq pl))),.d (.sl (p.rels.map (ZN pl))),.d (.sl (p.rules.map (ZS pl)))]
abbrev Ziy (p:Pr):List Box:=[.dmap (mvM mvI (Zts p)),.dmap (mvM mvI (JX p)),.dmap (mvM mvI (JZ p)),.dmap (mvM mvC (Xc p))]
abbrev ZeE (pl:Pl) (p:Pr):List Box:=.cells 98 (Zix pl p 1)::Ziy p
def BP (p:Pr):Prop:=Znk p<=1073741824
def BP.len {p:Pr} (h:BP p):p.types.length<=1073741824/\p.rels.length<=1073741824/\p.rules.length<=1073741824:=by
 unfold BP Znk at h
 have h1:=ZA ZBC p.types;have h2:=ZA ZBD p.rels;have h3:=ZA ZlE p.rules;omega
def ZbD {α:Type} {f:α->Nat} {l:List α} {x:α} (h:x∈l):f x<szS f l:=by
 obtain ⟨i,hi,rfl⟩:=Sf h;exact ZE f l i hi
def BP.ty {p:Pr} (h:BP p) {t:Ty} (ht:t∈p.types):t.fields.length<=1073741824/\t.cases.length<=1073741824/\∀c∈t.cases,c.fields.length<=1073741824:=by
 unfold BP Znk at h
 have h1:=ZbD (f:=ZBC) ht;have e1:ZBC t=1+szS sz0 t.fields+szS Zz1 t.cases:=rfl;have h2:=ZA sz0 t.fields;have h3:=ZA Zz1 t.cases;refine ⟨oM,oM,fun c hc=>?_⟩;have h4:=ZbD (f:=Zz1) hc;have e2:Zz1 c=1+szS sz0 c.fields:=rfl;have h5:=ZA sz0 c.fields;omega
def BP.re {p:Pr} (h:BP p) {d:Re} (hd:d∈p.rels):d.fields.length<=1073741824:=by
 unfold BP Znk at h
 have h1:=ZbD (f:=ZBD) hd;have e1:ZBD d=1+szS sz0 d.fields:=rfl;have h2:=ZA sz0 d.fields;omega
def ZgX (p:Pr) (b:Bs):Nat->Bs->Bool
 | 0,_=>false
 | n+1,a=>if a=b then true else match X0 p a with
  | none=>false
  | some c=>ZgX p b n c
def XV (p:Pr) (a b:Bs):Bool:=ZgX p b (p.types.length+1) a
def ZbE (p:Pr):Nat->Bs->Option Bs
 | 0,_=>none
 | n+1,a=>match X0 p a with
  | none=>some a
  | some c=>ZbE p n c
def ZuI (p:Pr) (a:Bs):Option Bs:=ZbE p (p.types.length+1) a
def UD (p:Pr):Nat->Bs->Nat
 | 0,_=>0
 | n+1,a=>match X0 p a with
  | none=>0
  | some c=>UD p n c+1
def Xm (p:Pr) (a:Bs):Int:=(lkM ((ZuI p a).getD []) (JZ p)).getD 0
def ZF (p:Pr) (l:List Fi):List Int:=l.map fun f=>Xm p f.typ
def ZA9 (p:Pr):Prop:=∀s,(ZuI p s).isSome=true
def ZfF {p:Pr}:∀{n m:Nat} {a r:Bs},ZbE p n a=some r->n<=m->ZbE p m a=some r
 | 0,_,_,_,h,_=>by cases h
 | n+1,0,_,_,_,h=>oM
 | n+1,m+1,a,r,h,ar=>by
  simp only [ZbE] at h |-;split at h
  ·exact h
  exact ZfF h oM
def Ztt {p:Pr} {n:Nat} {a c r:Bs} (hb:X0 p a=some c) (h:ZbE p n a=some r):∃m,n=m+1/\ZbE p m c=some r:=by
 cases n with
 | zero=>cases h
 | succ m=>refine ⟨m,rfl,?_⟩;simpa only [ZbE,hb] using h
def Ztu {p:Pr} {a c r:Bs} (hb:X0 p a=some c) (h:ZuI p a=some r):ZuI p c=some r:=by
 obtain ⟨m,h1,h2⟩:=Ztt hb h;exact ZfF h2 oM
def Ztv {p:Pr} {a:Bs} (hb:X0 p a=none):ZuI p a=some a:=by simp only [ZuI,ZbE,hb]
def ZlI {p:Pr}:∀{n:Nat} {a c r:Bs},ZbE p n a=some r->X0 p a=some c->∀m,n<=m->UD p m c<UD p m a
 | 0,_,_,_,h,_,_,_=>by cases h
 | n+1,a,c,r,h,hb,m,hm=>by
  obtain ⟨k,rfl⟩:∃k,m=k+1:=⟨m - 1,oM⟩
  simp only [ZbE,hb] at h;have e:UD p (k+1) a=UD p k c+1:=by simp only [UD,hb]
  rw [e]
  cases hc:X0 p c with
  | none=>simp only [UD,hc];omega
  | some d =>
  have e2:UD p (k+1) c=UD p k d+1:=by simp only [UD,hc]
  rw [e2];have:=ZlI h hc k oM;omega
def ZaI (body:List PV->Pl->Pr->(PEnd->Prop)->Prop):Zm:=fun args σ K=>match args,σ with
 | .ptr 0 0::rest,⟨bx,[],0⟩=>∃pl p,bx=ZeE pl p/\BP p/\body rest pl p fun pe=>K pe ⟨bx,[],0⟩
 | _,_=>False
def Zkd:Zm:=fun args σ K=>match args,σ with
 | [.d (.str s)],⟨[],[],0⟩=>∀b,Ziw s=b->K (.ret (.d (.bool b))) ⟨[],[],0⟩
 | _,_=>False
def ZlJ:PC w0 nG 32 Zkd:=by
 refine pwe Tryz.func32 fun args σ K h=>?_
 unfold Zkd at h
 split at h
 ·rename_i s
  refine pwv [] 0 false ?_;refine ZEw (fun h1=>wN ?_) (fun h1=>wN ?_)
  ·exact h _ (by simp [Ziw,show s=Zy9 from h1])
  exact h _ (by simp [Ziw,show ¬s=Zy9 from h1];rfl)
 exact h.elim
def ZfG:Zm:=ZaI fun rest pl p K=>match rest with
 | [.d (.str s)]=>∀x,X0 p s=x->K (.ret (.tuple [.d (.str (x.getD [])),.d (.bool x.isSome)]))
 | _=>False
def Zqn:Tbl:=[(32,Zkd)]
def Zyr (ht:TO w0 nG Zqn):PC w0 nG 33 ZfG:=by
 refine pwt ht Tryz.func33 fun args σ K h=>?_
 unfold ZfG ZaI at h
 split at h
 ·obtain ⟨pl,p,rfl,hp,h⟩:=h;split at h
  ·rename_i s
   refine pwv [] 5 false ?_;refine ZEE (fun v hv=>?_) (fun hv=>?_);rotate_left
   ·rw [ZQ,Option.map_eq_none_iff] at hv;(conv=>whnf);exact h none (by simp only [X0,hv])
   rw [ZQ] at hv;obtain ⟨n,hn,rfl⟩:=TG.1 hv;obtain ⟨k,⟨t1,t2,t3,t4,t5,t6⟩,rfl,ht,av⟩:=Zqm hn;have hk:p.types[(k:Int).toNat]?=some ⟨t1,t2,t3,t4,t5,t6⟩:=by rw [Ti];exact ht
   have hr:(p.types.map (Zq pl))[(k:Int).toNat]?=some (Zq pl ⟨t1,t2,t3,t4,t5,t6⟩):=by rw [Tj,hk];rfl
   conv=>whnf
   intro b hb
   cases b with
   | true =>
    conv=>whnf
    exact h none (by simp only [X0,hn,hb,if_true])
   | false =>
   conv=>whnf
   refine ⟨_,oM,hr,wN ?_⟩;refine ZEy (fun hc=>wN ?_) (fun hc=>wN ?_)
   ·exact h none (by simp only [X0,hn,hb,hk];rw [Tf sM,Tf];intro g;exact hc (by simp only [g.1];rfl))
   refine ⟨_,oM,hr,wN ?_⟩;refine ⟨_,oM,hr,wN ?_⟩;have dh:t1=1:=by have hc:(t1:Int)=1:=hc;omega
   cases t3 with
   | nil=>exact h none (by simp only [X0,hn,hb,hk];rw [Tf sM,Tf sM])
   | cons x t3=>exact h (some (x::t3)) (by simp only [X0,hn,hb,hk];rw [Tf sM,Th ⟨dh,sM⟩])
  exact h.elim
 exact h.elim
def U1:Zm:=ZaI fun rest pl p K=>match rest with
 | [.d (.str s)]=>∀b,W3 p s=b->K (.ret (.d (.bool b)))
 | _=>False
def Zqo:OKw w0 nG Zqn 19 U1:=by
 refine pwo Tryz.func19 fun args σ K h=>?_
 unfold U1 ZaI at h
 split at h
 ·obtain ⟨pl,p,rfl,hp,h⟩:=h;split at h
  ·rename_i s
   refine pwv [] 5 false ?_;refine ZEE (fun v hv=>?_) (fun hv=>wN ?_)
   ·rw [ZQ] at hv;obtain ⟨n,hn,rfl⟩:=TG.1 hv;(conv=>whnf);exact h true (by simp [W3,hn])
   rw [ZQ,Option.map_eq_none_iff] at hv;intro b hb
   conv=>whnf
   exact h b (by simp [W3,hv,hb])
  exact h.elim
 exact h.elim
def Va:Zm:=ZaI fun rest pl p K=>match rest with
 | [.d (.str s)]=>ZA9 p/\∀n,Xm p s=n->K (.ret (.d (.int .i64 n)))
 | _=>False
def ZlK:Tbl:=[(33,ZfG)]
def Zqp:OKw w0 nG ZlK 20 Va:=by
 refine pwo Tryz.func20 fun args σ K h=>?_
 unfold Va ZaI at h
 split at h
 ·obtain ⟨pl,p,rfl,hp,h⟩:=h;split at h
  ·rename_i s
   obtain ⟨he,h⟩:=h;obtain ⟨r,hr⟩:=SA.1 (he s);refine pwv [(1,⟨[1],[0],fun vs σ=>∃a,vs=[.d (.str a)]/\σ=⟨ZeE pl p,[],0⟩/\ZuI p a=some r,fun vs _=>match vs with | [.d (.str a)]=>UD p (p.types.length+1) a | _=>0⟩)] 5 false ?_;refine ⟨⟨s,rfl,rfl,hr⟩,?_⟩
   rintro vs σ1 ⟨a,rfl,rfl,ha⟩
   conv=>whnf
   refine ⟨pl,p,rfl,hp,fun x hx=>?_⟩
   cases x with
   | none =>
    have n7:r=a:=by rw [Ztv hx] at ha;exact (Option.some.inj ha).symm
    subst n7;(conv=>whnf);refine ZEE (fun v hv=>?_) (fun hv=>wN ?_)
    ·rw [ZQ] at hv;obtain ⟨n,hn,rfl⟩:=TG.1 hv;(conv=>whnf);exact h n (by simp [Xm,hr,hn])
    rw [ZQ,Option.map_eq_none_iff] at hv;exact h 0 (by simp [Xm,hr,hv])
   | some c =>
   conv=>whnf
   exact ⟨⟨c,rfl,rfl,Ztu hx ha⟩,ZlI ha hx _ (Tz _)⟩
  exact h.elim
 exact h.elim
def Zd8:Zm:=ZaI fun rest pl p K=>match rest with
 | [.d (.str a),.d (.str b)]=>∀x,XV p a b=x->K (.ret (.d (.bool x)))
 | _=>False
def Zqq:OKw w0 nG ZlK 25 Zd8:=by
 refine pwo Tryz.func25 fun args σ K h=>?_
 unfold Zd8 ZaI at h
 split at h
 ·obtain ⟨pl,p,rfl,hp,h⟩:=h;split at h
  ·rename_i s b
   have ab:=hp.len.1;have hl:(p.types.map (Zq pl)).length=p.types.length:=Te ..;refine pwu [(2,⟨[1,16],[0,2,15],fun vs σ=>∃a j,vs=[.d (.str a),.d (.int .i64 j)]/\σ=⟨ZeE pl p,[],0⟩/\(0<=j/\j<=p.types.length+1)/\ZgX p b (p.types.length+1 - j.toNat) a=XV p s b,
    fun vs _=>match vs with | [_,.d (.int _ j)]=>((p.types.length:Int)+1 - j).toNat | _=>0⟩)] 5 false ?_
   conv=>whnf
   refine Zj ?_;refine ⟨⟨s,0,rfl,rfl,⟨oM,oM⟩,rfl⟩,?_⟩
   rintro vs σ1 ⟨a,j,rfl,rfl,⟨tf,hj1⟩,ha⟩
   conv=>whnf
   refine ZEw (fun hc=>?_) (fun hc=>?_);rotate_left
   ·conv=>whnf
    rw [show p.types.length+1 - j.toNat=0 by omega] at ha;exact h false (by rw [<- ha];rfl)
   obtain ⟨q,hq⟩:∃q,p.types.length+1 - j.toNat=q+1:=⟨p.types.length - j.toNat,oM⟩
   rw [hq] at ha;simp only [ZgX] at ha;(conv=>whnf);refine ZEw (fun wu=>wN ?_) (fun wu=>wN ?_)
   ·rw [Th wu] at ha;exact h true ha.symm
   rw [Tf wu] at ha;refine ⟨pl,p,rfl,hp,fun x hx=>?_⟩;rw [hx] at ha
   cases x with
   | none =>
    conv=>whnf
    exact h false ha.symm
   | some c =>
   conv=>whnf
   refine Zj ?_;refine ⟨⟨c,j+1,rfl,rfl,⟨oM,oM⟩,?_⟩,?_⟩
   ·rw [show p.types.length+1 - (j+1).toNat=q by omega];exact ha
   show ((p.types.length:Int)+1 - (j+1)).toNat<((p.types.length:Int)+1 - j).toNat;omega
  exact h.elim
 exact h.elim
abbrev Zqr (pl:Pl) (p:Pr):List Box:=.cells 48 [.ptr 1 0]::.cells 98 (Zix pl p 2)::Ziy p
def Znl {α:Type} (enc:α->List D) (cond:α->Prop) (q:Pr->α->Bool):Zm:=fun args σ K=>match args,σ with
 | [.agg c,.ptr 0 0],⟨bx,[],0⟩=>∃pl p x,bx=Zqr pl p/\c=(enc x).map .d/\(BP p/\cond x)/\∀b,q p x=b->K (.ret (.d (.bool b))) ⟨bx,[],0⟩
 | _,_=>False
def Zke {α:Type} (q:α->Bool):Nat->List α->Int
 | _,[]=>-1
 | i,x::l=>if q x=true then i else Zke q (i+1) l
def ZgY {α:Type} {q:α->Bool}:∀(l:List α) (i:Nat),(0<=Zke q i l)↔l.any q=true
 | [],i=>by simp [Zke]
 | x::l,i=>by
  simp only [Zke,SK]
  cases hq:q x with
  | true=>simp
  | false=>simpa using ZgY l (i+1)
def ZfH {α:Type} (clo:FuncId) (enc:α->List D) (cond:α->Prop) (q:Pr->α->Bool):Zm:=fun args σ K=>match args,σ with
 | [.d (.sl rows),.func g [] [.ptr 0 0]],⟨bx,[],0⟩=>∃pl p l,bx=Zqr pl p/\rows=l.map enc/\(g=clo/\BP p/\l.length<=1073741824/\∀x∈l,cond x)/\∀i,Zke (q p) 0 l=i->K (.ret (.d (.int .i64 i))) ⟨bx,[],0⟩
 | _,_=>False
def ZfI {α:Type} (clo:FuncId) (enc:α->List D) (cond:α->Prop) (q:Pr->α->Bool):Zm:=fun args σ K=>match args,σ with
 | [.d (.sl rows),.func g [] [.ptr 0 0]],⟨bx,[],0⟩=>∃pl p,∃l:List α,bx=Zqr pl p/\rows=l.map enc/\(g=clo/\BP p/\l.length<=1073741824/\∀x∈l,cond x)/\∀b,l.any (q p)=b->K (.ret (.d (.bool b))) ⟨bx,[],0⟩
 | _,_=>False
def Vx (p:Pr) (l:List Fi):Bool:=!(l.any fun f=>!W3 p f.typ)
def ZbF:{α:Type}->α->Prop:=fun _=>True
def ZfJ (c:Ca):Prop:=c.fields.length<=1073741824
def Ztx:OKw w0 nG [(19,U1)] 92 (Znl Zn ZbF (fun p (f:Fi)=>!W3 p f.typ)):=by
 refine pwo Tryz.func92 fun args σ K h=>?_
 unfold Znl at h
 split at h
 ·obtain ⟨pl,p,⟨f1,f2⟩,rfl,rfl,⟨hp,ra⟩,h⟩:=h;refine pwv [] 6 false ?_;refine ⟨pl,p,rfl,hp,fun b hb=>wN ?_⟩;exact h _ (by simp only [hb])
 exact h.elim
def Ztz:OKw w0 nG [(92,Znl Zn ZbF (fun p (f:Fi)=>!W3 p f.typ))] 165 (ZfH 92 Zn ZbF (fun p (f:Fi)=>!W3 p f.typ)):=by
 refine pwo Tryz.func165 fun args σ K h=>?_
 unfold ZfH at h
 split at h
 ·obtain ⟨pl,p,l,rfl,rfl,⟨rfl,hp,aa,jz⟩,h⟩:=h;have hl:(l.map Zn).length=l.length:=Te ..;refine pwu [(2,⟨[8],[0,1,7],fun vs σ=>∃j:Nat,vs=[.d (.int .i64 j)]/\σ=⟨Zqr pl p,[],0⟩/\j<=l.length/\Zke ((fun p (f:Fi)=>!W3 p f.typ) p) j (l.drop j)=Zke ((fun p (f:Fi)=>!W3 p f.typ) p) 0 l,
   mu1 l.length⟩)] 6 false ?_
  conv=>whnf
  refine ⟨⟨0,rfl,rfl,oM,rfl⟩,?_⟩
  rintro vs σ1 ⟨j,rfl,rfl,hj,ha⟩
  conv=>whnf
  refine ZEw (fun hc=>?_) (fun hc=>?_);rotate_left
  ·conv=>whnf
   rw [Tr oM] at ha;exact h (-1) ha.symm
  have ab:j<l.length:=oM;rw [Tl ab] at ha;have hr:(l.map Zn)[(j:Int).toNat]?=some (Zn l[j]):=by rw [Ti,Tj,Tb ab];rfl
  have ra:=jz _ (TE ab);generalize l[j]=x at ha hr ra;obtain ⟨f1,f2⟩:=x;exact mq205
 exact h.elim
def ZtB:OKw w0 nG [(165,ZfH 92 Zn ZbF (fun p (f:Fi)=>!W3 p f.typ))] 91 (ZfI 92 Zn ZbF (fun p (f:Fi)=>!W3 p f.typ)):=by
 refine pwo Tryz.func91 fun args σ K h=>?_
 exact mq73
def Zd9:Zm:=ZaI fun rest pl p K=>match rest with
 | [.d (.sl rows)]=>∃l:List Fi,rows=l.map Zn/\l.length<=1073741824/\∀b,Vx p l=b->K (.ret (.d (.bool b)))
 | _=>False
def ZtD:OKw w0 nG [(91,ZfI 92 Zn ZbF (fun p (f:Fi)=>!W3 p f.typ))] 51 Zd9:=by
 refine pwo Tryz.func51 fun args σ K h=>?_
 unfold Zd9 ZaI at h
 split at h
 ·obtain ⟨pl,p,rfl,hp,h⟩:=h;split at h
  ·obtain ⟨l,rfl,aa,h⟩:=h;refine pwv [] 5 false ?_;refine ⟨pl,p,l,rfl,rfl,⟨rfl,hp,aa,fun _ _=>trivial⟩,fun b hb=>wN ?_⟩;exact h _ (by simp only [Vx,hb])
  exact h.elim
 exact h.elim
def ZtF:OKw w0 nG [(51,Zd9)] 50 (Znl Zt ZfJ (fun p (c:Ca)=>!Vx p c.fields)):=by
 refine pwo Tryz.func50 fun args σ K h=>?_
 unfold Znl at h
 split at h
 ·obtain ⟨pl,p,⟨c1,c2⟩,rfl,rfl,⟨hp,ra⟩,h⟩:=h;refine pwv [] 6 false ?_;refine ⟨pl,p,rfl,hp,c2,rfl,ra,fun b hb=>wN ?_⟩;exact h _ (by simp only [hb])
 exact h.elim
def ZtH:OKw w0 nG [(50,Znl Zt ZfJ (fun p (c:Ca)=>!Vx p c.fields))] 90 (ZfH 50 Zt ZfJ (fun p (c:Ca)=>!Vx p c.fields)):=by
 refine pwo Tryz.func90 fun args σ K h=>?_
 unfold ZfH at h
 split at h
 ·obtain ⟨pl,p,l,rfl,rfl,⟨rfl,hp,aa,jz⟩,h⟩:=h;have hl:(l.map Zt).length=l.length:=Te ..;refine pwu [(2,⟨[8],[0,1,7],fun vs σ=>∃j:Nat,vs=[.d (.int .i64 j)]/\σ=⟨Zqr pl p,[],0⟩/\j<=l.length/\Zke ((fun p (c:Ca)=>!Vx p c.fields) p) j (l.drop j)=Zke ((fun p (c:Ca)=>!Vx p c.fields) p) 0 l,
   mu1 l.length⟩)] 6 false ?_
  conv=>whnf
  refine ⟨⟨0,rfl,rfl,oM,rfl⟩,?_⟩
  rintro vs σ1 ⟨j,rfl,rfl,hj,ha⟩
  conv=>whnf
  refine ZEw (fun hc=>?_) (fun hc=>?_);rotate_left
  ·conv=>whnf
   rw [Tr oM] at ha;exact h (-1) ha.symm
  have ab:j<l.length:=oM;rw [Tl ab] at ha;have hr:(l.map Zt)[(j:Int).toNat]?=some (Zt l[j]):=by rw [Ti,Tj,Tb ab];rfl
  have ra:=jz _ (TE ab);generalize l[j]=x at ha hr ra;obtain ⟨c1,c2⟩:=x;exact mq205
 exact h.elim
def ZtJ:OKw w0 nG [(90,ZfH 50 Zt ZfJ (fun p (c:Ca)=>!Vx p c.fields))] 49 (ZfI 50 Zt ZfJ (fun p (c:Ca)=>!Vx p c.fields)):=by
 refine pwo Tryz.func49 fun args σ K h=>?_
 exact mq73
def Yh (l:List Int):List (List D):=l.map fun n=>[.int .i64 n]
def UE:Zm:=ZaI fun rest pl p K=>match rest with
 | [.d (.sl rows)]=>∃l:List Fi,rows=l.map Zn/\(ZA9 p/\l.length<=1073741824)/\K (.ret (.d (.sl (Yh (ZF p l)))))
 | _=>False
def Znn (ht:TO w0 nG [(20,Va)]):PC w0 nG 17 UE:=by
 refine pwt ht Tryz.func17 fun args σ K h=>?_
 unfold UE ZaI at h
 split at h
 ·obtain ⟨pl,p,rfl,hp,h⟩:=h;split at h
  ·obtain ⟨l,rfl,⟨he,aa⟩,h⟩:=h;have hl:(l.map Zn).length=l.length:=Te ..;refine pwu [(3,⟨[5,10],[0,8,9],fun vs σ=>∃j:Nat,vs=[.sl 0 3 (Yh (ZF p (l.take j))),.d (.int .i64 j)]/\σ=⟨ZeE pl p,[0],1⟩/\j<=l.length,
    mu2 l.length⟩)] 5 false ?_
   conv=>whnf
   refine ⟨⟨0,rfl,rfl,oM⟩,?_⟩
   rintro vs σ1 ⟨j,rfl,rfl,hj⟩
   conv=>whnf
   refine ZEw (fun hc=>?_) (fun hc=>?_);rotate_left
   ·conv=>whnf
    rw [List.take_of_length_le oM];exact h
   have ab:j<l.length:=oM;have ht:ZF p (l.take (j+1))=ZF p (l.take j)++[Xm p l[j].typ]:=by simp only [ZF,List.take_succ,Tb ab,Option.toList_some,TP,TD,TM]
   have hr:(l.map Zn)[(j:Int).toNat]?=some (Zn l[j]):=by rw [Ti,Tj,Tb ab];rfl
   have hlr:(Yh (ZF p (l.take j))).length=j:=by simp [Yh,ZF];omega
   generalize l[j]=x at ht hr;obtain ⟨f1,f2⟩:=x;(conv=>whnf);refine ⟨_,oM,hr,wN ?_⟩;refine ⟨pl,p,rfl,hp,he,fun n hn=>wN ?_⟩;refine ⟨fun r hr=>by simp at hr;subst hr;rfl,?_,?_,?_⟩
   ·show ((Yh (ZF p (l.take j))).length+1) * 8<=2 ^ 47;omega
   ·show (Yh (ZF p (l.take j))).length+1<=2 ^ 47;omega
   conv=>whnf
   refine Zj ?_;refine ⟨⟨j+1,?_,rfl,oM⟩,?_⟩
   ·rw [ht,hn];simp only [Yh,TP,TD,TM];rfl
   show ((l.length:Int) - ((j:Int)+1)).toNat<((l.length:Int) - (j:Int)).toNat;omega
  exact h.elim
 exact h.elim
def VY {s:Bs}:∀(l:List Bs) (i:Nat) (m:List (Bs×Int)),Wg i (l++[s]) m=if (lkM s (Wg i l m)).isNone=true then YB s ((i:Int)+l.length) (Wg i l m) else Wg i l m
 | [],i,m=>by simp [Wg]
 | x::l,i,m=>by
  simp only [Sb,Wg,VY l (i+1),Td];rw [show ((i+1:Nat):Int)+(l.length:Int)=(i:Int)+((l.length+1:Nat):Int) by omega]
  try rfl
def U2 {α:Type} (enc:Pl->α->List D) (nm:α->Bs):Zm:=fun args σ K=>match args,σ with
 | [.agg c],⟨[],[],0⟩=>∃pl x,c=(enc pl x).map .d/\K (.ret (.d (.str (nm x)))) ⟨[],[],0⟩
 | _,_=>False
def U4 {α:Type} (clo:FuncId) (enc:Pl->α->List D) (nm:α->Bs):Zm:=fun args σ K=>match args,σ with
 | [.d (.sl rows),.func g [] []],⟨[],[],0⟩=>∃pl,∃l:List α,rows=l.map (enc pl)/\(g=clo/\l.length<=1073741824)/\K (.ret (.mp 0)) ⟨[.dmap (mvM mvI (YU (l.map nm)))],[],0⟩
 | _,_=>False
def Zkf:PC w0 nG 41 (U2 Zq (·.name)):=by
 refine pwe Tryz.func41 fun args σ K h=>?_
 exact mq125
def Zkh:OKw w0 nG [(41,U2 Zq (·.name))] 40 (U4 41 Zq (·.name)):=by
 refine pwo Tryz.func40 fun args σ K h=>?_
 unfold U4 at h
 split at h
 ·obtain ⟨pl,l,rfl,⟨rfl,aa⟩,h⟩:=h;have hl:(l.map (Zq pl)).length=l.length:=Te ..;refine pwu [(3,⟨[13],[1,5,11,12],fun vs σ=>∃j:Nat,vs=[.d (.int .i64 j)]/\σ=⟨[.dmap (mvM mvI (YU ((l.take j).map (·.name))))],[],0⟩/\j<=l.length,
   mu1 l.length⟩)] 1 false ?_
  conv=>whnf
  refine ⟨⟨0,rfl,rfl,oM⟩,?_⟩
  rintro vs σ1 ⟨j,rfl,rfl,hj⟩
  conv=>whnf
  refine ZEw (fun hc=>?_) (fun hc=>?_);rotate_left
  ·conv=>whnf
   rw [List.take_of_length_le oM];exact h
  have ab:j<l.length:=oM;have hs:YU ((l.take (j+1)).map (·.name))=if (lkM l[j].name (YU ((l.take j).map (·.name)))).isNone=true then YB l[j].name (j:Int) (YU ((l.take j).map (·.name))) else YU ((l.take j).map (·.name)):=by
   exact mq116
  have hr:(l.map (Zq pl))[(j:Int).toNat]?=some (Zq pl l[j]):=by rw [Ti,Tj,Tb ab];rfl
  exact mq28
 exact h.elim
def Zki:PC w0 nG 43 (U2 ZN (·.name)):=by
 refine pwe Tryz.func43 fun args σ K h=>?_
 exact mq125
def Zkk:OKw w0 nG [(43,U2 ZN (·.name))] 42 (U4 43 ZN (·.name)):=by
 refine pwo Tryz.func42 fun args σ K h=>?_
 unfold U4 at h
 split at h
 ·obtain ⟨pl,l,rfl,⟨rfl,aa⟩,h⟩:=h;have hl:(l.map (ZN pl)).length=l.length:=Te ..;refine pwu [(3,⟨[13],[1,5,11,12],fun vs σ=>∃j:Nat,vs=[.d (.int .i64 j)]/\σ=⟨[.dmap (mvM mvI (YU ((l.take j).map (·.name))))],[],0⟩/\j<=l.length,
   mu1 l.length⟩)] 1 false ?_
  conv=>whnf
  refine ⟨⟨0,rfl,rfl,oM⟩,?_⟩
  rintro vs σ1 ⟨j,rfl,rfl,hj⟩
  conv=>whnf
  refine ZEw (fun hc=>?_) (fun hc=>?_);rotate_left
  ·conv=>whnf
   rw [List.take_of_length_le oM];exact h
  have ab:j<l.length:=oM;have hs:YU ((l.take (j+1)).map (·.name))=if (lkM l[j].name (YU ((l.take j).map (·.name)))).isNone=true then YB l[j].name (j:Int) (YU ((l.take j).map (·.name))) else YU ((l.take j).map (·.name)):=by
   exact mq116
  have hr:(l.map (ZN pl))[(j:Int).toNat]?=some (ZN pl l[j]):=by rw [Ti,Tj,Tb ab];rfl
  exact mq28
 exact h.elim
def Zb7 {i:Nat} {c:Ca}:∀(l:List Ca) (k:Nat) (m:List (Bs×(Int×Int))),Yv i k (l++[c]) m=if (lkM c.name (Yv i k l m)).isNone=true then YB c.name ((i:Int),((k+l.length:Nat):Int)) (Yv i k l m) else Yv i k l m
 | [],k,m=>rfl
 | x::l,k,m=>by
  simp only [Sb,Yv,Zb7 l (k+1),Td];rw [show k+1+l.length=k+(l.length+1) by omega]
  try rfl
def Zb8 {t:Ty}:∀(l:List Ty) (i:Nat) (m:List (Bs×(Int×Int))),JY i (l++[t]) m=Yv (i+l.length) 0 t.cases (JY i l m)
 | [],i,m=>rfl
 | x::l,i,m=>by
  simp only [Sb,JY,Zb8 l (i+1),Td];rw [show i+1+l.length=i+(l.length+1) by omega]
def ZaJ {t:Ty}:∀(l:List Ty) (m:List (Bs×Int)),Wh (l++[t]) m=if t.kind≠1/\(lkM t.name (Wh l m)).isNone=true then YB t.name ((Wh l m).length:Int) (Wh l m) else Wh l m
 | [],m=>rfl
 | x::l,m=>by simp only [Sb,Wh,ZaJ l];rfl
abbrev ZgZ (pl:Pl) (p:Pr):List PV:=[.d (.sl (p.types.map (Zq pl))),.d (.sl (p.rels.map (ZN pl))),.d (.sl (p.rules.map (ZS pl)))]
abbrev Zqs (pl:Pl) (p:Pr) (cs:List (Bs×(Int×Int))) (sh:List (Bs×Int)):List Box:=[.cells 31 (ZgZ pl p),.dmap (mvM mvC cs),.dmap (mvM mvI sh),
 .cells 98 ([.mp 4,.mp 5,.mp 2,.mp 1]++ZgZ pl p),.dmap (mvM mvI (Zts p)),.dmap (mvM mvI (JX p))]
def U5:Zm:=fun args σ K=>match args,σ with
 | [.agg c],⟨[],[],0⟩=>∃pl p,c=(ZeD pl p).map .d/\BP p/\K (.ret (.ptr 3 0)) ⟨Zqs pl p (Xc p) (JZ p),[],0⟩
 | _,_=>False
def Ziz:Tbl:=[(40,U4 41 Zq (·.name)),(42,U4 43 ZN (·.name))]
abbrev Zkl (p:Pr) (j:Nat):List (Bs×(Int×Int)):=JY 0 (p.types.take j) []
abbrev Zno (p:Pr) (j:Nat):List (Bs×Int):=Wh (p.types.take j) [(Zy9,0),(ZBJ,1)]
def Zqt (ht:TO w0 nG Ziz):PC w0 nG 24 U5:=by
 refine YF ZC mixed (tbl:=Ziz) ht Tryz.func24 rfl kR kR ?_;intro args σ K h
 unfold U5 at h
 split at h
 ·obtain ⟨pl,p,rfl,hp,h⟩:=h;have aa:=hp.len;have hl:(p.types.map (Zq pl)).length=p.types.length:=Te ..;refine ⟨Zk [(5,⟨[33],[3,31,32],fun vs σ=>∃j:Nat,vs=[.d (.int .i64 j)]/\σ=⟨Zqs pl p (Zkl p j) (Zno p j),[],0⟩/\j<=p.types.length,
    fun vs _=>match vs with | [.d (.int _ j)]=>((p.types.length:Int) - j).toNat | _=>0⟩),
   (8,⟨[41],[3,4,5,31,32,33,39,40],fun vs σ=>∃(j k:Nat) (t:Ty),vs=[.ptr 3 0,.d (.int .i64 j),.ptr 6 0,.d (.sl (p.types.map (Zq pl))),.d (.int .i64 (p.types.map (Zq pl)).length),.d (.int .i64 j),.d (.sl (t.cases.map Zt)),.d (.int .i64 (t.cases.map Zt).length),.d (.int .i64 k)] /\
     σ=⟨Zqs pl p (Yv j 0 (t.cases.take k) (Zkl p j)) (Zno p j)++[.cells 56 ((Zq pl t).map .d)],[],0⟩/\k<=t.cases.length/\p.types[j]?=some t/\t.cases.length<=1073741824,
    fun vs _=>match vs with | [_,_,_,_,_,_,_,.d (.int _ n),.d (.int _ k)]=>(n - k).toNat | _=>0⟩)],Ye [],ZB [8],6,false,sM,Tc rfl,?_⟩
  conv=>whnf
  refine ⟨pl,p.types,rfl,⟨rfl,aa.1⟩,wN ?_⟩;refine ⟨pl,p.rels,rfl,⟨rfl,aa.2.1⟩,wN ?_⟩;refine ⟨⟨0,rfl,rfl,oM⟩,?_⟩
  rintro vs σ1 ⟨j,rfl,rfl,hj⟩
  conv=>whnf
  refine ZEw (fun hc=>?_) (fun hc=>?_);rotate_left
  ·have e1:Zkl p j=Xc p:=by unfold Zkl;rw [List.take_of_length_le oM];rfl
   have e2:Zno p j=JZ p:=by unfold Zno;rw [List.take_of_length_le oM];rfl
   conv=>whnf
   rw [<- e1,<- e2] at h;exact h
  have ab:j<p.types.length:=oM;have cu:p.types.take (j+1)=p.types.take j++[p.types[j]]:=by rw [List.take_add_one,Tb ab];rfl
  have dk:Zkl p (j+1)=Yv j 0 p.types[j].cases (Zkl p j):=by unfold Zkl;rw [cu,Zb8,Si,Nat.min_eq_left oM,T9]
  have ez:Zno p (j+1)=if p.types[j].kind≠1/\(lkM p.types[j].name (Zno p j)).isNone=true then YB p.types[j].name ((Zno p j).length:Int) (Zno p j) else Zno p j:=by unfold Zno;rw [cu,ZaJ]
  have ht:p.types[j]?=some p.types[j]:=Tb ab;have o7:=(hp.ty (TE ab)).2.1;have hr:(p.types.map (Zq pl))[(j:Int).toNat]?=some (Zq pl p.types[j]):=by rw [Ti,Tj,ht];rfl
  generalize p.types[j]=t at dk ez ht hr o7;obtain ⟨t1,t2,t3,t4,t5,t6⟩:=t;have jg:(t5.map Zt).length=t5.length:=Te ..;(conv=>whnf);refine ⟨_,oM,hr,wN ?_⟩;refine ⟨⟨j,0,⟨t1,t2,t3,t4,t5,t6⟩,rfl,rfl,oM,ht,o7⟩,?_⟩
  rintro vs σ2 ⟨j',k,t',bv,rfl,hk,kh,-⟩
  have ej:(some (PV.d (.int .i64 (j:Int))):Option PV)=some (.d (.int .i64 (j':Int))):=congrArg (fun l:List PV=>l[5]?) bv;obtain rfl:j=j':=by have ej:=Option.some.inj ej;injection ej with ej;injection ej with _ ej;omega
  obtain rfl:(⟨t1,t2,t3,t4,t5,t6⟩:Ty)=t':=Option.some.inj (ht.symm.trans kh);have bv:vs=[.d (.int .i64 k)]:=congrArg (List.drop 8) bv;subst bv;(conv=>whnf);refine ZEw (fun bj=>?_) (fun bj=>?_)
  ·have aq:k<t5.length:=by have bj:(k:Int)<((t5.map Zt).length:Int):=bj;omega
   have lz:Yv j 0 (t5.take (k+1)) (Zkl p j)=if (lkM t5[k].name (Yv j 0 (t5.take k) (Zkl p j))).isNone=true then YB t5[k].name ((j:Int),(k:Int)) (Yv j 0 (t5.take k) (Zkl p j)) else Yv j 0 (t5.take k) (Zkl p j):=by
    rw [List.take_add_one,Tb aq];show Yv j 0 (t5.take k++[t5[k]]) _=_;rw [Zb7,Si,Nat.min_eq_left oM,T9]
   have dz:(t5.map Zt)[(k:Int).toNat]?=some (Zt t5[k]):=by rw [Ti,Tj,Tb aq];rfl
   generalize t5[k]=c at lz dz;obtain ⟨c1,c2⟩:=c;(conv=>whnf);refine ⟨_,oM,dz,wN ?_⟩;refine ZEE (fun v hv=>?_) (fun hv=>wN ?_)
   ·rw [ZQ] at hv;obtain ⟨n,hn,rfl⟩:=TG.1 hv;rw [Tf (by rw [show lkM _ _=some n from hn];simp)] at lz;(conv=>whnf)
    (repeat (refine ⟨rfl,?_⟩;conv=>whnf))
    refine Zj ?_;exact ⟨⟨j,k+1,⟨t1,t2,t3,t4,t5,t6⟩,rfl,by simp only [lz];rfl,by simp only;omega,ht,o7⟩,by show (((t5.map Zt).length:Int) - ((k:Int)+1)).toNat<(((t5.map Zt).length:Int) - (k:Int)).toNat;omega⟩
   rw [ZQ,Option.map_eq_none_iff] at hv;rw [Th (by rw [show lkM _ _=none from hv];rfl)] at lz;have e:mvM mvC (Yv j 0 (t5.take (k+1)) (Zkl p j))=YB c1 (.agg [.int .i64 j,.int .i64 k]) (mvM mvC (Yv j 0 (t5.take k) (Zkl p j))):=by rw [lz,<- VX];rfl
   (repeat (refine ⟨rfl,?_⟩;conv=>whnf))
   refine Zj ?_;exact ⟨⟨j,k+1,⟨t1,t2,t3,t4,t5,t6⟩,rfl,by rw [<- e];rfl,by simp only;omega,ht,o7⟩,by show (((t5.map Zt).length:Int) - ((k:Int)+1)).toNat<(((t5.map Zt).length:Int) - (k:Int)).toNat;omega⟩
  have ia:k=t5.length:=by have bj:¬(k:Int)<((t5.map Zt).length:Int):=bj;have hk:k<=t5.length:=hk;omega
  subst ia;have e1:Zkl p (j+1)=Yv j 0 (t5.take t5.length) (Zkl p j):=by rw [dk,T6]
  conv=>whnf
  refine ZEE (fun v hv=>?_) (fun hv=>wN ?_)
  ·rw [ZQ] at hv;obtain ⟨n,hn,rfl⟩:=TG.1 hv;rw [Tf (by rw [show lkM _ _=some n from hn];simp)] at ez;(conv=>whnf);refine ZEy (fun fm=>wN ?_) (fun fm=>wN ?_)
   ·exact mq62
   exact mq62
  rw [ZQ,Option.map_eq_none_iff] at hv;refine ZEy (fun fm=>wN ?_) (fun fm=>wN ?_)
  ·rw [Th ⟨fun g=>fm (by simp only [show t1=1 from g];rfl),by rw [show lkM _ _=none from hv];rfl⟩] at ez;have e2:mvM mvI (Zno p (j+1))=YB t2 (.one (.int .i64 ((mvM mvI (Zno p j)).length:Int))) (mvM mvI (Zno p j)):=by rw [ez,<- VX,Zkc];rfl
   (repeat (refine ⟨rfl,?_⟩;conv=>whnf))
   refine Zj ?_;exact ⟨⟨j+1,rfl,by rw [e1,<- e2];rfl,oM⟩,by show ((p.types.length:Int) - ((j:Int)+1)).toNat<((p.types.length:Int) - (j:Int)).toNat;omega⟩
  rw [Tf (fun g=>g.1 (by have fm:(t1:Int)=1:=fm;show t1=1;omega))] at ez;exact mq62
 exact h.elim
end Go.PM.Lex
end
