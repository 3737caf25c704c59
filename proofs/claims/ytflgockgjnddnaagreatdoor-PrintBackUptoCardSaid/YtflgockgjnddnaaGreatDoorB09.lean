/- A part of the proof: plain logic, contracts and laws over the given program. -/
import Derived.Test.YtflgockgjnddnaaGreatDoorB08
set_option linter.unusedVariables false
set_option linter.unusedSimpArgs false
set_option linter.all false
set_option maxRecDepth 100000
set_option maxHeartbeats 16000000
section
namespace Go.PM.Lex
open Go.Proofs
variable {w0:World} {nG:Nat}
theorem Zy7 {n:Nat} (ht:TblOK (GG w0 nG) (Zy6 n)):PCalls (GG w0 nG) 30 (ZqJ n):=by
 refine ZrI XG mixed (tbl:=Zy6 n) ht Tryz.func30 rfl (by kernel_rfl) (by kernel_rfl) ZCD ?_
 intro args σ K h
 unfold ZqJ Zi9 at h
 split at h
 ·rename_i rest t p e rows
  obtain ⟨l,txt,rfl,⟨hp,rfl,rfl⟩,⟨pl,⟨op,tx,nn,xs,at'⟩,want,rfl,⟨hmay,hz,hn,hw0,hw6⟩,rfl⟩,hlen,h⟩:=h
  obtain ⟨m1,m2,m3,m4,m5⟩:=Zv9 hmay
  obtain ⟨k1,k2,k3,k5⟩:=Zwa m1
  have hzx:szS wE xs+tx.length+1≤n:=by rw [wE,VU] at hz;omega
  rw [Tl] at m5
  refine ⟨Za [],ZaS [],Vh [],1,true,by simp,Tb rfl,?_⟩
  rcases hp with rfl | rfl
  all_goals
   conv=>whnf
   refine ⟨op,rfl,fun l1 w1 a1 e1 e2 e3=>?_⟩
   subst e1
   conv=>whnf
   refine ZCX (fun hlt=>?_) (fun hlt=>?_)
   ·have hW:exW want.toNat (.mk op tx nn xs at')=[40]++(exT (.mk op tx nn xs at')++[41]):=by rw [exW,Zpg,Th (by show Zm op<_;omega)]
    rw [hW] at h hlen
    have hlen0:l.length+1<70368744177664:=by simp only [Ta,Tc,Td] at hlen;omega
    conv=>whnf
    refine ⟨l,[40],rfl,⟨(by first | exact .inl rfl | exact .inr rfl),rfl,rfl⟩,⟨[[40]],rfl,by simp,by simp,by simp⟩,by simp only [Tc,Td];omega,?_⟩
    conv=>whnf
    refine ZCX (fun c1=>?_) (fun c1=>?_)
    ·have c1:Zm op<5:=by omega
     have hl2:xs.length=2:=by have:=k1 c1;omega
     obtain ⟨x0,x1,rfl⟩:∃x0 x1,xs=[x0,x1]:=by match xs,hl2 with | [a,b],_=>exact ⟨a,b,rfl⟩
     simp only [szS] at hzx
     have g0:=m5 x0 (by simp)
     have g1:=m5 x1 (by simp)
     have z0:wE x0≤n - 1:=by omega
     have z1:wE x1≤n - 1:=by omega
     obtain ⟨o0,t0,n0,y0,q0⟩:=x0
     obtain ⟨o1,t1,n1,y1,q1⟩:=x1
     have hx:exT (.mk op tx nn [(.mk o0 t0 n0 y0 q0),(.mk o1 t1 n1 y1 q1)] at')=exW (Zm op) (.mk o0 t0 n0 y0 q0)++(([32]++(w1++[32]))++exW (Zm op+1) (.mk o1 t1 n1 y1 q1)):=by rw [exT,exN,Th c1,e2];rfl
     rw [hx] at h hlen
     (try simp only [Ta,Tc,Td] at hlen)
     conv=>whnf
     refine ⟨_,by decide,rfl,?_⟩
     conv=>whnf
     refine ⟨by omega,(l++[40]),exW (Zm op) (.mk o0 t0 n0 y0 q0),rfl,⟨(by first | exact .inl rfl | exact .inr rfl),rfl,rfl⟩,⟨pl,(.mk o0 t0 n0 y0 q0),(Zm op:Int),rfl,⟨g0,by omega,by omega,by omega,by omega⟩,rfl⟩,by (try simp only [Ta,Tc,Td]);omega,?_⟩
     conv=>whnf
     refine ⟨(l++[40])++exW (Zm op) (.mk o0 t0 n0 y0 q0),[32]++(w1++[32]),rfl,⟨(by first | exact .inl rfl | exact .inr rfl),rfl,rfl⟩,⟨[[32],w1,[32]],rfl,by simp,by simp,by simp⟩,by (try simp only [Ta,Tc,Td]);omega,?_⟩
     conv=>whnf
     refine ⟨_,by decide,rfl,?_⟩
     conv=>whnf
     refine oiO ?_
     conv=>whnf
     refine ⟨by omega,(l++[40])++exW (Zm op) (.mk o0 t0 n0 y0 q0)++([32]++(w1++[32])),exW (Zm op+1) (.mk o1 t1 n1 y1 q1),rfl,⟨(by first | exact .inl rfl | exact .inr rfl),rfl,rfl⟩,⟨pl,(.mk o1 t1 n1 y1 q1),((Zm op:Int)+1),rfl,⟨g1,by omega,by omega,by omega,by omega⟩,rfl⟩,by (try simp only [Ta,Tc,Td]);omega,?_⟩
     conv=>whnf
     refine ⟨Tb rfl,?_⟩
     conv=>whnf
     refine ⟨_,by decide,rfl,?_⟩
     conv=>whnf
     refine ⟨(l++[40])++exW (Zm op) (.mk o0 t0 n0 y0 q0)++([32]++(w1++[32]))++exW (Zm op+1) (.mk o1 t1 n1 y1 q1),[41],rfl,⟨.inr rfl,rfl,rfl⟩,⟨rfl,rfl⟩,by (try simp only [Ta,Tc,Td]);omega,?_⟩
     conv=>whnf
     refine oiO ?_
     rw [show l++([40]++(exW (Zm op) (.mk o0 t0 n0 y0 q0)++(([32]++(w1++[32]))++exW (Zm op+1) (.mk o1 t1 n1 y1 q1))++[41]))=(l++[40])++exW (Zm op) (.mk o0 t0 n0 y0 q0)++([32]++(w1++[32]))++exW (Zm op+1) (.mk o1 t1 n1 y1 q1)++[41] by first | rfl | simp only [Tg]] at h
     exact m35
    have c1:¬Zm op<5:=by omega
    conv=>whnf
    refine ZCX (fun c2=>?_) (fun c2=>?_)
    ·have c2:Zm op=5:=by omega
     have hl2:xs.length=1:=by have:=k2 c2;omega
     obtain ⟨x0,rfl⟩:∃x0,xs=[x0]:=by match xs,hl2 with | [a],_=>exact ⟨a,rfl⟩
     simp only [szS] at hzx
     have g0:=m5 x0 (by simp)
     have z0:wE x0≤n - 1:=by omega
     obtain ⟨o0,t0,n0,y0,q0⟩:=x0
     have hx:exT (.mk op tx nn [(.mk o0 t0 n0 y0 q0)] at')=w1++exW 5 (.mk o0 t0 n0 y0 q0):=by rw [exT,exN,Tf c1,Th c2,e2];rfl
     rw [hx] at h hlen
     (try simp only [Ta,Tc,Td] at hlen)
     conv=>whnf
     refine ⟨(l++[40]),w1,rfl,⟨(by first | exact .inl rfl | exact .inr rfl),rfl,rfl⟩,⟨[w1],rfl,by simp,by simp,by simp⟩,by (try simp only [Ta,Tc,Td]);omega,?_⟩
     conv=>whnf
     refine ⟨_,by decide,rfl,?_⟩
     conv=>whnf
     refine ⟨by omega,(l++[40])++w1,exW 5 (.mk o0 t0 n0 y0 q0),rfl,⟨(by first | exact .inl rfl | exact .inr rfl),rfl,rfl⟩,⟨pl,(.mk o0 t0 n0 y0 q0),5,rfl,⟨g0,by omega,by omega,by omega,by omega⟩,rfl⟩,by (try simp only [Ta,Tc,Td]);omega,?_⟩
     conv=>whnf
     refine ⟨Tb rfl,?_⟩
     conv=>whnf
     refine ⟨_,by decide,rfl,?_⟩
     conv=>whnf
     refine ⟨(l++[40])++w1++exW 5 (.mk o0 t0 n0 y0 q0),[41],rfl,⟨.inr rfl,rfl,rfl⟩,⟨rfl,rfl⟩,by (try simp only [Ta,Tc,Td]);omega,?_⟩
     conv=>whnf
     refine oiO ?_
     rw [show l++([40]++(w1++exW 5 (.mk o0 t0 n0 y0 q0)++[41]))=(l++[40])++w1++exW 5 (.mk o0 t0 n0 y0 q0)++[41] by first | rfl | simp only [Tg]] at h
     exact m35
    have c2:¬Zm op=5:=by omega
    conv=>whnf
    refine ZCY (fun c3=>?_) (fun c3=>?_)
    ·have c3:ZM op≠[]:=by rw [e2];exact c3
     have hx:exT (.mk op tx nn xs at')=w1++Wl [40] [41] xs:=by rw [exT,exN,Tf c1,Tf c2,Th c3,e2,J9];rfl
     rw [hx] at h hlen
     (try simp only [Ta,Tc,Td] at hlen)
     conv=>whnf
     refine ⟨(l++[40]),w1,rfl,⟨(by first | exact .inl rfl | exact .inr rfl),rfl,rfl⟩,⟨[w1],rfl,by simp,by simp,by simp⟩,by (try simp only [Ta,Tc,Td]);omega,?_⟩
     conv=>whnf
     refine ⟨by omega,(l++[40])++w1,Wl [40] [41] xs,rfl,⟨(by first | exact .inl rfl | exact .inr rfl),rfl,rfl⟩,⟨[40],[41],pl,xs,rfl,⟨Tl.2 m5,by omega,by omega⟩,rfl⟩,by (try simp only [Ta,Tc,Td]);omega,?_⟩
     conv=>whnf
     refine ⟨Tb rfl,?_⟩
     conv=>whnf
     refine ⟨_,by decide,rfl,?_⟩
     conv=>whnf
     refine ⟨(l++[40])++w1++Wl [40] [41] xs,[41],rfl,⟨.inr rfl,rfl,rfl⟩,⟨rfl,rfl⟩,by (try simp only [Ta,Tc,Td]);omega,?_⟩
     conv=>whnf
     refine oiO ?_
     rw [show l++([40]++(w1++Wl [40] [41] xs++[41]))=(l++[40])++w1++Wl [40] [41] xs++[41] by first | rfl | simp only [Tg]] at h
     exact m35
    have c3:¬ZM op≠[]:=by rw [e2];exact fun g=>g c3
    conv=>whnf
    refine ZCX (fun c4=>?_) (fun c4=>?_)
    ·have c4:op=6:=by omega
     have hx:exT (.mk op tx nn xs at')=Wl [91] [93] xs:=by rw [exT,exN,Tf c1,Tf c2,Tf c3,Th c4,J9];rfl
     rw [hx] at h hlen
     (try simp only [Ta,Tc,Td] at hlen)
     conv=>whnf
     refine ⟨by omega,(l++[40]),Wl [91] [93] xs,rfl,⟨(by first | exact .inl rfl | exact .inr rfl),rfl,rfl⟩,⟨[91],[93],pl,xs,rfl,⟨Tl.2 m5,by omega,by omega⟩,rfl⟩,by (try simp only [Ta,Tc,Td]);omega,?_⟩
     conv=>whnf
     refine ⟨Tb rfl,?_⟩
     conv=>whnf
     refine ⟨_,by decide,rfl,?_⟩
     conv=>whnf
     refine ⟨(l++[40])++Wl [91] [93] xs,[41],rfl,⟨.inr rfl,rfl,rfl⟩,⟨rfl,rfl⟩,by (try simp only [Ta,Tc,Td]);omega,?_⟩
     conv=>whnf
     refine oiO ?_
     rw [show l++([40]++(Wl [91] [93] xs++[41]))=(l++[40])++Wl [91] [93] xs++[41] by first | rfl | simp only [Tg]] at h
     exact m35
    have c4:¬op=6:=by omega
    conv=>whnf
    refine ZCX (fun c5=>?_) (fun c5=>?_)
    ·have c5:op=7:=by omega
     have hxl:(Yi pl xs).length=xs.length:=by rw [Zf,Te]
     by_cases hx0:xs.length=0
     ·have hx:exT (.mk op tx nn xs at')=[36]++tx:=by rw [exT,exN,Tf c1,Tf c2,Tf c3,Tf c4,Th c5,ZdA,Th hx0,TC]
      rw [hx] at h hlen
      (try simp only [Ta,Tc,Td] at hlen)
      conv=>whnf
      refine ⟨(l++[40]),[36]++tx,rfl,⟨(by first | exact .inl rfl | exact .inr rfl),rfl,rfl⟩,⟨[[36],tx],rfl,by simp,by simp,by simp⟩,by (try simp only [Ta,Tc,Td]);omega,?_⟩
      conv=>whnf
      refine ZCX (fun g=>?_) (fun g=>?_)
      case refine_1=>exact absurd (show ((Yi pl xs).length:Int)>0 from g) (by omega)
      conv=>whnf
      refine ⟨Tb rfl,?_⟩
      conv=>whnf
      refine ⟨_,by decide,rfl,?_⟩
      conv=>whnf
      refine ⟨(l++[40])++([36]++tx),[41],rfl,⟨.inr rfl,rfl,rfl⟩,⟨rfl,rfl⟩,by (try simp only [Ta,Tc,Td]);omega,?_⟩
      conv=>whnf
      refine oiO ?_
      rw [show l++([40]++([36]++tx++[41]))=(l++[40])++([36]++tx)++[41] by first | rfl | simp only [Tg]] at h
      exact m35
     have hx:exT (.mk op tx nn xs at')=([36]++tx)++Wl [40] [41] xs:=by rw [exT,exN,Tf c1,Tf c2,Tf c3,Tf c4,Th c5,ZdA,Tf hx0,J9,Tg];rfl
     rw [hx] at h hlen
     (try simp only [Ta,Tc,Td] at hlen)
     conv=>whnf
     refine ⟨(l++[40]),[36]++tx,rfl,⟨(by first | exact .inl rfl | exact .inr rfl),rfl,rfl⟩,⟨[[36],tx],rfl,by simp,by simp,by simp⟩,by (try simp only [Ta,Tc,Td]);omega,?_⟩
     conv=>whnf
     refine ZCX (fun g=>?_) (fun g=>?_)
     case refine_2=>exact absurd (show ((Yi pl xs).length:Int)>0 by omega) g
     conv=>whnf
     refine ⟨by omega,(l++[40])++([36]++tx),Wl [40] [41] xs,rfl,⟨(by first | exact .inl rfl | exact .inr rfl),rfl,rfl⟩,⟨[40],[41],pl,xs,rfl,⟨Tl.2 m5,by omega,by omega⟩,rfl⟩,by (try simp only [Ta,Tc,Td]);omega,?_⟩
     conv=>whnf
     refine ⟨Tb rfl,?_⟩
     conv=>whnf
     refine ⟨_,by decide,rfl,?_⟩
     conv=>whnf
     refine ⟨(l++[40])++([36]++tx)++Wl [40] [41] xs,[41],rfl,⟨.inr rfl,rfl,rfl⟩,⟨rfl,rfl⟩,by (try simp only [Ta,Tc,Td]);omega,?_⟩
     conv=>whnf
     refine oiO ?_
     rw [show l++([40]++(([36]++tx)++Wl [40] [41] xs++[41]))=(l++[40])++([36]++tx)++Wl [40] [41] xs++[41] by first | rfl | simp only [Tg]] at h
     exact m35
    have c5:¬op=7:=by omega
    conv=>whnf
    refine ZCX (fun c6=>?_) (fun c6=>?_)
    ·have c6':op=3:=by omega
     obtain ⟨i0,i1⟩:=m4
     conv=>whnf
     refine ZCX (fun gn=>?_) (fun gn=>?_)
     ·obtain ⟨j0,j1,j2⟩:=Zlz gn i0
      obtain ⟨wn,hwn⟩:∃wn,IntKind.u64.wrap nn=wn:=⟨_,rfl⟩
      rw [hwn] at j0 j1 j2
      conv=>whnf
      refine Or.inr ?_
      rw [hwn]
      have hx:exT (.mk op tx nn xs at')=Zdz nn:=by rw [exT,exN,Tf c1,Tf c2,Tf c3,Tf c4,Tf c5,Th c6']
      rw [hx] at h hlen
      (try simp only [Ta,Tc,Td] at hlen)
      conv=>whnf
      refine ⟨⟨rfl,j0,j1⟩,?_⟩
      obtain ⟨T,hT⟩:∃T,YG 16 wn.toNat=T:=⟨_,rfl⟩
      rw [hT] at j2 ⊢
      rw [j2] at h hlen
      (try simp only [Ta,Tc,Td] at hlen)
      conv=>whnf
      refine ⟨(l++[40]),[48,120]++T,rfl,⟨(by first | exact .inl rfl | exact .inr rfl),rfl,rfl⟩,⟨[[48,120],T],rfl,by simp,by simp,by simp⟩,by (try simp only [Ta,Tc,Td]);omega,?_⟩
      conv=>whnf
      refine ⟨Tb rfl,?_⟩
      conv=>whnf
      refine ⟨_,by decide,rfl,?_⟩
      conv=>whnf
      refine ⟨(l++[40])++([48,120]++T),[41],rfl,⟨.inr rfl,rfl,rfl⟩,⟨rfl,rfl⟩,by (try simp only [Ta,Tc,Td]);omega,?_⟩
      conv=>whnf
      refine oiO ?_
      rw [show l++([40]++(([48,120]++T)++[41]))=(l++[40])++([48,120]++T)++[41] by first | rfl | simp only [Tg]] at h
      exact m35
     conv=>whnf
     refine ZCX (fun _=>?_) (fun g=>absurd c6 g)
     have hx:exT (.mk op tx nn xs at')=Zdz nn:=by rw [exT,exN,Tf c1,Tf c2,Tf c3,Tf c4,Tf c5,Th c6']
     rw [hx] at h hlen
     (try simp only [Ta,Tc,Td] at hlen)
     conv=>whnf
     refine ⟨⟨rfl,by omega,i1⟩,?_⟩
     conv=>whnf
     refine ⟨(l++[40]),Zdz nn,rfl,⟨(by first | exact .inl rfl | exact .inr rfl),rfl,rfl⟩,⟨[Zdz nn],rfl,by simp,by simp,by simp⟩,by (try simp only [Ta,Tc,Td]);omega,?_⟩
     conv=>whnf
     refine ⟨Tb rfl,?_⟩
     conv=>whnf
     refine ⟨_,by decide,rfl,?_⟩
     conv=>whnf
     refine ⟨(l++[40])++Zdz nn,[41],rfl,⟨.inr rfl,rfl,rfl⟩,⟨rfl,rfl⟩,by (try simp only [Ta,Tc,Td]);omega,?_⟩
     conv=>whnf
     refine oiO ?_
     rw [show l++([40]++(Zdz nn++[41]))=(l++[40])++Zdz nn++[41] by first | rfl | simp only [Tg]] at h
     exact m35
    have c6':¬op=3:=by omega
    conv=>whnf
    refine ZCX (fun g=>absurd g c6) (fun _=>?_)
    conv=>whnf
    refine ZCX (fun c7=>?_) (fun c7=>?_)
    ·have c7':op=4:=by omega
     have hq:(Uv tx).isSome=true:=by unfold W6 at m3;rw [Tf (by omega),Th c7'] at m3;exact m3
     obtain ⟨q,hq⟩:=Option.isSome_iff_exists.1 hq
     have hqT:Zpf tx=q:=by rw [Zpf,hq];rfl
     have hx:exT (.mk op tx nn xs at')=q:=by rw [exT,exN,Tf c1,Tf c2,Tf c3,Tf c4,Tf c5,Tf c6',Th c7',hqT]
     rw [hx] at h hlen
     (try simp only [Ta,Tc,Td] at hlen)
     conv=>whnf
     refine ⟨by omega,?_⟩
     conv=>whnf
     refine ⟨fun g=>?_,fun q' hq'=>?_⟩
     case refine_1=>exact absurd (hq.symm.trans g) (by simp)
     obtain rfl:q=q':=by rw [hq] at hq';exact Option.some.inj hq'
     conv=>whnf
     refine ⟨(l++[40]),q,rfl,⟨(by first | exact .inl rfl | exact .inr rfl),rfl,rfl⟩,⟨[q],rfl,by simp,by simp,by simp⟩,by (try simp only [Ta,Tc,Td]);omega,?_⟩
     conv=>whnf
     refine ⟨Tb rfl,?_⟩
     conv=>whnf
     refine ⟨_,by decide,rfl,?_⟩
     conv=>whnf
     refine ⟨(l++[40])++q,[41],rfl,⟨.inr rfl,rfl,rfl⟩,⟨rfl,rfl⟩,by (try simp only [Ta,Tc,Td]);omega,?_⟩
     conv=>whnf
     refine oiO ?_
     rw [show l++([40]++(q++[41]))=(l++[40])++q++[41] by first | rfl | simp only [Tg]] at h
     exact m35
    have c7':¬op=4:=by omega
    conv=>whnf
    refine ZCX (fun c8=>?_) (fun c8=>?_)
    ·have c8':op=5:=by omega
     have hx:exT (.mk op tx nn xs at')=[110,105,108]:=by rw [exT,exN,Tf c1,Tf c2,Tf c3,Tf c4,Tf c5,Tf c6',Tf c7',Th c8']
     rw [hx] at h hlen
     (try simp only [Ta,Tc,Td] at hlen)
     conv=>whnf
     refine ⟨(l++[40]),[110,105,108],rfl,⟨(by first | exact .inl rfl | exact .inr rfl),rfl,rfl⟩,⟨[[110,105,108]],rfl,by simp,by simp,by simp⟩,by (try simp only [Ta,Tc,Td]);omega,?_⟩
     conv=>whnf
     refine ⟨Tb rfl,?_⟩
     conv=>whnf
     refine ⟨_,by decide,rfl,?_⟩
     conv=>whnf
     refine ⟨(l++[40])++[110,105,108],[41],rfl,⟨.inr rfl,rfl,rfl⟩,⟨rfl,rfl⟩,by (try simp only [Ta,Tc,Td]);omega,?_⟩
     conv=>whnf
     refine oiO ?_
     rw [show l++([40]++([110,105,108]++[41]))=(l++[40])++[110,105,108]++[41] by first | rfl | simp only [Tg]] at h
     exact m35
    have c8':¬op=5:=by omega
    conv=>whnf
    refine ZCX (fun c9=>?_) (fun c9=>?_)
    ·have c9':op=2:=by omega
     have hx:exT (.mk op tx nn xs at')=[95]:=by rw [exT,exN,Tf c1,Tf c2,Tf c3,Tf c4,Tf c5,Tf c6',Tf c7',Tf c8',Th c9']
     rw [hx] at h hlen
     (try simp only [Ta,Tc,Td] at hlen)
     conv=>whnf
     refine ⟨(l++[40]),[95],rfl,⟨(by first | exact .inl rfl | exact .inr rfl),rfl,rfl⟩,⟨[[95]],rfl,by simp,by simp,by simp⟩,by (try simp only [Ta,Tc,Td]);omega,?_⟩
     conv=>whnf
     refine ⟨Tb rfl,?_⟩
     conv=>whnf
     refine ⟨_,by decide,rfl,?_⟩
     conv=>whnf
     refine ⟨(l++[40])++[95],[41],rfl,⟨.inr rfl,rfl,rfl⟩,⟨rfl,rfl⟩,by (try simp only [Ta,Tc,Td]);omega,?_⟩
     conv=>whnf
     refine oiO ?_
     rw [show l++([40]++([95]++[41]))=(l++[40])++[95]++[41] by first | rfl | simp only [Tg]] at h
     exact m35
    have c9':¬op=2:=by omega
    have hx:exT (.mk op tx nn xs at')=tx:=by rw [exT,exN,Tf c1,Tf c2,Tf c3,Tf c4,Tf c5,Tf c6',Tf c7',Tf c8',Tf c9']
    rw [hx] at h hlen
    (try simp only [Ta,Tc,Td] at hlen)
    conv=>whnf
    refine ⟨(l++[40]),tx,rfl,⟨(by first | exact .inl rfl | exact .inr rfl),rfl,rfl⟩,⟨[tx],rfl,by simp,by simp,by simp⟩,by (try simp only [Ta,Tc,Td]);omega,?_⟩
    conv=>whnf
    refine ⟨Tb rfl,?_⟩
    conv=>whnf
    refine ⟨_,by decide,rfl,?_⟩
    conv=>whnf
    refine ⟨(l++[40])++tx,[41],rfl,⟨.inr rfl,rfl,rfl⟩,⟨rfl,rfl⟩,by (try simp only [Ta,Tc,Td]);omega,?_⟩
    conv=>whnf
    refine oiO ?_
    rw [show l++([40]++(tx++[41]))=(l++[40])++tx++[41] by first | rfl | simp only [Tg]] at h
    exact m35
   ·have hW:exW want.toNat (.mk op tx nn xs at')=exT (.mk op tx nn xs at'):=by rw [exW,Zpg,Tf (by show ¬Zm op<_;omega)]
    rw [hW] at h hlen
    conv=>whnf
    refine ZCX (fun c1=>?_) (fun c1=>?_)
    ·have c1:Zm op<5:=by omega
     have hl2:xs.length=2:=by have:=k1 c1;omega
     obtain ⟨x0,x1,rfl⟩:∃x0 x1,xs=[x0,x1]:=by match xs,hl2 with | [a,b],_=>exact ⟨a,b,rfl⟩
     simp only [szS] at hzx
     have g0:=m5 x0 (by simp)
     have g1:=m5 x1 (by simp)
     have z0:wE x0≤n - 1:=by omega
     have z1:wE x1≤n - 1:=by omega
     obtain ⟨o0,t0,n0,y0,q0⟩:=x0
     obtain ⟨o1,t1,n1,y1,q1⟩:=x1
     have hx:exT (.mk op tx nn [(.mk o0 t0 n0 y0 q0),(.mk o1 t1 n1 y1 q1)] at')=exW (Zm op) (.mk o0 t0 n0 y0 q0)++(([32]++(w1++[32]))++exW (Zm op+1) (.mk o1 t1 n1 y1 q1)):=by rw [exT,exN,Th c1,e2];rfl
     rw [hx] at h hlen
     (try simp only [Ta,Tc,Td] at hlen)
     conv=>whnf
     refine ⟨_,by decide,rfl,?_⟩
     conv=>whnf
     refine ⟨by omega,l,exW (Zm op) (.mk o0 t0 n0 y0 q0),rfl,⟨(by first | exact .inl rfl | exact .inr rfl),rfl,rfl⟩,⟨pl,(.mk o0 t0 n0 y0 q0),(Zm op:Int),rfl,⟨g0,by omega,by omega,by omega,by omega⟩,rfl⟩,by (try simp only [Ta,Tc,Td]);omega,?_⟩
     conv=>whnf
     refine ⟨l++exW (Zm op) (.mk o0 t0 n0 y0 q0),[32]++(w1++[32]),rfl,⟨(by first | exact .inl rfl | exact .inr rfl),rfl,rfl⟩,⟨[[32],w1,[32]],rfl,by simp,by simp,by simp⟩,by (try simp only [Ta,Tc,Td]);omega,?_⟩
     conv=>whnf
     refine ⟨_,by decide,rfl,?_⟩
     conv=>whnf
     refine oiO ?_
     conv=>whnf
     refine ⟨by omega,l++exW (Zm op) (.mk o0 t0 n0 y0 q0)++([32]++(w1++[32])),exW (Zm op+1) (.mk o1 t1 n1 y1 q1),rfl,⟨(by first | exact .inl rfl | exact .inr rfl),rfl,rfl⟩,⟨pl,(.mk o1 t1 n1 y1 q1),((Zm op:Int)+1),rfl,⟨g1,by omega,by omega,by omega,by omega⟩,rfl⟩,by (try simp only [Ta,Tc,Td]);omega,?_⟩
     rw [show l++(exW (Zm op) (.mk o0 t0 n0 y0 q0)++(([32]++(w1++[32]))++exW (Zm op+1) (.mk o1 t1 n1 y1 q1)))=l++exW (Zm op) (.mk o0 t0 n0 y0 q0)++([32]++(w1++[32]))++exW (Zm op+1) (.mk o1 t1 n1 y1 q1) by first | rfl | simp only [Tg]] at h
     exact m35
    have c1:¬Zm op<5:=by omega
    conv=>whnf
    refine ZCX (fun c2=>?_) (fun c2=>?_)
    ·have c2:Zm op=5:=by omega
     have hl2:xs.length=1:=by have:=k2 c2;omega
     obtain ⟨x0,rfl⟩:∃x0,xs=[x0]:=by match xs,hl2 with | [a],_=>exact ⟨a,rfl⟩
     simp only [szS] at hzx
     have g0:=m5 x0 (by simp)
     have z0:wE x0≤n - 1:=by omega
     obtain ⟨o0,t0,n0,y0,q0⟩:=x0
     have hx:exT (.mk op tx nn [(.mk o0 t0 n0 y0 q0)] at')=w1++exW 5 (.mk o0 t0 n0 y0 q0):=by rw [exT,exN,Tf c1,Th c2,e2];rfl
     rw [hx] at h hlen
     (try simp only [Ta,Tc,Td] at hlen)
     conv=>whnf
     refine ⟨l,w1,rfl,⟨(by first | exact .inl rfl | exact .inr rfl),rfl,rfl⟩,⟨[w1],rfl,by simp,by simp,by simp⟩,by (try simp only [Ta,Tc,Td]);omega,?_⟩
     conv=>whnf
     refine ⟨_,by decide,rfl,?_⟩
     conv=>whnf
     refine ⟨by omega,l++w1,exW 5 (.mk o0 t0 n0 y0 q0),rfl,⟨(by first | exact .inl rfl | exact .inr rfl),rfl,rfl⟩,⟨pl,(.mk o0 t0 n0 y0 q0),5,rfl,⟨g0,by omega,by omega,by omega,by omega⟩,rfl⟩,by (try simp only [Ta,Tc,Td]);omega,?_⟩
     rw [show l++(w1++exW 5 (.mk o0 t0 n0 y0 q0))=l++w1++exW 5 (.mk o0 t0 n0 y0 q0) by first | rfl | simp only [Tg]] at h
     exact m35
    have c2:¬Zm op=5:=by omega
    conv=>whnf
    refine ZCY (fun c3=>?_) (fun c3=>?_)
    ·have c3:ZM op≠[]:=by rw [e2];exact c3
     have hx:exT (.mk op tx nn xs at')=w1++Wl [40] [41] xs:=by rw [exT,exN,Tf c1,Tf c2,Th c3,e2,J9];rfl
     rw [hx] at h hlen
     (try simp only [Ta,Tc,Td] at hlen)
     conv=>whnf
     refine ⟨l,w1,rfl,⟨(by first | exact .inl rfl | exact .inr rfl),rfl,rfl⟩,⟨[w1],rfl,by simp,by simp,by simp⟩,by (try simp only [Ta,Tc,Td]);omega,?_⟩
     conv=>whnf
     refine ⟨by omega,l++w1,Wl [40] [41] xs,rfl,⟨(by first | exact .inl rfl | exact .inr rfl),rfl,rfl⟩,⟨[40],[41],pl,xs,rfl,⟨Tl.2 m5,by omega,by omega⟩,rfl⟩,by (try simp only [Ta,Tc,Td]);omega,?_⟩
     rw [show l++(w1++Wl [40] [41] xs)=l++w1++Wl [40] [41] xs by first | rfl | simp only [Tg]] at h
     exact m35
    have c3:¬ZM op≠[]:=by rw [e2];exact fun g=>g c3
    conv=>whnf
    refine ZCX (fun c4=>?_) (fun c4=>?_)
    ·have c4:op=6:=by omega
     have hx:exT (.mk op tx nn xs at')=Wl [91] [93] xs:=by rw [exT,exN,Tf c1,Tf c2,Tf c3,Th c4,J9];rfl
     rw [hx] at h hlen
     (try simp only [Ta,Tc,Td] at hlen)
     conv=>whnf
     refine ⟨by omega,l,Wl [91] [93] xs,rfl,⟨(by first | exact .inl rfl | exact .inr rfl),rfl,rfl⟩,⟨[91],[93],pl,xs,rfl,⟨Tl.2 m5,by omega,by omega⟩,rfl⟩,by (try simp only [Ta,Tc,Td]);omega,?_⟩
     rw [show l++(Wl [91] [93] xs)=l++Wl [91] [93] xs by first | rfl | simp only [Tg]] at h
     exact m35
    have c4:¬op=6:=by omega
    conv=>whnf
    refine ZCX (fun c5=>?_) (fun c5=>?_)
    ·have c5:op=7:=by omega
     have hxl:(Yi pl xs).length=xs.length:=by rw [Zf,Te]
     by_cases hx0:xs.length=0
     ·have hx:exT (.mk op tx nn xs at')=[36]++tx:=by rw [exT,exN,Tf c1,Tf c2,Tf c3,Tf c4,Th c5,ZdA,Th hx0,TC]
      rw [hx] at h hlen
      (try simp only [Ta,Tc,Td] at hlen)
      conv=>whnf
      refine ⟨l,[36]++tx,rfl,⟨(by first | exact .inl rfl | exact .inr rfl),rfl,rfl⟩,⟨[[36],tx],rfl,by simp,by simp,by simp⟩,by (try simp only [Ta,Tc,Td]);omega,?_⟩
      conv=>whnf
      refine ZCX (fun g=>?_) (fun g=>?_)
      case refine_1=>exact absurd (show ((Yi pl xs).length:Int)>0 from g) (by omega)
      rw [show l++([36]++tx)=l++([36]++tx) by first | rfl | simp only [Tg]] at h
      exact m35
     have hx:exT (.mk op tx nn xs at')=([36]++tx)++Wl [40] [41] xs:=by rw [exT,exN,Tf c1,Tf c2,Tf c3,Tf c4,Th c5,ZdA,Tf hx0,J9,Tg];rfl
     rw [hx] at h hlen
     (try simp only [Ta,Tc,Td] at hlen)
     conv=>whnf
     refine ⟨l,[36]++tx,rfl,⟨(by first | exact .inl rfl | exact .inr rfl),rfl,rfl⟩,⟨[[36],tx],rfl,by simp,by simp,by simp⟩,by (try simp only [Ta,Tc,Td]);omega,?_⟩
     conv=>whnf
     refine ZCX (fun g=>?_) (fun g=>?_)
     case refine_2=>exact absurd (show ((Yi pl xs).length:Int)>0 by omega) g
     conv=>whnf
     refine ⟨by omega,l++([36]++tx),Wl [40] [41] xs,rfl,⟨(by first | exact .inl rfl | exact .inr rfl),rfl,rfl⟩,⟨[40],[41],pl,xs,rfl,⟨Tl.2 m5,by omega,by omega⟩,rfl⟩,by (try simp only [Ta,Tc,Td]);omega,?_⟩
     rw [show l++(([36]++tx)++Wl [40] [41] xs)=l++([36]++tx)++Wl [40] [41] xs by first | rfl | simp only [Tg]] at h
     exact m35
    have c5:¬op=7:=by omega
    conv=>whnf
    refine ZCX (fun c6=>?_) (fun c6=>?_)
    ·have c6':op=3:=by omega
     obtain ⟨i0,i1⟩:=m4
     conv=>whnf
     refine ZCX (fun gn=>?_) (fun gn=>?_)
     ·obtain ⟨j0,j1,j2⟩:=Zlz gn i0
      obtain ⟨wn,hwn⟩:∃wn,IntKind.u64.wrap nn=wn:=⟨_,rfl⟩
      rw [hwn] at j0 j1 j2
      conv=>whnf
      refine Or.inr ?_
      rw [hwn]
      have hx:exT (.mk op tx nn xs at')=Zdz nn:=by rw [exT,exN,Tf c1,Tf c2,Tf c3,Tf c4,Tf c5,Th c6']
      rw [hx] at h hlen
      (try simp only [Ta,Tc,Td] at hlen)
      conv=>whnf
      refine ⟨⟨rfl,j0,j1⟩,?_⟩
      obtain ⟨T,hT⟩:∃T,YG 16 wn.toNat=T:=⟨_,rfl⟩
      rw [hT] at j2 ⊢
      rw [j2] at h hlen
      (try simp only [Ta,Tc,Td] at hlen)
      conv=>whnf
      refine ⟨l,[48,120]++T,rfl,⟨(by first | exact .inl rfl | exact .inr rfl),rfl,rfl⟩,⟨[[48,120],T],rfl,by simp,by simp,by simp⟩,by (try simp only [Ta,Tc,Td]);omega,?_⟩
      rw [show l++(([48,120]++T))=l++([48,120]++T) by first | rfl | simp only [Tg]] at h
      exact m35
     conv=>whnf
     refine ZCX (fun _=>?_) (fun g=>absurd c6 g)
     have hx:exT (.mk op tx nn xs at')=Zdz nn:=by rw [exT,exN,Tf c1,Tf c2,Tf c3,Tf c4,Tf c5,Th c6']
     rw [hx] at h hlen
     (try simp only [Ta,Tc,Td] at hlen)
     conv=>whnf
     refine ⟨⟨rfl,by omega,i1⟩,?_⟩
     conv=>whnf
     refine ⟨l,Zdz nn,rfl,⟨(by first | exact .inl rfl | exact .inr rfl),rfl,rfl⟩,⟨[Zdz nn],rfl,by simp,by simp,by simp⟩,by (try simp only [Ta,Tc,Td]);omega,?_⟩
     rw [show l++(Zdz nn)=l++Zdz nn by first | rfl | simp only [Tg]] at h
     exact m35
    have c6':¬op=3:=by omega
    conv=>whnf
    refine ZCX (fun g=>absurd g c6) (fun _=>?_)
    conv=>whnf
    refine ZCX (fun c7=>?_) (fun c7=>?_)
    ·have c7':op=4:=by omega
     have hq:(Uv tx).isSome=true:=by unfold W6 at m3;rw [Tf (by omega),Th c7'] at m3;exact m3
     obtain ⟨q,hq⟩:=Option.isSome_iff_exists.1 hq
     have hqT:Zpf tx=q:=by rw [Zpf,hq];rfl
     have hx:exT (.mk op tx nn xs at')=q:=by rw [exT,exN,Tf c1,Tf c2,Tf c3,Tf c4,Tf c5,Tf c6',Th c7',hqT]
     rw [hx] at h hlen
     (try simp only [Ta,Tc,Td] at hlen)
     conv=>whnf
     refine ⟨by omega,?_⟩
     conv=>whnf
     refine ⟨fun g=>?_,fun q' hq'=>?_⟩
     case refine_1=>exact absurd (hq.symm.trans g) (by simp)
     obtain rfl:q=q':=by rw [hq] at hq';exact Option.some.inj hq'
     conv=>whnf
     refine ⟨l,q,rfl,⟨(by first | exact .inl rfl | exact .inr rfl),rfl,rfl⟩,⟨[q],rfl,by simp,by simp,by simp⟩,by (try simp only [Ta,Tc,Td]);omega,?_⟩
     rw [show l++(q)=l++q by first | rfl | simp only [Tg]] at h
     exact m35
    have c7':¬op=4:=by omega
    conv=>whnf
    refine ZCX (fun c8=>?_) (fun c8=>?_)
    ·have c8':op=5:=by omega
     have hx:exT (.mk op tx nn xs at')=[110,105,108]:=by rw [exT,exN,Tf c1,Tf c2,Tf c3,Tf c4,Tf c5,Tf c6',Tf c7',Th c8']
     rw [hx] at h hlen
     (try simp only [Ta,Tc,Td] at hlen)
     conv=>whnf
     refine ⟨l,[110,105,108],rfl,⟨(by first | exact .inl rfl | exact .inr rfl),rfl,rfl⟩,⟨[[110,105,108]],rfl,by simp,by simp,by simp⟩,by (try simp only [Ta,Tc,Td]);omega,?_⟩
     rw [show l++([110,105,108])=l++[110,105,108] by first | rfl | simp only [Tg]] at h
     exact m35
    have c8':¬op=5:=by omega
    conv=>whnf
    refine ZCX (fun c9=>?_) (fun c9=>?_)
    ·have c9':op=2:=by omega
     have hx:exT (.mk op tx nn xs at')=[95]:=by rw [exT,exN,Tf c1,Tf c2,Tf c3,Tf c4,Tf c5,Tf c6',Tf c7',Tf c8',Th c9']
     rw [hx] at h hlen
     (try simp only [Ta,Tc,Td] at hlen)
     conv=>whnf
     refine ⟨l,[95],rfl,⟨(by first | exact .inl rfl | exact .inr rfl),rfl,rfl⟩,⟨[[95]],rfl,by simp,by simp,by simp⟩,by (try simp only [Ta,Tc,Td]);omega,?_⟩
     rw [show l++([95])=l++[95] by first | rfl | simp only [Tg]] at h
     exact m35
    have c9':¬op=2:=by omega
    have hx:exT (.mk op tx nn xs at')=tx:=by rw [exT,exN,Tf c1,Tf c2,Tf c3,Tf c4,Tf c5,Tf c6',Tf c7',Tf c8',Tf c9']
    rw [hx] at h hlen
    (try simp only [Ta,Tc,Td] at hlen)
    conv=>whnf
    refine ⟨l,tx,rfl,⟨(by first | exact .inl rfl | exact .inr rfl),rfl,rfl⟩,⟨[tx],rfl,by simp,by simp,by simp⟩,by (try simp only [Ta,Tc,Td]);omega,?_⟩
    rw [show l++(tx)=l++tx by first | rfl | simp only [Tg]] at h
    exact m35
 ·exact h.elim
end Go.PM.Lex
end

section
namespace Go.PM.Lex
open Go.Proofs Go.Shelf Go.RowKit
variable {w0:World} {nG:Nat}
theorem Zm6 (w:World) (g n:Nat) {cs:Array Value} {ty:TypeId} {fz:Nat×Nat} (h:w.heap[g]?=some (.cells cs ty fz)) (h1:fz.1≤fz.2) (h2:∀o,n≤o→fz.1≤o→fz.2≤o) :
  ∃fz',(w.drew.freeze ⟨g,0,none⟩ n).heap[g]?=some (.cells cs ty fz')∧fz'.1≤fz'.2∧∀o,n≤o→fz'.1≤o→fz'.2≤o:=by
 have h':w.drew.heap[g]?=some (.cells cs ty fz):=h
 obtain ⟨lo,hi⟩:=fz
 unfold World.freeze
 split
 ·exact ⟨_,h',h1,h2⟩
 ·simp only [Array.getElem?_modify,if_true,h',Sz]
  refine ⟨_,rfl,?_,?_⟩
  ·split
   ·exact T7 _
   ·simp only at h1 ⊢;omega
  ·intro o ho ho2
   split
   ·simp only;omega
   ·rename_i hne
    have hne:lo≠hi:=by simpa using hne
    simp only at h1 ⊢
    have k:=h2 (max lo n) (by omega) (by simp only;omega)
    simp only at k
    omega
theorem _root_.Go.PM.Owned.grow {G:GE} {e:Env} {w w':World} {t el:Nat} {rows:List (List D)} {v:Value} (h:Owned G e w t el rows v) (g:Grows w w'):Owned G e w' t el rows v:=by
 rcases h with h | ⟨sz,a1,a2,a3,b,off,cap,cs,ty,fz,a4,a5,a6,a7,a8,a9,a10⟩
 ·exact .inl h
 ·exact .inr ⟨sz,a1,a2,a3,b,off,cap,cs,ty,fz,a4,a5,a6,(g.old _ (Tq.1 a7).1).trans a7,a8,a9,a10⟩
theorem _root_.Go.PM.Owned.refreeze {G:GE} {e:Env} {w w':World} {t:Nat} {rows:List (List D)} {v:Value} {g n:Nat} {cs:Array Value} {ty:TypeId} {fz fz':Nat×Nat} (h:Owned G e w t 5 rows v) (hM:e.M t=some (g,n))
  (h':w'.heap[g]?=some (.cells cs ty fz')) (h0:w.heap[g]?=some (.cells cs ty fz)) (h1:fz'.1≤fz'.2) (h2:∀o,n≤o→fz'.1≤o→fz'.2≤o):Owned G e w' t 5 rows v:=by
 rcases h with ⟨_,_,h⟩ | ⟨sz,a1,a2,a3,b,off,cap,cs2,ty2,fz2,a4,a5,a6,a7,a8,a9,a10⟩
 ·rw [hM] at h;cases h
 ·rw [hM] at a10
  simp only [Option.some.injEq,Prod.mk.injEq] at a10
  obtain ⟨rfl,rfl⟩:=a10
  rw [h0] at a7
  cases a7
  exact .inr ⟨sz,a1,a2,a3,g,off,cap,cs,ty,fz',a4,a5,a6,h',a8,⟨h1,h2⟩,hM⟩
theorem Zwb {G:GE} {e:Env} {w w':World} {t:TypeId} {p:PV} {rows:List (List D)} (hp:p=.d .nilp∨p=.ptr 0 0) (hS:SRel G e ⟨[.cells t [p,.sl 0 5 rows]],[0],1⟩ w)
  (hsz:w.heap.size≤w'.heap.size) (hos:w'.os=w.os) (htp:w'.tape=w.tape) (hout:w'.output=w.output)
  (hcell:∀b off u,w.cell? ⟨b,off,none⟩=some u→w'.cell? ⟨b,off,none⟩=some u)
  (hblk:∀b,b<w.heap.size→(∀q,e.M 0=some q→q.1≠b)→w'.heap[b]?=w.heap[b]?)
  (hown:∀v,Owned G e w 0 5 rows v→Owned G e w' 0 5 rows v) (hobk:∀q,e.M 0=some q→∃cs ty fz,w'.heap[q.1]?=some (.cells cs ty fz)) :
  SRel G e ⟨[.cells t [p,.sl 0 5 rows]],[0],1⟩ w'∧Later e ⟨[.cells t [p,.sl 0 5 rows]],[0],1⟩ w e ⟨[.cells t [p,.sl 0 5 rows]],[0],1⟩ w':=by
 have hL:Later e ⟨[.cells t [p,.sl 0 5 rows]],[0],1⟩ w e ⟨[.cells t [p,.sl 0 5 rows]],[0],1⟩ w':={
  len:=Tt _
  beta:=fun _ _=>rfl
  X:=rfl
  pres:=fun b off u hu ho=>⟨ho,hcell b off u hu⟩
  blocks:=fun b hb h1 h2=>hblk b hb fun q hq=>h2 0 (by simp) q hq
  size:=hsz
  os:=hos
  tape:=htp
  output:=hout
  fresh:=fun i h1 h2=>by simp at h1 h2;omega
  ftok:=fun x hx q hq=>.inr ⟨x,hx,q,hq,rfl⟩ }
 have hlt:=hS.lt (i:=0) (by simp)
 have hblk0:w'.heap[e.β 0]?=w.heap[e.β 0]?:=hblk _ hlt fun q hq=>fun h=>(hS.own 0 (by simp) q hq).2.1 0 (by simp) h.symm
 refine ⟨?_,hL⟩
 exact {
  inj:=hS.inj
  box:=fun i x hx=>by
   match i,hx with
   | 0,hx =>
    cases hx
    obtain ⟨cv,h1,h2,h3⟩:=hS.box 0 _ rfl
    refine ⟨cv,hblk0.trans h1,h2,fun j y u hy hu=>?_⟩
    match j,hy with
    | 0,hy =>
     exact m94
    | 1,hy =>
     cases hy
     obtain ⟨q1,q2⟩:=h3 1 (.sl 0 5 rows) u rfl hu
     refine ⟨?_,q2⟩
     cases q1 with
     | sl _ _ _ _ hn hd ht=>exact .sl _ _ _ _ hn (hd.later hL) (fun h=>hown _ (ht h))
    | j+2,hy=>simp at hy
   | i+1,hx=>simp at hx
  low:=hS.low
  tkn:=hS.tkn
  own:=fun x hx q hq=>by
   obtain ⟨a,b,_⟩:=hS.own x hx q hq
   obtain rfl:x=0:=by simpa using hx
   exact ⟨a,b,hobk q hq⟩
  dis:=hS.dis
  xlt:=fun b off hx=>TM (hS.xlt b off hx) hsz
  xown:=hS.xown
  glob:=fun b hb=>by
   exact m151
  big:=Sb hS.big hsz }
noncomputable def Vx:ZA:=fun args σ K=>match args,σ with
 | [.ptr 0 0],⟨[.cells t [p,.sl 0 e rows]],[0],1⟩=>∃l:Bs,(rows=Zl l∧t=84∧e=5∧(p=.d .nilp∨p=.ptr 0 0)∧l.length<70368744177664)∧K (.ret (.d (.str l))) ⟨[.cells t [p,.sl 0 e rows]],[0],1⟩
 | _,_=>False
theorem V4:Zc Vx:=fun args σ K K' hK h=>by
 unfold Vx at h ⊢
 split at h
 ·obtain ⟨x,h1,h2⟩:=h;exact ⟨x,h1,hK _ _ h2⟩
 ·exact h.elim
theorem ZcB:PCalls (GG w0 nG) 31 Vx:=UT (Zh Tryz.func31 (by kernel_rfl) rfl) fun args σ K h e w vs hS ha=>by
 unfold Vx at h
 split at h
 ·rename_i t p el rows
  obtain ⟨l,⟨rfl,rfl,rfl,hp,hbig⟩,hK⟩:=h
  obtain ⟨u,rfl,hu⟩:=ZhM ha
  obtain ⟨cv,hc1,hc2,hc3⟩:=hS.box 0 _ rfl
  have hcs:cv.size=2:=hc2
  obtain ⟨v0,v1,rfl⟩:∃v0 v1,cv=#[v0,v1]:=by
   obtain ⟨lst⟩:=cv
   match lst,hcs with
   | [a,b],_=>exact ⟨a,b,rfl⟩
  have hr1:=(hc3 1 (.sl 0 5 (Zl l)) v1 rfl rfl).1
  cases hu with
  | ptr b off hb =>
  refine ⟨_,_,.string ⟨l.toArray⟩,hK,?_⟩
  have fin:∀w',w.heap.size≤w'.heap.size→w'.os=w.os→w'.tape=w.tape→w'.output=w.output →
    (∀b off u,w.cell? ⟨b,off,none⟩=some u→w'.cell? ⟨b,off,none⟩=some u) →
    (∀b,b<w.heap.size→(∀q,e.M 0=some q→q.1≠b)→w'.heap[b]?=w.heap[b]?)→(∀v,Owned (GG w0 nG) e w 0 5 (Zl l) v→Owned (GG w0 nG) e w' 0 5 (Zl l) v)→(∀q,e.M 0=some q→∃cs ty fz,w'.heap[q.1]?=some (.cells cs ty fz)) →
    VRel (GG w0 nG) e ⟨[.cells 84 [p,.sl 0 5 (Zl l)]],[0],1⟩ w' (.d (.str l)) (.string ⟨l.toArray⟩)∧SRel (GG w0 nG) e ⟨[.cells 84 [p,.sl 0 5 (Zl l)]],[0],1⟩ w'∧Later e ⟨[.cells 84 [p,.sl 0 5 (Zl l)]],[0],1⟩ w e ⟨[.cells 84 [p,.sl 0 5 (Zl l)]],[0],1⟩ w':=fun w' h1 h2 h3 h4 h5 h6 h7 h8 =>
   ⟨.mkstr,Zwb hp hS h1 h2 h3 h4 h5 h6 h7 h8⟩
  have grown:∀w',Grows w w'→_:=fun w' g=>fin w' g.size g.os g.tape g.output (fun b off u hu=>(g.cell (UO hu)).trans hu) (fun b hb _=>g.old b hb) (fun v hv=>hv.grow g) (fun q hq=>by obtain ⟨_,_,cs,ty,fz,hh⟩:=hS.own 0 (by simp) q hq;exact ⟨cs,ty,fz,(g.old _ (Tq.1 hh).1).trans hh⟩)
  cases hr1 with
  | sl _ _ _ _ hn hd ht =>
  rcases ht (by simp) with ⟨rfl,hrows,hM⟩ | ⟨sz,g1,g2,g3,g,off,cap,cs,ty,fz,rfl,g4,g5,g6,⟨g7,rfl,rfl,g8⟩,g9,hM⟩
  ·have hl:l=[]:=by simpa [Zl] using hrows
   subst hl
   refine (ZrJ Tryz.lays169 Tryz.Builder_Extra_169 w.heap.size (e.β 0) v0 w hc1).mono fun en w' ⟨h1,h2⟩=>?_
   exact ⟨h1,grown w' (ZC3 h2)⟩
  ·have hsz1:sz=1:=by
    have:(Tryz.prog.info? 5).map (·.size)=some sz:=g1
    rw [Zxy] at this;cases this;rfl
   subst hsz1
   rw [XV] at g5 hc1 g9 hM hd
   by_cases hl:l=[]
   ·subst hl
    refine (Zpl Tryz.lays169 Tryz.Builder_Extra_169 w.heap.size (e.β 0) g cap v0 w (by omega) hc1).mono fun en w' ⟨h1,h2⟩=>?_
    exact ⟨h1,grown w' (ZC3 h2)⟩
   ·have hcell:∀j x,l[j]?=some x→w.cell? ⟨g,j,none⟩=some (.int .u8 x.toNat):=by
     exact m37
    obtain ⟨fz',hfz',hfa,hfb⟩:=Zm6 w g l.length g6 g9.1 (fun o ho=>g9.2 o (by omega))
    refine (Zm3 Tryz.lays169 Tryz.Builder_Extra_169 (e.β 0) g cap v0 cs fz l w hl hc1 g6 (by omega) (by omega) (by omega) hcell).mono fun en w' ⟨h1,h2⟩=>?_
    rw [h2]
    refine ⟨h1,fin _ ?_ ?_ ?_ ?_ ?_ ?_ ?_ ?_⟩
    ·unfold World.freeze;split <;> first | exact Tt _ | (simp only [Array.size_modify];exact Tt _)
    ·exact m150
    ·exact m150
    ·exact m150
    ·exact m113
    ·intro b hb hq
     exact UU w g l.length b fun h=>hq _ hM h.symm
    ·intro v hv
     exact hv.refreeze hM hfz' g6 hfa (by simpa [XV] using hfb)
    ·intro q hq
     rw [hM] at hq;cases hq
     exact ⟨_,_,_,hfz'⟩
 ·exact h.elim
end Go.PM.Lex
end

section
namespace Go.PM.Lex
open Go.Proofs
variable {w0:World} {nG:Nat}
noncomputable def Zwc (n:Nat):Tbl:=[(155,ZgM),(157,ZeG (Xk Yh) Zja exT wE n)]
theorem Zwd {n:Nat} (ht:TblOK (GG w0 nG) (Zwc n)):PCalls (GG w0 nG) 156 (Zm4 157 Yh Zja exT wE n):=by
 refine pc ht Tryz.func156 ?_
 intro args σ K h
 unfold Zm4 at h
 split at h
 ·rename_i r bt g t e rows tp
  obtain ⟨l,pl,xs,rfl,rfl,⟨rfl,rfl,rfl⟩,⟨hmay,hz,hn⟩,hlen,h⟩:=h
  have hl1:(xs.map (Yh pl)).length=xs.length:=Te ..
  have hsz:=Zj wE xs
  refine ⟨Za [(1,⟨[12],[0,1,2,3,10,11],fun vs σ=>∃i:Nat,vs=[.d (.int .i64 i)]∧σ=⟨[.cells 84 [.ptr 0 0,.sl 0 5 (Zl (l++Zg bt ((xs.take i).map exT)))],.cells tp [.ptr 0 0]],[0],1⟩∧i≤xs.length,fun vs _=>match vs with | [.d (.int _ i)]=>((xs.length:Int) - i).toNat | _=>0⟩)],2,true,by simp,Tb rfl,?_⟩
  conv=>whnf
  refine ⟨⟨0,rfl,(by simp only [T6,TG,Zg,TC];rfl),by omega⟩,?_⟩
  intro vs σ hI
  obtain ⟨i,rfl,rfl,hi⟩:=hI
  conv=>whnf
  refine ZCX (fun hi2=>?_) (fun hi2=>?_)
  ·have hi2:i<xs.length:=by have hi2:(i:Int)<(xs.map (Yh pl)).length:=hi2;rw [hl1] at hi2;omega
   have hg:=Zn wE xs i hi2
   have hmx:Zja xs[i]=true:=Tl.1 hmay _ (TU hi2)
   have htk:=U5 bt exT hi2
   have hle:=ZbQ bt exT xs (i+1)
   obtain ⟨eA,hA⟩:∃x,xs[i]=x:=⟨_,rfl⟩
   obtain ⟨a1,a2,a3,a4,a5⟩:=eA
   rw [hA] at hg hmx htk
   have hr1:(xs.map (Yh pl))[((i:Nat):Int).toNat]?=some (Yh pl (.mk a1 a2 a3 a4 a5)):=by simp [hi2,hA]
   conv=>whnf
   refine ⟨_,by omega,hr1,?_⟩
   conv=>whnf
   refine ZCX (fun h0=>?_) (fun h0=>?_)
   ·have h0:0<i:=by omega
    rw [Tf (by omega)] at htk
    rw [htk] at hle
    simp only [Ta] at hle
    conv=>whnf
    refine ⟨l++Zg bt ((xs.take i).map exT),bt,rfl,⟨.inr rfl,rfl,rfl⟩,⟨rfl,rfl⟩,by simp only [Ta];omega,?_⟩
    conv=>whnf
    refine ⟨l++Zg bt ((xs.take i).map exT)++bt,pl,(.mk a1 a2 a3 a4 a5),rfl,rfl,⟨rfl,rfl⟩,⟨hmx,by omega,by omega⟩,by simp only [Ta];omega,?_⟩
    exact m47
   ·obtain rfl:i=0:=by omega
    rw [Th rfl] at htk
    rw [htk] at hle
    conv=>whnf
    refine ⟨l++Zg bt ((xs.take 0).map exT),pl,(.mk a1 a2 a3 a4 a5),rfl,rfl,⟨rfl,rfl⟩,⟨hmx,by omega,by omega⟩,by simp only [T6,TG,Zg,Ta,Td];omega,?_⟩
    exact m45
  ·have hi2:i=xs.length:=by have hi2:¬(i:Int)<(xs.map (Yh pl)).length:=hi2;rw [hl1] at hi2;omega
   subst hi2
   rw [Sc]
   exact m35
 ·exact h.elim
theorem ZsZ {n:Nat} (h:PCalls (GG w0 nG) 30 (ZqJ n)):PCalls (GG w0 nG) 76 (ZrT n) :=
 ZBE ⟨⟨ZaA,Xc⟩,⟨Zwd ⟨⟨Zpm,Uw⟩,⟨Zy4 ⟨⟨h,Uy n⟩,trivial⟩,Zcy _ _ _ _ _⟩,trivial⟩,ZbO _ _ _ _ _ _⟩,trivial⟩
theorem cWE (hN:NumOK w0 nG) (hL:LexC w0 nG):∀n,PCalls (GG w0 nG) 30 (ZqJ n)
 | 0=>Zy7 ⟨⟨ZrH,ZbN⟩,⟨ZaA,Xc⟩,⟨ZK (Zh Tryz.func30 (by kernel_rfl) rfl),Zy Uy _⟩,⟨ZK (Zh Tryz.func76 (by kernel_rfl) rfl),Zy JS _⟩,⟨Zpp hN,ZeI⟩,⟨Zpu hN,Za8⟩,⟨hL.quote,VS⟩,trivial⟩
 | n+1=>Zy7 ⟨⟨ZrH,ZbN⟩,⟨ZaA,Xc⟩,⟨ZL (sp:=ZqJ) (cWE hN hL n),Zy Uy _⟩,⟨ZL (sp:=ZrT) (ZsZ (cWE hN hL n)),Zy JS _⟩,⟨Zpp hN,ZeI⟩,⟨Zpu hN,Za8⟩,⟨hL.quote,VS⟩,trivial⟩
noncomputable def ZfW:ZA:=fun args σ K=>match args,σ with
 | [.ptr 0 0,.d (.int .i64 c)],⟨[.cells t [p,.sl 0 e rows]],[0],1⟩=>∃l:Bs,(rows=Zl l∧t=84∧e=5∧(p=.d .nilp∨p=.ptr 0 0)∧l.length<70368744177664) ∧
   ((c=3∨c=151→K (.ret (.tuple [.d (.str []),.d (.int .i64 3)])) ⟨[.cells t [p,.sl 0 e rows]],[0],1⟩)∧(c≠3∧c≠151→K (.ret (.tuple [.d (.str l),.d (.int .i64 0)])) ⟨[.cells t [p,.sl 0 e rows]],[0],1⟩))
 | _,_=>False
theorem ZeK:Zc ZfW:=fun args σ K K' hK h=>by
 unfold ZfW at h ⊢
 split at h
 ·obtain ⟨l,h1,h2,h3⟩:=h;exact ⟨l,h1,fun g=>hK _ _ (h2 g),fun g=>hK _ _ (h3 g)⟩
 ·exact h.elim
noncomputable def Zwe:Tbl:=[(31,Vx)]
theorem Zpv:PCalls (GG w0 nG) 32 ZfW:=by
 refine pc (tbl:=Zwe) ⟨⟨ZcB,V4⟩,trivial⟩ Tryz.func32 ?_
 intro args σ K h
 unfold ZfW at h
 split at h
 ·rename_i c t p e rows
  obtain ⟨l,⟨rfl,rfl,rfl,hp,hlen⟩,ha,hb⟩:=h
  refine ⟨Za [],1,true,by simp,Tb rfl,?_⟩
  rcases hp with rfl | rfl
  all_goals
   conv=>whnf
   refine ZCX (fun c1=>?_) (fun c1=>?_)
   ·conv=>whnf
    exact ha (.inl c1)
   conv=>whnf
   refine ZCX (fun c2=>?_) (fun c2=>?_)
   ·conv=>whnf
    exact ha (.inr c2)
   conv=>whnf
   refine ⟨l,⟨rfl,rfl,rfl,(by first | exact .inl rfl | exact .inr rfl),hlen⟩,?_⟩
   conv=>whnf
   exact hb ⟨c1,c2⟩
 ·exact h.elim
def WZ (txt:Bs) {α:Type}:Top α→Bs×Nat
 | .ok _ _=>(txt,0)
 | .err _ e=>if e=3∨e=151 then ([],3) else (txt,0)
noncomputable def Zxm (n:Nat):ZA:=fun args σ K=>match args,σ with
 | [.agg c],⟨[],[],0⟩=>∃pl e,c=(Yh pl e).map .d∧((Z7 e=true→ZdB e=true∧(exT e).length<1073741824)∧wE e≤n∧n≤1073741824) ∧
   ((Z7 e=false→K (.ret (.tuple [.d (.str []),.d (.int .i64 160)])) ⟨[],[],0⟩)∧(Z7 e=true→∀x,Wb 65536 16384 (VB 64) (exT e)=x→K (.ret (.tuple [.d (.str (WZ (exT e) x).1),.d (.int .i64 (WZ (exT e) x).2)])) ⟨[],[],0⟩))
 | _,_=>False
theorem Zpw (n:Nat):Zc (Zxm n):=fun args σ K K' hK h=>by
 unfold Zxm at h ⊢
 exact m128
noncomputable def ZBF (n:Nat):Tbl:=[(29,Xy (Xk Yh) Z7 wE n),(30,ZqJ n),(31,Vx),(14,ZfR),(32,ZfW)]
theorem ZBG {n:Nat} (ht:TblOK (GG w0 nG) (ZBF n)):PCalls (GG w0 nG) 13 (Zxm n):=by
 refine pc ht Tryz.func13 ?_
 intro args σ K h
 unfold Zxm at h
 split at h
 ·obtain ⟨pl,⟨op,tx,nn,xs,at'⟩,rfl,⟨hab,hz,hn⟩,ha,hb⟩:=h
  obtain ⟨E,hE⟩:∃E,Ex.mk op tx nn xs at'=E:=⟨_,rfl⟩
  refine ⟨Za [],0,true,by simp,Tb rfl,?_⟩
  conv=>whnf
  refine ⟨pl,.mk op tx nn xs at',rfl,⟨hz,hn⟩,fun b hb1=>?_⟩
  cases b with
  | false =>
   conv=>whnf
   exact ha hb1
  | true =>
   obtain ⟨h1,h2⟩:=hab hb1
   have hb:=hb hb1
   conv=>whnf
   refine ⟨[],exW 0 (.mk op tx nn xs at'),rfl,⟨.inl rfl,rfl,rfl⟩,⟨pl,.mk op tx nn xs at',0,rfl,⟨by rw [Zja,hb1,h1];rfl,hz,hn,by omega,by omega⟩,rfl⟩,by rw [VC];simp only [Td];omega,?_⟩
   rw [VC]
   obtain ⟨T,hT⟩:∃T,exT (.mk op tx nn xs at')=T:=⟨_,rfl⟩
   rw [hT] at hb h2 ⊢
   conv=>whnf
   refine ⟨T,⟨rfl,rfl,rfl,.inr rfl,by omega⟩,?_⟩
   conv=>whnf
   refine ⟨by omega,fun x hx=>?_⟩
   have hb:=hb x hx
   cases x with
   | ok v L =>
    obtain ⟨v1,v2,v3,v4,v5⟩:=v
    unfold Zup
    dsimp only
    conv=>whnf
    refine ⟨T,⟨rfl,rfl,rfl,.inr rfl,by omega⟩,?_⟩
    conv=>whnf
    refine ⟨fun g=>absurd g (by decide),fun _=>?_⟩
    conv=>whnf
    exact hb
   | err p c =>
    conv=>whnf
    refine ⟨T,⟨rfl,rfl,rfl,.inr rfl,by omega⟩,?_⟩
    exact m111
 ·exact h.elim
theorem cPE (hg:GlobOK w0 nG) (hN:NumOK w0 nG) (hL:LexC w0 nG) (n:Nat):PCalls (GG w0 nG) 13 (Zxm n) :=
 ZBG ⟨⟨cHE hL n,ZC _ _ _ _⟩,⟨cWE hN hL n,Uy n⟩,⟨ZcB,V4⟩,⟨ZBh hg,Zj6⟩,⟨Zpv,ZeK⟩,trivial⟩
def ZBH:Ex:=.mk 8 [] 0 [.mk 10 [] 0 [.mk 1 [97] 0 [] 0,.mk 3 [] 1 [] 0] 0] 0
theorem Zwf:Z7 ZBH=true:=by decide +kernel
theorem Zpx:exT ZBH=[45,40,97,32,43,32,49,41]:=by decide +kernel
def ZBI {α:Type}:Top α→Bool | .ok _ _=>true | .err _ _=>false
theorem ZrU:ZBI (Wb 65536 16384 (VB 64) [45,40,97,32,43,32,49,41])=true:=by decide +kernel
noncomputable def ZbT:ZA:=fun args σ K=>match args,σ with
 | [],⟨[],[],0⟩=>K (.ret (.d (.bool true))) ⟨[],[],0⟩
 | _,_=>False
theorem ZgO:Zc ZbT:=fun args σ K K' hK h=>by
 unfold ZbT at h ⊢
 split at h
 ·exact hK _ _ h
 ·exact h.elim
noncomputable def Zm7:Tbl:=[(13,Zxm 1000)]
theorem Zm8 (ht:TblOK (GG w0 nG) Zm7):PCalls (GG w0 nG) 12 ZbT:=by
 refine pc ht Tryz.func12 ?_
 intro args σ K h
 unfold ZbT at h
 split at h
 ·refine ⟨Za [],0,false,by simp,Tb rfl,?_⟩
  conv=>whnf
  refine ⟨fun _=>0,ZBH,rfl,⟨fun _=>⟨by decide +kernel,by rw [Zpx];decide⟩,by decide +kernel,by decide⟩,?_⟩
  refine ⟨fun g=>(by rw [Zwf] at g;cases g),fun _ x hx=>?_⟩
  have hr:=ZrU
  rw [Zpx] at hx ⊢
  rw [hx] at hr
  cases x with
  | ok v L =>
   rw [WZ]
   exact m35
  | err p c=>cases hr
 ·exact h.elim
end Go.PM.Lex
end

section
namespace Go.PM.Lex
open Go.Proofs
variable {w0:World} {nG:Nat}
noncomputable def ZgP {α:Type} (enc:Pl→α→List D) (sz:α→Nat) (bd:Int→Int) (m:Nat):ZA:=fun args σ K=>match args,σ with
 | [.agg c,.d (.int .i64 most)],⟨[],[],0⟩=>∃pl x B,c=(enc pl x).map .d∧((0≤most∧most<m)∧m≤1000000∧sz x≤B∧B≤1099511627776)∧∀r,0≤r→r≤bd most→K (.ret (.d (.int .i64 r))) ⟨[],[],0⟩
 | _,_=>False
theorem XO {α:Type} (enc:Pl→α→List D) (sz:α→Nat) (bd:Int→Int) (m:Nat):Zc (ZgP enc sz bd m):=fun args σ K K' hK h=>by
 unfold ZgP at h ⊢
 exact m138
noncomputable def ZbU {α:Type} (enc:Pl→α→List D) (sz:α→Nat) (bd:Int→Int) (m:Nat):ZA:=fun args σ K=>match args,σ with
 | [.d (.sl r1),.d (.int .i64 most)],⟨[],[],0⟩=>∃pl l B,r1=l.map (enc pl)∧((0≤most∧most<m)∧m≤1000000∧szS sz l≤B∧B≤1099511627776)∧∀r,0≤r→r≤bd most→K (.ret (.d (.int .i64 r))) ⟨[],[],0⟩
 | _,_=>False
theorem Uz {α:Type} (enc:Pl→α→List D) (sz:α→Nat) (bd:Int→Int) (m:Nat):Zc (ZbU enc sz bd m):=fun args σ K K' hK h=>by
 unfold ZbU at h ⊢
 exact m138
def bd2 (m:Int):Int:=2 * m+1
def bd3 (m:Int):Int:=3 * m+1
def bd5 (m:Int):Int:=5 * m+2
def bdU (m:Int):Int:=5 * m+4611686018427
noncomputable def ZBJ (m:Nat):Tbl:=[(11,spB (ZgP Yh szE bd2) m)]
theorem Zy8 {m:Nat} (ht:TblOK (GG w0 nG) (ZBJ m)):PCalls (GG w0 nG) 11 (ZgP Yh szE bd2 m):=by
 refine pc ht Tryz.func11 ?_
 intro args σ K h
 unfold ZgP at h
 split at h
 ·obtain ⟨pl,⟨a1,a2,a3,a4,a5⟩,B,rfl,⟨⟨hm0,hm1⟩,hm2,hz,hB⟩,h⟩:=h
  rename_i most
  simp only [szE] at hz
  have hl4:(Yi pl a4).length=a4.length:=by rw [Zf,Te]
  have hsz:=ZgC a4
  unfold bd2 at h
  refine ⟨Za [(3,⟨[6,5],[1,2],fun vs σ=>∃(i:Nat) (nn:Int),vs=[.d (.int .i64 i),.d (.int .i64 nn)]∧σ=⟨[.cells 24 ((Yh pl (.mk a1 a2 a3 a4 a5)).map .d)],[],0⟩∧i≤a4.length∧1≤nn∧nn≤2 * most+1,fun vs _=>match vs with | [.d (.int _ i),_]=>((a4.length:Nat) - i:Int).toNat | _=>0⟩)],0,false,by simp,Tb rfl,?_⟩
  conv=>whnf
  (repeat (first | (refine oiO ?_;conv=>whnf) | (refine ⟨_,by omega,hr1,?_⟩;conv=>whnf)))
  refine ⟨⟨0,_,rfl,rfl,by omega,by omega,by omega⟩,?_⟩
  intro vs σ hI
  obtain ⟨i,nn,rfl,rfl,hi,hn0,hn1⟩:=hI
  conv=>whnf
  refine ZCX (fun hi2=>?_) (fun hi2=>?_)
  rotate_left
  ·exact m39
  have hi2:i<a4.length:=by have hi2:(i:Int)<(Yi pl a4).length:=hi2;rw [hl4] at hi2;omega
  conv=>whnf
  refine ZCX (fun hi2n=>?_) (fun hi2n=>?_)
  rotate_left
  ·exact m39
  conv=>whnf
  obtain ⟨eA,hA⟩:∃e,a4[i]=e:=⟨_,rfl⟩
  have hg:=ZgD a4 i hi2
  obtain ⟨b1,b2,b3,b4,b5⟩:=eA
  rw [hA] at hg
  have hr1:(Yi pl a4)[((i:Nat):Int).toNat]?=some (Yh pl (.mk b1 b2 b3 b4 b5)):=by rw [Zf];simp [hi2,hA]
  (repeat (first | (refine oiO ?_;conv=>whnf) | (refine ⟨_,by omega,hr1,?_⟩;conv=>whnf)))
  refine ⟨by omega,pl,.mk b1 b2 b3 b4 b5,B,rfl,⟨⟨by omega,by omega⟩,by omega,by omega,hB⟩,fun r hr0 hrb=>?_⟩
  unfold bd2 at hrb
  conv=>whnf
  refine oiO ?_
  conv=>whnf
  refine oiO ?_
  conv=>whnf
  refine ⟨⟨i+1,_,rfl,rfl,by omega,by omega,by omega⟩,?_⟩
  show ((a4.length:Nat) - ((i:Int)+1)).toNat<((a4.length:Nat) - (i:Int)).toNat
  omega
 ·exact h.elim
theorem cZE:∀m,PCalls (GG w0 nG) 11 (ZgP Yh szE bd2 m)
 | 0=>Zy8 ⟨⟨ZK (Zh Tryz.func11 (by kernel_rfl) rfl),Zy (XO _ _ _) _⟩,trivial⟩
 | m+1=>Zy8 ⟨⟨ZL (sp:=ZgP Yh szE bd2) (cZE m),Zy (XO _ _ _) _⟩,trivial⟩
theorem Zy9 {m:Nat} :PCalls (GG w0 nG) 83 (ZbU (fun _=>Zt) sz0 bd3 m):=by
 refine pc (tbl:=[]) trivial Tryz.func83 ?_
 intro args σ K h
 unfold ZbU at h
 split at h
 ·obtain ⟨pl,l,B,rfl,⟨⟨hm0,hm1⟩,hm2,hz,hB⟩,h⟩:=h
  rename_i most
  have hl4:(l.map Zt).length=l.length:=Te ..
  have hsz:=Zj (sz0 (α:=Fi)) l
  unfold bd3 at h
  refine ⟨Za [(3,⟨[6,5],[0,1],fun vs σ=>∃(i:Nat) (nn:Int),vs=[.d (.int .i64 i),.d (.int .i64 nn)]∧σ=⟨[],[],0⟩∧i≤l.length∧0≤nn∧nn≤3 * most+1,fun vs _=>match vs with | [.d (.int _ i),_]=>((l.length:Nat) - i:Int).toNat | _=>0⟩)],0,false,by simp,Tb rfl,?_⟩
  conv=>whnf
  refine ⟨⟨0,0,rfl,rfl,by omega,by omega,by omega⟩,?_⟩
  intro vs σ hI
  obtain ⟨i,nn,rfl,rfl,hi,hn0,hn1⟩:=hI
  conv=>whnf
  refine ZCX (fun hi2=>?_) (fun hi2=>?_)
  rotate_left
  ·exact m39
  have hi2:i<l.length:=by have hi2:(i:Int)<(l.map Zt).length:=hi2;rw [hl4] at hi2;omega
  conv=>whnf
  refine ZCX (fun hi2n=>?_) (fun hi2n=>?_)
  rotate_left
  ·exact m39
  conv=>whnf
  obtain ⟨eA,hA⟩:∃e,l[i]=e:=⟨_,rfl⟩
  obtain ⟨b1,b2⟩:=eA
  have hr1:(l.map Zt)[((i:Nat):Int).toNat]?=some (Zt ⟨b1,b2⟩):=by simp [hi2,hA]
  (repeat (first | (refine oiO ?_;conv=>whnf) | (refine ⟨_,by omega,hr1,?_⟩;conv=>whnf)))
  exact m198
 ·exact h.elim
noncomputable def ZBK (m:Nat):Tbl:=[(11,ZgP Yh szE bd2 m),(55,spB (ZbU Yt szL bd2) m)]
theorem Zza {m:Nat} (ht:TblOK (GG w0 nG) (ZBK m)):PCalls (GG w0 nG) 55 (ZbU Yt szL bd2 m):=by
 refine pc ht Tryz.func55 ?_
 intro args σ K h
 unfold ZbU at h
 split at h
 ·obtain ⟨pl,l,B,rfl,⟨⟨hm0,hm1⟩,hm2,hz,hB⟩,h⟩:=h
  rename_i most
  have hl4:(l.map (Yt pl)).length=l.length:=Te ..
  have hsz:=Zj szL l
  unfold bd2 at h
  refine ⟨Za [(3,⟨[6,5],[0,1],fun vs σ=>∃(i:Nat) (nn:Int),vs=[.d (.int .i64 i),.d (.int .i64 nn)]∧σ=⟨[],[],0⟩∧i≤l.length∧0≤nn∧nn≤2 * most+1,fun vs _=>match vs with | [.d (.int _ i),_]=>((l.length:Nat) - i:Int).toNat | _=>0⟩),(7,⟨[7,5],[0,1,6],fun vs σ=>∃(i:Nat) (nn:Int),vs=[.d (.int .i64 i),.d (.int .i64 nn)]∧σ=⟨[],[],0⟩∧i≤B∧1≤nn∧nn≤2 * most+1,fun vs _=>match vs with | [.d (.int _ i),_]=>((B:Nat) - i:Int).toNat | _=>0⟩)],0,false,by simp,Tb rfl,?_⟩
  conv=>whnf
  refine ⟨⟨0,0,rfl,rfl,by omega,by omega,by omega⟩,?_⟩
  intro vs σ hI
  obtain ⟨i,nn,rfl,rfl,hi,hn0,hn1⟩:=hI
  conv=>whnf
  refine ZCX (fun hi2=>?_) (fun hi2=>?_)
  rotate_left
  ·exact m39
  have hi2:i<l.length:=by have hi2:(i:Int)<(l.map (Yt pl)).length:=hi2;rw [hl4] at hi2;omega
  conv=>whnf
  refine ZCX (fun hi2n=>?_) (fun hi2n=>?_)
  rotate_left
  ·exact m39
  conv=>whnf
  obtain ⟨eA,hA⟩:∃e,l[i]=e:=⟨_,rfl⟩
  have hg:=Zn szL l i hi2
  obtain ⟨b1,b2,ar,b4,b5⟩:=eA
  rw [hA] at hg
  simp only [szL,Xu] at hg
  have hr1:(l.map (Yt pl))[((i:Nat):Int).toNat]?=some (Yt pl (.mk b1 b2 ar b4 b5)):=by simp [hi2,hA]
  have ha4:(Yi pl ar).length=ar.length:=by rw [Zf,Te]
  have hs4:=Zj szE ar
  (repeat (first | (refine oiO ?_;conv=>whnf) | (refine ⟨_,by omega,hr1,?_⟩;conv=>whnf)))
  refine ⟨⟨0,_,rfl,rfl,by omega,by omega,by omega⟩,?_⟩
  intro vs' σ' hI'
  obtain ⟨j,n2,rfl,rfl,hj,hn20,hn21⟩:=hI'
  conv=>whnf
  (repeat (first | (refine oiO ?_;conv=>whnf) | (refine ⟨_,by omega,hr1,?_⟩;conv=>whnf)))
  refine ZCX (fun hj2=>?_) (fun hj2=>?_)
  rotate_left
  ·exact m164
  have hj2:j<ar.length:=by have hj2:(j:Int)<(Yi pl ar).length:=hj2;rw [ha4] at hj2;omega
  conv=>whnf
  refine ZCX (fun hj3=>?_) (fun hj3=>?_)
  rotate_left
  ·exact m164
  exact m38
 ·exact h.elim
theorem cZL:∀m,PCalls (GG w0 nG) 55 (ZbU Yt szL bd2 m)
 | 0=>Zza ⟨⟨cZE 0,XO _ _ _ _⟩,⟨ZK (Zh Tryz.func55 (by kernel_rfl) rfl),Zy (Uz _ _ _) _⟩,trivial⟩
 | m+1=>Zza ⟨⟨cZE _,XO _ _ _ _⟩,⟨ZL (sp:=ZbU Yt szL bd2) (cZL m),Zy (Uz _ _ _) _⟩,trivial⟩
noncomputable def Zzb (m:Nat):Tbl:=[(11,ZgP Yh szE bd2 m),(55,ZbU Yt szL bd2 m)]
theorem Zzc {m:Nat} (ht:TblOK (GG w0 nG) (Zzb m)):PCalls (GG w0 nG) 21 (ZbU ZI Zdo bd2 m):=by
 refine pc ht Tryz.func21 ?_
 intro args σ K h
 unfold ZbU at h
 split at h
 ·obtain ⟨pl,l,B,rfl,⟨⟨hm0,hm1⟩,hm2,hz,hB⟩,h⟩:=h
  rename_i most
  have hl4:(l.map (ZI pl)).length=l.length:=Te ..
  have hsz:=Zj Zdo l
  unfold bd2 at h
  refine ⟨Za [(3,⟨[6,5],[0,1],fun vs σ=>∃(i:Nat) (nn:Int),vs=[.d (.int .i64 i),.d (.int .i64 nn)]∧σ=⟨[],[],0⟩∧i≤l.length∧0≤nn∧nn≤2 * most+1,fun vs _=>match vs with | [.d (.int _ i),_]=>((l.length:Nat) - i:Int).toNat | _=>0⟩),(7,⟨[7,5],[0,1,6],fun vs σ=>∃(i:Nat) (nn:Int),vs=[.d (.int .i64 i),.d (.int .i64 nn)]∧σ=⟨[],[],0⟩∧i≤B∧1≤nn∧nn≤2 * most+1,fun vs _=>match vs with | [.d (.int _ i),_]=>((B:Nat) - i:Int).toNat | _=>0⟩)],0,false,by simp,Tb rfl,?_⟩
  conv=>whnf
  refine ⟨⟨0,0,rfl,rfl,by omega,by omega,by omega⟩,?_⟩
  intro vs σ hI
  obtain ⟨i,nn,rfl,rfl,hi,hn0,hn1⟩:=hI
  conv=>whnf
  refine ZCX (fun hi2=>?_) (fun hi2=>?_)
  rotate_left
  ·exact m39
  have hi2:i<l.length:=by have hi2:(i:Int)<(l.map (ZI pl)).length:=hi2;rw [hl4] at hi2;omega
  conv=>whnf
  refine ZCX (fun hi2n=>?_) (fun hi2n=>?_)
  rotate_left
  ·exact m39
  conv=>whnf
  obtain ⟨eA,hA⟩:∃e,l[i]=e:=⟨_,rfl⟩
  have hg:=Zn Zdo l i hi2
  obtain ⟨b1,ar,b4,b5⟩:=eA
  rw [hA] at hg
  simp only [Zdo,Xu] at hg
  have hr1:(l.map (ZI pl))[((i:Nat):Int).toNat]?=some (ZI pl (⟨b1,ar,b4,b5⟩:Ru)):=by simp [hi2,hA]
  have ha4:(Yi pl ar).length=ar.length:=by rw [Zf,Te]
  have hs4:=Zj szE ar
  (repeat (first | (refine oiO ?_;conv=>whnf) | (refine ⟨_,by omega,hr1,?_⟩;conv=>whnf)))
  refine ⟨⟨0,_,rfl,rfl,by omega,by omega,by omega⟩,?_⟩
  intro vs' σ' hI'
  obtain ⟨j,n2,rfl,rfl,hj,hn20,hn21⟩:=hI'
  conv=>whnf
  (repeat (first | (refine oiO ?_;conv=>whnf) | (refine ⟨_,by omega,hr1,?_⟩;conv=>whnf)))
  refine ZCX (fun hj2=>?_) (fun hj2=>?_)
  rotate_left
  ·exact m165
  have hj2:j<ar.length:=by have hj2:(j:Int)<(Yi pl ar).length:=hj2;rw [ha4] at hj2;omega
  conv=>whnf
  refine ZCX (fun hj3=>?_) (fun hj3=>?_)
  rotate_left
  ·exact m165
  exact m38
 ·exact h.elim
structure Pr where
 types:List Ty
 rels:List Re
 rules:List Ru
def Zm9 (pl:Pl) (p:Pr):List D:=[.sl (p.types.map (Zx pl)),.sl (p.rels.map (ZG pl)),.sl (p.rules.map (ZI pl))]
def Zzd (p:Pr):Nat:=1+szS ZeC p.types+szS Zdp p.rels+szS Zdo p.rules
noncomputable def Zze (m:Nat):Tbl:=[(83,ZbU (fun _=>Zt) sz0 bd3 m),(21,ZbU ZI Zdo bd2 m)]
theorem Zzf {m:Nat} (ht:TblOK (GG w0 nG) (Zze m)):PCalls (GG w0 nG) 37 (ZgP Zm9 Zzd bd5 m):=by
 refine pc ht Tryz.func37 ?_
 intro args σ K h
 unfold ZgP at h
 split at h
 ·obtain ⟨pl,⟨p1,p2,p3⟩,B,rfl,⟨⟨hm0,hm1⟩,hm2,hz,hB⟩,h⟩:=h
  rename_i most
  simp only [Zzd] at hz
  unfold bd5 at h
  have hl1:(p1.map (Zx pl)).length=p1.length:=Te ..
  have hl2:(p2.map (ZG pl)).length=p2.length:=Te ..
  have hs1:=Zj ZeC p1
  have hs2:=Zj Zdp p2
  refine ⟨Za [(3,⟨[6,5],[1,2],fun vs σ=>∃(i:Nat) (nn:Int),vs=[.d (.int .i64 i),.d (.int .i64 nn)]∧σ=⟨[.cells 96 ((Zm9 pl ⟨p1,p2,p3⟩).map .d)],[],0⟩∧i≤p1.length∧0≤nn∧nn≤5 * most+2,fun vs _=>match vs with | [.d (.int _ i),_]=>((p1.length:Nat) - i:Int).toNat | _=>0⟩),(10,⟨[8,5],[1,2,6,7],fun vs σ=>∃(i:Nat) (nn:Int) (b1:Nat) (b2 b3:Bs) (b4:List Fi) (b5:List Ca) (b6:Nat),vs=[.d (.int .i64 i),.d (.int .i64 nn)]∧σ=⟨[.cells 96 ((Zm9 pl ⟨p1,p2,p3⟩).map .d),.cells 64 ((Zx pl ⟨b1,b2,b3,b4,b5,b6⟩).map .d)],[],0⟩∧(i≤b5.length∧szS Zbf b5≤B)∧0≤nn∧nn≤5 * most+2,fun vs _=>match vs with | [.d (.int _ i),_]=>((B:Nat) - i:Int).toNat | _=>0⟩),(14,⟨[9,5],[1,2],fun vs σ=>∃(i:Nat) (nn:Int),vs=[.d (.int .i64 i),.d (.int .i64 nn)]∧σ=⟨[.cells 96 ((Zm9 pl ⟨p1,p2,p3⟩).map .d)],[],0⟩∧i≤p2.length∧0≤nn∧nn≤5 * most+2,fun vs _=>match vs with | [.d (.int _ i),_]=>((p2.length:Nat) - i:Int).toNat | _=>0⟩)],0,false,by simp,Tb rfl,?_⟩
  conv=>whnf
  refine ⟨⟨0,0,rfl,rfl,by omega,by omega,by omega⟩,?_⟩
  intro vs σ hI
  obtain ⟨i,nn,rfl,rfl,hi,hn0,hn1⟩:=hI
  conv=>whnf
  refine ZCX (fun hi2=>?_) (fun hi2=>?_)
  rotate_left
  ·exact m14
  have hi2:i<p1.length:=by have hi2:(i:Int)<(p1.map (Zx pl)).length:=hi2;rw [hl1] at hi2;omega
  conv=>whnf
  refine ZCX (fun hi2n=>?_) (fun hi2n=>?_)
  rotate_left
  ·exact m14
  conv=>whnf
  obtain ⟨eA,hA⟩:∃e,p1[i]=e:=⟨_,rfl⟩
  have hg:=Zn ZeC p1 i hi2
  obtain ⟨b1,b2,b3,b4,b5,b6⟩:=eA
  rw [hA] at hg
  simp only [ZeC] at hg
  have hr1:(p1.map (Zx pl))[((i:Nat):Int).toNat]?=some (Zx pl ⟨b1,b2,b3,b4,b5,b6⟩):=by simp [hi2,hA]
  (repeat (first | (refine oiO ?_;conv=>whnf) | (refine ⟨_,by omega,hr1,?_⟩;conv=>whnf)))
  refine ZCX (fun hle=>?_) (fun hle=>?_)
  ·conv=>whnf
   (repeat (first | (refine oiO ?_;conv=>whnf) | (refine ⟨_,by omega,hr1,?_⟩;conv=>whnf)))
   refine ⟨pl,b4,B,rfl,⟨⟨by omega,by omega⟩,by omega,by omega,hB⟩,fun r hr0 hrb=>?_⟩
   unfold bd3 at hrb
   conv=>whnf
   (repeat (first | (refine oiO ?_;conv=>whnf) | (refine ⟨_,by omega,hr1,?_⟩;conv=>whnf)))
   exact m17
  conv=>whnf
  exact m17
 ·exact h.elim
noncomputable def Zzg (m:Nat):Tbl:=[(37,ZgP Zm9 Zzd bd5 m),(18,spB (ZgP Yf Zc8 bdU) m)]
theorem Zs0 {m:Nat} (ht:TblOK (GG w0 nG) (Zzg m)):PCalls (GG w0 nG) 18 (ZgP Yf Zc8 bdU m):=by
 refine pc ht Tryz.func18 ?_
 intro args σ K h
 unfold ZgP at h
 split at h
 ·obtain ⟨pl,⟨p1,p2,p3,p4,p5,p6⟩,B,rfl,⟨⟨hm0,hm1⟩,hm2,hz,hB⟩,h⟩:=h
  rename_i most
  simp only [Zc8,YQ] at hz
  unfold bdU at h
  have hl4:(Xp pl p4).length=p4.length:=by rw [ZH,Te]
  have hl5:(p5.map (ZQ pl)).length=p5.length:=Te ..
  have hl6:(p6.map (ZN pl)).length=p6.length:=Te ..
  have hs4:=Zj Zbg p4
  have hs5:=Zj ZgG p5
  have hs6:=Zj (sz0 (α:=Ov)) p6
  refine ⟨Za [(3,⟨[6,5],[1,2],fun vs σ=>∃(i:Nat) (nn:Int),vs=[.d (.int .i64 i),.d (.int .i64 nn)]∧σ=⟨[.cells 44 ((Yf pl (.mk p1 p2 p3 p4 p5 p6)).map .d)],[],0⟩∧i≤p5.length∧0≤nn∧nn≤5 * most+4611686018427,fun vs _=>match vs with | [.d (.int _ i),_]=>((p5.length:Nat) - i:Int).toNat | _=>0⟩),(7,⟨[7,5],[1,2,6],fun vs σ=>∃(i:Nat) (nn:Int),vs=[.d (.int .i64 i),.d (.int .i64 nn)]∧σ=⟨[.cells 44 ((Yf pl (.mk p1 p2 p3 p4 p5 p6)).map .d)],[],0⟩∧i≤B∧0≤nn∧nn≤5 * most+4611686018427,fun vs _=>match vs with | [.d (.int _ i),_]=>((B:Nat) - i:Int).toNat | _=>0⟩),(11,⟨[8,5],[1,2],fun vs σ=>∃(i:Nat) (nn:Int),vs=[.d (.int .i64 i),.d (.int .i64 nn)]∧σ=⟨[.cells 44 ((Yf pl (.mk p1 p2 p3 p4 p5 p6)).map .d)],[],0⟩∧i≤p6.length∧0≤nn∧nn≤5 * most+4611686018427,fun vs _=>match vs with | [.d (.int _ i),_]=>((p6.length:Nat) - i:Int).toNat | _=>0⟩),(15,⟨[9,5],[1,2],fun vs σ=>∃(i:Nat) (nn:Int),vs=[.d (.int .i64 i),.d (.int .i64 nn)]∧σ=⟨[.cells 44 ((Yf pl (.mk p1 p2 p3 p4 p5 p6)).map .d)],[],0⟩∧i≤p4.length∧0≤nn∧nn≤5 * most+4611686018427,fun vs _=>match vs with | [.d (.int _ i),_]=>((p4.length:Nat) - i:Int).toNat | _=>0⟩)],0,false,by simp,Tb rfl,?_⟩
  conv=>whnf
  refine ⟨pl,⟨p1,p2,p3⟩,B,rfl,⟨⟨by omega,by omega⟩,by omega,by simp only [Zzd];omega,hB⟩,fun r hr0 hrb=>?_⟩
  unfold bd5 at hrb
  conv=>whnf
  refine ⟨⟨0,_,rfl,rfl,by omega,by omega,by omega⟩,?_⟩
  intro vs σ hI
  obtain ⟨i,nn,rfl,rfl,hi,hn0,hn1⟩:=hI
  conv=>whnf
  refine ZCX (fun hi2=>?_) (fun hi2=>?_)
  rotate_left
  ·exact m159
  have hi2:i<p5.length:=by have hi2:(i:Int)<(p5.map (ZQ pl)).length:=hi2;rw [hl5] at hi2;omega
  conv=>whnf
  refine ZCX (fun hi2n=>?_) (fun hi2n=>?_)
  rotate_left
  ·exact m159
  conv=>whnf
  obtain ⟨eA,hA⟩:∃e,p5[i]=e:=⟨_,rfl⟩
  have hg:=Zn ZgG p5 i hi2
  obtain ⟨b1,b2,b3,b4⟩:=eA
  rw [hA] at hg
  simp only [ZgG] at hg
  have hr1:(p5.map (ZQ pl))[((i:Nat):Int).toNat]?=some (ZQ pl ⟨b1,b2,b3,b4⟩):=by simp [hi2,hA]
  have hlb:(b3.map Zr).length=b3.length:=Te ..
  have hlb2:(List.map Zr (Ini.types ⟨b1,b2,b3,b4⟩)).length=b3.length:=Te ..
  have hsb:=Zj (sz0 (α:=Bs)) b3
  (repeat (first | (refine oiO ?_;conv=>whnf) | (refine ⟨_,by omega,hr1,?_⟩;conv=>whnf)))
  refine ⟨⟨0,_,rfl,rfl,by omega,by omega,by omega⟩,?_⟩
  intro vs' σ' hI'
  obtain ⟨j,n2,rfl,rfl,hj,hn20,hn21⟩:=hI'
  conv=>whnf
  (repeat (first | (refine oiO ?_;conv=>whnf) | (refine ⟨_,by omega,hr1,?_⟩;conv=>whnf)))
  refine ZCX (fun hj2=>?_) (fun hj2=>?_)
  rotate_left
  ·exact m103
  have hj2:j<b3.length:=by have hj2:(j:Int)<(b3.map Zr).length:=hj2;rw [hlb] at hj2;omega
  conv=>whnf
  refine ZCX (fun hj3=>?_) (fun hj3=>?_)
  rotate_left
  ·exact m103
  conv=>whnf
  have hr2:(b3.map Zr)[((j:Nat):Int).toNat]?=some (Zr b3[j]):=by simp [hj2]
  (repeat (first | (refine ⟨_,by omega,hr1,?_⟩;conv=>whnf) | (refine ⟨_,by omega,hr2,?_⟩;conv=>whnf) | (refine oiO ?_;conv=>whnf)))
  exact m200
 ·exact h.elim
theorem ZCm (m:Nat):PCalls (GG w0 nG) 37 (ZgP Zm9 Zzd bd5 m):=Zzf ⟨⟨Zy9,Uz _ _ _ _⟩,⟨Zzc ⟨⟨cZE m,XO _ _ _ _⟩,⟨cZL m,Uz _ _ _ _⟩,trivial⟩,Uz _ _ _ _⟩,trivial⟩
theorem ZCn:∀m,PCalls (GG w0 nG) 18 (ZgP Yf Zc8 bdU m)
 | 0=>Zs0 ⟨⟨ZCm 0,XO _ _ _ _⟩,⟨ZK (Zh Tryz.func18 (by kernel_rfl) rfl),Zy (XO _ _ _) _⟩,trivial⟩
 | m+1=>Zs0 ⟨⟨ZCm _,XO _ _ _ _⟩,⟨ZL (sp:=ZgP Yf Zc8 bdU) (ZCn m),Zy (XO _ _ _) _⟩,trivial⟩
end Go.PM.Lex
end

section
namespace Go.PM.Lex
end Go.PM.Lex
end

section
namespace Go.PM.Lex
theorem Zzh {len len' b0 b1 b2 b3 b1' b2' b3':Nat} (hl:len≤len') (h1:1<len→b1'=b1) (h1':¬1<len→b1'<128) (h2:2<len→b2'=b2) (h2':1<len→¬2<len→b2'<128) (h3:3<len→b3'=b3) (h3':2<len→¬3<len→b3'<128) :
  Lib.decodeN len' b0 b1' b2' b3'=Lib.decodeN len b0 b1 b2 b3:=by
 unfold Lib.decodeN
 by_cases c0:b0<128
 ·rw [Th c0,Th c0]
 rw [Tf c0,Tf c0]
 by_cases l1:1<len
 ·have e1:=h1 l1;subst e1
  have g1:1<len':=by omega
  by_cases l2:2<len
  ·have e2:=h2 l2;subst e2
   have g2:2<len':=by omega
   by_cases l3:3<len
   ·have e3:=h3 l3;subst e3
    have g3:3<len':=by omega
    simp only [l1,l2,l3,g1,g2,g3,true_and]
   ·have:=h3' l2 l3
    have k:¬b3' / 64=2:=by omega
    simp only [l1,l2,l3,g1,g2,k,true_and,false_and,and_false,if_false]
  ·have:=h2' l1 l2
   have k:¬b2' / 64=2:=by omega
   simp only [l1,l2,g1,k,true_and,false_and,and_false,if_false]
 ·have:=h1' l1
  have k:¬b1' / 64=2:=by omega
  simp only [l1,k,true_and,false_and,and_false,if_false]
theorem ZeL (x z:Bs) (c:UInt8) (k:Nat) (h:¬k<x.length) (h2:x.length=k):(x++c::z).getD k 0=c:=by
 simp only [T2];rw [TW (by omega),show k - x.length=0 by omega];rfl
theorem Zna {x z:Bs} {c:UInt8} (hx:x≠[]) (hc:c.toNat<128):Lib.decodeL (x++c::z)=Lib.decodeL x:=by
 have hpos:=T8.2 hx
 rw [Lib.decodeL_N,Lib.decodeL_N,VR x _ 0 hpos]
 refine Zzh (by rw [Ta];omega) (fun h=>by rw [VR x _ 1 h]) (fun h=>?_) (fun h=>by rw [VR x _ 2 h]) (fun h h'=>?_) (fun h=>by rw [VR x _ 3 h]) (fun h h'=>?_)
 ·rw [ZeL x z c 1 h (by omega)];exact hc
 ·rw [ZeL x z c 2 h' (by omega)];exact hc
 ·rw [ZeL x z c 3 h' (by omega)];exact hc
theorem ZbV {x z:Bs} {c:UInt8} (hx:x≠[]) (hc:c.toNat<128):pk (x++c::z)=pk x:=by
 unfold pk
 rw [Zna hx hc]
 by_cases g:Lib.decodeL x=(65533,1)
 ·rw [Th (.inr g),Th (.inr g)]
 ·rw [Tf (by simp [g]),Tf (by simp [hx,g])]
theorem ZeM {z:Bs} {c:UInt8} (hc:c.toNat<128):pk (c::z)=((c.toNat:Int),1):=by
 have e:Lib.decodeL (c::z)=(c.toNat,1):=by
  rw [Lib.decodeL_N];unfold Lib.decodeN;rw [Th (by simpa using hc)];simp
 unfold pk
 rw [e,Tf (by simp;omega)]
structure Fol (c:UInt8) (z:Bs):Prop where
 low:c.toNat<128
 let':Zi c.toNat=false
 dig:Zo c.toNat=false
 dot:c=46→Zi (pk z).1=false
theorem Fol.pk {c:UInt8} {z:Bs} (h:Fol c z):Lex.pk (c::z)=((c.toNat:Int),1):=ZeM h.low
theorem Znb {c:UInt8} {z:Bs} (h:Fol c z):∀(f:Nat),YT f (c::z)=0
 | 0=>rfl
 | f+1=>by
  by_cases h46:(Lex.pk (c::z)).1=46
  ·refine W5 h46 ?_
   rw [h.pk] at h46
   have:c=46:=by
    have h46:(c.toNat:Int)=46:=h46
    exact UInt8.toNat_inj.1 (show c.toNat=(46:UInt8).toNat by have:(46:UInt8).toNat=46:=rfl;omega)
   exact h.dot this
  ·exact Uo h46 (by rw [h.pk];exact h.let') (by rw [h.pk];exact h.dig)
theorem ZeN {c:UInt8} {z:Bs} (h:Fol c z):∀(f:Nat) (x:Bs),x.length<f→∀f',(x++c::z).length<f'→YT f' (x++c::z)=YT f x
 | 0,x,hx,f',hf=>by omega
 | f+1,x,hx,0,hf=>by omega
 | f+1,x,hx,f'+1,hf=>by
  by_cases hnil:x=[]
  ·subst hnil
   rw [To,Znb h,ZmX]
  ·have hpk:=ZbV (z:=z) hnil h.low
   rw [Ta] at hf
   have step:∀(hne:(Lex.pk x).1≠-1),(x++c::z).drop (Lex.pk x).2=x.drop (Lex.pk x).2++c::z∧YT f' (x.drop (Lex.pk x).2++c::z)=YT f (x.drop (Lex.pk x).2):=fun hne=>by
    obtain ⟨h1,h2,h3⟩:=Zq4 x hne
    exact ⟨Sj h2,ZeN h f _ (by rw [Tv];omega) f' (by rw [Ta,Tv];omega)⟩
   by_cases h1:(Lex.pk x).1=46
   ·have hlow:=ZxE x (by omega) (by omega)
    have hlet:Zi (Lex.pk ((x++c::z).drop 1)).1=Zi (Lex.pk (x.drop 1)).1:=by
     rw [Sj hlow.1]
     by_cases hd:x.drop 1=[]
     ·rw [hd,To,h.pk,Zau];rw [h.let'];rfl
     ·rw [ZbV hd h.low]
    obtain ⟨s1,s2⟩:=step (by omega)
    by_cases h2:Zi (Lex.pk (x.drop 1)).1=true
    ·rw [Zcj h1 h2,Zcj (by rw [hpk];exact h1) (by rw [hlet];exact h2),hpk,s1,s2]
    ·have h2:Zi (Lex.pk (x.drop 1)).1=false:=by simpa using h2
     rw [W5 h1 h2,W5 (by rw [hpk];exact h1) (by rw [hlet];exact h2)]
   ·by_cases h2:Zi (Lex.pk x).1=true∨Zo (Lex.pk x).1=true
    ·obtain ⟨s1,s2⟩:=step (Zpd h2)
     rw [Zbw h1 h2,Zbw (by rw [hpk];exact h1) (by rw [hpk];exact h2),hpk,s1,s2]
    ·simp only [not_or,Bool.not_eq_true] at h2
     rw [Uo h1 h2.1 h2.2,Uo (by rw [hpk];exact h1) (by rw [hpk];exact h2.1) (by rw [hpk];exact h2.2)]
theorem ZbW (p:UInt8→Bool) {c:UInt8} (z:Bs) (hc:p c=false):∀l:Bs,(l++c::z).takeWhile p=l.takeWhile p
 | []=>by simp [Sa,hc]
 | b::l=>by
  by_cases hb:p b=true
  ·simp only [Tm,Sa,hb,if_true,ZbW p z hc l]
  ·simp [Sa,hb]
theorem ZgQ {x z:Bs} {a b c:UInt8} (hx:x≠[]) (hb:b≠c):Lib.hasPrefix (x++c::z) [a,b]=Lib.hasPrefix x [a,b]:=by
 match x,hx with
 | [d],_ =>
  have:(b == c)=false:=by simpa using hb
  simp [Lib.hasPrefix,List.isPrefixOf,this]
 | d::e::l,_=>simp [Lib.hasPrefix,List.isPrefixOf]
theorem Zwg {c:UInt8} {z:Bs} (h:Fol c z) (hex:Bool):Wi hex c=false:=by
 have h1:=h.let'
 have h2:=h.dig
 unfold Wi
 rw [h2,Bool.false_or]
 cases hex with
 | false=>rfl
 | true =>
  simp only [Zi,decide_eq_false_iff_not,not_or] at h1
  simp only [Tu,decide_eq_false_iff_not,not_or]
  omega
theorem Zke {x z:Bs} {c:UInt8} (hx:x≠[]) (h:Fol c z):Z0 (x++c::z)=Z0 x∧Zv (x++c::z)=Zv x:=by
 have h120:(120:UInt8)≠c:=fun g=>by
  have:=h.let'
  rw [← g] at this;revert this;decide
 have hh:Ws (x++c::z)=Ws x:=ZgQ hx h120
 have hk:(if Ws x=true then 2 else 0)≤x.length:=by
  split
  ·rename_i g;exact (Ye g).1
  ·omega
 have hd:Ze (x++c::z)=Ze x:=by
  unfold Ze
  rw [hh,Sj hk,ZbW _ _ (Zwg h _)]
 have hl:Zv (x++c::z)=Zv x:=by unfold Zv;rw [hh,hd]
 refine ⟨?_,hl⟩
 have hle:=ZhX x
 have hp:∀p:Int→Bool,p (-1)=false→p c.toNat=false→p (Lex.pk ((x++c::z).drop (Zv x))).1=p (Lex.pk (x.drop (Zv x))).1:=fun p h1 h2=>by
  rw [Sj hle]
  by_cases hn:x.drop (Zv x)=[]
  ·rw [hn,To,h.pk,Zau]
   show p (c.toNat:Int)=p (-1)
   rw [h1,h2]
  ·rw [ZbV hn h.low]
 unfold Z0
 rw [hd,hl,hh,hp Zi (by decide) h.let',hp Zo (by decide) h.dig]
theorem Zpy {r z:Bs} {c:UInt8} {a:Nat} {room:Bool} {t:Tok} (hr:r≠[]) (hc:Fol c z) (hs:Xi (r++c::z)=Xi r) (h:VA a r room=.tok t):VA a (r++c::z) room=.tok t:=by
 have hpos:=T8.2 hr
 have hpk:=ZbV (z:=z) hr hc.low
 rw [YJ] at h ⊢
 rw [hs,hpk]
 split at h
 ·cases h
 ·rename_i g0
  rw [Tf g0]
  split at h
  ·cases h
  ·rename_i gr
   rw [Tf gr]
   split at h
   ·rename_i g1
    have:=(ZjI r hpos).1
    rw [Th g1,List.take_append_of_le_length this];exact h
   ·rename_i g1
    rw [Tf g1]
    split at h
    ·rename_i g2
     rw [Th g2]
     unfold Zdj at h ⊢
     split at h
     ·cases h
     ·rename_i tx l ht
      have ht':WS (r++c::z)=.ok tx l:=by
       unfold WS at ht ⊢
       rw [Sj hpos]
       exact ZfV _ _ _ _ _ _ _ ht _ (by rw [Tv,Ta];omega)
      rw [ht'];exact h
    ·rename_i g2
     rw [Tf g2]
     split at h
     ·rename_i g3
      rw [Th g3]
      obtain ⟨n1,n2⟩:=Zke hr hc
      unfold WT at h ⊢
      rw [n1,n2];exact h
     ·rename_i g3
      rw [Tf g3]
      have hn:Vz (r++c::z)=Vz r:=ZeN hc _ r (by omega) _ (by omega)
      have hle:Vz r≤r.length:=Zeb _ _
      rw [hn,List.take_append_of_le_length hle];exact h
theorem JT:∀(f f':Nat) (r:Bs),r.length<f→r.length<f'→Zw f r=Zw f' r
 | 0,f',r,h,h'=>by omega
 | f+1,0,r,h,h'=>by omega
 | f+1,f'+1,r,h,h'=>by
  have hle:=Zpe r
  cases h1:Lib.hasPrefix (Lib.trimLeftS r ws) [47,47] with
  | true =>
   have hl2:=(Ye h1).1
   have h22:=Zbx (c:=10) h1 (by decide) (by decide)
   rw [VP h1 _ rfl,VP h1 _ rfl]
   rw [JT f f' _ (by rw [Tv];split <;> omega) (by rw [Tv];split <;> omega)]
  | false =>
   cases h2:Lib.hasPrefix (Lib.trimLeftS r ws) [47,42] with
   | true =>
    have hl2:=(Ye h2).1
    by_cases h3:Lib.index ((Lib.trimLeftS r ws).drop 2) [42,47]<0
    ·rw [VQ h1 h2 h3,VQ h1 h2 h3]
    ·have hi:Lib.index ((Lib.trimLeftS r ws).drop 2) [42,47]=((Lib.index ((Lib.trimLeftS r ws).drop 2) [42,47]).toNat:Nat):=by omega
     rw [U4 h1 h2 _ hi,U4 h1 h2 _ hi,JT f f' _ (by rw [Tv];omega) (by rw [Tv];omega)]
   | false=>rw [Vq h1 h2,Vq h1 h2]
theorem Zpz {f:Nat} {r:Bs} (h:r.length<f):Zw f r=Z3 r:=JT _ _ r h (by omega)
theorem ZpA (r y:Bs) (h:Lib.trimLeftS r ws=[]):Lib.trimLeftS (r++y) ws=Lib.trimLeftS y ws:=by
 induction r with
 | nil=>rfl
 | cons b r ih =>
  unfold Lib.trimLeftS at *
  by_cases hb:ws.contains b=true
  ·simp only [Tm,SC,hb,if_true] at h ⊢;exact ih h
  ·rw [SC,Tf hb] at h;cases h
theorem Zkf {r y:Bs} (h:Lib.trimLeftS r ws=[]):Z3 (r++y)=((Z3 y).1,r.length+(Z3 y).2):=by
 have ht:=ZpA r y h
 have hle:=Zpe y
 obtain ⟨f,hf⟩:∃f,(r++y).length+1=f+1:=⟨_,rfl⟩
 rw [← Zpz (f:=(r++y).length+1) (r:=y) (by rw [Ta];omega)]
 unfold Z3
 rw [hf]
 have hlen:(r++y).length=r.length+y.length:=Ta
 cases h1:Lib.hasPrefix (Lib.trimLeftS y ws) [47,47] with
 | true =>
  rw [VP (r:=r++y) (by rw [ht];exact h1) _ rfl,VP h1 _ rfl,ht]
  refine Prod.ext rfl ?_
  simp only;omega
 | false =>
  cases h2:Lib.hasPrefix (Lib.trimLeftS y ws) [47,42] with
  | false =>
   rw [Vq (r:=r++y) (by rw [ht];exact h1) (by rw [ht];exact h2),Vq h1 h2,ht]
   refine Prod.ext rfl ?_
   simp only;omega
  | true =>
   by_cases h3:Lib.index ((Lib.trimLeftS y ws).drop 2) [42,47]<0
   ·rw [VQ (r:=r++y) (by rw [ht];exact h1) (by rw [ht];exact h2) (by rw [ht];exact h3),VQ h1 h2 h3,ht]
    refine Prod.ext rfl ?_
    simp only;omega
   ·have hi:Lib.index ((Lib.trimLeftS y ws).drop 2) [42,47]=((Lib.index ((Lib.trimLeftS y ws).drop 2) [42,47]).toNat:Nat):=by omega
    rw [U4 (r:=r++y) (by rw [ht];exact h1) (by rw [ht];exact h2) _ (by rw [ht];exact hi),U4 h1 h2 _ hi,ht]
    refine Prod.ext rfl ?_
    simp only;omega
end Go.PM.Lex
end

section
namespace Go.PM.Lex
end Go.PM.Lex
end

section
namespace Go.PM.Lex
open Go.Proofs
theorem Zzi (o:Nat) (t:Bs) (n:Int) (l:List Ex) (a:Nat):szE (.mk o t n l a)=1+szS szE l:=by rw [szE,XX]
theorem Zzj (o:Nat) (t:Bs) (l:List Ex) (b:List Li) (a:Nat):szL (.mk o t l b a)=1+szS szE l+szS szL b:=by rw [szL,Xu]
theorem Zwh (n:Bs) (p:List Bs) (b:Bs) (t:List Bs) (u:Un) (a:Nat):Zbg (.mk n p b t u a)=1+szS sz0 p+szS sz0 t+Zc8 u:=by rw [Zbg]
theorem Zwi (a1 a2 a3 a4 a5 a6):Zc8 (.mk a1 a2 a3 a4 a5 a6)=1+szS ZeC a1+szS Zdp a2+szS Zdo a3+szS Zbg a4+szS ZgG a5+szS sz0 a6:=by rw [Zc8,YQ]
theorem W0 {α:Type} {er:α→α} {f:α→α→Bool}:∀(l m:List α),(∀x∈l,∀y,er x=er y→f x y=true)→l.map er=m.map er→Yv f l m=true
 | [],[],_,_=>rfl
 | [],_::_,_,h=>by simp at h
 | _::_,[],_,h=>by simp at h
 | x::l,y::m,hf,h=>by
  simp only [Tz,List.cons.injEq] at h
  rw [Yv,hf x (List.mem_cons_self ..) y h.1,Tu]
  exact W0 l m (fun z hz=>hf z (Tp _ hz)) h.2
theorem UA {α:Type} {f:α→α→Bool} (hf:∀x,f x x=true) (l:List α):Yv f l l=true:=by
 induction l with
 | nil=>rfl
 | cons x l ih=>rw [Yv,hf,ih];rfl
theorem ZlA (x:Bs):eqB x x=true:=by simp [eqB]
theorem Za9 (x:Fi):XH x x=true:=by simp [XH]
theorem Zkg (x:Ca):Yx x x=true:=by simp [Yx,UA Za9]
theorem ZlB:∀(n:Nat) (x:Ex),szE x<n→∀y,erE x=erE y→Xs x y=true
 | 0,_,h,_,_=>by omega
 | n+1,.mk o1 t1 n1 l1 a1,hz,.mk o2 t2 n2 l2 a2,h=>by
  simp only [erE,U3,Ex.mk.injEq] at h
  obtain ⟨rfl,rfl,rfl,h,-⟩:=h
  rw [Zzi] at hz
  have:Yv Xs l1 l2=true:=W0 l1 l2 (fun x hx y e=>by
   obtain ⟨i,hi,rfl⟩:=T3 hx
   have:=Zn szE l1 i hi
   exact ZlB n _ (by omega) y e) h
  simp [Xs,Vp,this]
theorem ZlC {x y:Ex} (h:erE x=erE y):Xs x y=true:=ZlB _ x (Sf _) y h
theorem ZlD:∀(n:Nat) (x:Li),szL x<n→∀y,erL x=erL y→YX x y=true
 | 0,_,h,_,_=>by omega
 | n+1,.mk o1 t1 l1 b1 a1,hz,.mk o2 t2 l2 b2 a2,h=>by
  simp only [erL,ZgF,Li.mk.injEq] at h
  obtain ⟨rfl,rfl,h,h2,-⟩:=h
  rw [Zzj] at hz
  have e1:Yv Xs l1 l2=true:=W0 l1 l2 (fun x hx y e=>ZlC e) (by first | exact h | (simpa [U3] using h))
  have e2:Yv YX b1 b2=true:=W0 b1 b2 (fun x hx y e=>by
   obtain ⟨i,hi,rfl⟩:=T3 hx
   have:=Zn szL b1 i hi
   exact ZlD n _ (by omega) y e) h2
  simp [YX,Xt,e1,e2]
theorem ZrV {x y:Li} (h:erL x=erL y):YX x y=true:=ZlD _ x (Sf _) y h
theorem ZpB {x y:Ru} (h:ZfT x=ZfT y):YV x y=true:=by
 simp only [ZfT,Ru.mk.injEq] at h
 obtain ⟨e1,e2,e3,-⟩:=h
 simp [YV,e1,W0 (er:=erE) _ _ (fun x hx y e=>ZlC e) e2,W0 (er:=erL) _ _ (fun x hx y e=>ZrV e) e3]
theorem ZpC {x y:Ty} (h:ZmT x=ZmT y):ZT x y=true:=by
 simp only [ZmT,Ty.mk.injEq] at h
 obtain ⟨e1,e2,e3,e4,e5,-⟩:=h
 simp [ZT,e1,e2,e3,e4,e5,UA Za9,UA Zkg]
theorem ZpD {x y:Re} (h:ZmU x=ZmU y):Z2 x y=true:=by
 simp only [ZmU,Re.mk.injEq] at h
 obtain ⟨e1,e2,e3,e4,e5,-⟩:=h
 simp [Z2,e1,e2,e3,e4,e5,UA Za9]
theorem ZpE {x y:Ini} (h:ZmV x=ZmV y):Yy x y=true:=by
 simp only [ZmV,Ini.mk.injEq] at h
 obtain ⟨e1,e2,e3,-⟩:=h
 simp [Yy,e1,e2,e3,UA ZlA]
theorem ZpF {x y:Ov} (h:ZmW x=ZmW y):X1 x y=true:=by
 simp only [ZmW,Ov.mk.injEq] at h
 simp [X1,h.1]
theorem ZiC:∀(n:Nat) (x:Un),Zc8 x<n→∀y,UI x=UI y→Yl x y=true
 | 0,_,h,_,_=>by omega
 | n+1,.mk a1 a2 a3 a4 a5 a6,hz,.mk b1 b2 b3 b4 b5 b6,h=>by
  simp only [UI,Zlr,Un.mk.injEq] at h
  obtain ⟨e1,e2,e3,e4,e5,e6⟩:=h
  rw [Zwi] at hz
  have k4:Yv ZY a4 b4=true:=W0 a4 b4 (fun x hx y e=>by
   obtain ⟨i,hi,rfl⟩:=T3 hx
   have hg:=Zn Zbg a4 i hi
   revert hg e
   generalize a4[i]=c
   intro e hg
   obtain ⟨n1,p1,c1,t1,u1,q1⟩:=c
   obtain ⟨n2,p2,c2,t2,u2,q2⟩:=y
   rw [Zwh] at hg
   simp only [Zfn,Co.mk.injEq] at e
   obtain ⟨rfl,rfl,rfl,rfl,e,-⟩:=e
   have:=ZiC n u1 (by omega) u2 e
   simp [ZY,this,UA ZlA]) e4
  simp [Yl,Xb,k4,W0 (er:=ZmT) _ _ (fun x hx y e=>ZpC e) e1,W0 (er:=ZmU) _ _ (fun x hx y e=>ZpD e) e2,W0 (er:=ZfT) _ _ (fun x hx y e=>ZpB e) e3,W0 (er:=ZmV) _ _ (fun x hx y e=>ZpE e) e5,W0 (er:=ZmW) _ _ (fun x hx y e=>ZpF e) e6]
theorem ZpG {x y:Un} (h:UI x=UI y):Yl x y=true:=ZiC _ x (Sf _) y h
end Go.PM.Lex
end

section
namespace Go.PM.Lex
open Go.Proofs
variable {w0:World} {nG:Nat}
end Go.PM.Lex
end

section
namespace Go.PM.Lex
def nmT (s:Bs):T0:=⟨1,s,0⟩
def sgT (s:Bs):T0:=⟨4,s,0⟩
def UB (sep:Bs):List Ts→Ts
 | []=>[]
 | x::l=>sgT sep::(x++UB sep l)
def Ya (sep:Bs):List Ts→Ts
 | []=>[]
 | x::l=>x++UB sep l
def Zjb (want:Nat) (p:Nat×Ts):Ts:=if p.1<want then sgT [40]::(p.2++[sgT [41]]) else p.2
def opT (op:Nat):T0:=if 15≤op∧op≤19 then nmT (ZM op) else sgT (ZM op)
def Zzk (w1 w2:Nat) (mid:Ts):List (Nat×Ts)→Ts
 | []=>[]
 | [a]=>Zjb w1 a
 | a::b::_=>Zjb w1 a++(mid++Zjb w2 b)
def brK (fr fin:Bs) (ps:List Ts):Ts:=sgT fr::(Ya [44] ps++[sgT fin])
def ZlE (op:Nat) (text:Bs) (n:Int) (ps:List (Nat×Ts)):Ts :=
 if Zm op<5 then Zzk (Zm op) (Zm op+1) [opT op] ps
 else if Zm op=5 then sgT (ZM op)::Zzk 5 5 [] ps
 else if ZM op≠[] then nmT (ZM op)::brK [40] [41] (ps.map Prod.snd)
 else if op=6 then brK [91] [93] (ps.map Prod.snd)
 else if op=7 then sgT [36]::nmT text::(if ps.length=0 then [] else brK [40] [41] (ps.map Prod.snd))
 else if op=3 then [⟨2,[],n⟩]
 else if op=4 then [⟨3,text,0⟩]
 else if op=5 then [nmT [110,105,108]]
 else if op=2 then [nmT [95]]
 else [nmT text]
mutual
def exK:Ex→Ts
 | .mk op text n args _=>ZlE op text n (ZqK args)
def ZqK:List Ex→List (Nat×Ts)
 | []=>[]
 | e::l=>(Zm (opE e),exK e)::ZqK l
end
theorem ZpH (l:List Ex):ZqK l=l.map fun e=>(Zm (opE e),exK e):=by induction l with | nil=>rfl | cons x l ih=>simp [ZqK,ih]
theorem ZgR (l:List Ex):(ZqK l).map Prod.snd=l.map exK:=by rw [ZpH,TL];rfl
theorem ZrW (l:List Ex):(ZqK l).length=l.length:=by rw [ZpH,Te]
def ZeO (want:Nat) (e:Ex):Ts:=Zjb want (Zm (opE e),exK e)
def Lim {α:Type} (x:R α):Prop:=∃p,x=.err p 3∨x=.err p 151
def Rd {α β:Type} (er:α→β) (v:α) (r:Ts) (x:R α):Prop:=(∃v',er v'=er v∧x=.ok v' r)∨Lim x
theorem Lim.bind {α β:Type} {x:R α} {f:α→Ts→R β} (h:Lim x):Lim (x.bind f):=by
 obtain ⟨p,rfl | rfl⟩:=h
 ·exact ⟨p,.inl rfl⟩
 ·exact ⟨p,.inr rfl⟩
theorem Rd.bind {α β γ δ:Type} {er:α→β} {er2:γ→δ} {v:α} {u:γ} {r s:Ts} {x:R α} {f:α→Ts→R γ} (h:Rd er v r x) (hf:∀v',er v'=er v→Rd er2 u s (f v' r)):Rd er2 u s (x.bind f):=by
 rcases h with ⟨v',e,rfl⟩ | h
 ·exact hf v' e
 ·exact .inr h.bind
theorem Rd.ok {α β:Type} {er:α→β} {v v':α} {r:Ts} (h:er v'=er v):Rd er v r (.ok v' r):=.inl ⟨v',h,rfl⟩
theorem ZDc {α:Type} {v:α} {r:Ts}:Rd (fun x:α=>x) v r (.ok v r):=.inl ⟨v,rfl,rfl⟩
theorem Rd.lim {α β:Type} {er:α→β} {v:α} {r:Ts} {x:R α} (h:Lim x):Rd er v r x:=.inr h
theorem Zs1 {α:Type} {p:Nat}:Lim (.err p 3:R α):=⟨p,.inl rfl⟩
theorem Zs2 {α:Type} {p:Nat}:Lim (.err p 151:R α):=⟨p,.inr rfl⟩
theorem Rd.binds {α γ δ:Type} {er2:γ→δ} {v:α} {u:γ} {r s:Ts} {x:R α} {f:α→Ts→R γ} (h:Rd (fun x:α=>x) v r x) (hf:Rd er2 u s (f v r)):Rd er2 u s (x.bind f):=h.bind fun v' e=>by cases (show v'=v from e);exact hf
theorem W2 (w:Bs) (r:Ts):isW (sgT w::r) [w]=true:=by simp [isW,hd,sgT]
theorem Zdd (w:Bs) (r:Ts):isW (nmT w::r) [w]=true:=by simp [isW,hd,nmT]
theorem XI (w:Bs) (r:Ts):Yo w (sgT w::r)=.ok () r:=by rw [Yo,Th (W2 w r)];rfl
theorem Zu {t:T0} {w:Bs} (r:Ts) (h:t.text≠w):isW (t::r) [w]=false:=by
 simp only [isW,hd,List.contains_cons,List.contains_nil,Su,Bool.and_eq_false_imp]
 exact fun _=>by simpa using h
theorem Zaa {t:T0} {ws:List Bs} (r:Ts) (h:t.kind≠1∧t.kind≠4):isW (t::r) ws=false:=by simp [isW,hd,h.1,h.2]
structure Nx (r:Ts):Prop where
 par:isW r [[40]]=false
 bin:(Zaf r).1=0
def nxW:List Bs:=[[44],[41],[93],[46],[125],[61],[33,61],[60],[60,61],[62],[62,61],[58]]
theorem Zai {w:Bs} (hw:w∈nxW) (r:Ts):Nx (sgT w::r):=by
 have h:∀w∈nxW,isW [sgT w] [[40]]=false∧(Zaf [sgT w]).1=0:=by decide
 exact ⟨(h w hw).1,(h w hw).2⟩
theorem Wy {α β:Type} {er:α→β} {d:Nat} {fr tw:Bs} {read:Ts→R α} {v:α} {ts r:Ts} (hto:tw≠[]) (h:d≠0→Rd er v (sgT tw::r) (read ts)):Rd er v r (Zq d fr tw read (sgT fr::ts)):=by
 unfold Zq
 rw [Th (W2 _ _)]
 by_cases hd:d=0
 ·rw [Th hd];exact .lim Zs2
 ·rw [Tf hd]
  refine (h hd).bind fun v' e=>?_
  rw [Tf hto,XI,R.bind_ok]
  exact Rd.ok e
theorem ZiD {α β:Type} {er:α→β} {d:Nat} {fr:Bs} {read:Ts→R α} {v:α} {ts r:Ts} (h:d≠0→Rd er v r (read ts)):Rd er v r (Zq d fr [] read (sgT fr::ts)):=by
 unfold Zq
 rw [Th (W2 _ _)]
 by_cases hd:d=0
 ·rw [Th hd];exact .lim Zs2
 ·rw [Tf hd]
  refine (h hd).bind fun v' e=>?_
  rw [Th rfl]
  exact Rd.ok e
theorem ZiE (sep:Bs):∀l:List Ts,l.length≤(UB sep l).length
 | []=>Tt _
 | x::l=>by have:=ZiE sep l;simp only [UB,Tc,Ta];omega
theorem ZiF {α β:Type} {er:α→β} {sep:Bs} {most:Nat} {starts:Ts→Bool} {one:Ts→R α} {K:α→Ts} (Ok:Ts→Prop) {r:Ts} (hsep:∀t,Ok (sgT sep::t)) (hr:Ok r) (hrs:isW r [sep]=false) :
  ∀(xs:List α) (x:α) (f:Nat) (acc acc':List α),(∀y∈x::xs,∀t,Ok t→Rd er y t (one (K y++t)))→xs.length<f→acc'.map er=acc.map er →
   Rd (List.map er) (acc++x::xs) r (Wn sep most starts one f acc' (K x++(UB sep (xs.map K)++r)))
 | xs,x,0,acc,acc',h,hf,ha=>by omega
 | [],x,f+1,acc,acc',h,hf,ha=>by
  rw [Wn]
  split
  ·exact .lim Zs1
  ·simp only [TG,UB,To]
   refine (h x (by simp) r hr).bind fun v' e=>?_
   rw [Tf (by rw [hrs];simp)]
   exact Rd.ok (by simp [ha,e])
 | y::ys,x,f+1,acc,acc',h,hf,ha=>by
  rw [Wn]
  split
  ·exact .lim Zs1
  ·simp only [Tz,UB,Tm,Tg]
   refine (h x (by simp) _ (hsep _)).bind fun v' e=>?_
   rw [Th (W2 _ _)]
   have ih:=ZiF (most:=most) (starts:=starts) Ok hsep hr hrs ys y f (acc++[x]) (acc'++[v']) (fun z hz=>h z (Tp _ hz)) (by simpa using hf) (by simp [ha,e])
   rw [Tg] at ih
   exact ih
theorem UC {α β:Type} {er:α→β} {sep:Bs} {most:Nat} {starts:Ts→Bool} {one:Ts→R α} {K:α→Ts} (Ok:Ts→Prop) {r:Ts} (hsep:∀t,Ok (sgT sep::t)) (hr:Ok r) (hrs:isW r [sep]=false) {xs:List α} (hne:xs≠[])
  (h:∀y∈xs,∀t,Ok t→Rd er y t (one (K y++t))):Rd (List.map er) xs r (Ww sep most starts one (Ya sep (xs.map K)++r)):=by
 match xs,hne,h with
 | x::xs,_,h =>
  have ht:=ZiE sep (xs.map K)
  rw [Te] at ht
  simp only [Tz,Ya,Tg]
  exact ZiF Ok hsep hr hrs xs x _ [] [] h (by simp only [Ta];omega) rfl
theorem ZiG {ex:Ts→R Ex} {r:Ts} (hr:Nx r):∀(xs acc acc':List Ex),acc'≠[]→(∀y∈xs,∀t,Nx t→Rd erE y t (ex (exK y++t)))→acc'.map erE=acc.map erE→Rd (List.map erE) (acc++xs) r (Vl ex xs.length acc' (UB [44] (xs.map exK)++r))
 | [],acc,acc',hn,h,ha=>by rw [Td,Vl];exact Rd.ok (by simp [ha])
 | y::ys,acc,acc',hn,h,ha=>by
  rw [Tc,Vl,Tf hn]
  simp only [Tz,UB,Tm,Tg,XI,R.bind_ok]
  have hnx:Nx (UB [44] (ys.map exK)++r):=by
   cases ys with
   | nil=>exact hr
   | cons z zs=>exact Zai (by decide) _
  refine (h y (by simp) _ hnx).bind fun v' e=>?_
  have ih:=ZiG hr ys (acc++[y]) (acc'++[v']) (by simp) (fun z hz=>h z (Tp _ hz)) (by simp [ha,e])
  rw [Tg] at ih
  exact ih
theorem Znc {ex:Ts→R Ex} {r:Ts} (hr:Nx r) {xs:List Ex} (hne:xs≠[]) (h:∀y∈xs,∀t,Nx t→Rd erE y t (ex (exK y++t))):Rd (List.map erE) xs r (Vl ex xs.length [] (Ya [44] (xs.map exK)++r)):=by
 match xs,hne,h with
 | x::xs,_,h =>
  rw [Tc,Vl,Th rfl,R.bind_ok]
  simp only [Tz,Ya,Tg]
  have hnx:Nx (UB [44] (xs.map exK)++r):=by
   cases xs with
   | nil=>exact hr
   | cons z zs=>exact Zai (by decide) _
  refine (h x (by simp) _ hnx).bind fun v' e=>?_
  exact ZiG hr xs [x] ([]++[v']) (by simp) (fun z hz=>h z (Tp _ hz)) (by simp [e])
theorem ZgS {op:Nat} {t:Bs} {n:Int} {l:List Ex} {a:Nat} (h:Z7 (.mk op t n l a)=true):-2<Yq op∧(Yq op<0∨(l.length:Int)=Yq op)∧(n=0∨op=3)∧W6 op t=true∧∀x∈l,Z7 x=true:=by
 simp only [Z7,Zz,Tk,Sr,TT] at h
 obtain ⟨h1,h2,h3,h4,h5⟩:=h
 exact ⟨h1,h2,h3,h4,Tl.1 h5⟩
theorem ZrX {op:Nat} (h:-2<Yq op):op<26:=by
 by_cases hc:op<26
 ·exact hc
 ·unfold Yq at h
  (repeat rw [Tf (by omega)] at h)
  omega
theorem ZdC {op:Nat} (h:-2<Yq op):(Zm op<5→Yq op=2∧Zaf [opT op]=(Zm op+1,op)∧isW [opT op] [[40]]=false∧op≠1∧op≠7∧op≠4∧op≠3)∧(Zm op=5→Yq op=1∧(op=8∨op=9))∧Zm op≤6 ∧
  (Zm op=6→ZM op≠[]→Yk (ZM op)=op∧(ZbA op:Int)=Yq op∧op≠0∧Zed (ZM op)=true∧op≠1∧op≠7∧op≠4∧op≠3) ∧
  (Zm op=6→ZM op=[]→op=1∨op=2∨op=3∨op=4∨op=5∨op=6∨op=7):=by
 have h1:∀o:Fin 26,-2<Yq o.val→Zm o.val<5→Yq o.val=2∧Zaf [opT o.val]=(Zm o.val+1,o.val)∧isW [opT o.val] [[40]]=false∧o.val≠1∧o.val≠7∧o.val≠4∧o.val≠3:=by decide +kernel
 have h2:∀o:Fin 26,-2<Yq o.val→Zm o.val=5→Yq o.val=1∧(o.val=8∨o.val=9):=by decide +kernel
 have h3:∀o:Fin 26,-2<Yq o.val→Zm o.val≤6:=by decide +kernel
 have h4:∀o:Fin 26,-2<Yq o.val→Zm o.val=6→ZM o.val≠[]→Yk (ZM o.val)=o.val∧(ZbA o.val:Int)=Yq o.val∧o.val≠0∧Zed (ZM o.val)=true:=by decide +kernel
 have h6:∀o:Fin 26,-2<Yq o.val→Zm o.val=6→ZM o.val≠[]→o.val≠1∧o.val≠7∧o.val≠4∧o.val≠3:=by decide +kernel
 have h5:∀o:Fin 26,-2<Yq o.val→Zm o.val=6→ZM o.val=[]→o.val=1∨o.val=2∨o.val=3∨o.val=4∨o.val=5∨o.val=6∨o.val=7:=by decide +kernel
 obtain ⟨o,ho⟩:∃o:Fin 26,o.val=op:=⟨⟨op,ZrX h⟩,rfl⟩
 subst ho
 exact ⟨h1 o h,h2 o h,h3 o h,fun a b=>by obtain ⟨p,q,r,s⟩:=h4 o h a b;exact ⟨p,q,r,s,h6 o h a b⟩,h5 o h⟩
theorem U7 {op:Nat} {t:Bs} (h:W6 op t=true) (h1:op≠1) (h7:op≠7) (h4:op≠4):t=[]:=by
 unfold W6 at h
 rw [Tf (by omega),Tf h4] at h
 exact of_decide_eq_true h
theorem ZbX {op:Nat} {t:Bs} (h:W6 op t=true) (h1:op=1∨op=7):YF t=true:=by
 unfold W6 at h
 rwa [Th h1] at h
def Zs3:List Bs:=[[45],[126],[40],[91],[36]]
def ZlF:List Bs:=[[110,105,108],[95],[99,97,116],[115,116,114,108,101,110],[115,117,98,115,116,114],[99,111,100,101],[115,116,114],[110,117,109]]
def Fst (t:T0):Prop:=t.kind=2∨t.kind=3∨(t.kind=4∧t.text∈Zs3)∨(t.kind=1∧t.text∈ZlF)∨(t.kind=1∧YF t.text=true)
theorem ZpI {op:Nat} (h:-2<Yq op) (h6:Zm op=6) (hw:ZM op≠[]):ZM op∈ZlF:=by
 have hk:∀o:Fin 26,-2<Yq o.val→Zm o.val=6→ZM o.val≠[]→ZM o.val∈ZlF:=by decide +kernel
 exact hk ⟨op,ZrX h⟩ h h6 hw
theorem ZaC (op:Nat) (t:Bs) (n:Int) (l:List Ex) (a:Nat):exK (.mk op t n l a)=ZlE op t n (ZqK l):=by rw [exK]
theorem ZaD {l:List Ex} (h:l.length=2):∃a b,l=[a,b]:=by match l,h with | [a,b],_=>exact ⟨a,b,rfl⟩
theorem ZeP {l:List Ex} (h:l.length=1):∃a,l=[a]:=by match l,h with | [a],_=>exact ⟨a,rfl⟩
theorem ZrY {op:Nat} {t:Bs} {n:Int} {l:List Ex} {a:Nat} {k:Nat} (h:SizeOf.sizeOf (Ex.mk op t n l a)<k+1) {x:Ex} (hx:x∈l):SizeOf.sizeOf x<k:=by
 have:=List.sizeOf_lt_of_mem hx
 simp only [Ex.mk.sizeOf_spec] at h
 omega
theorem Zkh {op:Nat} {t:Bs} {n:Int} {x y:Ex} {a:Nat} (h:Zm op<5):exK (.mk op t n [x,y] a)=ZeO (Zm op) x++(opT op::ZeO (Zm op+1) y):=by
 rw [ZaC,ZlE,Th h];rfl
theorem ZpJ {op:Nat} {t:Bs} {n:Int} {x:Ex} {a:Nat} (h:Zm op=5):exK (.mk op t n [x] a)=sgT (ZM op)::ZeO 5 x:=by
 rw [ZaC,ZlE,Tf (by omega),Th h];rfl
theorem Zki {op:Nat} {t:Bs} {n:Int} {l:List Ex} {a:Nat} (h:Zm op=6) (hw:ZM op≠[]):exK (.mk op t n l a)=nmT (ZM op)::brK [40] [41] (l.map exK):=by
 rw [ZaC,ZlE,Tf (by omega),Tf (by omega),Th hw,ZgR]
theorem Zwj {t:Bs} {n:Int} {l:List Ex} {a:Nat}:exK (.mk 6 t n l a)=brK [91] [93] (l.map exK):=by
 rw [ZaC,ZlE,Tf (by decide),Tf (by decide),Tf (by decide),Th rfl,ZgR]
theorem Zwk {t:Bs} {n:Int} {l:List Ex} {a:Nat}:exK (.mk 7 t n l a)=sgT [36]::nmT t::(if l.length=0 then [] else brK [40] [41] (l.map exK)):=by
 rw [ZaC,ZlE,Tf (by decide),Tf (by decide),Tf (by decide),Tf (by decide),Th rfl,ZgR,ZrW]
theorem Zwl {t:Bs} {n:Int} {l:List Ex} {a:Nat}:exK (.mk 3 t n l a)=[⟨2,[],n⟩]:=by
 rw [ZaC,ZlE,Tf (by decide),Tf (by decide),Tf (by decide),Tf (by decide),Tf (by decide),Th rfl]
theorem Zwm {t:Bs} {n:Int} {l:List Ex} {a:Nat}:exK (.mk 4 t n l a)=[⟨3,t,0⟩]:=by
 rw [ZaC,ZlE,Tf (by decide),Tf (by decide),Tf (by decide),Tf (by decide),Tf (by decide),Tf (by decide),Th rfl]
theorem Zwn {t:Bs} {n:Int} {l:List Ex} {a:Nat}:exK (.mk 5 t n l a)=[nmT [110,105,108]]:=by
 rw [ZaC,ZlE,Tf (by decide),Tf (by decide),Tf (by decide),Tf (by decide),Tf (by decide),Tf (by decide),Tf (by decide),Th rfl]
theorem Zwo {t:Bs} {n:Int} {l:List Ex} {a:Nat}:exK (.mk 2 t n l a)=[nmT [95]]:=by
 rw [ZaC,ZlE,Tf (by decide),Tf (by decide),Tf (by decide),Tf (by decide),Tf (by decide),Tf (by decide),Tf (by decide),Tf (by decide),Th rfl]
theorem Zwp {t:Bs} {n:Int} {l:List Ex} {a:Nat}:exK (.mk 1 t n l a)=[nmT t]:=by
 rw [ZaC,ZlE,Tf (by decide),Tf (by decide),Tf (by decide),Tf (by decide),Tf (by decide),Tf (by decide),Tf (by decide),Tf (by decide),Tf (by decide)]
theorem ZrZ {w:Nat} {p:Nat×Ts} {r:Ts} (h:∃t l,p.2=t::l∧Fst t):∃t l,Zjb w p++r=t::l∧Fst t:=by
 unfold Zjb
 split
 ·exact ⟨_,_,rfl,.inr (.inr (.inl ⟨rfl,by decide⟩))⟩
 ·obtain ⟨t,l,e,ht⟩:=h
  exact ⟨t,l++r,by rw [e];rfl,ht⟩
theorem ZpK:∀(n:Nat) (e:Ex),SizeOf.sizeOf e<n→Z7 e=true→∃t l,exK e=t::l∧Fst t
 | 0,e,h,_=>by omega
 | k+1,.mk op t n l a,h,hm=>by
  obtain ⟨m1,m2,m3,m4,m5⟩:=ZgS hm
  obtain ⟨f1,f2,f3,f4,f5⟩:=ZdC m1
  by_cases c1:Zm op<5
  ·obtain ⟨x,y,rfl⟩:=ZaD (l:=l) (by have:=f1 c1;omega)
   rw [Zkh c1]
   exact ZrZ (ZpK k x (ZrY h (by simp)) (m5 x (by simp)))
  by_cases c2:Zm op=5
  ·obtain ⟨x,rfl⟩:=ZeP (l:=l) (by have:=f2 c2;omega)
   rw [ZpJ c2]
   refine ⟨_,_,rfl,.inr (.inr (.inl ⟨rfl,?_⟩))⟩
   rcases (f2 c2).2 with rfl | rfl <;> decide
  have c3:Zm op=6:=by omega
  by_cases c4:ZM op≠[]
  ·rw [Zki c3 c4]
   exact ⟨_,_,rfl,.inr (.inr (.inr (.inl ⟨rfl,ZpI m1 c3 c4⟩)))⟩
  rcases f5 c3 (by simpa using c4) with rfl | rfl | rfl | rfl | rfl | rfl | rfl
  ·rw [Zwp];exact ⟨_,_,rfl,.inr (.inr (.inr (.inr ⟨rfl,ZbX m4 (.inl rfl)⟩)))⟩
  ·rw [Zwo];exact ⟨_,_,rfl,.inr (.inr (.inr (.inl ⟨rfl,by decide⟩)))⟩
  ·rw [Zwl];exact ⟨_,_,rfl,.inl rfl⟩
  ·rw [Zwm];exact ⟨_,_,rfl,.inr (.inl rfl)⟩
  ·rw [Zwn];exact ⟨_,_,rfl,.inr (.inr (.inr (.inl ⟨rfl,by decide⟩)))⟩
  ·rw [Zwj];exact ⟨_,_,rfl,.inr (.inr (.inl ⟨rfl,by decide⟩))⟩
  ·rw [Zwk];exact ⟨_,_,rfl,.inr (.inr (.inl ⟨rfl,by decide⟩))⟩
def ZlG:List Bs:=[[41],[93],[33],[125],[99,111,117,110,116],[115,117,109],[109,105,110],[109,97,120],[44]]
theorem Zwq {t:T0} (h:Fst t) {w:Bs} (hw:w∈ZlG) (r:Ts):isW (t::r) [w]=false:=by
 have hs:∀w∈ZlG,w∉Zs3∧w∉ZlF∧YF w=false:=by decide +kernel
 obtain ⟨h1,h2,h3⟩:=hs w hw
 rcases h with h | h | ⟨h,g⟩ | ⟨h,g⟩ | ⟨h,g⟩
 ·exact Zaa r ⟨by omega,by omega⟩
 ·exact Zaa r ⟨by omega,by omega⟩
 ·exact Zu r fun e=>h1 (e ▸ g)
 ·exact Zu r fun e=>h2 (e ▸ g)
 ·exact Zu r fun e=>by rw [e,h3] at g;cases g
theorem ZfX {e:Ex} (he:Z7 e=true) {w:Bs} (hw:w∈ZlG) (r:Ts):isW (exK e++r) [w]=false:=by
 obtain ⟨t,l,e1,ht⟩:=ZpK _ e (Sf _) he
 rw [e1];exact Zwq ht hw _
def ZpL (ts:Ts):Prop:=ZR ts=true∧(hd ts.tail).kind=4∧(hd ts.tail).text=[40]
theorem UD {t:T0} {l:Ts} (h:t.kind≠1):¬ZpL (t::l):=fun g=>by
 have:=g.1
 simp [ZR,hd,h] at this
theorem ZeQ {t:T0} {l:Ts} (h:Zed t.text=true∨t.text=[95]):¬ZpL (t::l):=fun g=>by
 have:=g.1
 rcases h with h | h <;> simp [ZR,hd,h] at this
theorem Zzl {r:Ts} (h:isW r [[40]]=false):¬((hd r).kind=4∧(hd r).text=[40]):=fun ⟨h1,h2⟩=>by simp [isW,h1,h2] at h
theorem Zr0 {w:Nat} {p:Nat×Ts} {r:Ts} (h:¬ZpL (p.2++r)):¬ZpL (Zjb w p++r):=by
 unfold Zjb
 split
 ·exact UD (show (4:Nat)≠1 by decide)
 ·exact h
theorem ZpM:∀(n:Nat) (e:Ex),SizeOf.sizeOf e<n→Z7 e=true→∀r,isW r [[40]]=false→¬ZpL (exK e++r)
 | 0,e,h,_=>by omega
 | k+1,.mk op t n l a,h,hm=>fun r hr=>by
  obtain ⟨m1,m2,m3,m4,m5⟩:=ZgS hm
  obtain ⟨f1,f2,f3,f4,f5⟩:=ZdC m1
  by_cases c1:Zm op<5
  ·obtain ⟨x,y,rfl⟩:=ZaD (l:=l) (by have:=f1 c1;omega)
   rw [Zkh c1,Tg]
   exact Zr0 (ZpM k x (ZrY h (by simp)) (m5 x (by simp)) _ (f1 c1).2.2.1)
  by_cases c2:Zm op=5
  ·obtain ⟨x,rfl⟩:=ZeP (l:=l) (by have:=f2 c2;omega)
   rw [ZpJ c2]
   exact UD (show (4:Nat)≠1 by decide)
  have c3:Zm op=6:=by omega
  by_cases c4:ZM op≠[]
  ·rw [Zki c3 c4]
   exact ZeQ (.inl (f4 c3 c4).2.2.2.1)
  rcases f5 c3 (by simpa using c4) with rfl | rfl | rfl | rfl | rfl | rfl | rfl
  ·rw [Zwp];exact fun g=>Zzl hr g.2
  ·rw [Zwo];exact ZeQ (.inr rfl)
  ·rw [Zwl];exact UD (show (2:Nat)≠1 by decide)
  ·rw [Zwm];exact UD (show (3:Nat)≠1 by decide)
  ·rw [Zwn];exact ZeQ (.inl (by decide))
  ·rw [Zwj];exact UD (show (4:Nat)≠1 by decide)
  ·rw [Zwk];exact UD (show (4:Nat)≠1 by decide)
end Go.PM.Lex
end

section
namespace Go.PM.Lex
def sgB:Nat→Ts→R Ex
 | 0=>fun _=>.err 0 150
 | d+1=>YN d
theorem ZeR (d:Nat):YN d=JI d (sgB d):=by cases d <;> rfl
def Ln (e:Ex) (r:Ts) (sub:Nat→Ts→R Ex) (least:Nat) (x:R Ex):Prop:=(∃f e',r.length<f∧erE e'=erE e∧x=JH sub least f e' r)∨Lim x
theorem Zkj {e:Ex} {r:Ts} {sub:Nat→Ts→R Ex} {least:Nat} {x:R Ex} (h:Ln e r sub least x) (hb:(Zaf r).1<least∨(Zaf r).1=0):Rd erE e r x:=by
 rcases h with ⟨f,e',h1,h2,rfl⟩ | h
 ·obtain ⟨f,rfl⟩:∃k,f=k+1:=⟨f - 1,by omega⟩
  rw [JH,Th hb]
  exact Rd.ok h2
 ·exact .lim h
theorem Zzm {e:Ex} {r ts:Ts} {sg:Ts→R Ex} {k least:Nat} (h:Rd erE e r (sg ts)):Ln e r (Vm sg k) least (Vm sg (k+1) least ts):=by
 rw [Vm]
 rcases h with ⟨e',h1,h2⟩ | h
 ·rw [h2,R.bind_ok];exact .inl ⟨_,e',Sf _,h1,rfl⟩
 ·exact .inr h.bind
structure ExR (e:Ex):Prop where
 sg:∀d r,isW r [[40]]=false→Rd erE e r (YN d (ZeO 5 e++r))
 ln:∀d k w l r,w≤l→l≤5→6≤k+w→isW r [[40]]=false→(Zaf r).1<l+2→Ln e r (Vm (YN d) (k - 1)) (w+1) (Vm (YN d) k (w+1) (ZeO l e++r))
theorem Zzn (e:Ex):ZeO 0 e=exK e:=by rw [ZeO,Zjb,Tf (by simp)]
theorem ExR.full {e:Ex} (h:ExR e) (d:Nat) {r:Ts} (hr:Nx r):Rd erE e r (VB d (exK e++r)):=by
 have:=h.ln d 6 0 0 r (by omega) (by omega) (by omega) hr.par (by have:=hr.bin;omega)
 rw [Zzn] at this
 exact Zkj this (.inr hr.bin)
theorem ExR.fullB {e:Ex} (h:ExR e) {d:Nat} (hd:d≠0) {r:Ts} (hr:Nx r):Rd erE e r (Zcn d (exK e++r)):=by
 obtain ⟨d,rfl⟩:∃k,d=k+1:=⟨d - 1,by omega⟩
 exact h.full d hr
theorem ZbY {d:Nat} {ex:Ts→R Ex} {l:List Ex} {r:Ts} {fr tw:Bs} (hto:tw∈[[41],[93]]) (hm:∀x∈l,Z7 x=true) (h:d≠0→∀x∈l,∀t,Nx t→Rd erE x t (ex (exK x++t))) :
  Rd (List.map erE) l r (Zdm d ex fr tw (brK fr tw (l.map exK)++r)):=by
 have hk:∀tw∈[[41],[93]],tw≠[]∧tw∈nxW∧tw∈ZlG∧tw≠[44]:=by decide
 obtain ⟨k1,k2,k3,k4⟩:=hk tw hto
 unfold Zdm
 have e:brK fr tw (l.map exK)++r=sgT fr::(Ya [44] (l.map exK)++(sgT tw::r)):=by simp [brK]
 rw [e]
 refine Wy k1 fun hd=>?_
 cases l with
 | nil =>
  simp only [TG,Ya,To]
  rw [Th (W2 _ _)]
  exact Rd.ok rfl
 | cons x xs =>
  have hx:isW (Ya [44] ((x::xs).map exK)++(sgT tw::r)) [tw]=false:=by
   simp only [Tz,Ya,Tg]
   exact ZfX (hm x (by simp)) k3 _
  rw [Tf (by rw [hx];simp)]
  exact UC Nx (fun t=>Zai (by decide) t) (Zai k2 r) (Zu r (by simpa [sgT] using k4)) (by simp) fun y hy t ht=>h hd y hy t ht
theorem ZeS {s:Bs} (h:YF s=true) {w:Bs} (hw:YF w=false) (r:Ts):isW (nmT s::r) [w]=false:=Zu r fun e=>by
 have e:s=w:=e
 rw [e,hw] at h;cases h
theorem ZeT {s:Bs} (h:YF s=true):s≠[95]∧Zed s=false:=by
 simp only [YF,Tk,TZ,decide_eq_false_iff_not] at h
 exact h.2
theorem nm_named {s:Bs} (h:YF s=true) (r:Ts):ZR (nmT s::r)=true:=by
 obtain ⟨h1,h2⟩:=ZeT h
 simp [ZR,hd,nmT,h1,h2]
theorem YB {s:Bs} (h:YF s=true) (r:Ts):Wj (nmT s::r)=.ok s r:=by
 rw [Wj,Th (nm_named h r)];rfl
theorem Zr1 {s:Bs} (h:YF s=true):Yk s=0:=by
 have:=(ZeT h).2
 simp only [Zed,Si,decide_eq_false_iff_not,Decidable.not_not] at this
 exact this.2
theorem ZcC:∀w∈[[45],[126],[40],[91],[36],[110,105,108]],YF w=false:=by decide +kernel
theorem Y2 {d:Nat} {ts:Ts} (h1:isW ts [[45]]=false) (h2:isW ts [[126]]=false):YN d ts=UW d (Vm (sgB d) 6 1) ts:=by
 rw [ZeR,JI,Tf (by rw [h1];simp),Tf (by rw [h2];simp)]
theorem ZlH {d:Nat} (hd:d≠0):Vm (sgB d) 6 1=VB (d - 1):=by
 obtain ⟨d,rfl⟩:∃k,d=k+1:=⟨d - 1,by omega⟩
 rfl
theorem W7 (op:Nat) (t:Bs) (n:Int) (l:List Ex) (a:Nat):erE (.mk op t n l a)=.mk op t n (l.map erE) 0:=by rw [erE,U3]
theorem Wg (d:Nat) (ex:Ts→R Ex) (t:T0) (r:Ts):UW d ex (t::r) =
  if Z1 [t]=false then .err (t::r).length 150
  else if t.kind=2 then .ok (.mk 3 [] t.n [] (t::r).length) r
  else if t.kind=3 then .ok (.mk 4 t.text 0 [] (t::r).length) r
  else if t.text=[40] then Zq d [40] [41] ex (t::r)
  else if t.text=[91] then (Zdm d ex [91] [93] (t::r)).bind fun l ts'=>.ok (.mk 6 [] 0 l (t::r).length) ts'
  else if t.text=[36] then (Wj r).bind fun nm ts'=>if isW ts' [[40]]=true then (Zdm d ex [40] [41] ts').bind fun l ts'=>.ok (.mk 7 nm 0 l (t::r).length) ts' else .ok (.mk 7 nm 0 [] (t::r).length) ts'
  else if Yk t.text≠0 then (Zq d [40] [41] (Vl ex (ZbA (Yk t.text)) []) r).bind fun l ts'=>.ok (.mk (Yk t.text) [] 0 l (t::r).length) ts'
  else if t.text=[110,105,108] then .ok (.mk 5 [] 0 [] (t::r).length) r
  else if t.text=[95] then .ok (.mk 2 [] 0 [] (t::r).length) r
  else .ok (.mk 1 t.text 0 [] (t::r).length) r:=rfl
theorem Znd {e:Ex} {d:Nat} {r:Ts} (h:∀d r,Nx r→Rd erE e r (VB d (exK e++r))):Rd erE e r (YN d (sgT [40]::(exK e++(sgT [41]::r)))):=by
 rw [Y2 (Zu _ (by decide)) (Zu _ (by decide)),Wg,Tf (by decide),Tf (by decide),Tf (by decide),Th (show (sgT [40]).text=[40] from rfl)]
 refine Wy (by decide) fun hd=>?_
 rw [ZlH hd]
 exact h _ _ (Zai (by decide) r)
theorem Zkk:∀(n:Nat) (e:Ex),SizeOf.sizeOf e<n→Z7 e=true→ExR e
 | 0,e,h,_=>by omega
 | k+1,.mk op t n l a,h,hm=>by
  obtain ⟨m1,m2,m3,m4,m5⟩:=ZgS hm
  obtain ⟨f1,f2,f3,f4,f5⟩:=ZdC m1
  have ih:∀x∈l,ExR x:=fun x hx=>Zkk k x (ZrY h hx) (m5 x hx)
  have fin:∀(hs:∀d r,isW r [[40]]=false→Rd erE (.mk op t n l a) r (YN d (ZeO 5 (.mk op t n l a)++r))),5≤Zm op→ExR (.mk op t n l a):=fun hs hl=>⟨hs,fun d q w z r hw hz hq hp hb=>by
   obtain ⟨q,rfl⟩:∃k,q=k+1:=⟨q - 1,by omega⟩
   have e:ZeO z (.mk op t n l a)=ZeO 5 (.mk op t n l a):=by
    rw [ZeO,ZeO,Zjb,Zjb,Tf (by simp only [opE];omega),Tf (by simp only [opE];omega)]
   rw [e]
   exact Zzm (hs d r hp)⟩
  have e5:5≤Zm op→ZeO 5 (.mk op t n l a)=exK (.mk op t n l a):=fun h=>by
   rw [ZeO,Zjb,Tf (by simp only [opE];omega)]
  by_cases c1:Zm op<5
  ·obtain ⟨g1,g2,g3,g4,g5,g6,g7⟩:=f1 c1
   obtain ⟨x,y,rfl⟩:=ZaD (l:=l) (by omega)
   obtain rfl:=U7 m4 g4 g5 g6
   obtain rfl:n=0:=m3.resolve_right g7
   have rx:=ih x (by simp)
   have ry:=ih y (by simp)
   have bare:∀d q w r,w≤Zm op→6≤q+w→isW r [[40]]=false→(Zaf r).1<Zm op+2→Ln (.mk op [] 0 [x,y] a) r (Vm (YN d) (q - 1)) (w+1) (Vm (YN d) q (w+1) (exK (.mk op [] 0 [x,y] a)++r)):=fun d q w r hw hq hp hb=>by
    rw [Zkh c1,Tg]
    have hx:=rx.ln d q w (Zm op) (opT op::(ZeO (Zm op+1) y++r)) hw (by omega) hq g3 (by show (Zaf [opT op]).1<_;rw [g2];simp)
    rw [Tm]
    rcases hx with ⟨f,x',q1,q2,q3⟩ | hx
    ·rw [q3]
     obtain ⟨f,rfl⟩:∃k,f=k+1:=⟨f - 1,by omega⟩
     have hbin:Zaf (opT op::(ZeO (Zm op+1) y++r))=(Zm op+1,op):=g2
     rw [JH,hbin,Tf (by simp only;omega)]
     have hy:=ry.ln d (q - 1) (Zm op+1) (Zm op+1) r (by omega) (by omega) (by omega) hp (by omega)
     have hy':=Zkj hy (.inl (by omega))
     rcases hy' with ⟨y',s1,s2⟩ | hy'
     ·rw [show (opT op::(ZeO (Zm op+1) y++r)).tail=ZeO (Zm op+1) y++r from rfl]
      simp only
      rw [show Zm op+1+1=Zm op+2 from rfl] at s2 ⊢
      rw [s2,R.bind_ok]
      refine .inl ⟨f,_,?_,?_,rfl⟩
      ·simp only [Tc,Ta] at q1;omega
      ·rw [W7,W7];simp [q2,s1]
     ·exact .inr hy'.bind
    ·exact .inr hx
   have full:∀d r,Nx r→Rd erE (.mk op [] 0 [x,y] a) r (VB d (exK (.mk op [] 0 [x,y] a)++r)):=fun d r hr =>
    Zkj (bare d 6 0 r (by omega) (by omega) hr.par (by have:=hr.bin;omega)) (.inr hr.bin)
   have hs:∀z,Zm op<z→∀d r,Rd erE (.mk op [] 0 [x,y] a) r (YN d (ZeO z (.mk op [] 0 [x,y] a)++r)):=fun z hz d r=>by
    rw [ZeO,Zjb,Th (by simp only [opE];exact hz)]
    simp only [Tm,Tg,To]
    exact Znd full
   refine ⟨fun d r _=>hs 5 c1 d r,fun d q w z r hw hz hq hp hb=>?_⟩
   by_cases c:Zm op<z
   ·obtain ⟨q,rfl⟩:∃k,q=k+1:=⟨q - 1,by omega⟩
    exact Zzm (hs z c d r)
   ·have e:ZeO z (.mk op [] 0 [x,y] a)=exK (.mk op [] 0 [x,y] a):=by rw [ZeO,Zjb,Tf (by simp only [opE];exact c)]
    rw [e]
    exact bare d q w r (by omega) hq hp (by omega)
  by_cases c2:Zm op=5
  ·obtain ⟨g1,g2⟩:=f2 c2
   obtain ⟨x,rfl⟩:=ZeP (l:=l) (by omega)
   obtain rfl:=U7 m4 (by omega) (by omega) (by omega)
   obtain rfl:n=0:=m3.resolve_right (by omega)
   have rx:=ih x (by simp)
   refine fin (fun d r hp=>?_) (by omega)
   rw [e5 (by omega),ZpJ c2,Tm,ZeR,JI]
   have hx:∀w,Rd erE x r (Zq d w [] (sgB d) (sgT w::(ZeO 5 x++r))):=fun w=>ZiD fun hd=>by
    obtain ⟨d,rfl⟩:∃k,d=k+1:=⟨d - 1,by omega⟩
    exact rx.sg d r hp
   rcases g2 with rfl | rfl
   ·rw [show ZM 8=[45] from rfl,Th (W2 _ _)]
    refine (hx _).bind fun x' e=>Rd.ok ?_
    rw [W7,W7];simp [e]
   ·rw [show ZM 9=[126] from rfl,Tf (by rw [Zu _ (by decide)];simp),Th (W2 _ _)]
    refine (hx _).bind fun x' e=>Rd.ok ?_
    rw [W7,W7];simp [e]
  have c3:Zm op=6:=by omega
  refine fin (fun d r hp=>?_) (by omega)
  rw [e5 (by omega)]
  have full:d≠0→∀x∈l,∀t,Nx t→Rd erE x t (Vm (sgB d) 6 1 (exK x++t)):=fun hd x hx t ht=>by
   rw [ZlH hd];exact (ih x hx).full _ ht
  by_cases c4:ZM op≠[]
  ·obtain ⟨g1,g2,g3,g4,g5,g6,g7,g8⟩:=f4 c3 c4
   obtain rfl:=U7 m4 g5 g6 g7
   obtain rfl:n=0:=m3.resolve_right g8
   have hln:l.length=ZbA op:=by
    have:1≤ZbA op:=by unfold ZbA;split <;> (try split) <;> omega
    omega
   have hne:l≠[]:=fun e=>by
    have:1≤ZbA op:=by unfold ZbA;split <;> (try split) <;> omega
    rw [e] at hln;simp at hln;omega
   rw [Zki c3 c4,Tm]
   have hw:∀w,YF w=false∨True:=fun _=>.inr trivial
   have hfun:∀o:Fin 26,-2<Yq o.val→Zm o.val=6→ZM o.val≠[]→isW [nmT (ZM o.val)] [[45]]=false∧isW [nmT (ZM o.val)] [[126]]=false∧Z1 [nmT (ZM o.val)]=true∧ZM o.val≠[40]∧ZM o.val≠[91]∧ZM o.val≠[36]:=by decide +kernel
   obtain ⟨q1,q2,q3,q4,q5,q6⟩:=hfun ⟨op,ZrX m1⟩ m1 c3 c4
   simp only at q1 q2 q3 q4 q5 q6
   rw [Y2 (ts:=nmT (ZM op)::(brK [40] [41] (l.map exK)++r)) q1 q2,Wg,Tf (by rw [q3];simp),Tf (show ¬(nmT (ZM op)).kind=2 by simp [nmT]),Tf (show ¬(nmT (ZM op)).kind=3 by simp [nmT]),Tf (show ¬(nmT (ZM op)).text=_ from q4),Tf (show ¬(nmT (ZM op)).text=_ from q5),Tf (show ¬(nmT (ZM op)).text=_ from q6)]
   have ef:Yk (nmT (ZM op)).text=op:=g1
   rw [ef,Th g3,← hln]
   have e:(brK [40] [41] (l.map exK)++r)=sgT [40]::(Ya [44] (l.map exK)++(sgT [41]::r)):=by simp [brK]
   rw [e]
   refine Rd.bind (er:=List.map erE) (v:=l) (r:=r) (Wy (by decide) fun hd=>?_) fun l' e=>Rd.ok ?_
   ·exact Znc (Zai (by decide) r) hne (full hd)
   ·rw [W7,W7,e]
  rcases f5 c3 (by simpa using c4) with rfl | rfl | rfl | rfl | rfl | rfl | rfl
  ·have hn:=ZbX m4 (.inl rfl)
   obtain rfl:n=0:=m3.resolve_right (by decide)
   obtain rfl:l=[]:=TA (by have:Yq 1=0:=(by decide);omega)
   have hk:=ZeT hn
   rw [Zwp,Tm,To,Y2 (ZeS hn (ZcC _ (by decide)) r) (ZeS hn (ZcC _ (by decide)) r),Wg]
   have hne:∀w,YF w=false→¬(nmT t).text=w:=fun w hw e=>by rw [show t=w from e,hw] at hn;cases hn
   have hst:Z1 [nmT t]=true:=by simp [Z1,hd,nmT,hk.2]
   rw [Tf (by rw [hst];simp),Tf (show ¬(nmT t).kind=2 by simp [nmT]),Tf (show ¬(nmT t).kind=3 by simp [nmT]),Tf (hne _ (ZcC _ (by decide))),Tf (hne _ (ZcC _ (by decide))),Tf (hne _ (ZcC _ (by decide))),Tf (by rw [show (nmT t).text=t from rfl,Zr1 hn];simp),Tf (hne _ (ZcC _ (by decide))),Tf (show ¬(nmT t).text=_ from hk.1)]
   exact Rd.ok (by rw [W7,W7];rfl)
  ·obtain rfl:=U7 m4 (by decide) (by decide) (by decide)
   obtain rfl:n=0:=m3.resolve_right (by decide)
   obtain rfl:l=[]:=TA (by have:Yq 2=0:=(by decide);omega)
   rw [Zwo,Tm,To,Y2 (Zu _ (by decide)) (Zu _ (by decide)),Wg,Tf (by decide),Tf (by decide),Tf (by decide),Tf (by decide),Tf (by decide),Tf (by decide),Tf (by decide),Tf (by decide),Th (show (nmT [95]).text=[95] from rfl)]
   exact Rd.ok (by rw [W7,W7])
  ·obtain rfl:=U7 m4 (by decide) (by decide) (by decide)
   obtain rfl:l=[]:=TA (by have:Yq 3=0:=(by decide);omega)
   rw [Zwl,Tm,To,Y2 (Zaa _ (by simp)) (Zaa _ (by simp)),Wg,Tf (by simp [Z1,hd]),Th rfl]
   exact Rd.ok (by rw [W7,W7])
  ·obtain rfl:n=0:=m3.resolve_right (by decide)
   obtain rfl:l=[]:=TA (by have:Yq 4=0:=(by decide);omega)
   rw [Zwm,Tm,To,Y2 (Zaa _ (by simp)) (Zaa _ (by simp)),Wg,Tf (by simp [Z1,hd]),Tf (by simp),Th rfl]
   exact Rd.ok (by rw [W7,W7])
  ·obtain rfl:=U7 m4 (by decide) (by decide) (by decide)
   obtain rfl:n=0:=m3.resolve_right (by decide)
   obtain rfl:l=[]:=TA (by have:Yq 5=0:=(by decide);omega)
   rw [Zwn,Tm,To,Y2 (Zu _ (by decide)) (Zu _ (by decide)),Wg,Tf (by decide),Tf (by decide),Tf (by decide),Tf (by decide),Tf (by decide),Tf (by decide),Tf (by decide),Th (show (nmT [110,105,108]).text=[110,105,108] from rfl)]
   exact Rd.ok (by rw [W7,W7])
  ·obtain rfl:=U7 m4 (by decide) (by decide) (by decide)
   obtain rfl:n=0:=m3.resolve_right (by decide)
   rw [Zwj]
   have e:brK [91] [93] (l.map exK)++r=sgT [91]::(Ya [44] (l.map exK)++(sgT [93]::r)):=by simp [brK]
   rw [Y2 (by rw [e];exact Zu _ (by decide)) (by rw [e];exact Zu _ (by decide)),e,Wg,Tf (by decide),Tf (by decide),Tf (by decide),Tf (by decide),Th (show (sgT [91]).text=[91] from rfl),← e]
   refine (ZbY (by decide) m5 full).bind fun l' e=>Rd.ok ?_
   rw [W7,W7,e]
  ·have hn:=ZbX m4 (.inr rfl)
   obtain rfl:n=0:=m3.resolve_right (by decide)
   rw [Zwk,Tm,Tm,Y2 (Zu _ (by decide)) (Zu _ (by decide)),Wg,Tf (by decide),Tf (by decide),Tf (by decide),Tf (by decide),Tf (by decide),Th (show (sgT [36]).text=[36] from rfl)]
   rw [YB hn,R.bind_ok]
   by_cases hl:l.length=0
   ·obtain rfl:l=[]:=TA hl
    simp only [Td,if_true,To]
    rw [Tf (by rw [hp];simp)]
    exact Rd.ok (by rw [W7,W7])
   ·rw [Tf hl,Th (by simp only [brK,Tm];exact W2 _ _)]
    refine (ZbY (by decide) m5 full).bind fun l' e=>Rd.ok ?_
    rw [W7,W7,e]
theorem ZeU {e:Ex} (he:Z7 e=true) (d:Nat) {r:Ts} (hr:Nx r):Rd erE e r (VB d (exK e++r)):=(Zkk _ e (Sf _) he).full d hr
theorem ZlI {e:Ex} (he:Z7 e=true) {d:Nat} (hd:d≠0) {r:Ts} (hr:Nx r):Rd erE e r (Zcn d (exK e++r)):=(Zkk _ e (Sf _) he).fullB hd hr
def Zr2 (op:Nat):Bs:=if op=3 then [61] else if op=4 then [33,61] else if op=5 then [60] else if op=6 then [60,61] else if op=7 then [62] else [62,61]
def ZqL:List Ex→Ts
 | []=>[]
 | e::_=>exK e
mutual
def liK:Li→Ts
 | .mk op rel args body _ =>
  if op=2 then sgT [33]::nmT rel::brK [40] [41] (args.map exK)
  else if op=1 then nmT rel::brK [40] [41] (args.map exK)
  else if op≤8 then ZqL args++(sgT (Zr2 op)::ZqL args.tail)
  else ZqL args++(sgT [61]::nmT (JO op)::((args.tail.map exK).flatten++(sgT [58]::sgT [123]::(Ya [44] (Zwr body)++[sgT [125]]))))
def Zwr:List Li→List Ts
 | []=>[]
 | e::l=>liK e::Zwr l
end
theorem ZpN (l:List Li):Zwr l=l.map liK:=by induction l with | nil=>rfl | cons x l ih=>simp [Zwr,ih]
theorem Zzo (op:Nat) (rel:Bs) (args:List Ex) (body:List Li) (a:Nat):liK (.mk op rel args body a) =
  if op=2 then sgT [33]::nmT rel::brK [40] [41] (args.map exK)
  else if op=1 then nmT rel::brK [40] [41] (args.map exK)
  else if op≤8 then ZqL args++(sgT (Zr2 op)::ZqL args.tail)
  else ZqL args++(sgT [61]::nmT (JO op)::((args.tail.map exK).flatten++(sgT [58]::sgT [123]::(Ya [44] (body.map liK)++[sgT [125]])))):=by rw [liK,ZpN]
theorem Zde (op:Nat) (rel:Bs) (args:List Ex) (body:List Li) (a:Nat):erL (.mk op rel args body a)=.mk op rel (args.map erE) (body.map erL) 0:=by rw [erL,U3,ZgF]
theorem Zkl {op:Nat} {rel:Bs} {args:List Ex} {body:List Li} {a:Nat} (h:Xj (.mk op rel args body a)=true):XM op rel args.length body.length=true∧(∀x∈args,Z7 x=true)∧∀x∈body,Xj x=true:=by
 simp only [Xj,Zz,VT,Tk] at h
 exact ⟨h.1,Tl.1 h.2.1,Tl.1 h.2.2⟩
theorem Zkm {op:Nat} {rel:Bs} {na nb:Nat} (h:XM op rel na nb=true):((op=1∨op=2)∧YF rel=true∧nb=0)∨(3≤op∧op≤8∧rel=[]∧na=2∧nb=0)∨(op=9∧rel=[]∧na=1∧0<nb)∨(9<op∧op≤12∧rel=[]∧na=2∧0<nb):=by
 unfold XM at h
 split at h
 ·rename_i c
  simp only [Tk,TZ,decide_eq_false_iff_not] at h
  exact .inl ⟨c,h.1,by omega⟩
 ·split at h
  ·rename_i c
   simp only [Tk,TZ,decide_eq_false_iff_not,TT] at h
   exact .inr (.inl ⟨c.1,c.2,h.1,h.2.1,by omega⟩)
  ·split at h
   ·rename_i c
    simp only [Tk,TT] at h
    exact .inr (.inr (.inl ⟨c,h.1,h.2.1,h.2.2⟩))
   ·split at h
    ·rename_i c
     simp only [Tk,TT] at h
     exact .inr (.inr (.inr ⟨c.1,c.2,h.1,h.2.1,h.2.2⟩))
    ·cases h
theorem Zs4 {op:Nat} {t:Bs} {l:List Ex} {b:List Li} {a:Nat} {k:Nat} (h:SizeOf.sizeOf (Li.mk op t l b a)<k+1) {x:Li} (hx:x∈b):SizeOf.sizeOf x<k:=by
 have:=List.sizeOf_lt_of_mem hx
 simp only [Li.mk.sizeOf_spec] at h
 omega
theorem ZiH {d op a:Nat} {rel:Bs} {args:List Ex} {r:Ts} (hn:YF rel=true) (hm:∀x∈args,Z7 x=true) (a0:Nat):Rd erL (.mk op rel args [] a0) r (ZaW d op a (nmT rel::brK [40] [41] (args.map exK)++r)):=by
 rw [ZaW,Tm,YB hn,R.bind_ok]
 refine (ZbY (by decide) hm fun hd x hx t ht=>ZlI (hm x hx) hd ht).bind fun l' e=>Rd.ok ?_
 rw [Zde,Zde,e]
theorem Zws {op:Nat} (h:3≤op∧op≤8) (r:Ts):Zav (sgT (Zr2 op)::r) 0 Z5=some (op - 3)∧Nx (sgT (Zr2 op)::r):=by
 obtain ⟨h1,h2⟩:=h
 obtain rfl | rfl | rfl | rfl | rfl | rfl:op=3∨op=4∨op=5∨op=6∨op=7∨op=8:=by omega
 all_goals exact ⟨rfl,Zai (by decide) r⟩
theorem ZpO {op:Nat} (h:9≤op∧op≤12) (r:Ts):Zav (nmT (JO op)::r) 0 YD=some (op - 9):=by
 obtain ⟨h1,h2⟩:=h
 obtain rfl | rfl | rfl | rfl:op=9∨op=10∨op=11∨op=12:=by omega
 all_goals rfl
theorem Zr3 {e:Ex} (he:Z7 e=true) (r:Ts):Zav (exK e++r) 0 YD=none:=by
 simp only [YD,Zav]
 rw [Tf (by rw [ZfX he (by decide)];simp),Tf (by rw [ZfX he (by decide)];simp),Tf (by rw [ZfX he (by decide)];simp),Tf (by rw [ZfX he (by decide)];simp)]
theorem Zne (d:Nat):Zh0 d=Ww [44] 32 Yu (Ze8 d (UX d)):=by cases d <;> rfl
theorem ZeV {d:Nat} {l:List Li} {r:Ts} (hl:l≠[]) (hr:Nx r) (hw:isW r [[44]]=false) (h:∀x∈l,∀t,Nx t→Rd erL x t (Ze8 d (UX d) (liK x++t))):Rd (List.map erL) l r (Zh0 d (Ya [44] (l.map liK)++r)):=by
 rw [Zne]
 exact UC Nx (fun t=>Zai (by decide) t) hr hw hl h
theorem ZpP:∀(n:Nat) (x:Li),SizeOf.sizeOf x<n→Xj x=true→∀d r,Nx r→Rd erL x r (Ze8 d (UX d) (liK x++r))
 | 0,x,h,_=>by omega
 | k+1,.mk op rel args body a,h,hm=>fun d r hr=>by
  obtain ⟨m1,m2,m3⟩:=Zkl hm
  have ih:∀x∈body,∀d r,Nx r→Rd erL x r (Ze8 d (UX d) (liK x++r)):=fun x hx=>ZpP k x (Zs4 h hx) (m3 x hx)
  rw [Zzo]
  have hrel:∀(x:Ex) (ts:Ts),Z7 x=true→Nx ts→Ze8 d (UX d) (exK x++ts)=ZcZ d (UX d) (exK x++ts):=fun x ts hx hts=>by
   rw [Ze8,Tf (by rw [ZfX hx (by decide)];simp),Tf (show ¬(ZR (exK x++ts)=true∧(hd (exK x++ts).tail).kind=4∧(hd (exK x++ts).tail).text=[40]) from ZpM _ x (Sf _) hx _ hts.par)]
  rcases Zkm m1 with ⟨c,hn,hb⟩ | ⟨c1,c2,rfl,ha,hb⟩ | ⟨rfl,rfl,ha,hb⟩ | ⟨c1,c2,rfl,ha,hb⟩
  ·obtain rfl:body=[]:=TA hb
   rcases c with rfl | rfl
   ·rw [Tf (by decide),Th rfl,Ze8]
    rw [Tf (by rw [Tm,ZeS hn (by decide +kernel)];simp),Th ⟨nm_named hn _,rfl,rfl⟩]
    exact ZiH hn m2 a
   ·rw [Th rfl,Ze8,Tm,Th (W2 _ _),TJ]
    exact ZiH hn m2 a
  ·obtain ⟨x,y,rfl⟩:=ZaD ha
   obtain rfl:body=[]:=TA hb
   have hx:=m2 x (by simp)
   have hy:=m2 y (by simp)
   rw [Tf (by omega),Tf (by omega),Th c2]
   simp only [ZqL,TJ,Tg,Tm]
   obtain ⟨r1,r2⟩:=Zws ⟨c1,c2⟩ (exK y++r)
   rw [hrel x _ hx r2,ZcZ]
   refine (ZeU hx d r2).bind fun x' ex=>?_
   have hop:JJ (sgT (Zr2 op)::(exK y++r))=.ok op (exK y++r):=by
    unfold JJ
    rw [r1]
    by_cases c:op=3
    ·subst c
     simp only [Nat.sub_self,TJ,Zr3 hy]
    ·obtain ⟨q,hq⟩:∃q,op - 3=q+1:=⟨op - 4,by omega⟩
     rw [hq]
     simp only [TJ]
     rw [show 3+(q+1)=op by omega]
   rw [hop,R.bind_ok,Tf (by omega)]
   refine (ZeU hy d hr).bind fun y' ey=>?_
   rw [Wo,Tf (by omega)]
   refine Rd.ok ?_
   rw [Zde,Zde];simp [ex,ey]
  ·obtain ⟨x,rfl⟩:=ZeP ha
   have hx:=m2 x (by simp)
   rw [Tf (by omega),Tf (by omega),Tf (by omega)]
   simp only [ZqL,TJ,TG,Sl,To,Tg,Tm]
   rw [hrel x _ hx (Zai (by decide) _),ZcZ]
   refine (ZeU hx d (Zai (by decide) _)).bind fun x' ex=>?_
   have hop:∀ts,JJ (sgT [61]::nmT (JO 9)::ts)=.ok 9 ts:=fun ts=>by
    unfold JJ
    rw [show Zav (sgT [61]::nmT (JO 9)::ts) 0 Z5=some 0 from rfl]
    simp only [TJ]
    rw [ZpO (by decide)]
   rw [hop,R.bind_ok,Th rfl,Wo,Th (by decide),XI,R.bind_ok]
   have hbr:Rd (List.map erL) body r (Zq d [123] [125] (UX d) (sgT [123]::(Ya [44] (body.map liK)++(sgT [125]::r)))):=Wy (by decide) fun hd=>by
    exact m122
   refine hbr.bind fun b' eb=>Rd.ok ?_
   rw [Zde,Zde,eb];simp [ex]
  ·obtain ⟨x,y,rfl⟩:=ZaD ha
   have hx:=m2 x (by simp)
   have hy:=m2 y (by simp)
   rw [Tf (by omega),Tf (by omega),Tf (by omega)]
   simp only [ZqL,TJ,Tz,TG,Sg,Sl,To,TC,Tg,Tm]
   rw [hrel x _ hx (Zai (by decide) _),ZcZ]
   refine (ZeU hx d (Zai (by decide) _)).bind fun x' ex=>?_
   have hop:∀ts,JJ (sgT [61]::nmT (JO op)::ts)=.ok op ts:=fun ts=>by
    unfold JJ
    rw [show Zav (sgT [61]::nmT (JO op)::ts) 0 Z5=some 0 from rfl]
    simp only [TJ]
    rw [ZpO (by omega)]
    simp only
    rw [show 9+(op - 9)=op by omega]
   rw [hop,R.bind_ok,Tf (by omega)]
   refine (ZeU hy d (Zai (by decide) _)).bind fun y' ey=>?_
   rw [Wo,Th (by omega),XI,R.bind_ok]
   have hbr:Rd (List.map erL) body r (Zq d [123] [125] (UX d) (sgT [123]::(Ya [44] (body.map liK)++(sgT [125]::r)))):=Wy (by decide) fun hd=>by
    exact m122
   refine hbr.bind fun b' eb=>Rd.ok ?_
   rw [Zde,Zde,eb];simp [ex,ey]
theorem Zr4 {x:Li} (h:Xj x=true) {d:Nat} {r:Ts} (hr:Nx r):Rd erL x r (Ze8 d (UX d) (liK x++r)):=ZpP _ x (Sf _) h d r hr
end Go.PM.Lex
end
