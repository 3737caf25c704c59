/- A part of the proof: plain logic, contracts and laws over the given program. -/
import Derived.Test.YtflgockgjnddnaaGreatDoorU08
set_option linter.unusedVariables false
set_option linter.unusedSimpArgs false
set_option linter.all false
section
set_option maxRecDepth 100000
set_option maxHeartbeats 8000000
namespace Go.PM.Lex
open Go.Proofs
variable {w0:World} {nG:Nat}
theorem we_ok {n:Nat} (ht:TblOK (GG w0 nG) (tblWE n)):PCalls (GG w0 nG) 30 (spWE n):=by
 refine pcallsDl tab_ok mixed (tbl:=tblWE n) ht Tryz.func30 rfl (by kernel_rfl) (by kernel_rfl) dadd ?_
 intro args σ K h
 unfold spWE wrSp at h
 split at h
 ·rename_i rest t p e rows
  obtain ⟨l,txt,rfl,⟨hp,rfl,rfl⟩,⟨pl,⟨op,tx,nn,xs,at'⟩,want,rfl,⟨hmay,hz,hn,hw0,hw6⟩,rfl⟩,hlen,h⟩:=h
  obtain ⟨m1,m2,m3,m4,m5⟩:=ablE_mk hmay
  obtain ⟨k1,k2,k3,k5⟩:=op_kind m1
  have hzx:szS wE xs+tx.length+1≤n:=by rw [wE,wEs_eq] at hz;omega
  rw [List.all_eq_true] at m5
  refine ⟨loopsOf [],unrOf [],tieOf [],1,true,by simp,Nat.le_of_ble_eq_true rfl,?_⟩
  rcases hp with rfl | rfl
  all_goals
   conv=>whnf
   refine ⟨op,rfl,fun l1 w1 a1 e1 e2 e3=>?_⟩
   subst e1
   conv=>whnf
   refine CondP.dec (fun hlt=>?_) (fun hlt=>?_)
   ·have hW:exW want.toNat (.mk op tx nn xs at')=[40]++(exT (.mk op tx nn xs at')++[41]):=by rw [exW,parP,if_pos (by show lineF op<_;omega)]
    rw [hW] at h hlen
    have hlen0:l.length+1<70368744177664:=by simp only [List.length_append,List.length_cons,List.length_nil] at hlen;omega
    conv=>whnf
    refine ⟨l,[40],rfl,⟨(by first | exact .inl rfl | exact .inr rfl),rfl,rfl⟩,⟨[[40]],rfl,by simp,by simp,by simp⟩,by simp only [List.length_cons,List.length_nil];omega,?_⟩
    conv=>whnf
    refine CondP.dec (fun c1=>?_) (fun c1=>?_)
    ·have c1:lineF op<5:=by omega
     have hl2:xs.length=2:=by have:=k1 c1;omega
     obtain ⟨x0,x1,rfl⟩:∃x0 x1,xs=[x0,x1]:=by match xs,hl2 with | [a,b],_=>exact ⟨a,b,rfl⟩
     simp only [szS] at hzx
     have g0:=m5 x0 (by simp)
     have g1:=m5 x1 (by simp)
     have z0:wE x0≤n - 1:=by omega
     have z1:wE x1≤n - 1:=by omega
     obtain ⟨o0,t0,n0,y0,q0⟩:=x0
     obtain ⟨o1,t1,n1,y1,q1⟩:=x1
     have hx:exT (.mk op tx nn [(.mk o0 t0 n0 y0 q0),(.mk o1 t1 n1 y1 q1)] at')=exW (lineF op) (.mk o0 t0 n0 y0 q0)++(([32]++(w1++[32]))++exW (lineF op+1) (.mk o1 t1 n1 y1 q1)):=by rw [exT,exN,if_pos c1,e2];rfl
     rw [hx] at h hlen
     (try simp only [List.length_append,List.length_cons,List.length_nil] at hlen)
     conv=>whnf
     refine ⟨_,by decide,rfl,?_⟩
     conv=>whnf
     refine ⟨by omega,(l++[40]),exW (lineF op) (.mk o0 t0 n0 y0 q0),rfl,⟨(by first | exact .inl rfl | exact .inr rfl),rfl,rfl⟩,⟨pl,(.mk o0 t0 n0 y0 q0),(lineF op:Int),rfl,⟨g0,by omega,by omega,by omega,by omega⟩,rfl⟩,by (try simp only [List.length_append,List.length_cons,List.length_nil]);omega,?_⟩
     conv=>whnf
     refine ⟨(l++[40])++exW (lineF op) (.mk o0 t0 n0 y0 q0),[32]++(w1++[32]),rfl,⟨(by first | exact .inl rfl | exact .inr rfl),rfl,rfl⟩,⟨[[32],w1,[32]],rfl,by simp,by simp,by simp⟩,by (try simp only [List.length_append,List.length_cons,List.length_nil]);omega,?_⟩
     conv=>whnf
     refine ⟨_,by decide,rfl,?_⟩
     conv=>whnf
     refine Or.inl ⟨InR.i64 (by omega) (by omega),?_⟩
     conv=>whnf
     refine ⟨by omega,(l++[40])++exW (lineF op) (.mk o0 t0 n0 y0 q0)++([32]++(w1++[32])),exW (lineF op+1) (.mk o1 t1 n1 y1 q1),rfl,⟨(by first | exact .inl rfl | exact .inr rfl),rfl,rfl⟩,⟨pl,(.mk o1 t1 n1 y1 q1),((lineF op:Int)+1),rfl,⟨g1,by omega,by omega,by omega,by omega⟩,rfl⟩,by (try simp only [List.length_append,List.length_cons,List.length_nil]);omega,?_⟩
     conv=>whnf
     refine ⟨Nat.le_of_ble_eq_true rfl,?_⟩
     conv=>whnf
     refine ⟨_,by decide,rfl,?_⟩
     conv=>whnf
     refine ⟨(l++[40])++exW (lineF op) (.mk o0 t0 n0 y0 q0)++([32]++(w1++[32]))++exW (lineF op+1) (.mk o1 t1 n1 y1 q1),[41],rfl,⟨.inr rfl,rfl,rfl⟩,⟨rfl,rfl⟩,by (try simp only [List.length_append,List.length_cons,List.length_nil]);omega,?_⟩
     conv=>whnf
     refine Or.inl ⟨InR.i64 (by omega) (by omega),?_⟩
     rw [show l++([40]++(exW (lineF op) (.mk o0 t0 n0 y0 q0)++(([32]++(w1++[32]))++exW (lineF op+1) (.mk o1 t1 n1 y1 q1))++[41]))=(l++[40])++exW (lineF op) (.mk o0 t0 n0 y0 q0)++([32]++(w1++[32]))++exW (lineF op+1) (.mk o1 t1 n1 y1 q1)++[41] by first | rfl | simp only [List.append_assoc]] at h
     conv=>whnf
     exact h
    have c1:¬lineF op<5:=by omega
    conv=>whnf
    refine CondP.dec (fun c2=>?_) (fun c2=>?_)
    ·have c2:lineF op=5:=by omega
     have hl2:xs.length=1:=by have:=k2 c2;omega
     obtain ⟨x0,rfl⟩:∃x0,xs=[x0]:=by match xs,hl2 with | [a],_=>exact ⟨a,rfl⟩
     simp only [szS] at hzx
     have g0:=m5 x0 (by simp)
     have z0:wE x0≤n - 1:=by omega
     obtain ⟨o0,t0,n0,y0,q0⟩:=x0
     have hx:exT (.mk op tx nn [(.mk o0 t0 n0 y0 q0)] at')=w1++exW 5 (.mk o0 t0 n0 y0 q0):=by rw [exT,exN,if_neg c1,if_pos c2,e2];rfl
     rw [hx] at h hlen
     (try simp only [List.length_append,List.length_cons,List.length_nil] at hlen)
     conv=>whnf
     refine ⟨(l++[40]),w1,rfl,⟨(by first | exact .inl rfl | exact .inr rfl),rfl,rfl⟩,⟨[w1],rfl,by simp,by simp,by simp⟩,by (try simp only [List.length_append,List.length_cons,List.length_nil]);omega,?_⟩
     conv=>whnf
     refine ⟨_,by decide,rfl,?_⟩
     conv=>whnf
     refine ⟨by omega,(l++[40])++w1,exW 5 (.mk o0 t0 n0 y0 q0),rfl,⟨(by first | exact .inl rfl | exact .inr rfl),rfl,rfl⟩,⟨pl,(.mk o0 t0 n0 y0 q0),5,rfl,⟨g0,by omega,by omega,by omega,by omega⟩,rfl⟩,by (try simp only [List.length_append,List.length_cons,List.length_nil]);omega,?_⟩
     conv=>whnf
     refine ⟨Nat.le_of_ble_eq_true rfl,?_⟩
     conv=>whnf
     refine ⟨_,by decide,rfl,?_⟩
     conv=>whnf
     refine ⟨(l++[40])++w1++exW 5 (.mk o0 t0 n0 y0 q0),[41],rfl,⟨.inr rfl,rfl,rfl⟩,⟨rfl,rfl⟩,by (try simp only [List.length_append,List.length_cons,List.length_nil]);omega,?_⟩
     conv=>whnf
     refine Or.inl ⟨InR.i64 (by omega) (by omega),?_⟩
     rw [show l++([40]++(w1++exW 5 (.mk o0 t0 n0 y0 q0)++[41]))=(l++[40])++w1++exW 5 (.mk o0 t0 n0 y0 q0)++[41] by first | rfl | simp only [List.append_assoc]] at h
     conv=>whnf
     exact h
    have c2:¬lineF op=5:=by omega
    conv=>whnf
    refine CondP.ndec (fun c3=>?_) (fun c3=>?_)
    ·have c3:wordF op≠[]:=by rw [e2];exact c3
     have hx:exT (.mk op tx nn xs at')=w1++argT [40] [41] xs:=by rw [exT,exN,if_neg c1,if_neg c2,if_pos c3,e2,exPs_snd];rfl
     rw [hx] at h hlen
     (try simp only [List.length_append,List.length_cons,List.length_nil] at hlen)
     conv=>whnf
     refine ⟨(l++[40]),w1,rfl,⟨(by first | exact .inl rfl | exact .inr rfl),rfl,rfl⟩,⟨[w1],rfl,by simp,by simp,by simp⟩,by (try simp only [List.length_append,List.length_cons,List.length_nil]);omega,?_⟩
     conv=>whnf
     refine ⟨by omega,(l++[40])++w1,argT [40] [41] xs,rfl,⟨(by first | exact .inl rfl | exact .inr rfl),rfl,rfl⟩,⟨[40],[41],pl,xs,rfl,⟨List.all_eq_true.2 m5,by omega,by omega⟩,rfl⟩,by (try simp only [List.length_append,List.length_cons,List.length_nil]);omega,?_⟩
     conv=>whnf
     refine ⟨Nat.le_of_ble_eq_true rfl,?_⟩
     conv=>whnf
     refine ⟨_,by decide,rfl,?_⟩
     conv=>whnf
     refine ⟨(l++[40])++w1++argT [40] [41] xs,[41],rfl,⟨.inr rfl,rfl,rfl⟩,⟨rfl,rfl⟩,by (try simp only [List.length_append,List.length_cons,List.length_nil]);omega,?_⟩
     conv=>whnf
     refine Or.inl ⟨InR.i64 (by omega) (by omega),?_⟩
     rw [show l++([40]++(w1++argT [40] [41] xs++[41]))=(l++[40])++w1++argT [40] [41] xs++[41] by first | rfl | simp only [List.append_assoc]] at h
     conv=>whnf
     exact h
    have c3:¬wordF op≠[]:=by rw [e2];exact fun g=>g c3
    conv=>whnf
    refine CondP.dec (fun c4=>?_) (fun c4=>?_)
    ·have c4:op=6:=by omega
     have hx:exT (.mk op tx nn xs at')=argT [91] [93] xs:=by rw [exT,exN,if_neg c1,if_neg c2,if_neg c3,if_pos c4,exPs_snd];rfl
     rw [hx] at h hlen
     (try simp only [List.length_append,List.length_cons,List.length_nil] at hlen)
     conv=>whnf
     refine ⟨by omega,(l++[40]),argT [91] [93] xs,rfl,⟨(by first | exact .inl rfl | exact .inr rfl),rfl,rfl⟩,⟨[91],[93],pl,xs,rfl,⟨List.all_eq_true.2 m5,by omega,by omega⟩,rfl⟩,by (try simp only [List.length_append,List.length_cons,List.length_nil]);omega,?_⟩
     conv=>whnf
     refine ⟨Nat.le_of_ble_eq_true rfl,?_⟩
     conv=>whnf
     refine ⟨_,by decide,rfl,?_⟩
     conv=>whnf
     refine ⟨(l++[40])++argT [91] [93] xs,[41],rfl,⟨.inr rfl,rfl,rfl⟩,⟨rfl,rfl⟩,by (try simp only [List.length_append,List.length_cons,List.length_nil]);omega,?_⟩
     conv=>whnf
     refine Or.inl ⟨InR.i64 (by omega) (by omega),?_⟩
     rw [show l++([40]++(argT [91] [93] xs++[41]))=(l++[40])++argT [91] [93] xs++[41] by first | rfl | simp only [List.append_assoc]] at h
     conv=>whnf
     exact h
    have c4:¬op=6:=by omega
    conv=>whnf
    refine CondP.dec (fun c5=>?_) (fun c5=>?_)
    ·have c5:op=7:=by omega
     have hxl:(encEs pl xs).length=xs.length:=by rw [encEs_eq,List.length_map]
     by_cases hx0:xs.length=0
     ·have hx:exT (.mk op tx nn xs at')=[36]++tx:=by rw [exT,exN,if_neg c1,if_neg c2,if_neg c3,if_neg c4,if_pos c5,exPs_len,if_pos hx0,List.append_nil]
      rw [hx] at h hlen
      (try simp only [List.length_append,List.length_cons,List.length_nil] at hlen)
      conv=>whnf
      refine ⟨(l++[40]),[36]++tx,rfl,⟨(by first | exact .inl rfl | exact .inr rfl),rfl,rfl⟩,⟨[[36],tx],rfl,by simp,by simp,by simp⟩,by (try simp only [List.length_append,List.length_cons,List.length_nil]);omega,?_⟩
      conv=>whnf
      refine CondP.dec (fun g=>?_) (fun g=>?_)
      case refine_1=>exact absurd (show ((encEs pl xs).length:Int)>0 from g) (by omega)
      conv=>whnf
      refine ⟨Nat.le_of_ble_eq_true rfl,?_⟩
      conv=>whnf
      refine ⟨_,by decide,rfl,?_⟩
      conv=>whnf
      refine ⟨(l++[40])++([36]++tx),[41],rfl,⟨.inr rfl,rfl,rfl⟩,⟨rfl,rfl⟩,by (try simp only [List.length_append,List.length_cons,List.length_nil]);omega,?_⟩
      conv=>whnf
      refine Or.inl ⟨InR.i64 (by omega) (by omega),?_⟩
      rw [show l++([40]++([36]++tx++[41]))=(l++[40])++([36]++tx)++[41] by first | rfl | simp only [List.append_assoc]] at h
      conv=>whnf
      exact h
     have hx:exT (.mk op tx nn xs at')=([36]++tx)++argT [40] [41] xs:=by rw [exT,exN,if_neg c1,if_neg c2,if_neg c3,if_neg c4,if_pos c5,exPs_len,if_neg hx0,exPs_snd,List.append_assoc];rfl
     rw [hx] at h hlen
     (try simp only [List.length_append,List.length_cons,List.length_nil] at hlen)
     conv=>whnf
     refine ⟨(l++[40]),[36]++tx,rfl,⟨(by first | exact .inl rfl | exact .inr rfl),rfl,rfl⟩,⟨[[36],tx],rfl,by simp,by simp,by simp⟩,by (try simp only [List.length_append,List.length_cons,List.length_nil]);omega,?_⟩
     conv=>whnf
     refine CondP.dec (fun g=>?_) (fun g=>?_)
     case refine_2=>exact absurd (show ((encEs pl xs).length:Int)>0 by omega) g
     conv=>whnf
     refine ⟨by omega,(l++[40])++([36]++tx),argT [40] [41] xs,rfl,⟨(by first | exact .inl rfl | exact .inr rfl),rfl,rfl⟩,⟨[40],[41],pl,xs,rfl,⟨List.all_eq_true.2 m5,by omega,by omega⟩,rfl⟩,by (try simp only [List.length_append,List.length_cons,List.length_nil]);omega,?_⟩
     conv=>whnf
     refine ⟨Nat.le_of_ble_eq_true rfl,?_⟩
     conv=>whnf
     refine ⟨_,by decide,rfl,?_⟩
     conv=>whnf
     refine ⟨(l++[40])++([36]++tx)++argT [40] [41] xs,[41],rfl,⟨.inr rfl,rfl,rfl⟩,⟨rfl,rfl⟩,by (try simp only [List.length_append,List.length_cons,List.length_nil]);omega,?_⟩
     conv=>whnf
     refine Or.inl ⟨InR.i64 (by omega) (by omega),?_⟩
     rw [show l++([40]++(([36]++tx)++argT [40] [41] xs++[41]))=(l++[40])++([36]++tx)++argT [40] [41] xs++[41] by first | rfl | simp only [List.append_assoc]] at h
     conv=>whnf
     exact h
    have c5:¬op=7:=by omega
    conv=>whnf
    refine CondP.dec (fun c6=>?_) (fun c6=>?_)
    ·have c6':op=3:=by omega
     obtain ⟨i0,i1⟩:=m4
     conv=>whnf
     refine CondP.dec (fun gn=>?_) (fun gn=>?_)
     ·obtain ⟨j0,j1,j2⟩:=numT_neg gn i0
      obtain ⟨wn,hwn⟩:∃wn,IntKind.u64.wrap nn=wn:=⟨_,rfl⟩
      rw [hwn] at j0 j1 j2
      conv=>whnf
      refine Or.inr ?_
      rw [hwn]
      have hx:exT (.mk op tx nn xs at')=numT nn:=by rw [exT,exN,if_neg c1,if_neg c2,if_neg c3,if_neg c4,if_neg c5,if_pos c6']
      rw [hx] at h hlen
      (try simp only [List.length_append,List.length_cons,List.length_nil] at hlen)
      conv=>whnf
      refine ⟨⟨rfl,j0,j1⟩,?_⟩
      obtain ⟨T,hT⟩:∃T,baseT 16 wn.toNat=T:=⟨_,rfl⟩
      rw [hT] at j2 ⊢
      rw [j2] at h hlen
      (try simp only [List.length_append,List.length_cons,List.length_nil] at hlen)
      conv=>whnf
      refine ⟨(l++[40]),[48,120]++T,rfl,⟨(by first | exact .inl rfl | exact .inr rfl),rfl,rfl⟩,⟨[[48,120],T],rfl,by simp,by simp,by simp⟩,by (try simp only [List.length_append,List.length_cons,List.length_nil]);omega,?_⟩
      conv=>whnf
      refine ⟨Nat.le_of_ble_eq_true rfl,?_⟩
      conv=>whnf
      refine ⟨_,by decide,rfl,?_⟩
      conv=>whnf
      refine ⟨(l++[40])++([48,120]++T),[41],rfl,⟨.inr rfl,rfl,rfl⟩,⟨rfl,rfl⟩,by (try simp only [List.length_append,List.length_cons,List.length_nil]);omega,?_⟩
      conv=>whnf
      refine Or.inl ⟨InR.i64 (by omega) (by omega),?_⟩
      rw [show l++([40]++(([48,120]++T)++[41]))=(l++[40])++([48,120]++T)++[41] by first | rfl | simp only [List.append_assoc]] at h
      conv=>whnf
      exact h
     conv=>whnf
     refine CondP.dec (fun _=>?_) (fun g=>absurd c6 g)
     have hx:exT (.mk op tx nn xs at')=numT nn:=by rw [exT,exN,if_neg c1,if_neg c2,if_neg c3,if_neg c4,if_neg c5,if_pos c6']
     rw [hx] at h hlen
     (try simp only [List.length_append,List.length_cons,List.length_nil] at hlen)
     conv=>whnf
     refine ⟨⟨rfl,by omega,i1⟩,?_⟩
     conv=>whnf
     refine ⟨(l++[40]),numT nn,rfl,⟨(by first | exact .inl rfl | exact .inr rfl),rfl,rfl⟩,⟨[numT nn],rfl,by simp,by simp,by simp⟩,by (try simp only [List.length_append,List.length_cons,List.length_nil]);omega,?_⟩
     conv=>whnf
     refine ⟨Nat.le_of_ble_eq_true rfl,?_⟩
     conv=>whnf
     refine ⟨_,by decide,rfl,?_⟩
     conv=>whnf
     refine ⟨(l++[40])++numT nn,[41],rfl,⟨.inr rfl,rfl,rfl⟩,⟨rfl,rfl⟩,by (try simp only [List.length_append,List.length_cons,List.length_nil]);omega,?_⟩
     conv=>whnf
     refine Or.inl ⟨InR.i64 (by omega) (by omega),?_⟩
     rw [show l++([40]++(numT nn++[41]))=(l++[40])++numT nn++[41] by first | rfl | simp only [List.append_assoc]] at h
     conv=>whnf
     exact h
    have c6':¬op=3:=by omega
    conv=>whnf
    refine CondP.dec (fun g=>absurd g c6) (fun _=>?_)
    conv=>whnf
    refine CondP.dec (fun c7=>?_) (fun c7=>?_)
    ·have c7':op=4:=by omega
     have hq:(quoteF tx).isSome=true:=by unfold textB at m3;rw [if_neg (by omega),if_pos c7'] at m3;exact m3
     obtain ⟨q,hq⟩:=Option.isSome_iff_exists.1 hq
     have hqT:quoT tx=q:=by rw [quoT,hq];rfl
     have hx:exT (.mk op tx nn xs at')=q:=by rw [exT,exN,if_neg c1,if_neg c2,if_neg c3,if_neg c4,if_neg c5,if_neg c6',if_pos c7',hqT]
     rw [hx] at h hlen
     (try simp only [List.length_append,List.length_cons,List.length_nil] at hlen)
     conv=>whnf
     refine ⟨by omega,?_⟩
     conv=>whnf
     refine ⟨fun g=>?_,fun q' hq'=>?_⟩
     case refine_1=>exact absurd (hq.symm.trans g) (by simp)
     obtain rfl:q=q':=by rw [hq] at hq';exact Option.some.inj hq'
     conv=>whnf
     refine ⟨(l++[40]),q,rfl,⟨(by first | exact .inl rfl | exact .inr rfl),rfl,rfl⟩,⟨[q],rfl,by simp,by simp,by simp⟩,by (try simp only [List.length_append,List.length_cons,List.length_nil]);omega,?_⟩
     conv=>whnf
     refine ⟨Nat.le_of_ble_eq_true rfl,?_⟩
     conv=>whnf
     refine ⟨_,by decide,rfl,?_⟩
     conv=>whnf
     refine ⟨(l++[40])++q,[41],rfl,⟨.inr rfl,rfl,rfl⟩,⟨rfl,rfl⟩,by (try simp only [List.length_append,List.length_cons,List.length_nil]);omega,?_⟩
     conv=>whnf
     refine Or.inl ⟨InR.i64 (by omega) (by omega),?_⟩
     rw [show l++([40]++(q++[41]))=(l++[40])++q++[41] by first | rfl | simp only [List.append_assoc]] at h
     conv=>whnf
     exact h
    have c7':¬op=4:=by omega
    conv=>whnf
    refine CondP.dec (fun c8=>?_) (fun c8=>?_)
    ·have c8':op=5:=by omega
     have hx:exT (.mk op tx nn xs at')=[110,105,108]:=by rw [exT,exN,if_neg c1,if_neg c2,if_neg c3,if_neg c4,if_neg c5,if_neg c6',if_neg c7',if_pos c8']
     rw [hx] at h hlen
     (try simp only [List.length_append,List.length_cons,List.length_nil] at hlen)
     conv=>whnf
     refine ⟨(l++[40]),[110,105,108],rfl,⟨(by first | exact .inl rfl | exact .inr rfl),rfl,rfl⟩,⟨[[110,105,108]],rfl,by simp,by simp,by simp⟩,by (try simp only [List.length_append,List.length_cons,List.length_nil]);omega,?_⟩
     conv=>whnf
     refine ⟨Nat.le_of_ble_eq_true rfl,?_⟩
     conv=>whnf
     refine ⟨_,by decide,rfl,?_⟩
     conv=>whnf
     refine ⟨(l++[40])++[110,105,108],[41],rfl,⟨.inr rfl,rfl,rfl⟩,⟨rfl,rfl⟩,by (try simp only [List.length_append,List.length_cons,List.length_nil]);omega,?_⟩
     conv=>whnf
     refine Or.inl ⟨InR.i64 (by omega) (by omega),?_⟩
     rw [show l++([40]++([110,105,108]++[41]))=(l++[40])++[110,105,108]++[41] by first | rfl | simp only [List.append_assoc]] at h
     conv=>whnf
     exact h
    have c8':¬op=5:=by omega
    conv=>whnf
    refine CondP.dec (fun c9=>?_) (fun c9=>?_)
    ·have c9':op=2:=by omega
     have hx:exT (.mk op tx nn xs at')=[95]:=by rw [exT,exN,if_neg c1,if_neg c2,if_neg c3,if_neg c4,if_neg c5,if_neg c6',if_neg c7',if_neg c8',if_pos c9']
     rw [hx] at h hlen
     (try simp only [List.length_append,List.length_cons,List.length_nil] at hlen)
     conv=>whnf
     refine ⟨(l++[40]),[95],rfl,⟨(by first | exact .inl rfl | exact .inr rfl),rfl,rfl⟩,⟨[[95]],rfl,by simp,by simp,by simp⟩,by (try simp only [List.length_append,List.length_cons,List.length_nil]);omega,?_⟩
     conv=>whnf
     refine ⟨Nat.le_of_ble_eq_true rfl,?_⟩
     conv=>whnf
     refine ⟨_,by decide,rfl,?_⟩
     conv=>whnf
     refine ⟨(l++[40])++[95],[41],rfl,⟨.inr rfl,rfl,rfl⟩,⟨rfl,rfl⟩,by (try simp only [List.length_append,List.length_cons,List.length_nil]);omega,?_⟩
     conv=>whnf
     refine Or.inl ⟨InR.i64 (by omega) (by omega),?_⟩
     rw [show l++([40]++([95]++[41]))=(l++[40])++[95]++[41] by first | rfl | simp only [List.append_assoc]] at h
     conv=>whnf
     exact h
    have c9':¬op=2:=by omega
    have hx:exT (.mk op tx nn xs at')=tx:=by rw [exT,exN,if_neg c1,if_neg c2,if_neg c3,if_neg c4,if_neg c5,if_neg c6',if_neg c7',if_neg c8',if_neg c9']
    rw [hx] at h hlen
    (try simp only [List.length_append,List.length_cons,List.length_nil] at hlen)
    conv=>whnf
    refine ⟨(l++[40]),tx,rfl,⟨(by first | exact .inl rfl | exact .inr rfl),rfl,rfl⟩,⟨[tx],rfl,by simp,by simp,by simp⟩,by (try simp only [List.length_append,List.length_cons,List.length_nil]);omega,?_⟩
    conv=>whnf
    refine ⟨Nat.le_of_ble_eq_true rfl,?_⟩
    conv=>whnf
    refine ⟨_,by decide,rfl,?_⟩
    conv=>whnf
    refine ⟨(l++[40])++tx,[41],rfl,⟨.inr rfl,rfl,rfl⟩,⟨rfl,rfl⟩,by (try simp only [List.length_append,List.length_cons,List.length_nil]);omega,?_⟩
    conv=>whnf
    refine Or.inl ⟨InR.i64 (by omega) (by omega),?_⟩
    rw [show l++([40]++(tx++[41]))=(l++[40])++tx++[41] by first | rfl | simp only [List.append_assoc]] at h
    conv=>whnf
    exact h
   ·have hW:exW want.toNat (.mk op tx nn xs at')=exT (.mk op tx nn xs at'):=by rw [exW,parP,if_neg (by show ¬lineF op<_;omega)]
    rw [hW] at h hlen
    conv=>whnf
    refine CondP.dec (fun c1=>?_) (fun c1=>?_)
    ·have c1:lineF op<5:=by omega
     have hl2:xs.length=2:=by have:=k1 c1;omega
     obtain ⟨x0,x1,rfl⟩:∃x0 x1,xs=[x0,x1]:=by match xs,hl2 with | [a,b],_=>exact ⟨a,b,rfl⟩
     simp only [szS] at hzx
     have g0:=m5 x0 (by simp)
     have g1:=m5 x1 (by simp)
     have z0:wE x0≤n - 1:=by omega
     have z1:wE x1≤n - 1:=by omega
     obtain ⟨o0,t0,n0,y0,q0⟩:=x0
     obtain ⟨o1,t1,n1,y1,q1⟩:=x1
     have hx:exT (.mk op tx nn [(.mk o0 t0 n0 y0 q0),(.mk o1 t1 n1 y1 q1)] at')=exW (lineF op) (.mk o0 t0 n0 y0 q0)++(([32]++(w1++[32]))++exW (lineF op+1) (.mk o1 t1 n1 y1 q1)):=by rw [exT,exN,if_pos c1,e2];rfl
     rw [hx] at h hlen
     (try simp only [List.length_append,List.length_cons,List.length_nil] at hlen)
     conv=>whnf
     refine ⟨_,by decide,rfl,?_⟩
     conv=>whnf
     refine ⟨by omega,l,exW (lineF op) (.mk o0 t0 n0 y0 q0),rfl,⟨(by first | exact .inl rfl | exact .inr rfl),rfl,rfl⟩,⟨pl,(.mk o0 t0 n0 y0 q0),(lineF op:Int),rfl,⟨g0,by omega,by omega,by omega,by omega⟩,rfl⟩,by (try simp only [List.length_append,List.length_cons,List.length_nil]);omega,?_⟩
     conv=>whnf
     refine ⟨l++exW (lineF op) (.mk o0 t0 n0 y0 q0),[32]++(w1++[32]),rfl,⟨(by first | exact .inl rfl | exact .inr rfl),rfl,rfl⟩,⟨[[32],w1,[32]],rfl,by simp,by simp,by simp⟩,by (try simp only [List.length_append,List.length_cons,List.length_nil]);omega,?_⟩
     conv=>whnf
     refine ⟨_,by decide,rfl,?_⟩
     conv=>whnf
     refine Or.inl ⟨InR.i64 (by omega) (by omega),?_⟩
     conv=>whnf
     refine ⟨by omega,l++exW (lineF op) (.mk o0 t0 n0 y0 q0)++([32]++(w1++[32])),exW (lineF op+1) (.mk o1 t1 n1 y1 q1),rfl,⟨(by first | exact .inl rfl | exact .inr rfl),rfl,rfl⟩,⟨pl,(.mk o1 t1 n1 y1 q1),((lineF op:Int)+1),rfl,⟨g1,by omega,by omega,by omega,by omega⟩,rfl⟩,by (try simp only [List.length_append,List.length_cons,List.length_nil]);omega,?_⟩
     rw [show l++(exW (lineF op) (.mk o0 t0 n0 y0 q0)++(([32]++(w1++[32]))++exW (lineF op+1) (.mk o1 t1 n1 y1 q1)))=l++exW (lineF op) (.mk o0 t0 n0 y0 q0)++([32]++(w1++[32]))++exW (lineF op+1) (.mk o1 t1 n1 y1 q1) by first | rfl | simp only [List.append_assoc]] at h
     conv=>whnf
     exact h
    have c1:¬lineF op<5:=by omega
    conv=>whnf
    refine CondP.dec (fun c2=>?_) (fun c2=>?_)
    ·have c2:lineF op=5:=by omega
     have hl2:xs.length=1:=by have:=k2 c2;omega
     obtain ⟨x0,rfl⟩:∃x0,xs=[x0]:=by match xs,hl2 with | [a],_=>exact ⟨a,rfl⟩
     simp only [szS] at hzx
     have g0:=m5 x0 (by simp)
     have z0:wE x0≤n - 1:=by omega
     obtain ⟨o0,t0,n0,y0,q0⟩:=x0
     have hx:exT (.mk op tx nn [(.mk o0 t0 n0 y0 q0)] at')=w1++exW 5 (.mk o0 t0 n0 y0 q0):=by rw [exT,exN,if_neg c1,if_pos c2,e2];rfl
     rw [hx] at h hlen
     (try simp only [List.length_append,List.length_cons,List.length_nil] at hlen)
     conv=>whnf
     refine ⟨l,w1,rfl,⟨(by first | exact .inl rfl | exact .inr rfl),rfl,rfl⟩,⟨[w1],rfl,by simp,by simp,by simp⟩,by (try simp only [List.length_append,List.length_cons,List.length_nil]);omega,?_⟩
     conv=>whnf
     refine ⟨_,by decide,rfl,?_⟩
     conv=>whnf
     refine ⟨by omega,l++w1,exW 5 (.mk o0 t0 n0 y0 q0),rfl,⟨(by first | exact .inl rfl | exact .inr rfl),rfl,rfl⟩,⟨pl,(.mk o0 t0 n0 y0 q0),5,rfl,⟨g0,by omega,by omega,by omega,by omega⟩,rfl⟩,by (try simp only [List.length_append,List.length_cons,List.length_nil]);omega,?_⟩
     rw [show l++(w1++exW 5 (.mk o0 t0 n0 y0 q0))=l++w1++exW 5 (.mk o0 t0 n0 y0 q0) by first | rfl | simp only [List.append_assoc]] at h
     conv=>whnf
     exact h
    have c2:¬lineF op=5:=by omega
    conv=>whnf
    refine CondP.ndec (fun c3=>?_) (fun c3=>?_)
    ·have c3:wordF op≠[]:=by rw [e2];exact c3
     have hx:exT (.mk op tx nn xs at')=w1++argT [40] [41] xs:=by rw [exT,exN,if_neg c1,if_neg c2,if_pos c3,e2,exPs_snd];rfl
     rw [hx] at h hlen
     (try simp only [List.length_append,List.length_cons,List.length_nil] at hlen)
     conv=>whnf
     refine ⟨l,w1,rfl,⟨(by first | exact .inl rfl | exact .inr rfl),rfl,rfl⟩,⟨[w1],rfl,by simp,by simp,by simp⟩,by (try simp only [List.length_append,List.length_cons,List.length_nil]);omega,?_⟩
     conv=>whnf
     refine ⟨by omega,l++w1,argT [40] [41] xs,rfl,⟨(by first | exact .inl rfl | exact .inr rfl),rfl,rfl⟩,⟨[40],[41],pl,xs,rfl,⟨List.all_eq_true.2 m5,by omega,by omega⟩,rfl⟩,by (try simp only [List.length_append,List.length_cons,List.length_nil]);omega,?_⟩
     rw [show l++(w1++argT [40] [41] xs)=l++w1++argT [40] [41] xs by first | rfl | simp only [List.append_assoc]] at h
     conv=>whnf
     exact h
    have c3:¬wordF op≠[]:=by rw [e2];exact fun g=>g c3
    conv=>whnf
    refine CondP.dec (fun c4=>?_) (fun c4=>?_)
    ·have c4:op=6:=by omega
     have hx:exT (.mk op tx nn xs at')=argT [91] [93] xs:=by rw [exT,exN,if_neg c1,if_neg c2,if_neg c3,if_pos c4,exPs_snd];rfl
     rw [hx] at h hlen
     (try simp only [List.length_append,List.length_cons,List.length_nil] at hlen)
     conv=>whnf
     refine ⟨by omega,l,argT [91] [93] xs,rfl,⟨(by first | exact .inl rfl | exact .inr rfl),rfl,rfl⟩,⟨[91],[93],pl,xs,rfl,⟨List.all_eq_true.2 m5,by omega,by omega⟩,rfl⟩,by (try simp only [List.length_append,List.length_cons,List.length_nil]);omega,?_⟩
     rw [show l++(argT [91] [93] xs)=l++argT [91] [93] xs by first | rfl | simp only [List.append_assoc]] at h
     conv=>whnf
     exact h
    have c4:¬op=6:=by omega
    conv=>whnf
    refine CondP.dec (fun c5=>?_) (fun c5=>?_)
    ·have c5:op=7:=by omega
     have hxl:(encEs pl xs).length=xs.length:=by rw [encEs_eq,List.length_map]
     by_cases hx0:xs.length=0
     ·have hx:exT (.mk op tx nn xs at')=[36]++tx:=by rw [exT,exN,if_neg c1,if_neg c2,if_neg c3,if_neg c4,if_pos c5,exPs_len,if_pos hx0,List.append_nil]
      rw [hx] at h hlen
      (try simp only [List.length_append,List.length_cons,List.length_nil] at hlen)
      conv=>whnf
      refine ⟨l,[36]++tx,rfl,⟨(by first | exact .inl rfl | exact .inr rfl),rfl,rfl⟩,⟨[[36],tx],rfl,by simp,by simp,by simp⟩,by (try simp only [List.length_append,List.length_cons,List.length_nil]);omega,?_⟩
      conv=>whnf
      refine CondP.dec (fun g=>?_) (fun g=>?_)
      case refine_1=>exact absurd (show ((encEs pl xs).length:Int)>0 from g) (by omega)
      rw [show l++([36]++tx)=l++([36]++tx) by first | rfl | simp only [List.append_assoc]] at h
      conv=>whnf
      exact h
     have hx:exT (.mk op tx nn xs at')=([36]++tx)++argT [40] [41] xs:=by rw [exT,exN,if_neg c1,if_neg c2,if_neg c3,if_neg c4,if_pos c5,exPs_len,if_neg hx0,exPs_snd,List.append_assoc];rfl
     rw [hx] at h hlen
     (try simp only [List.length_append,List.length_cons,List.length_nil] at hlen)
     conv=>whnf
     refine ⟨l,[36]++tx,rfl,⟨(by first | exact .inl rfl | exact .inr rfl),rfl,rfl⟩,⟨[[36],tx],rfl,by simp,by simp,by simp⟩,by (try simp only [List.length_append,List.length_cons,List.length_nil]);omega,?_⟩
     conv=>whnf
     refine CondP.dec (fun g=>?_) (fun g=>?_)
     case refine_2=>exact absurd (show ((encEs pl xs).length:Int)>0 by omega) g
     conv=>whnf
     refine ⟨by omega,l++([36]++tx),argT [40] [41] xs,rfl,⟨(by first | exact .inl rfl | exact .inr rfl),rfl,rfl⟩,⟨[40],[41],pl,xs,rfl,⟨List.all_eq_true.2 m5,by omega,by omega⟩,rfl⟩,by (try simp only [List.length_append,List.length_cons,List.length_nil]);omega,?_⟩
     rw [show l++(([36]++tx)++argT [40] [41] xs)=l++([36]++tx)++argT [40] [41] xs by first | rfl | simp only [List.append_assoc]] at h
     conv=>whnf
     exact h
    have c5:¬op=7:=by omega
    conv=>whnf
    refine CondP.dec (fun c6=>?_) (fun c6=>?_)
    ·have c6':op=3:=by omega
     obtain ⟨i0,i1⟩:=m4
     conv=>whnf
     refine CondP.dec (fun gn=>?_) (fun gn=>?_)
     ·obtain ⟨j0,j1,j2⟩:=numT_neg gn i0
      obtain ⟨wn,hwn⟩:∃wn,IntKind.u64.wrap nn=wn:=⟨_,rfl⟩
      rw [hwn] at j0 j1 j2
      conv=>whnf
      refine Or.inr ?_
      rw [hwn]
      have hx:exT (.mk op tx nn xs at')=numT nn:=by rw [exT,exN,if_neg c1,if_neg c2,if_neg c3,if_neg c4,if_neg c5,if_pos c6']
      rw [hx] at h hlen
      (try simp only [List.length_append,List.length_cons,List.length_nil] at hlen)
      conv=>whnf
      refine ⟨⟨rfl,j0,j1⟩,?_⟩
      obtain ⟨T,hT⟩:∃T,baseT 16 wn.toNat=T:=⟨_,rfl⟩
      rw [hT] at j2 ⊢
      rw [j2] at h hlen
      (try simp only [List.length_append,List.length_cons,List.length_nil] at hlen)
      conv=>whnf
      refine ⟨l,[48,120]++T,rfl,⟨(by first | exact .inl rfl | exact .inr rfl),rfl,rfl⟩,⟨[[48,120],T],rfl,by simp,by simp,by simp⟩,by (try simp only [List.length_append,List.length_cons,List.length_nil]);omega,?_⟩
      rw [show l++(([48,120]++T))=l++([48,120]++T) by first | rfl | simp only [List.append_assoc]] at h
      conv=>whnf
      exact h
     conv=>whnf
     refine CondP.dec (fun _=>?_) (fun g=>absurd c6 g)
     have hx:exT (.mk op tx nn xs at')=numT nn:=by rw [exT,exN,if_neg c1,if_neg c2,if_neg c3,if_neg c4,if_neg c5,if_pos c6']
     rw [hx] at h hlen
     (try simp only [List.length_append,List.length_cons,List.length_nil] at hlen)
     conv=>whnf
     refine ⟨⟨rfl,by omega,i1⟩,?_⟩
     conv=>whnf
     refine ⟨l,numT nn,rfl,⟨(by first | exact .inl rfl | exact .inr rfl),rfl,rfl⟩,⟨[numT nn],rfl,by simp,by simp,by simp⟩,by (try simp only [List.length_append,List.length_cons,List.length_nil]);omega,?_⟩
     rw [show l++(numT nn)=l++numT nn by first | rfl | simp only [List.append_assoc]] at h
     conv=>whnf
     exact h
    have c6':¬op=3:=by omega
    conv=>whnf
    refine CondP.dec (fun g=>absurd g c6) (fun _=>?_)
    conv=>whnf
    refine CondP.dec (fun c7=>?_) (fun c7=>?_)
    ·have c7':op=4:=by omega
     have hq:(quoteF tx).isSome=true:=by unfold textB at m3;rw [if_neg (by omega),if_pos c7'] at m3;exact m3
     obtain ⟨q,hq⟩:=Option.isSome_iff_exists.1 hq
     have hqT:quoT tx=q:=by rw [quoT,hq];rfl
     have hx:exT (.mk op tx nn xs at')=q:=by rw [exT,exN,if_neg c1,if_neg c2,if_neg c3,if_neg c4,if_neg c5,if_neg c6',if_pos c7',hqT]
     rw [hx] at h hlen
     (try simp only [List.length_append,List.length_cons,List.length_nil] at hlen)
     conv=>whnf
     refine ⟨by omega,?_⟩
     conv=>whnf
     refine ⟨fun g=>?_,fun q' hq'=>?_⟩
     case refine_1=>exact absurd (hq.symm.trans g) (by simp)
     obtain rfl:q=q':=by rw [hq] at hq';exact Option.some.inj hq'
     conv=>whnf
     refine ⟨l,q,rfl,⟨(by first | exact .inl rfl | exact .inr rfl),rfl,rfl⟩,⟨[q],rfl,by simp,by simp,by simp⟩,by (try simp only [List.length_append,List.length_cons,List.length_nil]);omega,?_⟩
     rw [show l++(q)=l++q by first | rfl | simp only [List.append_assoc]] at h
     conv=>whnf
     exact h
    have c7':¬op=4:=by omega
    conv=>whnf
    refine CondP.dec (fun c8=>?_) (fun c8=>?_)
    ·have c8':op=5:=by omega
     have hx:exT (.mk op tx nn xs at')=[110,105,108]:=by rw [exT,exN,if_neg c1,if_neg c2,if_neg c3,if_neg c4,if_neg c5,if_neg c6',if_neg c7',if_pos c8']
     rw [hx] at h hlen
     (try simp only [List.length_append,List.length_cons,List.length_nil] at hlen)
     conv=>whnf
     refine ⟨l,[110,105,108],rfl,⟨(by first | exact .inl rfl | exact .inr rfl),rfl,rfl⟩,⟨[[110,105,108]],rfl,by simp,by simp,by simp⟩,by (try simp only [List.length_append,List.length_cons,List.length_nil]);omega,?_⟩
     rw [show l++([110,105,108])=l++[110,105,108] by first | rfl | simp only [List.append_assoc]] at h
     conv=>whnf
     exact h
    have c8':¬op=5:=by omega
    conv=>whnf
    refine CondP.dec (fun c9=>?_) (fun c9=>?_)
    ·have c9':op=2:=by omega
     have hx:exT (.mk op tx nn xs at')=[95]:=by rw [exT,exN,if_neg c1,if_neg c2,if_neg c3,if_neg c4,if_neg c5,if_neg c6',if_neg c7',if_neg c8',if_pos c9']
     rw [hx] at h hlen
     (try simp only [List.length_append,List.length_cons,List.length_nil] at hlen)
     conv=>whnf
     refine ⟨l,[95],rfl,⟨(by first | exact .inl rfl | exact .inr rfl),rfl,rfl⟩,⟨[[95]],rfl,by simp,by simp,by simp⟩,by (try simp only [List.length_append,List.length_cons,List.length_nil]);omega,?_⟩
     rw [show l++([95])=l++[95] by first | rfl | simp only [List.append_assoc]] at h
     conv=>whnf
     exact h
    have c9':¬op=2:=by omega
    have hx:exT (.mk op tx nn xs at')=tx:=by rw [exT,exN,if_neg c1,if_neg c2,if_neg c3,if_neg c4,if_neg c5,if_neg c6',if_neg c7',if_neg c8',if_neg c9']
    rw [hx] at h hlen
    (try simp only [List.length_append,List.length_cons,List.length_nil] at hlen)
    conv=>whnf
    refine ⟨l,tx,rfl,⟨(by first | exact .inl rfl | exact .inr rfl),rfl,rfl⟩,⟨[tx],rfl,by simp,by simp,by simp⟩,by (try simp only [List.length_append,List.length_cons,List.length_nil]);omega,?_⟩
    rw [show l++(tx)=l++tx by first | rfl | simp only [List.append_assoc]] at h
    conv=>whnf
    exact h
 ·exact h.elim
end Go.PM.Lex
end

section
set_option maxRecDepth 100000
set_option maxHeartbeats 4000000
namespace Go.PM.Lex
open Go.Proofs Go.Shelf Go.RowKit
variable {w0:World} {nG:Nat}
theorem freeze_own (w:World) (g n:Nat) {cs:Array Value} {ty:TypeId} {fz:Nat×Nat} (h:w.heap[g]?=some (.cells cs ty fz)) (h1:fz.1≤fz.2) (h2:∀o,n≤o→fz.1≤o→fz.2≤o) :
  ∃fz',(w.drew.freeze ⟨g,0,none⟩ n).heap[g]?=some (.cells cs ty fz')∧fz'.1≤fz'.2∧∀o,n≤o→fz'.1≤o→fz'.2≤o:=by
 have h':w.drew.heap[g]?=some (.cells cs ty fz):=h
 obtain ⟨lo,hi⟩:=fz
 unfold World.freeze
 split
 ·exact ⟨_,h',h1,h2⟩
 ·simp only [Array.getElem?_modify,if_true,h',Option.map_some]
  refine ⟨_,rfl,?_,?_⟩
  ·split
   ·exact Nat.zero_le _
   ·simp only at h1 ⊢;omega
  ·intro o ho ho2
   split
   ·simp only;omega
   ·rename_i hne
    have hne:lo≠hi:=by simpa using hne
    simp only at h1 ⊢
    have k:=h2 (max lo n) (by omega) (by simp only;omega)
    simp only at k
    omega
theorem _root_.Go.PM.Owned.grow {G:GE} {e:Env} {w w':World} {t el:Nat} {rows:List (List D)} {v:Value} (h:Owned G e w t el rows v) (g:Grows w w'):Owned G e w' t el rows v:=by
 rcases h with h | ⟨sz,a1,a2,a3,b,off,cap,cs,ty,fz,a4,a5,a6,a7,a8,a9,a10⟩
 ·exact .inl h
 ·exact .inr ⟨sz,a1,a2,a3,b,off,cap,cs,ty,fz,a4,a5,a6,(g.old _ (Array.getElem?_eq_some_iff.1 a7).1).trans a7,a8,a9,a10⟩
theorem _root_.Go.PM.Owned.refreeze {G:GE} {e:Env} {w w':World} {t:Nat} {rows:List (List D)} {v:Value} {g n:Nat} {cs:Array Value} {ty:TypeId} {fz fz':Nat×Nat} (h:Owned G e w t 5 rows v) (hM:e.M t=some (g,n))
  (h':w'.heap[g]?=some (.cells cs ty fz')) (h0:w.heap[g]?=some (.cells cs ty fz)) (h1:fz'.1≤fz'.2) (h2:∀o,n≤o→fz'.1≤o→fz'.2≤o):Owned G e w' t 5 rows v:=by
 rcases h with ⟨_,_,h⟩ | ⟨sz,a1,a2,a3,b,off,cap,cs2,ty2,fz2,a4,a5,a6,a7,a8,a9,a10⟩
 ·rw [hM] at h;cases h
 ·rw [hM] at a10
  simp only [Option.some.injEq,Prod.mk.injEq] at a10
  obtain ⟨rfl,rfl⟩:=a10
  rw [h0] at a7
  cases a7
  exact .inr ⟨sz,a1,a2,a3,g,off,cap,cs,ty,fz',a4,a5,a6,h',a8,⟨h1,h2⟩,hM⟩
theorem strikeK {G:GE} {e:Env} {w w':World} {t:TypeId} {p:PV} {rows:List (List D)} (hp:p=.d .nilp∨p=.ptr 0 0) (hS:SRel G e ⟨[.cells t [p,.sl 0 5 rows]],[0],1⟩ w)
  (hsz:w.heap.size≤w'.heap.size) (hos:w'.os=w.os) (htp:w'.tape=w.tape) (hout:w'.output=w.output)
  (hcell:∀b off u,w.cell? ⟨b,off,none⟩=some u→w'.cell? ⟨b,off,none⟩=some u)
  (hblk:∀b,b<w.heap.size→(∀q,e.M 0=some q→q.1≠b)→w'.heap[b]?=w.heap[b]?)
  (hown:∀v,Owned G e w 0 5 rows v→Owned G e w' 0 5 rows v) (hobk:∀q,e.M 0=some q→∃cs ty fz,w'.heap[q.1]?=some (.cells cs ty fz)) :
  SRel G e ⟨[.cells t [p,.sl 0 5 rows]],[0],1⟩ w'∧Later e ⟨[.cells t [p,.sl 0 5 rows]],[0],1⟩ w e ⟨[.cells t [p,.sl 0 5 rows]],[0],1⟩ w':=by
 have hL:Later e ⟨[.cells t [p,.sl 0 5 rows]],[0],1⟩ w e ⟨[.cells t [p,.sl 0 5 rows]],[0],1⟩ w':={
  len:=Nat.le_refl _
  beta:=fun _ _=>rfl
  X:=rfl
  pres:=fun b off u hu ho=>⟨ho,hcell b off u hu⟩
  blocks:=fun b hb h1 h2=>hblk b hb fun q hq=>h2 0 (by simp) q hq
  size:=hsz
  os:=hos
  tape:=htp
  output:=hout
  fresh:=fun i h1 h2=>by simp at h1 h2;omega
  ftok:=fun x hx q hq=>.inr ⟨x,hx,q,hq,rfl⟩ }
 have hlt:=hS.lt (i:=0) (by simp)
 have hblk0:w'.heap[e.β 0]?=w.heap[e.β 0]?:=hblk _ hlt fun q hq=>fun h=>(hS.own 0 (by simp) q hq).2.1 0 (by simp) h.symm
 refine ⟨?_,hL⟩
 exact {
  inj:=hS.inj
  box:=fun i x hx=>by
   match i,hx with
   | 0,hx =>
    cases hx
    obtain ⟨cv,h1,h2,h3⟩:=hS.box 0 _ rfl
    refine ⟨cv,hblk0.trans h1,h2,fun j y u hy hu=>?_⟩
    match j,hy with
    | 0,hy =>
     cases hy
     obtain ⟨q1,q2⟩:=h3 0 p u rfl hu
     refine ⟨?_,q2⟩
     rcases hp with rfl | rfl
     ·cases q1 with
      | d _ _ hd=>exact .d _ _ (hd.later hL)
     ·cases q1 with
      | ptr b o hb=>exact .ptr 0 0 (by simp)
    | 1,hy =>
     cases hy
     obtain ⟨q1,q2⟩:=h3 1 (.sl 0 5 rows) u rfl hu
     refine ⟨?_,q2⟩
     cases q1 with
     | sl _ _ _ _ hn hd ht=>exact .sl _ _ _ _ hn (hd.later hL) (fun h=>hown _ (ht h))
    | j+2,hy=>simp at hy
   | i+1,hx=>simp at hx
  low:=hS.low
  tkn:=hS.tkn
  own:=fun x hx q hq=>by
   obtain ⟨a,b,_⟩:=hS.own x hx q hq
   obtain rfl:x=0:=by simpa using hx
   exact ⟨a,b,hobk q hq⟩
  dis:=hS.dis
  xlt:=fun b off hx=>Nat.lt_of_lt_of_le (hS.xlt b off hx) hsz
  xown:=hS.xown
  glob:=fun b hb=>by
   rw [hblk b (Nat.lt_of_lt_of_le hb hS.big) fun q hq=>fun h=>by have:=(hS.own 0 (by simp) q hq).1;omega]
   exact hS.glob b hb
  big:=Nat.le_trans hS.big hsz }
noncomputable def spStringK:Spec:=fun args σ K=>match args,σ with
 | [.ptr 0 0],⟨[.cells t [p,.sl 0 e rows]],[0],1⟩=>∃l:Bs,(rows=bytesR l∧t=84∧e=5∧(p=.d .nilp∨p=.ptr 0 0)∧l.length<70368744177664)∧K (.ret (.d (.str l))) ⟨[.cells t [p,.sl 0 e rows]],[0],1⟩
 | _,_=>False
theorem spStringK_mono:SpecMono spStringK:=fun args σ K K' hK h=>by
 unfold spStringK at h ⊢
 split at h
 ·obtain ⟨x,h1,h2⟩:=h;exact ⟨x,h1,hK _ _ h2⟩
 ·exact h.elim
theorem stringK_ok:PCalls (GG w0 nG) 31 spStringK:=pcalls_mach (enters_of Tryz.func31 (by kernel_rfl) rfl) fun args σ K h e w vs hS ha=>by
 unfold spStringK at h
 split at h
 ·rename_i t p el rows
  obtain ⟨l,⟨rfl,rfl,rfl,hp,hbig⟩,hK⟩:=h
  obtain ⟨u,rfl,hu⟩:=args1 ha
  obtain ⟨cv,hc1,hc2,hc3⟩:=hS.box 0 _ rfl
  have hcs:cv.size=2:=hc2
  obtain ⟨v0,v1,rfl⟩:∃v0 v1,cv=#[v0,v1]:=by
   obtain ⟨lst⟩:=cv
   match lst,hcs with
   | [a,b],_=>exact ⟨a,b,rfl⟩
  have hr1:=(hc3 1 (.sl 0 5 (bytesR l)) v1 rfl rfl).1
  cases hu with
  | ptr b off hb =>
  refine ⟨_,_,.string ⟨l.toArray⟩,hK,?_⟩
  have fin:∀w',w.heap.size≤w'.heap.size→w'.os=w.os→w'.tape=w.tape→w'.output=w.output →
    (∀b off u,w.cell? ⟨b,off,none⟩=some u→w'.cell? ⟨b,off,none⟩=some u) →
    (∀b,b<w.heap.size→(∀q,e.M 0=some q→q.1≠b)→w'.heap[b]?=w.heap[b]?)→(∀v,Owned (GG w0 nG) e w 0 5 (bytesR l) v→Owned (GG w0 nG) e w' 0 5 (bytesR l) v)→(∀q,e.M 0=some q→∃cs ty fz,w'.heap[q.1]?=some (.cells cs ty fz)) →
    VRel (GG w0 nG) e ⟨[.cells 84 [p,.sl 0 5 (bytesR l)]],[0],1⟩ w' (.d (.str l)) (.string ⟨l.toArray⟩)∧SRel (GG w0 nG) e ⟨[.cells 84 [p,.sl 0 5 (bytesR l)]],[0],1⟩ w'∧Later e ⟨[.cells 84 [p,.sl 0 5 (bytesR l)]],[0],1⟩ w e ⟨[.cells 84 [p,.sl 0 5 (bytesR l)]],[0],1⟩ w':=fun w' h1 h2 h3 h4 h5 h6 h7 h8 =>
   ⟨.mkstr,strikeK hp hS h1 h2 h3 h4 h5 h6 h7 h8⟩
  have grown:∀w',Grows w w'→_:=fun w' g=>fin w' g.size g.os g.tape g.output (fun b off u hu=>(g.cell (cell_lt hu)).trans hu) (fun b hb _=>g.old b hb) (fun v hv=>hv.grow g) (fun q hq=>by obtain ⟨_,_,cs,ty,fz,hh⟩:=hS.own 0 (by simp) q hq;exact ⟨cs,ty,fz,(g.old _ (Array.getElem?_eq_some_iff.1 hh).1).trans hh⟩)
  cases hr1 with
  | sl _ _ _ _ hn hd ht =>
  rcases ht (by simp) with ⟨rfl,hrows,hM⟩ | ⟨sz,g1,g2,g3,g,off,cap,cs,ty,fz,rfl,g4,g5,g6,⟨g7,rfl,rfl,g8⟩,g9,hM⟩
  ·have hl:l=[]:=by simpa [bytesR] using hrows
   subst hl
   refine (str_nil2 Tryz.lays169 Tryz.Builder_Extra_169 w.heap.size (e.β 0) v0 w hc1).mono fun en w' ⟨h1,h2⟩=>?_
   exact ⟨h1,grown w' (Grows.of_below h2)⟩
  ·have hsz1:sz=1:=by
    have:(Tryz.prog.info? 5).map (·.size)=some sz:=g1
    rw [info5] at this;cases this;rfl
   subst hsz1
   rw [bytesR_len'] at g5 hc1 g9 hM hd
   by_cases hl:l=[]
   ·subst hl
    refine (str_room2 Tryz.lays169 Tryz.Builder_Extra_169 w.heap.size (e.β 0) g cap v0 w (by omega) hc1).mono fun en w' ⟨h1,h2⟩=>?_
    exact ⟨h1,grown w' (Grows.of_below h2)⟩
   ·have hcell:∀j x,l[j]?=some x→w.cell? ⟨g,j,none⟩=some (.int .u8 x.toNat):=by
     intro j x hx
     have hj:=(List.getElem?_eq_some_iff.1 hx).1
     have hrow:(bytesR l)[j]?=some [.int .u8 x.toNat]:=by simp [bytesR,hx]
     generalize hrr:bytesR l=rr at hd hrow
     have hlen:rr.length=l.length:=by rw [← hrr];simp [bytesR]
     generalize hvv:Value.slice (some ⟨g,0,none⟩) l.length cap=vv at hd
     cases hd with
     | slnil=>simp at hrow
     | slz=>simp at hrow
     | sl _ _ _ _ sz u hcap hsz hc ho hu =>
      simp only [Value.slice.injEq,Option.some.injEq,Addr.mk.injEq] at hvv
      obtain ⟨⟨rfl,rfl,_⟩,_,rfl⟩:=hvv
      have hsz':sz=1:=by
       have:=hsz _ (List.mem_of_getElem? hrow);simpa using this.symm
      subst hsz'
      have h1:=hc j 0 (by omega) (by omega)
      have h2:=hu j 0 (.int .u8 x.toNat) (by rw [hrow];rfl)
      generalize huu:u j 0=uu at h1 h2;cases h2
      simpa using h1
    obtain ⟨fz',hfz',hfa,hfb⟩:=freeze_own w g l.length g6 g9.1 (fun o ho=>g9.2 o (by omega))
    refine (str_exact2 Tryz.lays169 Tryz.Builder_Extra_169 (e.β 0) g cap v0 cs fz l w hl hc1 g6 (by omega) (by omega) (by omega) hcell).mono fun en w' ⟨h1,h2⟩=>?_
    rw [h2]
    refine ⟨h1,fin _ ?_ ?_ ?_ ?_ ?_ ?_ ?_ ?_⟩
    ·unfold World.freeze;split <;> first | exact Nat.le_refl _ | (simp only [Array.size_modify];exact Nat.le_refl _)
    ·unfold World.freeze;split <;> rfl
    ·unfold World.freeze;split <;> rfl
    ·unfold World.freeze;split <;> rfl
    ·intro b off u hu
     by_cases hbg:b=g
     ·subst hbg
      simp only [World.cell?,hfz',g6] at hu ⊢
      exact hu
     ·simpa [World.cell?,freeze_heap w g l.length b hbg] using hu
    ·intro b hb hq
     exact freeze_heap w g l.length b fun h=>hq _ hM h.symm
    ·intro v hv
     exact hv.refreeze hM hfz' g6 hfa (by simpa [bytesR_len'] using hfb)
    ·intro q hq
     rw [hM] at hq;cases hq
     exact ⟨_,_,_,hfz'⟩
 ·exact h.elim
end Go.PM.Lex
end

section
set_option maxRecDepth 100000
set_option maxHeartbeats 4000000
namespace Go.PM.Lex
open Go.Proofs
variable {w0:World} {nG:Nat}
noncomputable def tblLiEb (n:Nat):Tbl:=[(155,spWSx),(157,spOne (aggV encE) ablE exT wE n)]
theorem liEb_ok {n:Nat} (ht:TblOK (GG w0 nG) (tblLiEb n)):PCalls (GG w0 nG) 156 (spLi 157 encE ablE exT wE n):=by
 refine pcalls tab_ok mixed (tbl:=tblLiEb n) ht Tryz.func156 rfl (by kernel_rfl) (by kernel_rfl) ?_
 intro args σ K h
 unfold spLi at h
 split at h
 ·rename_i r bt g t e rows tp
  obtain ⟨l,pl,xs,rfl,rfl,⟨rfl,rfl,rfl⟩,⟨hmay,hz,hn⟩,hlen,h⟩:=h
  have hl1:(xs.map (encE pl)).length=xs.length:=List.length_map ..
  have hsz:=szS_len wE xs
  refine ⟨loopsOf [(1,⟨[12],[0,1,2,3,10,11],fun vs σ=>∃i:Nat,vs=[.d (.int .i64 i)]∧σ=⟨[.cells 84 [.ptr 0 0,.sl 0 5 (bytesR (l++commas bt ((xs.take i).map exT)))],.cells tp [.ptr 0 0]],[0],1⟩∧i≤xs.length,fun vs _=>match vs with | [.d (.int _ i)]=>((xs.length:Int) - i).toNat | _=>0⟩)],2,true,by simp,Nat.le_of_ble_eq_true rfl,?_⟩
  conv=>whnf
  refine ⟨⟨0,rfl,(by simp only [List.take_zero,List.map_nil,commas,List.append_nil];rfl),by omega⟩,?_⟩
  intro vs σ hI
  obtain ⟨i,rfl,rfl,hi⟩:=hI
  conv=>whnf
  refine CondP.dec (fun hi2=>?_) (fun hi2=>?_)
  ·have hi2:i<xs.length:=by have hi2:(i:Int)<(xs.map (encE pl)).length:=hi2;rw [hl1] at hi2;omega
   have hg:=szS_get wE xs i hi2
   have hmx:ablE xs[i]=true:=List.all_eq_true.1 hmay _ (List.getElem_mem hi2)
   have htk:=commas_take bt exT hi2
   have hle:=commas_le bt exT xs (i+1)
   obtain ⟨eA,hA⟩:∃x,xs[i]=x:=⟨_,rfl⟩
   obtain ⟨a1,a2,a3,a4,a5⟩:=eA
   rw [hA] at hg hmx htk
   have hr1:(xs.map (encE pl))[((i:Nat):Int).toNat]?=some (encE pl (.mk a1 a2 a3 a4 a5)):=by simp [hi2,hA]
   conv=>whnf
   refine ⟨_,by omega,hr1,?_⟩
   conv=>whnf
   refine CondP.dec (fun h0=>?_) (fun h0=>?_)
   ·have h0:0<i:=by omega
    rw [if_neg (by omega)] at htk
    rw [htk] at hle
    simp only [List.length_append] at hle
    conv=>whnf
    refine ⟨l++commas bt ((xs.take i).map exT),bt,rfl,⟨.inr rfl,rfl,rfl⟩,⟨rfl,rfl⟩,by simp only [List.length_append];omega,?_⟩
    conv=>whnf
    refine ⟨l++commas bt ((xs.take i).map exT)++bt,pl,(.mk a1 a2 a3 a4 a5),rfl,rfl,⟨rfl,rfl⟩,⟨hmx,by omega,by omega⟩,by simp only [List.length_append];omega,?_⟩
    conv=>whnf
    refine Or.inl ⟨InR.i64 (by omega) (by omega),?_⟩
    conv=>whnf
    refine ⟨⟨i+1,rfl,(by rw [htk];simp only [List.append_assoc];rfl),by omega⟩,?_⟩
    show ((xs.length:Int) - ((i:Int)+1)).toNat<((xs.length:Int) - (i:Int)).toNat
    omega
   ·obtain rfl:i=0:=by omega
    rw [if_pos rfl] at htk
    rw [htk] at hle
    conv=>whnf
    refine ⟨l++commas bt ((xs.take 0).map exT),pl,(.mk a1 a2 a3 a4 a5),rfl,rfl,⟨rfl,rfl⟩,⟨hmx,by omega,by omega⟩,by simp only [List.take_zero,List.map_nil,commas,List.length_append,List.length_nil];omega,?_⟩
    conv=>whnf
    refine Or.inl ⟨InR.i64 (by omega) (by omega),?_⟩
    conv=>whnf
    refine ⟨⟨1,rfl,(by rw [htk];simp only [List.take_zero,List.map_nil,commas,List.append_nil];rfl),by omega⟩,?_⟩
    show ((xs.length:Int) - ((0:Int)+1)).toNat<((xs.length:Int) - (0:Int)).toNat
    omega
  ·have hi2:i=xs.length:=by have hi2:¬(i:Int)<(xs.map (encE pl)).length:=hi2;rw [hl1] at hi2;omega
   subst hi2
   rw [List.take_length]
   conv=>whnf
   exact h
 ·exact h.elim
theorem cWA_of {n:Nat} (h:PCalls (GG w0 nG) 30 (spWE n)):PCalls (GG w0 nG) 76 (spWA n) :=
 wa_ok ⟨⟨add_ok,spAdd_mono⟩,⟨liEb_ok ⟨⟨ws_ok,spWSx_mono⟩,⟨wa1_ok ⟨⟨h,spWE_mono n⟩,trivial⟩,spOne_mono _ _ _ _ _⟩,trivial⟩,spLi_mono _ _ _ _ _ _⟩,trivial⟩
theorem cWE (hN:NumOK w0 nG) (hL:LexC w0 nG):∀n,PCalls (GG w0 nG) 30 (spWE n)
 | 0=>we_ok ⟨⟨of_ok,spOf_mono⟩,⟨add_ok,spAdd_mono⟩,⟨pcalls_none (enters_of Tryz.func30 (by kernel_rfl) rfl),spB_mono spWE_mono _⟩,⟨pcalls_none (enters_of Tryz.func76 (by kernel_rfl) rfl),spB_mono spWA_mono _⟩,⟨fmtI_ok hN,spFmtI_mono⟩,⟨fmtU_ok hN,spFmtU_mono⟩,⟨hL.quote,spQuote_mono⟩,trivial⟩
 | n+1=>we_ok ⟨⟨of_ok,spOf_mono⟩,⟨add_ok,spAdd_mono⟩,⟨pcalls_less (sp:=spWE) (cWE hN hL n),spB_mono spWE_mono _⟩,⟨pcalls_less (sp:=spWA) (cWA_of (cWE hN hL n)),spB_mono spWA_mono _⟩,⟨fmtI_ok hN,spFmtI_mono⟩,⟨fmtU_ok hN,spFmtU_mono⟩,⟨hL.quote,spQuote_mono⟩,trivial⟩
noncomputable def spTold:Spec:=fun args σ K=>match args,σ with
 | [.ptr 0 0,.d (.int .i64 c)],⟨[.cells t [p,.sl 0 e rows]],[0],1⟩=>∃l:Bs,(rows=bytesR l∧t=84∧e=5∧(p=.d .nilp∨p=.ptr 0 0)∧l.length<70368744177664) ∧
   ((c=3∨c=151→K (.ret (.tuple [.d (.str []),.d (.int .i64 3)])) ⟨[.cells t [p,.sl 0 e rows]],[0],1⟩)∧(c≠3∧c≠151→K (.ret (.tuple [.d (.str l),.d (.int .i64 0)])) ⟨[.cells t [p,.sl 0 e rows]],[0],1⟩))
 | _,_=>False
theorem spTold_mono:SpecMono spTold:=fun args σ K K' hK h=>by
 unfold spTold at h ⊢
 split at h
 ·obtain ⟨l,h1,h2,h3⟩:=h;exact ⟨l,h1,fun g=>hK _ _ (h2 g),fun g=>hK _ _ (h3 g)⟩
 ·exact h.elim
noncomputable def tblTold:Tbl:=[(31,spStringK)]
theorem told_ok:PCalls (GG w0 nG) 32 spTold:=by
 refine pcalls tab_ok mixed (tbl:=tblTold) ⟨⟨stringK_ok,spStringK_mono⟩,trivial⟩ Tryz.func32 rfl (by kernel_rfl) (by kernel_rfl) ?_
 intro args σ K h
 unfold spTold at h
 split at h
 ·rename_i c t p e rows
  obtain ⟨l,⟨rfl,rfl,rfl,hp,hlen⟩,ha,hb⟩:=h
  refine ⟨loopsOf [],1,true,by simp,Nat.le_of_ble_eq_true rfl,?_⟩
  rcases hp with rfl | rfl
  all_goals
   conv=>whnf
   refine CondP.dec (fun c1=>?_) (fun c1=>?_)
   ·conv=>whnf
    exact ha (.inl c1)
   conv=>whnf
   refine CondP.dec (fun c2=>?_) (fun c2=>?_)
   ·conv=>whnf
    exact ha (.inr c2)
   conv=>whnf
   refine ⟨l,⟨rfl,rfl,rfl,(by first | exact .inl rfl | exact .inr rfl),hlen⟩,?_⟩
   conv=>whnf
   exact hb ⟨c1,c2⟩
 ·exact h.elim
def printed (txt:Bs) {α:Type}:Top α→Bs×Nat
 | .ok _ _=>(txt,0)
 | .err _ e=>if e=3∨e=151 then ([],3) else (txt,0)
noncomputable def spPE (n:Nat):Spec:=fun args σ K=>match args,σ with
 | [.agg c],⟨[],[],0⟩=>∃pl e,c=(encE pl e).map .d∧((mayE e=true→rngE e=true∧(exT e).length<1073741824)∧wE e≤n∧n≤1073741824) ∧
   ((mayE e=false→K (.ret (.tuple [.d (.str []),.d (.int .i64 160)])) ⟨[],[],0⟩)∧(mayE e=true→∀x,readTop 65536 16384 (exprD 64) (exT e)=x→K (.ret (.tuple [.d (.str (printed (exT e) x).1),.d (.int .i64 (printed (exT e) x).2)])) ⟨[],[],0⟩))
 | _,_=>False
theorem spPE_mono (n:Nat):SpecMono (spPE n):=fun args σ K K' hK h=>by
 unfold spPE at h ⊢
 split at h
 ·obtain ⟨pl,e,h1,h2,h3,h4⟩:=h;exact ⟨pl,e,h1,h2,fun g=>hK _ _ (h3 g),fun g x hx=>hK _ _ (h4 g x hx)⟩
 ·exact h.elim
noncomputable def tblPE (n:Nat):Tbl:=[(29,spHo (aggV encE) mayE wE n),(30,spWE n),(31,spStringK),(14,spTopE),(32,spTold)]
theorem pe_ok {n:Nat} (ht:TblOK (GG w0 nG) (tblPE n)):PCalls (GG w0 nG) 13 (spPE n):=by
 refine pcalls tab_ok mixed (tbl:=tblPE n) ht Tryz.func13 rfl (by kernel_rfl) (by kernel_rfl) ?_
 intro args σ K h
 unfold spPE at h
 split at h
 ·obtain ⟨pl,⟨op,tx,nn,xs,at'⟩,rfl,⟨hab,hz,hn⟩,ha,hb⟩:=h
  obtain ⟨E,hE⟩:∃E,Ex.mk op tx nn xs at'=E:=⟨_,rfl⟩
  refine ⟨loopsOf [],0,true,by simp,Nat.le_of_ble_eq_true rfl,?_⟩
  conv=>whnf
  refine ⟨pl,.mk op tx nn xs at',rfl,⟨hz,hn⟩,fun b hb1=>?_⟩
  cases b with
  | false =>
   conv=>whnf
   exact ha hb1
  | true =>
   obtain ⟨h1,h2⟩:=hab hb1
   have hb:=hb hb1
   conv=>whnf
   refine ⟨[],exW 0 (.mk op tx nn xs at'),rfl,⟨.inl rfl,rfl,rfl⟩,⟨pl,.mk op tx nn xs at',0,rfl,⟨by rw [ablE,hb1,h1];rfl,hz,hn,by omega,by omega⟩,rfl⟩,by rw [exW_0];simp only [List.length_nil];omega,?_⟩
   rw [exW_0]
   obtain ⟨T,hT⟩:∃T,exT (.mk op tx nn xs at')=T:=⟨_,rfl⟩
   rw [hT] at hb h2 ⊢
   conv=>whnf
   refine ⟨T,⟨rfl,rfl,rfl,.inr rfl,by omega⟩,?_⟩
   conv=>whnf
   refine ⟨by omega,fun x hx=>?_⟩
   have hb:=hb x hx
   cases x with
   | ok v L =>
    obtain ⟨v1,v2,v3,v4,v5⟩:=v
    unfold TopK
    dsimp only
    conv=>whnf
    refine ⟨T,⟨rfl,rfl,rfl,.inr rfl,by omega⟩,?_⟩
    conv=>whnf
    refine ⟨fun g=>absurd g (by decide),fun _=>?_⟩
    conv=>whnf
    exact hb
   | err p c =>
    conv=>whnf
    refine ⟨T,⟨rfl,rfl,rfl,.inr rfl,by omega⟩,?_⟩
    conv=>whnf
    refine ⟨fun g=>?_,fun g=>?_⟩
    ·conv=>whnf
     rw [printed,if_pos (by omega)] at hb
     exact hb
    ·conv=>whnf
     rw [printed,if_neg (by omega)] at hb
     exact hb
 ·exact h.elim
theorem cPE (hg:GlobOK w0 nG) (hN:NumOK w0 nG) (hL:LexC w0 nG) (n:Nat):PCalls (GG w0 nG) 13 (spPE n) :=
 pe_ok ⟨⟨cHE hL n,spHo_mono _ _ _ _⟩,⟨cWE hN hL n,spWE_mono n⟩,⟨stringK_ok,spStringK_mono⟩,⟨cTopE hg,spTopE_mono⟩,⟨told_ok,spTold_mono⟩,trivial⟩
def oneE:Ex:=.mk 8 [] 0 [.mk 10 [] 0 [.mk 1 [97] 0 [] 0,.mk 3 [] 1 [] 0] 0] 0
theorem one_may:mayE oneE=true:=by decide +kernel
theorem one_txt:exT oneE=[45,40,97,32,43,32,49,41]:=by decide +kernel
def okTop {α:Type}:Top α→Bool | .ok _ _=>true | .err _ _=>false
theorem one_read:okTop (readTop 65536 16384 (exprD 64) [45,40,97,32,43,32,49,41])=true:=by decide +kernel
noncomputable def spTrue16:Spec:=fun args σ K=>match args,σ with
 | [],⟨[],[],0⟩=>K (.ret (.d (.bool true))) ⟨[],[],0⟩
 | _,_=>False
theorem spTrue16_mono:SpecMono spTrue16:=fun args σ K K' hK h=>by
 unfold spTrue16 at h ⊢
 split at h
 ·exact hK _ _ h
 ·exact h.elim
noncomputable def tblWorks16:Tbl:=[(13,spPE 1000)]
theorem works16_ok (ht:TblOK (GG w0 nG) tblWorks16):PCalls (GG w0 nG) 12 spTrue16:=by
 refine pcalls tab_ok mixed (tbl:=tblWorks16) ht Tryz.func12 rfl (by kernel_rfl) (by kernel_rfl) ?_
 intro args σ K h
 unfold spTrue16 at h
 split at h
 ·refine ⟨loopsOf [],0,false,by simp,Nat.le_of_ble_eq_true rfl,?_⟩
  conv=>whnf
  refine ⟨fun _=>0,oneE,rfl,⟨fun _=>⟨by decide +kernel,by rw [one_txt];decide⟩,by decide +kernel,by decide⟩,?_⟩
  refine ⟨fun g=>(by rw [one_may] at g;cases g),fun _ x hx=>?_⟩
  have hr:=one_read
  rw [one_txt] at hx ⊢
  rw [hx] at hr
  cases x with
  | ok v L =>
   rw [printed]
   conv=>whnf
   exact h
  | err p c=>cases hr
 ·exact h.elim
end Go.PM.Lex
end

section
set_option maxRecDepth 100000
set_option maxHeartbeats 4000000
namespace Go.PM.Lex
open Go.Proofs
variable {w0:World} {nG:Nat}
noncomputable def spSz {α:Type} (enc:Pl→α→List D) (sz:α→Nat) (bd:Int→Int) (m:Nat):Spec:=fun args σ K=>match args,σ with
 | [.agg c,.d (.int .i64 most)],⟨[],[],0⟩=>∃pl x B,c=(enc pl x).map .d∧((0≤most∧most<m)∧m≤1000000∧sz x≤B∧B≤1099511627776)∧∀r,0≤r→r≤bd most→K (.ret (.d (.int .i64 r))) ⟨[],[],0⟩
 | _,_=>False
theorem spSz_mono {α:Type} (enc:Pl→α→List D) (sz:α→Nat) (bd:Int→Int) (m:Nat):SpecMono (spSz enc sz bd m):=fun args σ K K' hK h=>by
 unfold spSz at h ⊢
 split at h
 ·obtain ⟨p,x,B,h1,h2,h3⟩:=h
  exact ⟨p,x,B,h1,h2,fun r hr hr'=>hK _ _ (h3 r hr hr')⟩
 ·exact h.elim
def bd2 (m:Int):Int:=2 * m+1
noncomputable def tblZE (m:Nat):Tbl:=[(11,spB (spSz encE szE bd2) m)]
theorem zE_ok {m:Nat} (ht:TblOK (GG w0 nG) (tblZE m)):PCalls (GG w0 nG) 11 (spSz encE szE bd2 m):=by
 refine pcalls tab_ok mixed (tbl:=(tblZE m)) ht Tryz.func11 rfl (by kernel_rfl) (by kernel_rfl) ?_
 intro args σ K h
 unfold spSz at h
 split at h
 ·obtain ⟨pl,⟨a1,a2,a3,a4,a5⟩,B,rfl,⟨⟨hm0,hm1⟩,hm2,hz,hB⟩,h⟩:=h
  rename_i most
  simp only [szE] at hz
  have hl4:(encEs pl a4).length=a4.length:=by rw [encEs_eq,List.length_map]
  have hsz:=szEs_len a4
  unfold bd2 at h
  refine ⟨loopsOf [(3,⟨[6,5],[1,2],fun vs σ=>∃(i:Nat) (nn:Int),vs=[.d (.int .i64 i),.d (.int .i64 nn)]∧σ=⟨[.cells 24 ((encE pl (.mk a1 a2 a3 a4 a5)).map .d)],[],0⟩∧i≤a4.length∧1≤nn∧nn≤2 * most+1,fun vs _=>match vs with | [.d (.int _ i),_]=>((a4.length:Nat) - i:Int).toNat | _=>0⟩)],0,false,by simp,Nat.le_of_ble_eq_true rfl,?_⟩
  conv=>whnf
  (repeat (first | (refine Or.inl ⟨InR.i64 (by omega) (by omega),?_⟩;conv=>whnf) | (refine ⟨_,by omega,hr1,?_⟩;conv=>whnf)))
  refine ⟨⟨0,_,rfl,rfl,by omega,by omega,by omega⟩,?_⟩
  intro vs σ hI
  obtain ⟨i,nn,rfl,rfl,hi,hn0,hn1⟩:=hI
  conv=>whnf
  refine CondP.dec (fun hi2=>?_) (fun hi2=>?_)
  rotate_left
  ·conv=>whnf
   exact h _ (by omega) (by omega)
  have hi2:i<a4.length:=by have hi2:(i:Int)<(encEs pl a4).length:=hi2;rw [hl4] at hi2;omega
  conv=>whnf
  refine CondP.dec (fun hi2n=>?_) (fun hi2n=>?_)
  rotate_left
  ·conv=>whnf
   exact h _ (by omega) (by omega)
  conv=>whnf
  obtain ⟨eA,hA⟩:∃e,a4[i]=e:=⟨_,rfl⟩
  have hg:=szEs_get a4 i hi2
  obtain ⟨b1,b2,b3,b4,b5⟩:=eA
  rw [hA] at hg
  have hr1:(encEs pl a4)[((i:Nat):Int).toNat]?=some (encE pl (.mk b1 b2 b3 b4 b5)):=by rw [encEs_eq];simp [hi2,hA]
  (repeat (first | (refine Or.inl ⟨InR.i64 (by omega) (by omega),?_⟩;conv=>whnf) | (refine ⟨_,by omega,hr1,?_⟩;conv=>whnf)))
  refine ⟨by omega,pl,.mk b1 b2 b3 b4 b5,B,rfl,⟨⟨by omega,by omega⟩,by omega,by omega,hB⟩,fun r hr0 hrb=>?_⟩
  unfold bd2 at hrb
  conv=>whnf
  refine Or.inl ⟨InR.i64 (by omega) (by omega),?_⟩
  conv=>whnf
  refine Or.inl ⟨InR.i64 (by omega) (by omega),?_⟩
  conv=>whnf
  refine ⟨⟨i+1,_,rfl,rfl,by omega,by omega,by omega⟩,?_⟩
  show ((a4.length:Nat) - ((i:Int)+1)).toNat<((a4.length:Nat) - (i:Int)).toNat
  omega
 ·exact h.elim
theorem cZE:∀m,PCalls (GG w0 nG) 11 (spSz encE szE bd2 m)
 | 0=>zE_ok ⟨⟨pcalls_none (enters_of Tryz.func11 (by kernel_rfl) rfl),spB_mono (spSz_mono _ _ _) _⟩,trivial⟩
 | m+1=>zE_ok ⟨⟨pcalls_less (sp:=spSz encE szE bd2) (cZE m),spB_mono (spSz_mono _ _ _) _⟩,trivial⟩
structure Pr where
 types:List Ty
 rels:List Re
 rules:List Ru
end Go.PM.Lex
end

section
set_option maxRecDepth 100000
namespace Go.PM.Lex
end Go.PM.Lex
end

section
set_option maxRecDepth 100000
namespace Go.PM.Lex
theorem dN_low {len len' b0 b1 b2 b3 b1' b2' b3':Nat} (hl:len≤len') (h1:1<len→b1'=b1) (h1':¬1<len→b1'<128) (h2:2<len→b2'=b2) (h2':1<len→¬2<len→b2'<128) (h3:3<len→b3'=b3) (h3':2<len→¬3<len→b3'<128) :
  Lib.decodeN len' b0 b1' b2' b3'=Lib.decodeN len b0 b1 b2 b3:=by
 unfold Lib.decodeN
 by_cases c0:b0<128
 ·rw [if_pos c0,if_pos c0]
 rw [if_neg c0,if_neg c0]
 by_cases l1:1<len
 ·have e1:=h1 l1;subst e1
  have g1:1<len':=by omega
  by_cases l2:2<len
  ·have e2:=h2 l2;subst e2
   have g2:2<len':=by omega
   by_cases l3:3<len
   ·have e3:=h3 l3;subst e3
    have g3:3<len':=by omega
    simp only [l1,l2,l3,g1,g2,g3,true_and]
   ·have:=h3' l2 l3
    have k:¬b3' / 64=2:=by omega
    simp only [l1,l2,l3,g1,g2,k,true_and,false_and,and_false,if_false]
  ·have:=h2' l1 l2
   have k:¬b2' / 64=2:=by omega
   simp only [l1,l2,g1,k,true_and,false_and,and_false,if_false]
 ·have:=h1' l1
  have k:¬b1' / 64=2:=by omega
  simp only [l1,k,true_and,false_and,and_false,if_false]
theorem getD_app0 (x z:Bs) (c:UInt8) (k:Nat) (h:¬k<x.length) (h2:x.length=k):(x++c::z).getD k 0=c:=by
 simp only [List.getD_eq_getElem?_getD];rw [List.getElem?_append_right (by omega),show k - x.length=0 by omega];rfl
theorem dec_lowapp {x z:Bs} {c:UInt8} (hx:x≠[]) (hc:c.toNat<128):Lib.decodeL (x++c::z)=Lib.decodeL x:=by
 have hpos:=List.length_pos_iff.2 hx
 rw [Lib.decodeL_N,Lib.decodeL_N,getD_app x _ 0 hpos]
 refine dN_low (by rw [List.length_append];omega) (fun h=>by rw [getD_app x _ 1 h]) (fun h=>?_) (fun h=>by rw [getD_app x _ 2 h]) (fun h h'=>?_) (fun h=>by rw [getD_app x _ 3 h]) (fun h h'=>?_)
 ·rw [getD_app0 x z c 1 h (by omega)];exact hc
 ·rw [getD_app0 x z c 2 h' (by omega)];exact hc
 ·rw [getD_app0 x z c 3 h' (by omega)];exact hc
theorem pk_lowapp {x z:Bs} {c:UInt8} (hx:x≠[]) (hc:c.toNat<128):pk (x++c::z)=pk x:=by
 unfold pk
 rw [dec_lowapp hx hc]
 by_cases g:Lib.decodeL x=(65533,1)
 ·rw [if_pos (.inr g),if_pos (.inr g)]
 ·rw [if_neg (by simp [g]),if_neg (by simp [hx,g])]
theorem pk_low1 {z:Bs} {c:UInt8} (hc:c.toNat<128):pk (c::z)=((c.toNat:Int),1):=by
 have e:Lib.decodeL (c::z)=(c.toNat,1):=by
  rw [Lib.decodeL_N];unfold Lib.decodeN;rw [if_pos (by simpa using hc)];simp
 unfold pk
 rw [e,if_neg (by simp;omega)]
structure Fol (c:UInt8) (z:Bs):Prop where
 low:c.toNat<128
 let':isLetter c.toNat=false
 dig:isDigit c.toNat=false
 dot:c=46→isLetter (pk z).1=false
theorem Fol.pk {c:UInt8} {z:Bs} (h:Fol c z):Lex.pk (c::z)=((c.toNat:Int),1):=pk_low1 h.low
theorem nameGo_fol {c:UInt8} {z:Bs} (h:Fol c z):∀(f:Nat),nameGo f (c::z)=0
 | 0=>rfl
 | f+1=>by
  by_cases h46:(Lex.pk (c::z)).1=46
  ·refine nameGo_dotend h46 ?_
   rw [h.pk] at h46
   have:c=46:=by
    have h46:(c.toNat:Int)=46:=h46
    exact UInt8.toNat_inj.1 (show c.toNat=(46:UInt8).toNat by have:(46:UInt8).toNat=46:=rfl;omega)
   exact h.dot this
  ·exact nameGo_end h46 (by rw [h.pk];exact h.let') (by rw [h.pk];exact h.dig)
theorem nameGo_more {c:UInt8} {z:Bs} (h:Fol c z):∀(f:Nat) (x:Bs),x.length<f→∀f',(x++c::z).length<f'→nameGo f' (x++c::z)=nameGo f x
 | 0,x,hx,f',hf=>by omega
 | f+1,x,hx,0,hf=>by omega
 | f+1,x,hx,f'+1,hf=>by
  by_cases hnil:x=[]
  ·subst hnil
   rw [List.nil_append,nameGo_fol h,nameGo_nil]
  ·have hpk:=pk_lowapp (z:=z) hnil h.low
   rw [List.length_append] at hf
   have step:∀(hne:(Lex.pk x).1≠-1),(x++c::z).drop (Lex.pk x).2=x.drop (Lex.pk x).2++c::z∧nameGo f' (x.drop (Lex.pk x).2++c::z)=nameGo f (x.drop (Lex.pk x).2):=fun hne=>by
    obtain ⟨h1,h2,h3⟩:=pk_le x hne
    exact ⟨List.drop_append_of_le_length h2,nameGo_more h f _ (by rw [List.length_drop];omega) f' (by rw [List.length_append,List.length_drop];omega)⟩
   by_cases h1:(Lex.pk x).1=46
   ·have hlow:=pk_low x (by omega) (by omega)
    have hlet:isLetter (Lex.pk ((x++c::z).drop 1)).1=isLetter (Lex.pk (x.drop 1)).1:=by
     rw [List.drop_append_of_le_length hlow.1]
     by_cases hd:x.drop 1=[]
     ·rw [hd,List.nil_append,h.pk,pk_nil];rw [h.let'];rfl
     ·rw [pk_lowapp hd h.low]
    obtain ⟨s1,s2⟩:=step (by omega)
    by_cases h2:isLetter (Lex.pk (x.drop 1)).1=true
    ·rw [nameGo_dot h1 h2,nameGo_dot (by rw [hpk];exact h1) (by rw [hlet];exact h2),hpk,s1,s2]
    ·have h2:isLetter (Lex.pk (x.drop 1)).1=false:=by simpa using h2
     rw [nameGo_dotend h1 h2,nameGo_dotend (by rw [hpk];exact h1) (by rw [hlet];exact h2)]
   ·by_cases h2:isLetter (Lex.pk x).1=true∨isDigit (Lex.pk x).1=true
    ·obtain ⟨s1,s2⟩:=step (letter_ne h2)
     rw [nameGo_on h1 h2,nameGo_on (by rw [hpk];exact h1) (by rw [hpk];exact h2),hpk,s1,s2]
    ·simp only [not_or,Bool.not_eq_true] at h2
     rw [nameGo_end h1 h2.1 h2.2,nameGo_end (by rw [hpk];exact h1) (by rw [hpk];exact h2.1) (by rw [hpk];exact h2.2)]
theorem takeWhile_app (p:UInt8→Bool) {c:UInt8} (z:Bs) (hc:p c=false):∀l:Bs,(l++c::z).takeWhile p=l.takeWhile p
 | []=>by simp [List.takeWhile_cons,hc]
 | b::l=>by
  by_cases hb:p b=true
  ·simp only [List.cons_append,List.takeWhile_cons,hb,if_true,takeWhile_app p z hc l]
  ·simp [List.takeWhile_cons,hb]
theorem hasPrefix_low {x z:Bs} {a b c:UInt8} (hx:x≠[]) (hb:b≠c):Lib.hasPrefix (x++c::z) [a,b]=Lib.hasPrefix x [a,b]:=by
 match x,hx with
 | [d],_ =>
  have:(b == c)=false:=by simpa using hb
  simp [Lib.hasPrefix,List.isPrefixOf,this]
 | d::e::l,_=>simp [Lib.hasPrefix,List.isPrefixOf]
theorem digB_of {c:UInt8} {z:Bs} (h:Fol c z) (hex:Bool):digB hex c=false:=by
 have h1:=h.let'
 have h2:=h.dig
 unfold digB
 rw [h2,Bool.false_or]
 cases hex with
 | false=>rfl
 | true =>
  simp only [isLetter,decide_eq_false_iff_not,not_or] at h1
  simp only [Bool.true_and,decide_eq_false_iff_not,not_or]
  omega
theorem number_more {x z:Bs} {c:UInt8} (hx:x≠[]) (h:Fol c z):numberF (x++c::z)=numberF x∧numLen (x++c::z)=numLen x:=by
 have h120:(120:UInt8)≠c:=fun g=>by
  have:=h.let'
  rw [← g] at this;revert this;decide
 have hh:isHex (x++c::z)=isHex x:=hasPrefix_low hx h120
 have hk:(if isHex x=true then 2 else 0)≤x.length:=by
  split
  ·rename_i g;exact (hasPrefix_two g).1
  ·omega
 have hd:numDigits (x++c::z)=numDigits x:=by
  unfold numDigits
  rw [hh,List.drop_append_of_le_length hk,takeWhile_app _ _ (digB_of h _)]
 have hl:numLen (x++c::z)=numLen x:=by unfold numLen;rw [hh,hd]
 refine ⟨?_,hl⟩
 have hle:=numLen_le x
 have hp:∀p:Int→Bool,p (-1)=false→p c.toNat=false→p (Lex.pk ((x++c::z).drop (numLen x))).1=p (Lex.pk (x.drop (numLen x))).1:=fun p h1 h2=>by
  rw [List.drop_append_of_le_length hle]
  by_cases hn:x.drop (numLen x)=[]
  ·rw [hn,List.nil_append,h.pk,pk_nil]
   show p (c.toNat:Int)=p (-1)
   rw [h1,h2]
  ·rw [pk_lowapp hn h.low]
 unfold numberF
 rw [hd,hl,hh,hp isLetter (by decide) h.let',hp isDigit (by decide) h.dig]
theorem next_more {r z:Bs} {c:UInt8} {a:Nat} {room:Bool} {t:Tok} (hr:r≠[]) (hc:Fol c z) (hs:signF (r++c::z)=signF r) (h:nextF a r room=.tok t):nextF a (r++c::z) room=.tok t:=by
 have hpos:=List.length_pos_iff.2 hr
 have hpk:=pk_lowapp (z:=z) hr hc.low
 rw [nextF_eq] at h ⊢
 rw [hs,hpk]
 split at h
 ·cases h
 ·rename_i g0
  rw [if_neg g0]
  split at h
  ·cases h
  ·rename_i gr
   rw [if_neg gr]
   split at h
   ·rename_i g1
    have:=(sign_le r hpos).1
    rw [if_pos g1,List.take_append_of_le_length this];exact h
   ·rename_i g1
    rw [if_neg g1]
    split at h
    ·rename_i g2
     rw [if_pos g2]
     unfold textR at h ⊢
     split at h
     ·cases h
     ·rename_i tx l ht
      have ht':textF (r++c::z)=.ok tx l:=by
       unfold textF at ht ⊢
       rw [List.drop_append_of_le_length hpos]
       exact textGo_ext _ _ _ _ _ _ _ ht _ (by rw [List.length_drop,List.length_append];omega)
      rw [ht'];exact h
    ·rename_i g2
     rw [if_neg g2]
     split at h
     ·rename_i g3
      rw [if_pos g3]
      obtain ⟨n1,n2⟩:=number_more hr hc
      unfold numberR at h ⊢
      rw [n1,n2];exact h
     ·rename_i g3
      rw [if_neg g3]
      have hn:nameF (r++c::z)=nameF r:=nameGo_more hc _ r (by omega) _ (by omega)
      have hle:nameF r≤r.length:=nameGo_le _ _
      rw [hn,List.take_append_of_le_length hle];exact h
theorem blankGo_fuel:∀(f f':Nat) (r:Bs),r.length<f→r.length<f'→blankGo f r=blankGo f' r
 | 0,f',r,h,h'=>by omega
 | f+1,0,r,h,h'=>by omega
 | f+1,f'+1,r,h,h'=>by
  have hle:=trim_le r
  cases h1:Lib.hasPrefix (Lib.trimLeftS r ws) [47,47] with
  | true =>
   have hl2:=(hasPrefix_two h1).1
   have h22:=indexByte_two (c:=10) h1 (by decide) (by decide)
   rw [blankGo_line h1 _ rfl,blankGo_line h1 _ rfl]
   rw [blankGo_fuel f f' _ (by rw [List.length_drop];split <;> omega) (by rw [List.length_drop];split <;> omega)]
  | false =>
   cases h2:Lib.hasPrefix (Lib.trimLeftS r ws) [47,42] with
   | true =>
    have hl2:=(hasPrefix_two h2).1
    by_cases h3:Lib.index ((Lib.trimLeftS r ws).drop 2) [42,47]<0
    ·rw [blankGo_open h1 h2 h3,blankGo_open h1 h2 h3]
    ·have hi:Lib.index ((Lib.trimLeftS r ws).drop 2) [42,47]=((Lib.index ((Lib.trimLeftS r ws).drop 2) [42,47]).toNat:Nat):=by omega
     rw [blankGo_rem h1 h2 _ hi,blankGo_rem h1 h2 _ hi,blankGo_fuel f f' _ (by rw [List.length_drop];omega) (by rw [List.length_drop];omega)]
   | false=>rw [blankGo_end h1 h2,blankGo_end h1 h2]
theorem blankF_at {f:Nat} {r:Bs} (h:r.length<f):blankGo f r=blankF r:=blankGo_fuel _ _ r h (by omega)
theorem trim_app0 (r y:Bs) (h:Lib.trimLeftS r ws=[]):Lib.trimLeftS (r++y) ws=Lib.trimLeftS y ws:=by
 induction r with
 | nil=>rfl
 | cons b r ih =>
  unfold Lib.trimLeftS at *
  by_cases hb:ws.contains b=true
  ·simp only [List.cons_append,List.dropWhile_cons,hb,if_true] at h ⊢;exact ih h
  ·rw [List.dropWhile_cons,if_neg hb] at h;cases h
theorem blank_shift {r y:Bs} (h:Lib.trimLeftS r ws=[]):blankF (r++y)=((blankF y).1,r.length+(blankF y).2):=by
 have ht:=trim_app0 r y h
 have hle:=trim_le y
 obtain ⟨f,hf⟩:∃f,(r++y).length+1=f+1:=⟨_,rfl⟩
 rw [← blankF_at (f:=(r++y).length+1) (r:=y) (by rw [List.length_append];omega)]
 unfold blankF
 rw [hf]
 have hlen:(r++y).length=r.length+y.length:=List.length_append
 cases h1:Lib.hasPrefix (Lib.trimLeftS y ws) [47,47] with
 | true =>
  rw [blankGo_line (r:=r++y) (by rw [ht];exact h1) _ rfl,blankGo_line h1 _ rfl,ht]
  refine Prod.ext rfl ?_
  simp only;omega
 | false =>
  cases h2:Lib.hasPrefix (Lib.trimLeftS y ws) [47,42] with
  | false =>
   rw [blankGo_end (r:=r++y) (by rw [ht];exact h1) (by rw [ht];exact h2),blankGo_end h1 h2,ht]
   refine Prod.ext rfl ?_
   simp only;omega
  | true =>
   by_cases h3:Lib.index ((Lib.trimLeftS y ws).drop 2) [42,47]<0
   ·rw [blankGo_open (r:=r++y) (by rw [ht];exact h1) (by rw [ht];exact h2) (by rw [ht];exact h3),blankGo_open h1 h2 h3,ht]
    refine Prod.ext rfl ?_
    simp only;omega
   ·have hi:Lib.index ((Lib.trimLeftS y ws).drop 2) [42,47]=((Lib.index ((Lib.trimLeftS y ws).drop 2) [42,47]).toNat:Nat):=by omega
    rw [blankGo_rem (r:=r++y) (by rw [ht];exact h1) (by rw [ht];exact h2) _ (by rw [ht];exact hi),blankGo_rem h1 h2 _ hi,ht]
    refine Prod.ext rfl ?_
    simp only;omega
end Go.PM.Lex
end

section
set_option maxRecDepth 100000
namespace Go.PM.Lex
end Go.PM.Lex
end

section
set_option maxRecDepth 100000
set_option maxHeartbeats 4000000
namespace Go.PM.Lex
open Go.Proofs
abbrev Fit {α:Type} (sz:α→Nat) (P:Ts→R α):Prop:=∀ts v ts',P ts=.ok v ts'→sz v+4 * ts'.length≤4 * ts.length
theorem tl_len {ts:Ts} {ws:List Bs} (h:isW ts ws=true):ts.tail.length+1=ts.length:=by obtain ⟨t,l,rfl⟩:=isW_pos h;rfl
theorem nm_len {ts:Ts} (h:namedF ts=true):ts.tail.length+1=ts.length:=by
 cases ts with
 | nil=>exact absurd rfl (namedF_ne h)
 | cons t l=>rfl
theorem must_fit {w:Bs} {ts ts':Ts} {u:Unit} (h:mustF w ts=.ok u ts'):ts'.length+1=ts.length:=by
 unfold mustF at h
 split at h
 ·rename_i hc;cases h;exact tl_len hc
 ·cases h
theorem name_fit {ts ts':Ts} {v:Bs} (h:nameP ts=.ok v ts'):ts'.length+1=ts.length:=by
 unfold nameP at h
 split at h
 ·rename_i hc;cases h;exact nm_len hc
 ·cases h
theorem within_fit {α:Type} {d:Nat} {fr tw:Bs} {read:Ts→R α} {ts ts':Ts} {v:α} (h:withinF d fr tw read ts=.ok v ts'):∃t1,read ts.tail=.ok v t1∧ts.tail.length+1=ts.length∧ts'.length≤t1.length:=by
 unfold withinF at h
 split at h
 ·rename_i hc
  split at h
  ·cases h
  ·obtain ⟨a,t1,h1,h2⟩:=R.bind_of h
   split at h2
   ·cases h2;exact ⟨_,h1,tl_len hc,Nat.le_refl _⟩
   ·obtain ⟨u,t2,h3,h4⟩:=R.bind_of h2
    cases h4
    have:=must_fit h3
    exact ⟨_,h1,tl_len hc,by omega⟩
 ·cases h
theorem szS_snoc {α:Type} (f:α→Nat) (x:α):∀l:List α,szS f (l++[x])=szS f l+(1+f x)
 | []=>by simp only [List.nil_append,szS];omega
 | y::l=>by simp only [List.cons_append,szS,szS_snoc f x l];omega
theorem manyGo_fit {α:Type} {sz:α→Nat} {sign:Bs} {most:Nat} {st:Ts→Bool} {one:Ts→R α} (h1:Fit (fun x=>1+sz x) one):∀f l ts v ts',manyGo sign most st one f l ts=.ok v ts'→szS sz v+4 * ts'.length≤szS sz l+4 * ts.length
 | 0,_,_,_,_,h=>by cases h
 | f+1,l,ts,v,ts',h=>by
  rw [manyGo] at h
  split at h
  ·cases h
  ·obtain ⟨x,t1,h2,h3⟩:=R.bind_of h
   have k:=h1 _ _ _ h2
   dsimp only at k
   split at h3
   ·rename_i hc
    have k2:=manyGo_fit h1 f _ _ _ _ h3
    have k3:=tl_len hc
    rw [szS_snoc] at k2
    omega
   ·cases h3
    rw [szS_snoc]
    omega
theorem many_fit {α:Type} {sz:α→Nat} {sign:Bs} {most:Nat} {st:Ts→Bool} {one:Ts→R α} (h1:Fit (fun x=>1+sz x) one):Fit (szS sz) (manyF sign most st one):=fun ts v ts' h=>by
 have:=manyGo_fit h1 _ _ _ _ _ h
 simpa [szS] using this
abbrev FitE (P:Ts→R Ex):Prop:=Fit (fun v=>szE v+2) P
theorem fitE_ls {P:Ts→R Ex} (h:FitE P):Fit (fun v=>1+szE v) P:=fun ts v ts' e=>by have:=h _ _ _ e;dsimp only at this ⊢;omega
theorem args_fit {d:Nat} {ex:Ts→R Ex} (h:FitE ex) (fr tw:Bs) {ts ts':Ts} {v:List Ex} (e:argsF d ex fr tw ts=.ok v ts'):szS szE v+4+4 * ts'.length≤4 * ts.length:=by
 unfold argsF at e
 obtain ⟨t1,h1,h2,h3⟩:=within_fit e
 split at h1
 ·cases h1;simp only [szS];omega
 ·have:=many_fit (fitE_ls h) _ _ _ h1
  omega
theorem callGo_fit {ex:Ts→R Ex} (h:FitE ex):∀k l ts v ts',callGo ex k l ts=.ok v ts'→szS szE v+4 * ts'.length≤szS szE l+4 * ts.length
 | 0,l,ts,v,ts',e=>by cases e;exact Nat.le_refl _
 | k+1,l,ts,v,ts',e=>by
  obtain ⟨_,t1,h1,e⟩:=R.bind_of e
  obtain ⟨x,t2,h2,e⟩:=R.bind_of e
  have k2:=callGo_fit h k _ _ _ _ e
  have k1:=h _ _ _ h2
  dsimp only at k1
  rw [szS_snoc] at k2
  have:t1.length≤ts.length:=by
   split at h1
   ·cases h1;exact Nat.le_refl _
   ·have:=must_fit h1;omega
  omega
theorem starts_len {ts:Ts} (h:¬startsF ts=false):ts.tail.length+1=ts.length:=by
 cases ts with
 | nil=>exact absurd rfl h
 | cons t l=>rfl
theorem szE_mk (o:Nat) (t:Bs) (n:Int) (l:List Ex) (a:Nat):szE (.mk o t n l a)=1+szS szE l:=by rw [szE,szEs_eq]
theorem primary_fit {d:Nat} {ex:Ts→R Ex} (h:FitE ex):FitE (primaryF d ex):=fun ts v ts' e=>by
 unfold primaryF at e
 split at e
 ·cases e
 rename_i hs
 have hl:=starts_len hs
 split at e
 ·cases e;simp only [szE_mk,szS];omega
 split at e
 ·cases e;simp only [szE_mk,szS];omega
 split at e
 ·obtain ⟨t1,h1,h2,h3⟩:=within_fit e
  have:=h _ _ _ h1
  dsimp only at this ⊢
  omega
 split at e
 ·obtain ⟨l,t1,h1,e⟩:=R.bind_of e
  cases e
  have:=args_fit h _ _ h1
  simp only [szE_mk];omega
 split at e
 ·obtain ⟨l,t1,h1,e⟩:=R.bind_of e
  have:=name_fit h1
  split at e
  ·obtain ⟨l,t2,h2,e⟩:=R.bind_of e
   cases e
   have:=args_fit h _ _ h2
   simp only [szE_mk];omega
  ·cases e;simp only [szE_mk,szS];omega
 split at e
 ·obtain ⟨l,t1,h1,e⟩:=R.bind_of e
  obtain ⟨t2,h2,h3,h4⟩:=within_fit h1
  cases e
  have:=callGo_fit h _ _ _ _ _ h2
  simp only [szE_mk,szS] at *;omega
 split at e
 ·cases e;simp only [szE_mk,szS];omega
 split at e
 ·cases e;simp only [szE_mk,szS];omega
 ·cases e;simp only [szE_mk,szS];omega
theorem bin_len {ts:Ts} (h:¬(binF ts).1=0):ts.tail.length+1=ts.length:=by
 obtain ⟨t,l,rfl⟩:=bin_pos h;rfl
theorem lineGo_fit {sub:Nat→Ts→R Ex} (h:∀n,FitE (sub n)) (least:Nat):∀f e ts v ts',lineGo sub least f e ts=.ok v ts'→szE v+4 * ts'.length≤szE e+4 * ts.length
 | 0,_,_,_,_,k=>by cases k
 | f+1,e,ts,v,ts',k=>by
  rw [lineGo] at k
  split at k
  ·cases k;exact Nat.le_refl _
  ·rename_i hc
   obtain ⟨g,t1,h1,k⟩:=R.bind_of k
   have k1:=h _ _ _ _ h1
   have k2:=lineGo_fit h least f _ _ _ _ k
   have k3:=bin_len (fun e=>hc (.inr e))
   simp only [szE_mk,szS] at k2
   dsimp only at k1
   omega
theorem lineK_fit {sg:Ts→R Ex} (h:FitE sg):∀k least,FitE (lineK sg k least)
 | 0,least=>h
 | k+1,least=>fun ts v ts' e=>by
  obtain ⟨a,t1,h1,e⟩:=R.bind_of e
  have k1:=h _ _ _ h1
  have k2:=lineGo_fit (fun n=>lineK_fit h k n) _ _ _ _ _ _ e
  dsimp only at k1 ⊢
  omega
theorem signedF_fit {d:Nat} {sg:Ts→R Ex} (h:FitE sg):FitE (signedF d sg):=fun ts v ts' e=>by
 unfold signedF at e
 split at e
 ·obtain ⟨l,t1,h1,e⟩:=R.bind_of e
  obtain ⟨t2,h2,h3,h4⟩:=within_fit h1
  cases e
  have:=h _ _ _ h2
  simp only [szE_mk,szS] at *;omega
 split at e
 ·obtain ⟨l,t1,h1,e⟩:=R.bind_of e
  obtain ⟨t2,h2,h3,h4⟩:=within_fit h1
  cases e
  have:=h _ _ _ h2
  simp only [szE_mk,szS] at *;omega
 ·exact primary_fit (lineK_fit h 6 1) _ _ _ e
theorem signed_fit:∀d,FitE (signedD d)
 | 0=>signedF_fit fun _ _ _ e=>by cases e
 | d+1=>signedF_fit (signed_fit d)
theorem expr_fit (d:Nat):FitE (exprD d):=lineK_fit (signed_fit d) 6 1
theorem allS_er {α:Type} {er:α→α} {f:α→α→Bool}:∀(l m:List α),(∀x∈l,∀y,er x=er y→f x y=true)→l.map er=m.map er→allS f l m=true
 | [],[],_,_=>rfl
 | [],_::_,_,h=>by simp at h
 | _::_,[],_,h=>by simp at h
 | x::l,y::m,hf,h=>by
  simp only [List.map_cons,List.cons.injEq] at h
  rw [allS,hf x (List.mem_cons_self ..) y h.1,Bool.true_and]
  exact allS_er l m (fun z hz=>hf z (List.mem_cons_of_mem _ hz)) h.2
theorem sameE_er:∀(n:Nat) (x:Ex),szE x<n→∀y,erE x=erE y→sameE x y=true
 | 0,_,h,_,_=>by omega
 | n+1,.mk o1 t1 n1 l1 a1,hz,.mk o2 t2 n2 l2 a2,h=>by
  simp only [erE,erEs_eq,Ex.mk.injEq] at h
  obtain ⟨rfl,rfl,rfl,h,-⟩:=h
  rw [szE_mk] at hz
  have:allS sameE l1 l2=true:=allS_er l1 l2 (fun x hx y e=>by
   obtain ⟨i,hi,rfl⟩:=List.getElem_of_mem hx
   have:=szS_get szE l1 i hi
   exact sameE_er n _ (by omega) y e) h
  simp [sameE,sameEs_eq,this]
theorem sameE_of {x y:Ex} (h:erE x=erE y):sameE x y=true:=sameE_er _ x (Nat.lt_succ_self _) y h
end Go.PM.Lex
end

section
set_option maxRecDepth 100000
set_option maxHeartbeats 4000000
namespace Go.PM.Lex
open Go.Proofs
variable {w0:World} {nG:Nat}
end Go.PM.Lex
end

section
set_option maxRecDepth 100000
namespace Go.PM.Lex
def nmT (s:Bs):T0:=⟨1,s,0⟩
def sgT (s:Bs):T0:=⟨4,s,0⟩
def tailsK (sep:Bs):List Ts→Ts
 | []=>[]
 | x::l=>sgT sep::(x++tailsK sep l)
def commasK (sep:Bs):List Ts→Ts
 | []=>[]
 | x::l=>x++tailsK sep l
def parK (want:Nat) (p:Nat×Ts):Ts:=if p.1<want then sgT [40]::(p.2++[sgT [41]]) else p.2
def opT (op:Nat):T0:=if 15≤op∧op≤19 then nmT (wordF op) else sgT (wordF op)
def exAK (w1 w2:Nat) (mid:Ts):List (Nat×Ts)→Ts
 | []=>[]
 | [a]=>parK w1 a
 | a::b::_=>parK w1 a++(mid++parK w2 b)
def brK (fr fin:Bs) (ps:List Ts):Ts:=sgT fr::(commasK [44] ps++[sgT fin])
def exNK (op:Nat) (text:Bs) (n:Int) (ps:List (Nat×Ts)):Ts :=
 if lineF op<5 then exAK (lineF op) (lineF op+1) [opT op] ps
 else if lineF op=5 then sgT (wordF op)::exAK 5 5 [] ps
 else if wordF op≠[] then nmT (wordF op)::brK [40] [41] (ps.map Prod.snd)
 else if op=6 then brK [91] [93] (ps.map Prod.snd)
 else if op=7 then sgT [36]::nmT text::(if ps.length=0 then [] else brK [40] [41] (ps.map Prod.snd))
 else if op=3 then [⟨2,[],n⟩]
 else if op=4 then [⟨3,text,0⟩]
 else if op=5 then [nmT [110,105,108]]
 else if op=2 then [nmT [95]]
 else [nmT text]
mutual
def exK:Ex→Ts
 | .mk op text n args _=>exNK op text n (exKs args)
def exKs:List Ex→List (Nat×Ts)
 | []=>[]
 | e::l=>(lineF (opE e),exK e)::exKs l
end
theorem exKs_eq (l:List Ex):exKs l=l.map fun e=>(lineF (opE e),exK e):=by induction l with | nil=>rfl | cons x l ih=>simp [exKs,ih]
theorem exKs_snd (l:List Ex):(exKs l).map Prod.snd=l.map exK:=by rw [exKs_eq,List.map_map];rfl
theorem exKs_len (l:List Ex):(exKs l).length=l.length:=by rw [exKs_eq,List.length_map]
def exWK (want:Nat) (e:Ex):Ts:=parK want (lineF (opE e),exK e)
def Lim {α:Type} (x:R α):Prop:=∃p,x=.err p 3∨x=.err p 151
def Rd {α β:Type} (er:α→β) (v:α) (r:Ts) (x:R α):Prop:=(∃v',er v'=er v∧x=.ok v' r)∨Lim x
theorem Lim.bind {α β:Type} {x:R α} {f:α→Ts→R β} (h:Lim x):Lim (x.bind f):=by
 obtain ⟨p,rfl | rfl⟩:=h
 ·exact ⟨p,.inl rfl⟩
 ·exact ⟨p,.inr rfl⟩
theorem Rd.bind {α β γ δ:Type} {er:α→β} {er2:γ→δ} {v:α} {u:γ} {r s:Ts} {x:R α} {f:α→Ts→R γ} (h:Rd er v r x) (hf:∀v',er v'=er v→Rd er2 u s (f v' r)):Rd er2 u s (x.bind f):=by
 rcases h with ⟨v',e,rfl⟩ | h
 ·exact hf v' e
 ·exact .inr h.bind
theorem Rd.ok {α β:Type} {er:α→β} {v v':α} {r:Ts} (h:er v'=er v):Rd er v r (.ok v' r):=.inl ⟨v',h,rfl⟩
theorem Rd.id {α:Type} {v:α} {r:Ts}:Rd (fun x:α=>x) v r (.ok v r):=.inl ⟨v,rfl,rfl⟩
theorem Rd.lim {α β:Type} {er:α→β} {v:α} {r:Ts} {x:R α} (h:Lim x):Rd er v r x:=.inr h
theorem lim3 {α:Type} {p:Nat}:Lim (.err p 3:R α):=⟨p,.inl rfl⟩
theorem lim151 {α:Type} {p:Nat}:Lim (.err p 151:R α):=⟨p,.inr rfl⟩
theorem Rd.binds {α γ δ:Type} {er2:γ→δ} {v:α} {u:γ} {r s:Ts} {x:R α} {f:α→Ts→R γ} (h:Rd (fun x:α=>x) v r x) (hf:Rd er2 u s (f v r)):Rd er2 u s (x.bind f):=h.bind fun v' e=>by cases (show v'=v from e);exact hf
theorem isW_sg (w:Bs) (r:Ts):isW (sgT w::r) [w]=true:=by simp [isW,hd,sgT]
theorem must_sg (w:Bs) (r:Ts):mustF w (sgT w::r)=.ok () r:=by rw [mustF,if_pos (isW_sg w r)];rfl
theorem isW_off {t:T0} {w:Bs} (r:Ts) (h:t.text≠w):isW (t::r) [w]=false:=by
 simp only [isW,hd,List.contains_cons,List.contains_nil,Bool.or_false,Bool.and_eq_false_imp]
 exact fun _=>by simpa using h
theorem isW_kind {t:T0} {ws:List Bs} (r:Ts) (h:t.kind≠1∧t.kind≠4):isW (t::r) ws=false:=by simp [isW,hd,h.1,h.2]
structure Nx (r:Ts):Prop where
 par:isW r [[40]]=false
 bin:(binF r).1=0
def nxW:List Bs:=[[44],[41],[93],[46],[125],[61],[33,61],[60],[60,61],[62],[62,61],[58]]
theorem nx_sg {w:Bs} (hw:w∈nxW) (r:Ts):Nx (sgT w::r):=by
 have h:∀w∈nxW,isW [sgT w] [[40]]=false∧(binF [sgT w]).1=0:=by decide
 exact ⟨(h w hw).1,(h w hw).2⟩
theorem nx_nil:Nx []:=⟨rfl,rfl⟩
theorem within_read {α β:Type} {er:α→β} {d:Nat} {fr tw:Bs} {read:Ts→R α} {v:α} {ts r:Ts} (hto:tw≠[]) (h:d≠0→Rd er v (sgT tw::r) (read ts)):Rd er v r (withinF d fr tw read (sgT fr::ts)):=by
 unfold withinF
 rw [if_pos (isW_sg _ _)]
 by_cases hd:d=0
 ·rw [if_pos hd];exact .lim lim151
 ·rw [if_neg hd]
  refine (h hd).bind fun v' e=>?_
  rw [if_neg hto,must_sg,R.bind_ok]
  exact Rd.ok e
theorem within_read1 {α β:Type} {er:α→β} {d:Nat} {fr:Bs} {read:Ts→R α} {v:α} {ts r:Ts} (h:d≠0→Rd er v r (read ts)):Rd er v r (withinF d fr [] read (sgT fr::ts)):=by
 unfold withinF
 rw [if_pos (isW_sg _ _)]
 by_cases hd:d=0
 ·rw [if_pos hd];exact .lim lim151
 ·rw [if_neg hd]
  refine (h hd).bind fun v' e=>?_
  rw [if_pos rfl]
  exact Rd.ok e
theorem tails_len (sep:Bs):∀l:List Ts,l.length≤(tailsK sep l).length
 | []=>Nat.le_refl _
 | x::l=>by have:=tails_len sep l;simp only [tailsK,List.length_cons,List.length_append];omega
theorem many_read {α β:Type} {er:α→β} {sep:Bs} {most:Nat} {starts:Ts→Bool} {one:Ts→R α} {K:α→Ts} (Ok:Ts→Prop) {r:Ts} (hsep:∀t,Ok (sgT sep::t)) (hr:Ok r) (hrs:isW r [sep]=false) :
  ∀(xs:List α) (x:α) (f:Nat) (acc acc':List α),(∀y∈x::xs,∀t,Ok t→Rd er y t (one (K y++t)))→xs.length<f→acc'.map er=acc.map er →
   Rd (List.map er) (acc++x::xs) r (manyGo sep most starts one f acc' (K x++(tailsK sep (xs.map K)++r)))
 | xs,x,0,acc,acc',h,hf,ha=>by omega
 | [],x,f+1,acc,acc',h,hf,ha=>by
  rw [manyGo]
  split
  ·exact .lim lim3
  ·simp only [List.map_nil,tailsK,List.nil_append]
   refine (h x (by simp) r hr).bind fun v' e=>?_
   rw [if_neg (by rw [hrs];simp)]
   exact Rd.ok (by simp [ha,e])
 | y::ys,x,f+1,acc,acc',h,hf,ha=>by
  rw [manyGo]
  split
  ·exact .lim lim3
  ·simp only [List.map_cons,tailsK,List.cons_append,List.append_assoc]
   refine (h x (by simp) _ (hsep _)).bind fun v' e=>?_
   rw [if_pos (isW_sg _ _)]
   have ih:=many_read (most:=most) (starts:=starts) Ok hsep hr hrs ys y f (acc++[x]) (acc'++[v']) (fun z hz=>h z (List.mem_cons_of_mem _ hz)) (by simpa using hf) (by simp [ha,e])
   rw [List.append_assoc] at ih
   exact ih
theorem manyF_read {α β:Type} {er:α→β} {sep:Bs} {most:Nat} {starts:Ts→Bool} {one:Ts→R α} {K:α→Ts} (Ok:Ts→Prop) {r:Ts} (hsep:∀t,Ok (sgT sep::t)) (hr:Ok r) (hrs:isW r [sep]=false) {xs:List α} (hne:xs≠[])
  (h:∀y∈xs,∀t,Ok t→Rd er y t (one (K y++t))):Rd (List.map er) xs r (manyF sep most starts one (commasK sep (xs.map K)++r)):=by
 match xs,hne,h with
 | x::xs,_,h =>
  have ht:=tails_len sep (xs.map K)
  rw [List.length_map] at ht
  simp only [List.map_cons,commasK,List.append_assoc]
  exact many_read Ok hsep hr hrs xs x _ [] [] h (by simp only [List.length_append];omega) rfl
theorem call_read {ex:Ts→R Ex} {r:Ts} (hr:Nx r):∀(xs acc acc':List Ex),acc'≠[]→(∀y∈xs,∀t,Nx t→Rd erE y t (ex (exK y++t)))→acc'.map erE=acc.map erE→Rd (List.map erE) (acc++xs) r (callGo ex xs.length acc' (tailsK [44] (xs.map exK)++r))
 | [],acc,acc',hn,h,ha=>by rw [List.length_nil,callGo];exact Rd.ok (by simp [ha])
 | y::ys,acc,acc',hn,h,ha=>by
  rw [List.length_cons,callGo,if_neg hn]
  simp only [List.map_cons,tailsK,List.cons_append,List.append_assoc,must_sg,R.bind_ok]
  have hnx:Nx (tailsK [44] (ys.map exK)++r):=by
   cases ys with
   | nil=>exact hr
   | cons z zs=>exact nx_sg (by decide) _
  refine (h y (by simp) _ hnx).bind fun v' e=>?_
  have ih:=call_read hr ys (acc++[y]) (acc'++[v']) (by simp) (fun z hz=>h z (List.mem_cons_of_mem _ hz)) (by simp [ha,e])
  rw [List.append_assoc] at ih
  exact ih
theorem callF_read {ex:Ts→R Ex} {r:Ts} (hr:Nx r) {xs:List Ex} (hne:xs≠[]) (h:∀y∈xs,∀t,Nx t→Rd erE y t (ex (exK y++t))):Rd (List.map erE) xs r (callGo ex xs.length [] (commasK [44] (xs.map exK)++r)):=by
 match xs,hne,h with
 | x::xs,_,h =>
  rw [List.length_cons,callGo,if_pos rfl,R.bind_ok]
  simp only [List.map_cons,commasK,List.append_assoc]
  have hnx:Nx (tailsK [44] (xs.map exK)++r):=by
   cases xs with
   | nil=>exact hr
   | cons z zs=>exact nx_sg (by decide) _
  refine (h x (by simp) _ hnx).bind fun v' e=>?_
  exact call_read hr xs [x] ([]++[v']) (by simp) (fun z hz=>h z (List.mem_cons_of_mem _ hz)) (by simp [e])
theorem mayE_mk {op:Nat} {t:Bs} {n:Int} {l:List Ex} {a:Nat} (h:mayE (.mk op t n l a)=true):-2<argsN op∧(argsN op<0∨(l.length:Int)=argsN op)∧(n=0∨op=3)∧textB op t=true∧∀x∈l,mayE x=true:=by
 simp only [mayE,mayEs_eq,Bool.and_eq_true,Bool.or_eq_true,decide_eq_true_eq] at h
 obtain ⟨h1,h2,h3,h4,h5⟩:=h
 exact ⟨h1,h2,h3,h4,List.all_eq_true.1 h5⟩
theorem op_lt {op:Nat} (h:-2<argsN op):op<26:=by
 by_cases hc:op<26
 ·exact hc
 ·unfold argsN at h
  (repeat rw [if_neg (by omega)] at h)
  omega
theorem op_facts {op:Nat} (h:-2<argsN op):(lineF op<5→argsN op=2∧binF [opT op]=(lineF op+1,op)∧isW [opT op] [[40]]=false∧op≠1∧op≠7∧op≠4∧op≠3)∧(lineF op=5→argsN op=1∧(op=8∨op=9))∧lineF op≤6 ∧
  (lineF op=6→wordF op≠[]→functorF (wordF op)=op∧(arity op:Int)=argsN op∧op≠0∧keptF (wordF op)=true∧op≠1∧op≠7∧op≠4∧op≠3) ∧
  (lineF op=6→wordF op=[]→op=1∨op=2∨op=3∨op=4∨op=5∨op=6∨op=7):=by
 have h1:∀o:Fin 26,-2<argsN o.val→lineF o.val<5→argsN o.val=2∧binF [opT o.val]=(lineF o.val+1,o.val)∧isW [opT o.val] [[40]]=false∧o.val≠1∧o.val≠7∧o.val≠4∧o.val≠3:=by decide +kernel
 have h2:∀o:Fin 26,-2<argsN o.val→lineF o.val=5→argsN o.val=1∧(o.val=8∨o.val=9):=by decide +kernel
 have h3:∀o:Fin 26,-2<argsN o.val→lineF o.val≤6:=by decide +kernel
 have h4:∀o:Fin 26,-2<argsN o.val→lineF o.val=6→wordF o.val≠[]→functorF (wordF o.val)=o.val∧(arity o.val:Int)=argsN o.val∧o.val≠0∧keptF (wordF o.val)=true:=by decide +kernel
 have h6:∀o:Fin 26,-2<argsN o.val→lineF o.val=6→wordF o.val≠[]→o.val≠1∧o.val≠7∧o.val≠4∧o.val≠3:=by decide +kernel
 have h5:∀o:Fin 26,-2<argsN o.val→lineF o.val=6→wordF o.val=[]→o.val=1∨o.val=2∨o.val=3∨o.val=4∨o.val=5∨o.val=6∨o.val=7:=by decide +kernel
 obtain ⟨o,ho⟩:∃o:Fin 26,o.val=op:=⟨⟨op,op_lt h⟩,rfl⟩
 subst ho
 exact ⟨h1 o h,h2 o h,h3 o h,fun a b=>by obtain ⟨p,q,r,s⟩:=h4 o h a b;exact ⟨p,q,r,s,h6 o h a b⟩,h5 o h⟩
theorem text_nil {op:Nat} {t:Bs} (h:textB op t=true) (h1:op≠1) (h7:op≠7) (h4:op≠4):t=[]:=by
 unfold textB at h
 rw [if_neg (by omega),if_neg h4] at h
 exact of_decide_eq_true h
theorem text_nam {op:Nat} {t:Bs} (h:textB op t=true) (h1:op=1∨op=7):namB t=true:=by
 unfold textB at h
 rwa [if_pos h1] at h
def signs5:List Bs:=[[45],[126],[40],[91],[36]]
def words8:List Bs:=[[110,105,108],[95],[99,97,116],[115,116,114,108,101,110],[115,117,98,115,116,114],[99,111,100,101],[115,116,114],[110,117,109]]
def Fst (t:T0):Prop:=t.kind=2∨t.kind=3∨(t.kind=4∧t.text∈signs5)∨(t.kind=1∧t.text∈words8)∨(t.kind=1∧namB t.text=true)
theorem fun_words {op:Nat} (h:-2<argsN op) (h6:lineF op=6) (hw:wordF op≠[]):wordF op∈words8:=by
 have hk:∀o:Fin 26,-2<argsN o.val→lineF o.val=6→wordF o.val≠[]→wordF o.val∈words8:=by decide +kernel
 exact hk ⟨op,op_lt h⟩ h h6 hw
theorem exK_mk (op:Nat) (t:Bs) (n:Int) (l:List Ex) (a:Nat):exK (.mk op t n l a)=exNK op t n (exKs l):=by rw [exK]
theorem two_of {l:List Ex} (h:l.length=2):∃a b,l=[a,b]:=by match l,h with | [a,b],_=>exact ⟨a,b,rfl⟩
theorem one_of {l:List Ex} (h:l.length=1):∃a,l=[a]:=by match l,h with | [a],_=>exact ⟨a,rfl⟩
theorem sz_lt {op:Nat} {t:Bs} {n:Int} {l:List Ex} {a:Nat} {k:Nat} (h:SizeOf.sizeOf (Ex.mk op t n l a)<k+1) {x:Ex} (hx:x∈l):SizeOf.sizeOf x<k:=by
 have:=List.sizeOf_lt_of_mem hx
 simp only [Ex.mk.sizeOf_spec] at h
 omega
theorem exK_bin {op:Nat} {t:Bs} {n:Int} {x y:Ex} {a:Nat} (h:lineF op<5):exK (.mk op t n [x,y] a)=exWK (lineF op) x++(opT op::exWK (lineF op+1) y):=by
 rw [exK_mk,exNK,if_pos h];rfl
theorem exK_un {op:Nat} {t:Bs} {n:Int} {x:Ex} {a:Nat} (h:lineF op=5):exK (.mk op t n [x] a)=sgT (wordF op)::exWK 5 x:=by
 rw [exK_mk,exNK,if_neg (by omega),if_pos h];rfl
theorem exK_fun {op:Nat} {t:Bs} {n:Int} {l:List Ex} {a:Nat} (h:lineF op=6) (hw:wordF op≠[]):exK (.mk op t n l a)=nmT (wordF op)::brK [40] [41] (l.map exK):=by
 rw [exK_mk,exNK,if_neg (by omega),if_neg (by omega),if_pos hw,exKs_snd]
theorem exK_6 {t:Bs} {n:Int} {l:List Ex} {a:Nat}:exK (.mk 6 t n l a)=brK [91] [93] (l.map exK):=by
 rw [exK_mk,exNK,if_neg (by decide),if_neg (by decide),if_neg (by decide),if_pos rfl,exKs_snd]
theorem exK_7 {t:Bs} {n:Int} {l:List Ex} {a:Nat}:exK (.mk 7 t n l a)=sgT [36]::nmT t::(if l.length=0 then [] else brK [40] [41] (l.map exK)):=by
 rw [exK_mk,exNK,if_neg (by decide),if_neg (by decide),if_neg (by decide),if_neg (by decide),if_pos rfl,exKs_snd,exKs_len]
theorem exK_3 {t:Bs} {n:Int} {l:List Ex} {a:Nat}:exK (.mk 3 t n l a)=[⟨2,[],n⟩]:=by
 rw [exK_mk,exNK,if_neg (by decide),if_neg (by decide),if_neg (by decide),if_neg (by decide),if_neg (by decide),if_pos rfl]
theorem exK_4 {t:Bs} {n:Int} {l:List Ex} {a:Nat}:exK (.mk 4 t n l a)=[⟨3,t,0⟩]:=by
 rw [exK_mk,exNK,if_neg (by decide),if_neg (by decide),if_neg (by decide),if_neg (by decide),if_neg (by decide),if_neg (by decide),if_pos rfl]
theorem exK_5 {t:Bs} {n:Int} {l:List Ex} {a:Nat}:exK (.mk 5 t n l a)=[nmT [110,105,108]]:=by
 rw [exK_mk,exNK,if_neg (by decide),if_neg (by decide),if_neg (by decide),if_neg (by decide),if_neg (by decide),if_neg (by decide),if_neg (by decide),if_pos rfl]
theorem exK_2 {t:Bs} {n:Int} {l:List Ex} {a:Nat}:exK (.mk 2 t n l a)=[nmT [95]]:=by
 rw [exK_mk,exNK,if_neg (by decide),if_neg (by decide),if_neg (by decide),if_neg (by decide),if_neg (by decide),if_neg (by decide),if_neg (by decide),if_neg (by decide),if_pos rfl]
theorem exK_1 {t:Bs} {n:Int} {l:List Ex} {a:Nat}:exK (.mk 1 t n l a)=[nmT t]:=by
 rw [exK_mk,exNK,if_neg (by decide),if_neg (by decide),if_neg (by decide),if_neg (by decide),if_neg (by decide),if_neg (by decide),if_neg (by decide),if_neg (by decide),if_neg (by decide)]
theorem parK_fst {w:Nat} {p:Nat×Ts} {r:Ts} (h:∃t l,p.2=t::l∧Fst t):∃t l,parK w p++r=t::l∧Fst t:=by
 unfold parK
 split
 ·exact ⟨_,_,rfl,.inr (.inr (.inl ⟨rfl,by decide⟩))⟩
 ·obtain ⟨t,l,e,ht⟩:=h
  exact ⟨t,l++r,by rw [e];rfl,ht⟩
theorem exK_fst:∀(n:Nat) (e:Ex),SizeOf.sizeOf e<n→mayE e=true→∃t l,exK e=t::l∧Fst t
 | 0,e,h,_=>by omega
 | k+1,.mk op t n l a,h,hm=>by
  obtain ⟨m1,m2,m3,m4,m5⟩:=mayE_mk hm
  obtain ⟨f1,f2,f3,f4,f5⟩:=op_facts m1
  by_cases c1:lineF op<5
  ·obtain ⟨x,y,rfl⟩:=two_of (l:=l) (by have:=f1 c1;omega)
   rw [exK_bin c1]
   exact parK_fst (exK_fst k x (sz_lt h (by simp)) (m5 x (by simp)))
  by_cases c2:lineF op=5
  ·obtain ⟨x,rfl⟩:=one_of (l:=l) (by have:=f2 c2;omega)
   rw [exK_un c2]
   refine ⟨_,_,rfl,.inr (.inr (.inl ⟨rfl,?_⟩))⟩
   rcases (f2 c2).2 with rfl | rfl <;> decide
  have c3:lineF op=6:=by omega
  by_cases c4:wordF op≠[]
  ·rw [exK_fun c3 c4]
   exact ⟨_,_,rfl,.inr (.inr (.inr (.inl ⟨rfl,fun_words m1 c3 c4⟩)))⟩
  rcases f5 c3 (by simpa using c4) with rfl | rfl | rfl | rfl | rfl | rfl | rfl
  ·rw [exK_1];exact ⟨_,_,rfl,.inr (.inr (.inr (.inr ⟨rfl,text_nam m4 (.inl rfl)⟩)))⟩
  ·rw [exK_2];exact ⟨_,_,rfl,.inr (.inr (.inr (.inl ⟨rfl,by decide⟩)))⟩
  ·rw [exK_3];exact ⟨_,_,rfl,.inl rfl⟩
  ·rw [exK_4];exact ⟨_,_,rfl,.inr (.inl rfl)⟩
  ·rw [exK_5];exact ⟨_,_,rfl,.inr (.inr (.inr (.inl ⟨rfl,by decide⟩)))⟩
  ·rw [exK_6];exact ⟨_,_,rfl,.inr (.inr (.inl ⟨rfl,by decide⟩))⟩
  ·rw [exK_7];exact ⟨_,_,rfl,.inr (.inr (.inl ⟨rfl,by decide⟩))⟩
def notFst:List Bs:=[[41],[93],[33],[125],[99,111,117,110,116],[115,117,109],[109,105,110],[109,97,120],[44]]
theorem fst_isW {t:T0} (h:Fst t) {w:Bs} (hw:w∈notFst) (r:Ts):isW (t::r) [w]=false:=by
 have hs:∀w∈notFst,w∉signs5∧w∉words8∧namB w=false:=by decide +kernel
 obtain ⟨h1,h2,h3⟩:=hs w hw
 rcases h with h | h | ⟨h,g⟩ | ⟨h,g⟩ | ⟨h,g⟩
 ·exact isW_kind r ⟨by omega,by omega⟩
 ·exact isW_kind r ⟨by omega,by omega⟩
 ·exact isW_off r fun e=>h1 (e ▸ g)
 ·exact isW_off r fun e=>h2 (e ▸ g)
 ·exact isW_off r fun e=>by rw [e,h3] at g;cases g
theorem ex_isW {e:Ex} (he:mayE e=true) {w:Bs} (hw:w∈notFst) (r:Ts):isW (exK e++r) [w]=false:=by
 obtain ⟨t,l,e1,ht⟩:=exK_fst _ e (Nat.lt_succ_self _) he
 rw [e1];exact fst_isW ht hw _
end Go.PM.Lex
end

section
set_option maxRecDepth 100000
namespace Go.PM.Lex
def sgB:Nat→Ts→R Ex
 | 0=>fun _=>.err 0 150
 | d+1=>signedD d
theorem signedD_sgB (d:Nat):signedD d=signedF d (sgB d):=by cases d <;> rfl
def Ln (e:Ex) (r:Ts) (sub:Nat→Ts→R Ex) (least:Nat) (x:R Ex):Prop:=(∃f e',r.length<f∧erE e'=erE e∧x=lineGo sub least f e' r)∨Lim x
theorem ln_stop {e:Ex} {r:Ts} {sub:Nat→Ts→R Ex} {least:Nat} {x:R Ex} (h:Ln e r sub least x) (hb:(binF r).1<least∨(binF r).1=0):Rd erE e r x:=by
 rcases h with ⟨f,e',h1,h2,rfl⟩ | h
 ·obtain ⟨f,rfl⟩:∃k,f=k+1:=⟨f - 1,by omega⟩
  rw [lineGo,if_pos hb]
  exact Rd.ok h2
 ·exact .lim h
theorem ln_of {e:Ex} {r ts:Ts} {sg:Ts→R Ex} {k least:Nat} (h:Rd erE e r (sg ts)):Ln e r (lineK sg k) least (lineK sg (k+1) least ts):=by
 rw [lineK]
 rcases h with ⟨e',h1,h2⟩ | h
 ·rw [h2,R.bind_ok];exact .inl ⟨_,e',Nat.lt_succ_self _,h1,rfl⟩
 ·exact .inr h.bind
structure ExR (e:Ex):Prop where
 sg:∀d r,isW r [[40]]=false→Rd erE e r (signedD d (exWK 5 e++r))
 ln:∀d k w l r,w≤l→l≤5→6≤k+w→isW r [[40]]=false→(binF r).1<l+2→Ln e r (lineK (signedD d) (k - 1)) (w+1) (lineK (signedD d) k (w+1) (exWK l e++r))
theorem exWK_0 (e:Ex):exWK 0 e=exK e:=by rw [exWK,parK,if_neg (by simp)]
theorem ExR.full {e:Ex} (h:ExR e) (d:Nat) {r:Ts} (hr:Nx r):Rd erE e r (exprD d (exK e++r)):=by
 have:=h.ln d 6 0 0 r (by omega) (by omega) (by omega) hr.par (by have:=hr.bin;omega)
 rw [exWK_0] at this
 exact ln_stop this (.inr hr.bin)
theorem args_read {d:Nat} {ex:Ts→R Ex} {l:List Ex} {r:Ts} {fr tw:Bs} (hto:tw∈[[41],[93]]) (hm:∀x∈l,mayE x=true) (h:d≠0→∀x∈l,∀t,Nx t→Rd erE x t (ex (exK x++t))) :
  Rd (List.map erE) l r (argsF d ex fr tw (brK fr tw (l.map exK)++r)):=by
 have hk:∀tw∈[[41],[93]],tw≠[]∧tw∈nxW∧tw∈notFst∧tw≠[44]:=by decide
 obtain ⟨k1,k2,k3,k4⟩:=hk tw hto
 unfold argsF
 have e:brK fr tw (l.map exK)++r=sgT fr::(commasK [44] (l.map exK)++(sgT tw::r)):=by simp [brK]
 rw [e]
 refine within_read k1 fun hd=>?_
 cases l with
 | nil =>
  simp only [List.map_nil,commasK,List.nil_append]
  rw [if_pos (isW_sg _ _)]
  exact Rd.ok rfl
 | cons x xs =>
  have hx:isW (commasK [44] ((x::xs).map exK)++(sgT tw::r)) [tw]=false:=by
   simp only [List.map_cons,commasK,List.append_assoc]
   exact ex_isW (hm x (by simp)) k3 _
  rw [if_neg (by rw [hx];simp)]
  exact manyF_read Nx (fun t=>nx_sg (by decide) t) (nx_sg k2 r) (isW_off r (by simpa [sgT] using k4)) (by simp) fun y hy t ht=>h hd y hy t ht
theorem nm_isW {s:Bs} (h:namB s=true) {w:Bs} (hw:namB w=false) (r:Ts):isW (nmT s::r) [w]=false:=isW_off r fun e=>by
 have e:s=w:=e
 rw [e,hw] at h;cases h
theorem nam_split {s:Bs} (h:namB s=true):s≠[95]∧keptF s=false:=by
 simp only [namB,Bool.and_eq_true,Bool.not_eq_true',decide_eq_false_iff_not] at h
 exact h.2
theorem nm_named {s:Bs} (h:namB s=true) (r:Ts):namedF (nmT s::r)=true:=by
 obtain ⟨h1,h2⟩:=nam_split h
 simp [namedF,hd,nmT,h1,h2]
theorem name_read {s:Bs} (h:namB s=true) (r:Ts):nameP (nmT s::r)=.ok s r:=by
 rw [nameP,if_pos (nm_named h r)];rfl
theorem fun_zero {s:Bs} (h:namB s=true):functorF s=0:=by
 have:=(nam_split h).2
 simp only [keptF,Bool.or_eq_false_iff,decide_eq_false_iff_not,Decidable.not_not] at this
 exact this.2
theorem sg_notW:∀w∈[[45],[126],[40],[91],[36],[110,105,108]],namB w=false:=by decide +kernel
theorem signed_prim {d:Nat} {ts:Ts} (h1:isW ts [[45]]=false) (h2:isW ts [[126]]=false):signedD d ts=primaryF d (lineK (sgB d) 6 1) ts:=by
 rw [signedD_sgB,signedF,if_neg (by rw [h1];simp),if_neg (by rw [h2];simp)]
theorem exprD_of {d:Nat} (hd:d≠0):lineK (sgB d) 6 1=exprD (d - 1):=by
 obtain ⟨d,rfl⟩:∃k,d=k+1:=⟨d - 1,by omega⟩
 rfl
theorem er_mk (op:Nat) (t:Bs) (n:Int) (l:List Ex) (a:Nat):erE (.mk op t n l a)=.mk op t n (l.map erE) 0:=by rw [erE,erEs_eq]
theorem prim_cons (d:Nat) (ex:Ts→R Ex) (t:T0) (r:Ts):primaryF d ex (t::r) =
  if startsF [t]=false then .err (t::r).length 150
  else if t.kind=2 then .ok (.mk 3 [] t.n [] (t::r).length) r
  else if t.kind=3 then .ok (.mk 4 t.text 0 [] (t::r).length) r
  else if t.text=[40] then withinF d [40] [41] ex (t::r)
  else if t.text=[91] then (argsF d ex [91] [93] (t::r)).bind fun l ts'=>.ok (.mk 6 [] 0 l (t::r).length) ts'
  else if t.text=[36] then (nameP r).bind fun nm ts'=>if isW ts' [[40]]=true then (argsF d ex [40] [41] ts').bind fun l ts'=>.ok (.mk 7 nm 0 l (t::r).length) ts' else .ok (.mk 7 nm 0 [] (t::r).length) ts'
  else if functorF t.text≠0 then (withinF d [40] [41] (callGo ex (arity (functorF t.text)) []) r).bind fun l ts'=>.ok (.mk (functorF t.text) [] 0 l (t::r).length) ts'
  else if t.text=[110,105,108] then .ok (.mk 5 [] 0 [] (t::r).length) r
  else if t.text=[95] then .ok (.mk 2 [] 0 [] (t::r).length) r
  else .ok (.mk 1 t.text 0 [] (t::r).length) r:=rfl
theorem paren_read {e:Ex} {d:Nat} {r:Ts} (h:∀d r,Nx r→Rd erE e r (exprD d (exK e++r))):Rd erE e r (signedD d (sgT [40]::(exK e++(sgT [41]::r)))):=by
 rw [signed_prim (isW_off _ (by decide)) (isW_off _ (by decide)),prim_cons,if_neg (by decide),if_neg (by decide),if_neg (by decide),if_pos (show (sgT [40]).text=[40] from rfl)]
 refine within_read (by decide) fun hd=>?_
 rw [exprD_of hd]
 exact h _ _ (nx_sg (by decide) r)
theorem ex_read:∀(n:Nat) (e:Ex),SizeOf.sizeOf e<n→mayE e=true→ExR e
 | 0,e,h,_=>by omega
 | k+1,.mk op t n l a,h,hm=>by
  obtain ⟨m1,m2,m3,m4,m5⟩:=mayE_mk hm
  obtain ⟨f1,f2,f3,f4,f5⟩:=op_facts m1
  have ih:∀x∈l,ExR x:=fun x hx=>ex_read k x (sz_lt h hx) (m5 x hx)
  have fin:∀(hs:∀d r,isW r [[40]]=false→Rd erE (.mk op t n l a) r (signedD d (exWK 5 (.mk op t n l a)++r))),5≤lineF op→ExR (.mk op t n l a):=fun hs hl=>⟨hs,fun d q w z r hw hz hq hp hb=>by
   obtain ⟨q,rfl⟩:∃k,q=k+1:=⟨q - 1,by omega⟩
   have e:exWK z (.mk op t n l a)=exWK 5 (.mk op t n l a):=by
    rw [exWK,exWK,parK,parK,if_neg (by simp only [opE];omega),if_neg (by simp only [opE];omega)]
   rw [e]
   exact ln_of (hs d r hp)⟩
  have e5:5≤lineF op→exWK 5 (.mk op t n l a)=exK (.mk op t n l a):=fun h=>by
   rw [exWK,parK,if_neg (by simp only [opE];omega)]
  by_cases c1:lineF op<5
  ·obtain ⟨g1,g2,g3,g4,g5,g6,g7⟩:=f1 c1
   obtain ⟨x,y,rfl⟩:=two_of (l:=l) (by omega)
   obtain rfl:=text_nil m4 g4 g5 g6
   obtain rfl:n=0:=m3.resolve_right g7
   have rx:=ih x (by simp)
   have ry:=ih y (by simp)
   have bare:∀d q w r,w≤lineF op→6≤q+w→isW r [[40]]=false→(binF r).1<lineF op+2→Ln (.mk op [] 0 [x,y] a) r (lineK (signedD d) (q - 1)) (w+1) (lineK (signedD d) q (w+1) (exK (.mk op [] 0 [x,y] a)++r)):=fun d q w r hw hq hp hb=>by
    rw [exK_bin c1,List.append_assoc]
    have hx:=rx.ln d q w (lineF op) (opT op::(exWK (lineF op+1) y++r)) hw (by omega) hq g3 (by show (binF [opT op]).1<_;rw [g2];simp)
    rw [List.cons_append]
    rcases hx with ⟨f,x',q1,q2,q3⟩ | hx
    ·rw [q3]
     obtain ⟨f,rfl⟩:∃k,f=k+1:=⟨f - 1,by omega⟩
     have hbin:binF (opT op::(exWK (lineF op+1) y++r))=(lineF op+1,op):=g2
     rw [lineGo,hbin,if_neg (by simp only;omega)]
     have hy:=ry.ln d (q - 1) (lineF op+1) (lineF op+1) r (by omega) (by omega) (by omega) hp (by omega)
     have hy':=ln_stop hy (.inl (by omega))
     rcases hy' with ⟨y',s1,s2⟩ | hy'
     ·rw [show (opT op::(exWK (lineF op+1) y++r)).tail=exWK (lineF op+1) y++r from rfl]
      simp only
      rw [show lineF op+1+1=lineF op+2 from rfl] at s2 ⊢
      rw [s2,R.bind_ok]
      refine .inl ⟨f,_,?_,?_,rfl⟩
      ·simp only [List.length_cons,List.length_append] at q1;omega
      ·rw [er_mk,er_mk];simp [q2,s1]
     ·exact .inr hy'.bind
    ·exact .inr hx
   have full:∀d r,Nx r→Rd erE (.mk op [] 0 [x,y] a) r (exprD d (exK (.mk op [] 0 [x,y] a)++r)):=fun d r hr =>
    ln_stop (bare d 6 0 r (by omega) (by omega) hr.par (by have:=hr.bin;omega)) (.inr hr.bin)
   have hs:∀z,lineF op<z→∀d r,Rd erE (.mk op [] 0 [x,y] a) r (signedD d (exWK z (.mk op [] 0 [x,y] a)++r)):=fun z hz d r=>by
    rw [exWK,parK,if_pos (by simp only [opE];exact hz)]
    simp only [List.cons_append,List.append_assoc,List.nil_append]
    exact paren_read full
   refine ⟨fun d r _=>hs 5 c1 d r,fun d q w z r hw hz hq hp hb=>?_⟩
   by_cases c:lineF op<z
   ·obtain ⟨q,rfl⟩:∃k,q=k+1:=⟨q - 1,by omega⟩
    exact ln_of (hs z c d r)
   ·have e:exWK z (.mk op [] 0 [x,y] a)=exK (.mk op [] 0 [x,y] a):=by rw [exWK,parK,if_neg (by simp only [opE];exact c)]
    rw [e]
    exact bare d q w r (by omega) hq hp (by omega)
  by_cases c2:lineF op=5
  ·obtain ⟨g1,g2⟩:=f2 c2
   obtain ⟨x,rfl⟩:=one_of (l:=l) (by omega)
   obtain rfl:=text_nil m4 (by omega) (by omega) (by omega)
   obtain rfl:n=0:=m3.resolve_right (by omega)
   have rx:=ih x (by simp)
   refine fin (fun d r hp=>?_) (by omega)
   rw [e5 (by omega),exK_un c2,List.cons_append,signedD_sgB,signedF]
   have hx:∀w,Rd erE x r (withinF d w [] (sgB d) (sgT w::(exWK 5 x++r))):=fun w=>within_read1 fun hd=>by
    obtain ⟨d,rfl⟩:∃k,d=k+1:=⟨d - 1,by omega⟩
    exact rx.sg d r hp
   rcases g2 with rfl | rfl
   ·rw [show wordF 8=[45] from rfl,if_pos (isW_sg _ _)]
    refine (hx _).bind fun x' e=>Rd.ok ?_
    rw [er_mk,er_mk];simp [e]
   ·rw [show wordF 9=[126] from rfl,if_neg (by rw [isW_off _ (by decide)];simp),if_pos (isW_sg _ _)]
    refine (hx _).bind fun x' e=>Rd.ok ?_
    rw [er_mk,er_mk];simp [e]
  have c3:lineF op=6:=by omega
  refine fin (fun d r hp=>?_) (by omega)
  rw [e5 (by omega)]
  have full:d≠0→∀x∈l,∀t,Nx t→Rd erE x t (lineK (sgB d) 6 1 (exK x++t)):=fun hd x hx t ht=>by
   rw [exprD_of hd];exact (ih x hx).full _ ht
  by_cases c4:wordF op≠[]
  ·obtain ⟨g1,g2,g3,g4,g5,g6,g7,g8⟩:=f4 c3 c4
   obtain rfl:=text_nil m4 g5 g6 g7
   obtain rfl:n=0:=m3.resolve_right g8
   have hln:l.length=arity op:=by
    have:1≤arity op:=by unfold arity;split <;> (try split) <;> omega
    omega
   have hne:l≠[]:=fun e=>by
    have:1≤arity op:=by unfold arity;split <;> (try split) <;> omega
    rw [e] at hln;simp at hln;omega
   rw [exK_fun c3 c4,List.cons_append]
   have hw:∀w,namB w=false∨True:=fun _=>.inr trivial
   have hfun:∀o:Fin 26,-2<argsN o.val→lineF o.val=6→wordF o.val≠[]→isW [nmT (wordF o.val)] [[45]]=false∧isW [nmT (wordF o.val)] [[126]]=false∧startsF [nmT (wordF o.val)]=true∧wordF o.val≠[40]∧wordF o.val≠[91]∧wordF o.val≠[36]:=by decide +kernel
   obtain ⟨q1,q2,q3,q4,q5,q6⟩:=hfun ⟨op,op_lt m1⟩ m1 c3 c4
   simp only at q1 q2 q3 q4 q5 q6
   rw [signed_prim (ts:=nmT (wordF op)::(brK [40] [41] (l.map exK)++r)) q1 q2,prim_cons,if_neg (by rw [q3];simp),if_neg (show ¬(nmT (wordF op)).kind=2 by simp [nmT]),if_neg (show ¬(nmT (wordF op)).kind=3 by simp [nmT]),if_neg (show ¬(nmT (wordF op)).text=_ from q4),if_neg (show ¬(nmT (wordF op)).text=_ from q5),if_neg (show ¬(nmT (wordF op)).text=_ from q6)]
   have ef:functorF (nmT (wordF op)).text=op:=g1
   rw [ef,if_pos g3,← hln]
   have e:(brK [40] [41] (l.map exK)++r)=sgT [40]::(commasK [44] (l.map exK)++(sgT [41]::r)):=by simp [brK]
   rw [e]
   refine Rd.bind (er:=List.map erE) (v:=l) (r:=r) (within_read (by decide) fun hd=>?_) fun l' e=>Rd.ok ?_
   ·exact callF_read (nx_sg (by decide) r) hne (full hd)
   ·rw [er_mk,er_mk,e]
  rcases f5 c3 (by simpa using c4) with rfl | rfl | rfl | rfl | rfl | rfl | rfl
  ·have hn:=text_nam m4 (.inl rfl)
   obtain rfl:n=0:=m3.resolve_right (by decide)
   obtain rfl : l = [] := List.eq_nil_of_length_eq_zero (by have : argsN 1 = 0 := by decide
                                                            omega)
   have hk:=nam_split hn
   rw [exK_1,List.cons_append,List.nil_append,signed_prim (nm_isW hn (sg_notW _ (by decide)) r) (nm_isW hn (sg_notW _ (by decide)) r),prim_cons]
   have hne:∀w,namB w=false→¬(nmT t).text=w:=fun w hw e=>by rw [show t=w from e,hw] at hn;cases hn
   have hst:startsF [nmT t]=true:=by simp [startsF,hd,nmT,hk.2]
   rw [if_neg (by rw [hst];simp),if_neg (show ¬(nmT t).kind=2 by simp [nmT]),if_neg (show ¬(nmT t).kind=3 by simp [nmT]),if_neg (hne _ (sg_notW _ (by decide))),if_neg (hne _ (sg_notW _ (by decide))),if_neg (hne _ (sg_notW _ (by decide))),if_neg (by rw [show (nmT t).text=t from rfl,fun_zero hn];simp),if_neg (hne _ (sg_notW _ (by decide))),if_neg (show ¬(nmT t).text=_ from hk.1)]
   exact Rd.ok (by rw [er_mk,er_mk];rfl)
  ·obtain rfl:=text_nil m4 (by decide) (by decide) (by decide)
   obtain rfl:n=0:=m3.resolve_right (by decide)
   obtain rfl : l = [] := List.eq_nil_of_length_eq_zero (by have : argsN 2 = 0 := by decide
                                                            omega)
   rw [exK_2,List.cons_append,List.nil_append,signed_prim (isW_off _ (by decide)) (isW_off _ (by decide)),prim_cons,if_neg (by decide),if_neg (by decide),if_neg (by decide),if_neg (by decide),if_neg (by decide),if_neg (by decide),if_neg (by decide),if_neg (by decide),if_pos (show (nmT [95]).text=[95] from rfl)]
   exact Rd.ok (by rw [er_mk,er_mk])
  ·obtain rfl:=text_nil m4 (by decide) (by decide) (by decide)
   obtain rfl : l = [] := List.eq_nil_of_length_eq_zero (by have : argsN 3 = 0 := by decide
                                                            omega)
   rw [exK_3,List.cons_append,List.nil_append,signed_prim (isW_kind _ (by simp)) (isW_kind _ (by simp)),prim_cons,if_neg (by simp [startsF,hd]),if_pos rfl]
   exact Rd.ok (by rw [er_mk,er_mk])
  ·obtain rfl:n=0:=m3.resolve_right (by decide)
   obtain rfl : l = [] := List.eq_nil_of_length_eq_zero (by have : argsN 4 = 0 := by decide
                                                            omega)
   rw [exK_4,List.cons_append,List.nil_append,signed_prim (isW_kind _ (by simp)) (isW_kind _ (by simp)),prim_cons,if_neg (by simp [startsF,hd]),if_neg (by simp),if_pos rfl]
   exact Rd.ok (by rw [er_mk,er_mk])
  ·obtain rfl:=text_nil m4 (by decide) (by decide) (by decide)
   obtain rfl:n=0:=m3.resolve_right (by decide)
   obtain rfl : l = [] := List.eq_nil_of_length_eq_zero (by have : argsN 5 = 0 := by decide
                                                            omega)
   rw [exK_5,List.cons_append,List.nil_append,signed_prim (isW_off _ (by decide)) (isW_off _ (by decide)),prim_cons,if_neg (by decide),if_neg (by decide),if_neg (by decide),if_neg (by decide),if_neg (by decide),if_neg (by decide),if_neg (by decide),if_pos (show (nmT [110,105,108]).text=[110,105,108] from rfl)]
   exact Rd.ok (by rw [er_mk,er_mk])
  ·obtain rfl:=text_nil m4 (by decide) (by decide) (by decide)
   obtain rfl:n=0:=m3.resolve_right (by decide)
   rw [exK_6]
   have e:brK [91] [93] (l.map exK)++r=sgT [91]::(commasK [44] (l.map exK)++(sgT [93]::r)):=by simp [brK]
   rw [signed_prim (by rw [e];exact isW_off _ (by decide)) (by rw [e];exact isW_off _ (by decide)),e,prim_cons,if_neg (by decide),if_neg (by decide),if_neg (by decide),if_neg (by decide),if_pos (show (sgT [91]).text=[91] from rfl),← e]
   refine (args_read (by decide) m5 full).bind fun l' e=>Rd.ok ?_
   rw [er_mk,er_mk,e]
  ·have hn:=text_nam m4 (.inr rfl)
   obtain rfl:n=0:=m3.resolve_right (by decide)
   rw [exK_7,List.cons_append,List.cons_append,signed_prim (isW_off _ (by decide)) (isW_off _ (by decide)),prim_cons,if_neg (by decide),if_neg (by decide),if_neg (by decide),if_neg (by decide),if_neg (by decide),if_pos (show (sgT [36]).text=[36] from rfl)]
   rw [name_read hn,R.bind_ok]
   by_cases hl:l.length=0
   ·obtain rfl:l=[]:=List.eq_nil_of_length_eq_zero hl
    simp only [List.length_nil,if_true,List.nil_append]
    rw [if_neg (by rw [hp];simp)]
    exact Rd.ok (by rw [er_mk,er_mk])
   ·rw [if_neg hl,if_pos (by simp only [brK,List.cons_append];exact isW_sg _ _)]
    refine (args_read (by decide) m5 full).bind fun l' e=>Rd.ok ?_
    rw [er_mk,er_mk,e]
theorem ex_full {e:Ex} (he:mayE e=true) (d:Nat) {r:Ts} (hr:Nx r):Rd erE e r (exprD d (exK e++r)):=(ex_read _ e (Nat.lt_succ_self _) he).full d hr
def relW (op:Nat):Bs:=if op=3 then [61] else if op=4 then [33,61] else if op=5 then [60] else if op=6 then [60,61] else if op=7 then [62] else [62,61]
def fstK:List Ex→Ts
 | []=>[]
 | e::_=>exK e
mutual
def liK:Li→Ts
 | .mk op rel args body _ =>
  if op=2 then sgT [33]::nmT rel::brK [40] [41] (args.map exK)
  else if op=1 then nmT rel::brK [40] [41] (args.map exK)
  else if op≤8 then fstK args++(sgT (relW op)::fstK args.tail)
  else fstK args++(sgT [61]::nmT (aggSg op)::((args.tail.map exK).flatten++(sgT [58]::sgT [123]::(commasK [44] (liKs body)++[sgT [125]]))))
def liKs:List Li→List Ts
 | []=>[]
 | e::l=>liK e::liKs l
end
theorem liKs_eq (l:List Li):liKs l=l.map liK:=by induction l with | nil=>rfl | cons x l ih=>simp [liKs,ih]
end Go.PM.Lex
end

section
set_option maxRecDepth 100000
namespace Go.PM.Lex
def ruK (r:Ru):Ts:=nmT r.head::(brK [40] [41] (r.args.map exK)++((if 0<r.body.length then sgT [58,45]::commasK [44] (r.body.map liK) else [])++[sgT [46]]))
def fiK (f:Fi):Ts:=[nmT f.name,sgT [58],nmT f.typ]
def fisK (fr:Bs) (l:List Fi) (fin:Bs):Ts:=sgT fr::(commasK [44] (l.map fiK)++[sgT fin])
def angK (l:List Bs):Ts:=if l.length=0 then [] else sgT [60]::(commasK [44] (l.map fun s=>[nmT s])++[sgT [62]])
def caK (c:Ca):Ts:=nmT c.name::fisK [123] c.fields [125]
def tyK (t:Ty):Ts:=nmT [116,121,112,101]::nmT t.name::(if t.kind=1 then [sgT [60,58],nmT t.base] else if t.kind=2 then sgT [61]::fisK [91] t.fields [93] else sgT [61]::commasK [124] (t.cases.map caK))
def flagsK (i o n:Bool):Ts:=(if i then [nmT [105,110,112,117,116]] else [])++((if o then [nmT [111,117,116,112,117,116]] else [])++(if n then [nmT [105,110,108,105,110,101]] else []))
def reK (d:Re):Ts:=nmT [100,101,99,108]::nmT d.name::(fisK [40] d.fields [41]++flagsK d.inn d.out d.inl)
def inK (i:Ini):Ts:=nmT [105,110,105,116]::nmT i.name::sgT [61]::nmT i.comp::angK i.types
def ovK (o:Ov):Ts:=[nmT [111,118,101,114,114,105,100,101],nmT o.rel]
mutual
def unK:Un→Ts
 | .mk tys rels rules comps inits overs=>(tys.map tyK).flatten++((rels.map reK).flatten++((coKs comps).flatten++((inits.map inK).flatten++((overs.map ovK).flatten++(rules.map ruK).flatten))))
def coK:Co→Ts
 | .mk nm ps base tys u _=>nmT [99,111,109,112]::nmT nm::(angK ps++((if base=[] then [] else sgT [58]::nmT base::angK tys)++(sgT [123]::(unK u++[sgT [125]]))))
def coKs:List Co→List Ts
 | []=>[]
 | c::l=>coK c::coKs l
end
end Go.PM.Lex
end

section
set_option maxRecDepth 100000
namespace Go.PM.Lex
inductive Pc where
 | blank (b:UInt8) | tok (s:Bs) (t:T0)
def Pc.bs:Pc→Bs | .blank b=>[b] | .tok s _=>s
def Pc.ts:Pc→Ts | .blank _=>[] | .tok _ t=>[t]
def bsP (l:List Pc):Bs:=(l.map Pc.bs).flatten
def tsP (l:List Pc):Ts:=(l.map Pc.ts).flatten
@[simp] theorem bsP_nil:bsP []=[]:=rfl
@[simp] theorem tsP_nil:tsP []=[]:=rfl
@[simp] theorem bsP_cons (p:Pc) (l:List Pc):bsP (p::l)=p.bs++bsP l:=by simp [bsP]
@[simp] theorem tsP_cons (p:Pc) (l:List Pc):tsP (p::l)=p.ts++tsP l:=by simp [tsP]
@[simp] theorem bsP_app (l m:List Pc):bsP (l++m)=bsP l++bsP m:=by simp [bsP]
@[simp] theorem tsP_app (l m:List Pc):tsP (l++m)=tsP l++tsP m:=by simp [tsP]
theorem bsP_flat (l:List (List Pc)):bsP l.flatten=(l.map bsP).flatten:=by induction l with | nil=>rfl | cons x l ih=>simp [ih]
theorem tsP_flat (l:List (List Pc)):tsP l.flatten=(l.map tsP).flatten:=by induction l with | nil=>rfl | cons x l ih=>simp [ih]
def OkPc:Pc→Bs→Prop
 | .blank b,_=>ws.contains b=true
 | .tok s t,k=>s≠[]∧blankF (s++k)=(true,0)∧∀a,nextF a (s++k) true=.tok ⟨t.kind,t.text,t.n,a,a+s.length⟩
def VF:List Pc→Bs→Prop
 | [],_=>True
 | p::l,k=>OkPc p (bsP l++k)∧VF l k
theorem VF_app (l m:List Pc) (k:Bs):VF (l++m) k↔VF l (bsP m++k)∧VF m k:=by
 induction l with
 | nil=>simp [VF]
 | cons p l ih=>simp only [List.cons_append,VF,ih,bsP_app,List.append_assoc,and_assoc]
theorem all_ws {b:UInt8} (hb:ws.contains b=true) (g:Nat) (most:Int) (a:Nat) (z:Bs):allGo (g+1) most a (b::z)=allGo (g+1) most (a+1) z:=by
 have h:blankF ([b]++z)=((blankF z).1,1+(blankF z).2):=blank_shift (by unfold Lib.trimLeftS;rw [List.dropWhile_cons,if_pos hb];rfl)
 rw [List.cons_append,List.nil_append] at h
 rw [allGo,allGo,h]
 simp only
 rw [show a+(1+(blankF z).2)=a+1+(blankF z).2 by omega,show (b::z).drop (1+(blankF z).2)=z.drop (blankF z).2 by rw [Nat.add_comm,List.drop_succ_cons]]
theorem next_full {a:Nat} {r:Bs} {t:Tok} (h:nextF a r true=.tok t):nextF a r false=.bad a 3:=by
 rw [nextF_eq] at h ⊢
 split at h
 ·cases h
 ·rename_i g;rw [if_neg g,if_pos rfl]
theorem all_pieces:∀(ps:List Pc) (f:Nat) (most:Int) (a:Nat),VF ps []→(bsP ps).length<f →
  (((tsP ps).length:Int)≤most→∃l p,allGo f most a (bsP ps)=(l,(p,0))∧l.map Tok.t0=tsP ps)∧(most<(tsP ps).length→0≤most→∃l p,allGo f most a (bsP ps)=(l,(p,3)))
 | ps,0,most,a,hv,hf=>by omega
 | [],f+1,most,a,hv,hf=>by
  refine ⟨fun _=>⟨[],0,?_,rfl⟩,fun h h2=>by simp at h;omega⟩
  rw [bsP_nil,allGo,blankF_nil];simp
 | .blank b::ps,f+1,most,a,hv,hf=>by
  obtain ⟨h1,h2⟩:=hv
  rw [bsP_cons] at hf ⊢
  simp only [Pc.bs,List.cons_append,List.nil_append,List.length_cons] at hf ⊢
  rw [all_ws h1]
  simp only [tsP_cons,Pc.ts,List.nil_append]
  exact all_pieces ps (f+1) most (a+1) h2 (by omega)
 | .tok s t::ps,f+1,most,a,hv,hf=>by
  obtain ⟨⟨h1,h2,h3⟩,h4⟩:=hv
  simp only [List.append_nil] at h2 h3
  have hpos:=List.length_pos_iff.2 h1
  rw [bsP_cons] at hf ⊢
  simp only [Pc.bs,List.length_append] at hf ⊢
  have hne:¬s++bsP ps=[]:=by simp [h1]
  have hl:(tsP (.tok s t::ps)).length=(tsP ps).length+1:=by simp [Pc.ts]
  rw [allGo,h2]
  simp only [Bool.true_eq_false,if_false,Nat.add_zero,List.drop_zero]
  rw [if_neg hne,hl]
  obtain ⟨i1,i2⟩:=all_pieces ps f (most - 1) (a+s.length) h4 (by omega)
  have hd:(s++bsP ps).drop (a+s.length - a)=bsP ps:=by rw [Nat.add_sub_cancel_left,List.drop_left]
  refine ⟨fun hm=>?_,fun hm h0=>?_⟩
  ·rw [decide_eq_true (by omega),h3 a]
   simp only
   rw [hd]
   obtain ⟨l,p,e1,e2⟩:=i1 (by omega)
   rw [e1]
   exact ⟨_,p,rfl,by simp [e2,Tok.t0,Pc.ts]⟩
  ·by_cases hm0:0<most
   ·rw [decide_eq_true hm0,h3 a]
    simp only
    rw [hd]
    obtain ⟨l,p,e1⟩:=i2 (by omega) (by omega)
    rw [e1]
    exact ⟨_,p,rfl⟩
   ·rw [decide_eq_false hm0,next_full (h3 a)]
    exact ⟨_,_,rfl⟩
def FolK (k:Bs):Prop:=k=[]∨∃c z,k=c::z∧Fol c z
def nmP (s:Bs):Pc:=.tok s (nmT s)
def sgP (s:Bs):Pc:=.tok s (sgT s)
theorem trim_off {b:UInt8} (hb:ws.contains b=false) (z:Bs):Lib.trimLeftS (b::z) ws=b::z:=by
 unfold Lib.trimLeftS;rw [List.dropWhile_cons,if_neg (by rw [hb];decide)]
theorem pre_ne {x y b:UInt8} (h:x≠b) (z:Bs):Lib.hasPrefix (b::z) [x,y]=false:=by simp [Lib.hasPrefix,List.isPrefixOf,h]
theorem pre_ne2 {x y b c:UInt8} (h:y≠c) (z:Bs):Lib.hasPrefix (b::c::z) [x,y]=false:=by simp [Lib.hasPrefix,List.isPrefixOf,h]
theorem bareW {b:UInt8} (hb:ws.contains b=false) (z:Bs) (h:b=47→∀c z',z=c::z'→c≠47∧c≠42):blankF (b::z)=(true,0):=by
 have hp:∀c,c=47∨c=42→Lib.hasPrefix (b::z) [47,c]=false:=fun c hc=>by
  cases z with
  | nil=>simp [Lib.hasPrefix,List.isPrefixOf]
  | cons d z' =>
   by_cases hb47:b=47
   ·have:=h hb47 d z' rfl
    rcases hc with rfl | rfl
    ·exact pre_ne2 this.1.symm _
    ·exact pre_ne2 this.2.symm _
   ·exact pre_ne (fun e=>hb47 e.symm) _
 unfold blankF
 rw [blankGo_end (by rw [trim_off hb];exact hp 47 (.inl rfl)) (by rw [trim_off hb];exact hp 42 (.inr rfl)),trim_off hb,Nat.sub_self]
theorem sign_none {b:UInt8} (hb:ones.contains b=false) (z:Bs):signF (b::z)=0:=by
 have h2:∀x y:UInt8,x∈ones→Lib.hasPrefix (b::z) [x,y]=false:=fun x y hx=>by
  have:¬x=b:=fun e=>by rw [e] at hx;simp at hb;exact hb hx
  simp [Lib.hasPrefix,List.isPrefixOf,this]
 unfold signF
 rw [if_neg,if_neg]
 ·simpa using hb
 ·simp only [twos,List.any_cons,List.any_nil]
  rw [h2 58 _ (by decide),h2 33 _ (by decide),h2 60 _ (by decide),h2 62 _ (by decide),h2 60 _ (by decide)]
  simp
theorem name_fst {s:Bs} (h:nameB s=true):∃b z,s=b::z∧ones.contains b=false∧ws.contains b=false∧b≠47∧b≠45∧b≠61∧b≠58∧b≠42:=by
 simp only [nameB,Bool.and_eq_true] at h
 cases s with
 | nil=>rw [pk_nil] at h;exact absurd h.1 (by decide)
 | cons b z =>
  refine ⟨b,z,rfl,?_⟩
  by_cases hb:b.toNat<128
  ·have h1:=h.1
   rw [pk_low1 hb] at h1
   have hk:∀n:Fin 128,isLetter (n.val:Int)=true→ones.contains (UInt8.ofNat n.val)=false∧ws.contains (UInt8.ofNat n.val)=false∧UInt8.ofNat n.val≠47∧UInt8.ofNat n.val≠45∧UInt8.ofNat n.val≠61∧UInt8.ofNat n.val≠58∧UInt8.ofNat n.val≠42:=by decide +kernel
   have:=hk ⟨b.toNat,hb⟩ h1
   simpa using this
  ·have hk:∀n:Fin 256,128≤n.val→ones.contains (UInt8.ofNat n.val)=false∧ws.contains (UInt8.ofNat n.val)=false∧UInt8.ofNat n.val≠47∧UInt8.ofNat n.val≠45∧UInt8.ofNat n.val≠61∧UInt8.ofNat n.val≠58∧UInt8.ofNat n.val≠42:=by decide +kernel
   have:=hk ⟨b.toNat,b.toNat_lt⟩ (by simp only;omega)
   simpa using this
theorem ok_more {s:Bs} {t:T0} {k:Bs} (hs:s≠[]) (hk:FolK k) (hsg:∀k,signF (s++k)=0) (hb:∀k,blankF (s++k)=(true,0)) (h:∀a,nextF a s true=.tok ⟨t.kind,t.text,t.n,a,a+s.length⟩):OkPc (.tok s t) k:=by
 refine ⟨hs,hb k,fun a=>?_⟩
 rcases hk with rfl | ⟨c,z,rfl,hc⟩
 ·rw [List.append_nil];exact h a
 ·exact next_more hs hc (by have:=hsg [];rw [List.append_nil] at this;rw [hsg,this]) (h a)
theorem ok_nm {s:Bs} (h:nameB s=true) {k:Bs} (hk:FolK k):OkPc (nmP s) k:=by
 obtain ⟨b,z,rfl,h1,h2,h3,_⟩:=name_fst h
 simp only [nameB,Bool.and_eq_true,decide_eq_true_eq] at h
 refine ok_more (by simp) hk (fun k=>sign_none h1 _) (fun k=>bareW h2 _ fun e=>absurd e h3) fun a=>?_
 have hl:=isLetter_iff.1 h.1
 have h34:(pk (b::z)).1≠34:=by omega
 have hdig:isDigit (pk (b::z)).1=false:=by
  cases e:isDigit (pk (b::z)).1 with
  | false=>rfl
  | true=>have:=isDigit_iff.1 e;omega
 rw [nextF_eq,sign_none h1,if_neg (by rw [h.1];simp),if_neg (by simp),if_neg (by omega),if_neg h34,if_neg (by rw [hdig];simp),h.2,List.take_length]
 rfl
def SgK (w k:Bs):Prop:=(w∈twos∨w∈ones.map fun b=>[b])∧((w≠[58]∧w≠[33]∧w≠[60]∧w≠[62]∧w≠[47])∨k=[]∨∃c z,k=c::z∧c≠45∧c≠61∧c≠58∧c≠47∧c≠42)
theorem sign_two (k:Bs):∀w∈twos,signF (w++k)=2:=by
 intro w hw
 have:twos.any (Lib.hasPrefix (w++k))=true:=by
  rw [List.any_eq_true]
  exact ⟨w,hw,by unfold Lib.hasPrefix;rw [List.isPrefixOf_iff_prefix];exact List.prefix_append _ _⟩
 rw [signF,if_pos this]
theorem sign_one {b:UInt8} (hb:b∈ones) {k:Bs} (h:(b≠58∧b≠33∧b≠60∧b≠62)∨k=[]∨∃c z,k=c::z∧c≠45∧c≠61∧c≠58):signF (b::k)=1:=by
 have h1:twos.any (Lib.hasPrefix (b::k))=false:=by
  simp only [twos,List.any_cons,List.any_nil,Bool.or_eq_false_iff]
  rcases h with ⟨h1,h2,h3,h4⟩ | rfl | ⟨c,z,rfl,h1,h2,h3⟩
  ·exact ⟨pre_ne h1.symm _,pre_ne h2.symm _,pre_ne h3.symm _,pre_ne h4.symm _,pre_ne h3.symm _,trivial⟩
  ·simp [Lib.hasPrefix,List.isPrefixOf]
  ·exact ⟨pre_ne2 h1.symm _,pre_ne2 h2.symm _,pre_ne2 h2.symm _,pre_ne2 h2.symm _,pre_ne2 h3.symm _,trivial⟩
 rw [signF,if_neg (by rw [h1];simp),if_pos (by simpa using hb)]
theorem next_sign {r:Bs} {n:Nat} (h:signF r=n) (hn:0<n) (a:Nat):nextF a r true=.tok ⟨4,r.take n,0,a,a+n⟩:=by
 rw [nextF_eq,h,if_neg (by omega),if_neg (by simp),if_pos hn]
theorem ok_sg {w k:Bs} (h:SgK w k):OkPc (sgP w) k:=by
 obtain ⟨hw,hk⟩:=h
 rcases hw with hw | hw
 ·have hb:∀w∈twos,w.length=2∧ws.contains (w.getD 0 0)=false∧w.getD 0 0≠47:=by decide +kernel
  obtain ⟨h0,h1,h2⟩:=hb w hw
  obtain ⟨b,c,rfl⟩:∃b c,w=[b,c]:=by match w,h0 with | [b,c],_=>exact ⟨b,c,rfl⟩
  refine ⟨by simp,bareW h1 _ fun e=>absurd e h2,fun a=>?_⟩
  rw [next_sign (sign_two k _ hw) (by decide)]
  rfl
 ·obtain ⟨b,hb,rfl⟩:=List.mem_map.1 hw
  have hws:∀b∈ones,ws.contains b=false:=by decide +kernel
  refine ⟨by simp,bareW (hws b hb) _ fun e c z hz=>?_,fun a=>?_⟩
  ·rcases hk with hk | hk | ⟨c',z',hk,hc⟩
   ·exact absurd (by rw [e]) hk.2.2.2.2
   ·have hz:k=c::z:=hz
    rw [hk] at hz;cases hz
   ·have hz:k=c::z:=hz
    rw [hk] at hz;cases hz;exact ⟨hc.2.2.2.1,hc.2.2.2.2⟩
  ·rw [List.cons_append,List.nil_append,next_sign (sign_one hb ?_) (by decide)]
   ·rfl
   ·rcases hk with hk | hk | ⟨c,z,hk,hc⟩
    ·exact .inl ⟨fun e=>hk.1 (by rw [e]),fun e=>hk.2.1 (by rw [e]),fun e=>hk.2.2.1 (by rw [e]),fun e=>hk.2.2.2.1 (by rw [e])⟩
    ·exact .inr (.inl hk)
    ·exact .inr (.inr ⟨c,z,hk,hc.1,hc.2.1,hc.2.2.1⟩)
theorem ok_quo {s q:Bs} (h:quoteF s=some q) {k:Bs} (hk:FolK k):OkPc (.tok q ⟨3,s,0⟩) k:=by
 unfold quoteF at h
 split at h
 ·rename_i hv
  cases hq:quoGo (s.length+1) s [34] with
  | none=>rw [hq] at h;cases h
  | some x =>
   rw [hq] at h
   cases h
   obtain ⟨m,rfl,ht⟩:=quo_text _ _ _ _ hq (.inr hv) (by omega)
   have hq':([34]++m)++[34]=(34::(m++[34]):Bs):=rfl
   show OkPc (.tok (([34]++m)++[34]) ⟨3,s,0⟩) k
   rw [hq']
   have hlen:(34::(m++[34]):Bs).length=m.length+2:=by simp
   have htext:textF (34::(m++[34]))=.ok s (m.length+2):=by
    unfold textF
    rw [List.drop_succ_cons,List.drop_zero,ht _ [] 1 (by rw [hlen];omega)]
    simp only [List.nil_append,TR.ok.injEq,true_and];omega
   have hpk:pk (34::(m++[34]))=(34,1):=pk_low1 (by decide)
   refine ok_more (by simp) hk (fun k=>sign_none (by decide) _) (fun k=>bareW (by decide) _ fun e=>absurd e (by decide)) fun a=>?_
   rw [nextF_eq,sign_none (by decide),hpk,if_neg (by simp),if_neg (by simp),if_neg (by omega),if_pos rfl,textR,htext,hlen]
 ·cases h
theorem digC_facts:∀d:Fin 16,digV (digC d.val)=d.val∧digB true (digC d.val)=true∧(d.val<10→digB false (digC d.val)=true)∧digC d.val≠120:=by decide +kernel
theorem numV_end (base:Nat) (l:Bs) (b:UInt8):numV base (l++[b])=numV base l * base+digV b:=by simp [numV]
theorem numGo_spec {base:Nat} (hb:base=10∨base=16):∀(f n:Nat),n<f→numV base (numGo base f n)=n∧(∀b∈numGo base f n,digB (decide (base=16)) b=true∧b≠120)∧numGo base f n≠[]∧∀k,n<base ^ (k+1)→(numGo base f n).length≤k+1
 | 0,n,h=>by omega
 | f+1,n,h=>by
  have hd:∀d,d<base→digV (digC d)=d∧digB (decide (base=16)) (digC d)=true∧digC d≠120:=fun d hd=>by
   obtain ⟨h1,h2,h3,h4⟩:=digC_facts ⟨d,by omega⟩
   refine ⟨h1,?_,h4⟩
   rcases hb with rfl | rfl
   ·exact h3 hd
   ·exact h2
  rw [numGo]
  by_cases c:n<base
  ·rw [if_pos c]
   obtain ⟨h1,h2,h3⟩:=hd n c
   refine ⟨by simpa [numV] using h1,fun b hb=>?_,by simp,fun k _=>by simp⟩
   rw [List.mem_singleton.1 hb];exact ⟨h2,h3⟩
  ·rw [if_neg c]
   have hlt:n / base<n:=Nat.div_lt_self (by omega) (by omega)
   obtain ⟨i1,i2,i3,i4⟩:=numGo_spec hb f (n / base) (by omega)
   obtain ⟨h1,h2,h3⟩:=hd (n % base) (Nat.mod_lt _ (by omega))
   refine ⟨?_,fun b hb=>?_,by simp,fun k hk=>?_⟩
   ·rw [numV_end,i1,h1,Nat.mul_comm];exact Nat.div_add_mod n base
   ·rcases List.mem_append.1 hb with hb | hb
    ·exact i2 b hb
    ·rw [List.mem_singleton.1 hb];exact ⟨h2,h3⟩
   ·cases k with
    | zero=>simp at hk;omega
    | succ k =>
     have:n / base<base ^ (k+1):=by
      rw [Nat.div_lt_iff_lt_mul (by omega)]
      rw [Nat.pow_succ] at hk;exact hk
     have:=i4 k this
     simp only [List.length_append,List.length_cons,List.length_nil];omega
theorem takeWhile_full (p:UInt8→Bool):∀l:Bs,(∀b∈l,p b=true)→l.takeWhile p=l
 | [],_=>rfl
 | x::l,h=>by rw [List.takeWhile_cons,if_pos (h x (by simp)),takeWhile_full p l fun b hb=>h b (List.mem_cons_of_mem _ hb)]
theorem dig_first {b:UInt8} (h:digB false b=true):b.toNat<128∧isDigit (b.toNat:Int)=true∧ones.contains b=false∧ws.contains b=false∧b≠47:=by
 have hk:∀n:Fin 256,digB false (UInt8.ofNat n.val)=true→n.val<128∧isDigit (n.val:Int)=true∧ones.contains (UInt8.ofNat n.val)=false∧ws.contains (UInt8.ofNat n.val)=false∧UInt8.ofNat n.val≠47:=by decide +kernel
 have:=hk ⟨b.toNat,b.toNat_lt⟩
 simp only [UInt8.ofNat_toNat] at this
 exact this h
theorem ok_number {r:Bs} {b:UInt8} {z:Bs} {v:Nat} (hr:r=b::z) (hb:digB false b=true) (hn:numberF r=some v) (hl:numLen r=r.length) {k:Bs} (hk:FolK k) {n:Int} (hw:IntKind.i64.wrap (v:Int)=n):OkPc (.tok r ⟨2,[],n⟩) k:=by
 subst hr
 obtain ⟨h1,h2,h3,h4,h5⟩:=dig_first hb
 refine ok_more (by simp) hk (fun k=>sign_none h3 _) (fun k=>bareW h4 _ fun e=>absurd e h5) fun a=>?_
 have hd:=isDigit_iff.1 h2
 rw [nextF_eq,sign_none h3,pk_low1 h1,if_neg (by simp only [h2];simp),if_neg (by simp),if_neg (by omega),if_neg (by simp only;omega),if_pos h2,numberR,hn,hl]
 simp only [hw]
theorem ok_num {n:Int} (h0:-9223372036854775808≤n) (h1:n<9223372036854775808) {k:Bs} (hk:FolK k):OkPc (.tok (numT n) ⟨2,[],n⟩) k:=by
 unfold numT
 by_cases hn:n<0
 ·rw [if_pos hn]
  obtain ⟨m,hm⟩:∃m:Nat,(n+18446744073709551616).toNat=m:=⟨_,rfl⟩
  rw [hm]
  have hm2:m<18446744073709551616:=by omega
  obtain ⟨e1,e2,e3,e4⟩:numV 16 (baseT 16 m)=m∧(∀b∈baseT 16 m,digB (decide (16=16)) b=true∧b≠120)∧baseT 16 m≠[]∧∀k,m<16 ^ (k+1)→(baseT 16 m).length≤k+1:=numGo_spec (base:=16) (.inr rfl) (m+1) m (by omega)
  have e4 := e4 15 (by have : (16 : Nat) ^ (15 + 1) = 18446744073709551616 := by decide
                       omega)
  have hx:isHex ([48,120]++baseT 16 m)=true:=by simp [isHex,Lib.hasPrefix,List.isPrefixOf]
  have hd:numDigits ([48,120]++baseT 16 m)=baseT 16 m:=by
   unfold numDigits
   rw [hx]
   simp only [if_true]
   show (baseT 16 m).takeWhile (digB true)=baseT 16 m
   exact takeWhile_full _ _ fun b hb=>(e2 b hb).1
  have hl:numLen ([48,120]++baseT 16 m)=([48,120]++baseT 16 m).length:=by
   rw [numLen,hx,hd];simp [baseT];omega
  refine ok_number (r:=[48,120]++baseT 16 m) (v:=m) rfl (by decide) ?_ hl hk ?_
  ·rw [numberF,hd,hx]
   simp only [if_true]
   rw [if_neg e3,if_neg (by rw [e1];omega),if_neg,e1]
   rw [hl,List.drop_length,pk_nil]
   rintro (g | g | ⟨_,g⟩)
   ·revert g;decide
   ·revert g;decide
   ·omega
  ·rw [show (m:Int)=n+18446744073709551616 by omega]
   unfold IntKind.wrap
   simp [IntKind.signed,IntKind.bits];omega
 ·rw [if_neg hn]
  obtain ⟨m,rfl⟩:∃m:Nat,n=m:=⟨n.toNat,by omega⟩
  rw [Int.toNat_natCast]
  obtain ⟨e1,e2,e3,e4⟩:numV 10 (baseT 10 m)=m∧(∀b∈baseT 10 m,digB (decide (10=16)) b=true∧b≠120)∧baseT 10 m≠[]∧∀k,m<10 ^ (k+1)→(baseT 10 m).length≤k+1:=numGo_spec (base:=10) (.inl rfl) (m+1) m (by omega)
  have hx:isHex (baseT 10 m)=false:=by
   unfold isHex Lib.hasPrefix
   match hq:baseT 10 m with
   | []=>rfl
   | [a]=>simp [List.isPrefixOf]
   | a::b::l =>
    have:b≠120:=(e2 b (by rw [hq];simp)).2
    exact pre_ne2 this.symm l
  have hd:numDigits (baseT 10 m)=baseT 10 m:=by
   unfold numDigits
   rw [hx]
   simp only [Bool.false_eq_true,if_false,List.drop_zero]
   exact takeWhile_full _ _ fun b hb=>(e2 b hb).1
  have hl:numLen (baseT 10 m)=(baseT 10 m).length:=by rw [numLen,hx,hd];simp
  obtain ⟨b,z,hbz⟩:∃b z,baseT 10 m=b::z:=by
   match hq:baseT 10 m with
   | []=>exact absurd hq e3
   | a::l=>exact ⟨a,l,rfl⟩
  refine ok_number (r:=baseT 10 m) (v:=m) hbz (e2 b (by rw [hbz];simp)).1 ?_ hl hk ?_
  ·unfold numberF
   rw [hd,hx]
   simp only [Bool.false_eq_true,if_false]
   rw [if_neg e3,if_neg (by rw [e1];omega),if_neg,e1]
   rw [hl,List.drop_length,pk_nil]
   rintro (g | g | ⟨g,_⟩)
   ·revert g;decide
   ·revert g;decide
   ·cases g
  ·unfold IntKind.wrap
   simp [IntKind.signed,IntKind.bits];omega
end Go.PM.Lex
end
