/- A part of the proof: plain logic, contracts and laws over the given program. -/
import Derived.Test.YtflgockgjnddnaaGreatDoorRows
import Derived.Test.YtflgockgjnddnaaGreatDoorTie
import Derived.Test.YtflgockgjnddnaaGreatDoorCards
import Derived.ProofKit
import Derived.OpenShut
import Derived.LaidMore
import Derived.Lay
import Derived.LaidSub
import Derived.SevenTiedAt
import Derived.Stop.Joined
import Derived.Stop.LaidErr
import Derived.JoinedOf
import Derived.Deep.Slices
import Derived.ChangeArms
import Derived.DataReads
import Derived.Test.YtflgockgjnddnaaGreatDoorG08
set_option linter.unusedVariables false
set_option linter.unusedSimpArgs false
set_option linter.all false
section
set_option maxRecDepth 100000
set_option maxHeartbeats 8000000
namespace Go.PM.Lex
open Go.Proofs
variable {w0:World} {nG:Nat}
theorem we_ok {n:Nat} (ht:TblOK (GG w0 nG) (tblWE n)):PCalls (GG w0 nG) 30 (spWE n):=by
 refine pcallsDl tab_ok mixed (tbl:=tblWE n) ht Tryz.func30 rfl (by kernel_rfl) (by kernel_rfl) dadd ?_
 intro args σ K h
 unfold spWE wrSp at h
 split at h
 ·rename_i rest t p e rows
  obtain ⟨l,txt,rfl,⟨hp,rfl,rfl⟩,⟨pl,⟨op,tx,nn,xs,at'⟩,want,rfl,⟨hmay,hz,hn,hw0,hw6⟩,rfl⟩,hlen,h⟩:=h
  obtain ⟨m1,m2,m3,m4,m5⟩:=ablE_mk hmay
  obtain ⟨k1,k2,k3,k5⟩:=op_kind m1
  have hzx:szS wE xs+tx.length+1≤n:=by rw [wE,wEs_eq] at hz;omega
  rw [List.all_eq_true] at m5
  refine ⟨loopsOf [],unrOf [],tieOf [],1,true,by simp,Nat.le_of_ble_eq_true rfl,?_⟩
  rcases hp with rfl | rfl
  all_goals
   conv=>whnf
   refine ⟨op,rfl,fun l1 w1 a1 e1 e2 e3=>?_⟩
   subst e1
   conv=>whnf
   refine CondP.dec (fun hlt=>?_) (fun hlt=>?_)
   ·have hW:exW want.toNat (.mk op tx nn xs at')=[40]++(exT (.mk op tx nn xs at')++[41]):=by rw [exW,parP,if_pos (by show lineF op<_;omega)]
    rw [hW] at h hlen
    have hlen0:l.length+1<70368744177664:=by simp only [List.length_append,List.length_cons,List.length_nil] at hlen;omega
    conv=>whnf
    refine ⟨l,[40],rfl,⟨(by first | exact .inl rfl | exact .inr rfl),rfl,rfl⟩,⟨[[40]],rfl,by simp,by simp,by simp⟩,by simp only [List.length_cons,List.length_nil];omega,?_⟩
    conv=>whnf
    refine CondP.dec (fun c1=>?_) (fun c1=>?_)
    ·have c1:lineF op<5:=by omega
     have hl2:xs.length=2:=by have:=k1 c1;omega
     obtain ⟨x0,x1,rfl⟩:∃x0 x1,xs=[x0,x1]:=by match xs,hl2 with | [a,b],_=>exact ⟨a,b,rfl⟩
     simp only [szS] at hzx
     have g0:=m5 x0 (by simp)
     have g1:=m5 x1 (by simp)
     have z0:wE x0≤n - 1:=by omega
     have z1:wE x1≤n - 1:=by omega
     obtain ⟨o0,t0,n0,y0,q0⟩:=x0
     obtain ⟨o1,t1,n1,y1,q1⟩:=x1
     have hx:exT (.mk op tx nn [(.mk o0 t0 n0 y0 q0),(.mk o1 t1 n1 y1 q1)] at')=exW (lineF op) (.mk o0 t0 n0 y0 q0)++(([32]++(w1++[32]))++exW (lineF op+1) (.mk o1 t1 n1 y1 q1)):=by rw [exT,exN,if_pos c1,e2];rfl
     rw [hx] at h hlen
     (try simp only [List.length_append,List.length_cons,List.length_nil] at hlen)
     conv=>whnf
     refine ⟨_,by decide,rfl,?_⟩
     conv=>whnf
     refine ⟨by omega,(l++[40]),exW (lineF op) (.mk o0 t0 n0 y0 q0),rfl,⟨(by first | exact .inl rfl | exact .inr rfl),rfl,rfl⟩,⟨pl,(.mk o0 t0 n0 y0 q0),(lineF op:Int),rfl,⟨g0,by omega,by omega,by omega,by omega⟩,rfl⟩,by (try simp only [List.length_append,List.length_cons,List.length_nil]);omega,?_⟩
     conv=>whnf
     refine ⟨(l++[40])++exW (lineF op) (.mk o0 t0 n0 y0 q0),[32]++(w1++[32]),rfl,⟨(by first | exact .inl rfl | exact .inr rfl),rfl,rfl⟩,⟨[[32],w1,[32]],rfl,by simp,by simp,by simp⟩,by (try simp only [List.length_append,List.length_cons,List.length_nil]);omega,?_⟩
     conv=>whnf
     refine ⟨_,by decide,rfl,?_⟩
     conv=>whnf
     refine Or.inl ⟨InR.i64 (by omega) (by omega),?_⟩
     conv=>whnf
     refine ⟨by omega,(l++[40])++exW (lineF op) (.mk o0 t0 n0 y0 q0)++([32]++(w1++[32])),exW (lineF op+1) (.mk o1 t1 n1 y1 q1),rfl,⟨(by first | exact .inl rfl | exact .inr rfl),rfl,rfl⟩,⟨pl,(.mk o1 t1 n1 y1 q1),((lineF op:Int)+1),rfl,⟨g1,by omega,by omega,by omega,by omega⟩,rfl⟩,by (try simp only [List.length_append,List.length_cons,List.length_nil]);omega,?_⟩
     conv=>whnf
     refine ⟨Nat.le_of_ble_eq_true rfl,?_⟩
     conv=>whnf
     refine ⟨_,by decide,rfl,?_⟩
     conv=>whnf
     refine ⟨(l++[40])++exW (lineF op) (.mk o0 t0 n0 y0 q0)++([32]++(w1++[32]))++exW (lineF op+1) (.mk o1 t1 n1 y1 q1),[41],rfl,⟨.inr rfl,rfl,rfl⟩,⟨rfl,rfl⟩,by (try simp only [List.length_append,List.length_cons,List.length_nil]);omega,?_⟩
     conv=>whnf
     refine Or.inl ⟨InR.i64 (by omega) (by omega),?_⟩
     rw [show l++([40]++(exW (lineF op) (.mk o0 t0 n0 y0 q0)++(([32]++(w1++[32]))++exW (lineF op+1) (.mk o1 t1 n1 y1 q1))++[41]))=(l++[40])++exW (lineF op) (.mk o0 t0 n0 y0 q0)++([32]++(w1++[32]))++exW (lineF op+1) (.mk o1 t1 n1 y1 q1)++[41] by first | rfl | simp only [List.append_assoc]] at h
     conv=>whnf
     exact h
    have c1:¬lineF op<5:=by omega
    conv=>whnf
    refine CondP.dec (fun c2=>?_) (fun c2=>?_)
    ·have c2:lineF op=5:=by omega
     have hl2:xs.length=1:=by have:=k2 c2;omega
     obtain ⟨x0,rfl⟩:∃x0,xs=[x0]:=by match xs,hl2 with | [a],_=>exact ⟨a,rfl⟩
     simp only [szS] at hzx
     have g0:=m5 x0 (by simp)
     have z0:wE x0≤n - 1:=by omega
     obtain ⟨o0,t0,n0,y0,q0⟩:=x0
     have hx:exT (.mk op tx nn [(.mk o0 t0 n0 y0 q0)] at')=w1++exW 5 (.mk o0 t0 n0 y0 q0):=by rw [exT,exN,if_neg c1,if_pos c2,e2];rfl
     rw [hx] at h hlen
     (try simp only [List.length_append,List.length_cons,List.length_nil] at hlen)
     conv=>whnf
     refine ⟨(l++[40]),w1,rfl,⟨(by first | exact .inl rfl | exact .inr rfl),rfl,rfl⟩,⟨[w1],rfl,by simp,by simp,by simp⟩,by (try simp only [List.length_append,List.length_cons,List.length_nil]);omega,?_⟩
     conv=>whnf
     refine ⟨_,by decide,rfl,?_⟩
     conv=>whnf
     refine ⟨by omega,(l++[40])++w1,exW 5 (.mk o0 t0 n0 y0 q0),rfl,⟨(by first | exact .inl rfl | exact .inr rfl),rfl,rfl⟩,⟨pl,(.mk o0 t0 n0 y0 q0),5,rfl,⟨g0,by omega,by omega,by omega,by omega⟩,rfl⟩,by (try simp only [List.length_append,List.length_cons,List.length_nil]);omega,?_⟩
     conv=>whnf
     refine ⟨Nat.le_of_ble_eq_true rfl,?_⟩
     conv=>whnf
     refine ⟨_,by decide,rfl,?_⟩
     conv=>whnf
     refine ⟨(l++[40])++w1++exW 5 (.mk o0 t0 n0 y0 q0),[41],rfl,⟨.inr rfl,rfl,rfl⟩,⟨rfl,rfl⟩,by (try simp only [List.length_append,List.length_cons,List.length_nil]);omega,?_⟩
     conv=>whnf
     refine Or.inl ⟨InR.i64 (by omega) (by omega),?_⟩
     rw [show l++([40]++(w1++exW 5 (.mk o0 t0 n0 y0 q0)++[41]))=(l++[40])++w1++exW 5 (.mk o0 t0 n0 y0 q0)++[41] by first | rfl | simp only [List.append_assoc]] at h
     conv=>whnf
     exact h
    have c2:¬lineF op=5:=by omega
    conv=>whnf
    refine CondP.ndec (fun c3=>?_) (fun c3=>?_)
    ·have c3:wordF op≠[]:=by rw [e2];exact c3
     have hx:exT (.mk op tx nn xs at')=w1++argT [40] [41] xs:=by rw [exT,exN,if_neg c1,if_neg c2,if_pos c3,e2,exPs_snd];rfl
     rw [hx] at h hlen
     (try simp only [List.length_append,List.length_cons,List.length_nil] at hlen)
     conv=>whnf
     refine ⟨(l++[40]),w1,rfl,⟨(by first | exact .inl rfl | exact .inr rfl),rfl,rfl⟩,⟨[w1],rfl,by simp,by simp,by simp⟩,by (try simp only [List.length_append,List.length_cons,List.length_nil]);omega,?_⟩
     conv=>whnf
     refine ⟨by omega,(l++[40])++w1,argT [40] [41] xs,rfl,⟨(by first | exact .inl rfl | exact .inr rfl),rfl,rfl⟩,⟨[40],[41],pl,xs,rfl,⟨List.all_eq_true.2 m5,by omega,by omega⟩,rfl⟩,by (try simp only [List.length_append,List.length_cons,List.length_nil]);omega,?_⟩
     conv=>whnf
     refine ⟨Nat.le_of_ble_eq_true rfl,?_⟩
     conv=>whnf
     refine ⟨_,by decide,rfl,?_⟩
     conv=>whnf
     refine ⟨(l++[40])++w1++argT [40] [41] xs,[41],rfl,⟨.inr rfl,rfl,rfl⟩,⟨rfl,rfl⟩,by (try simp only [List.length_append,List.length_cons,List.length_nil]);omega,?_⟩
     conv=>whnf
     refine Or.inl ⟨InR.i64 (by omega) (by omega),?_⟩
     rw [show l++([40]++(w1++argT [40] [41] xs++[41]))=(l++[40])++w1++argT [40] [41] xs++[41] by first | rfl | simp only [List.append_assoc]] at h
     conv=>whnf
     exact h
    have c3:¬wordF op≠[]:=by rw [e2];exact fun g=>g c3
    conv=>whnf
    refine CondP.dec (fun c4=>?_) (fun c4=>?_)
    ·have c4:op=6:=by omega
     have hx:exT (.mk op tx nn xs at')=argT [91] [93] xs:=by rw [exT,exN,if_neg c1,if_neg c2,if_neg c3,if_pos c4,exPs_snd];rfl
     rw [hx] at h hlen
     (try simp only [List.length_append,List.length_cons,List.length_nil] at hlen)
     conv=>whnf
     refine ⟨by omega,(l++[40]),argT [91] [93] xs,rfl,⟨(by first | exact .inl rfl | exact .inr rfl),rfl,rfl⟩,⟨[91],[93],pl,xs,rfl,⟨List.all_eq_true.2 m5,by omega,by omega⟩,rfl⟩,by (try simp only [List.length_append,List.length_cons,List.length_nil]);omega,?_⟩
     conv=>whnf
     refine ⟨Nat.le_of_ble_eq_true rfl,?_⟩
     conv=>whnf
     refine ⟨_,by decide,rfl,?_⟩
     conv=>whnf
     refine ⟨(l++[40])++argT [91] [93] xs,[41],rfl,⟨.inr rfl,rfl,rfl⟩,⟨rfl,rfl⟩,by (try simp only [List.length_append,List.length_cons,List.length_nil]);omega,?_⟩
     conv=>whnf
     refine Or.inl ⟨InR.i64 (by omega) (by omega),?_⟩
     rw [show l++([40]++(argT [91] [93] xs++[41]))=(l++[40])++argT [91] [93] xs++[41] by first | rfl | simp only [List.append_assoc]] at h
     conv=>whnf
     exact h
    have c4:¬op=6:=by omega
    conv=>whnf
    refine CondP.dec (fun c5=>?_) (fun c5=>?_)
    ·have c5:op=7:=by omega
     have hxl:(encEs pl xs).length=xs.length:=by rw [encEs_eq,List.length_map]
     by_cases hx0:xs.length=0
     ·have hx:exT (.mk op tx nn xs at')=[36]++tx:=by rw [exT,exN,if_neg c1,if_neg c2,if_neg c3,if_neg c4,if_pos c5,exPs_len,if_pos hx0,List.append_nil]
      rw [hx] at h hlen
      (try simp only [List.length_append,List.length_cons,List.length_nil] at hlen)
      conv=>whnf
      refine ⟨(l++[40]),[36]++tx,rfl,⟨(by first | exact .inl rfl | exact .inr rfl),rfl,rfl⟩,⟨[[36],tx],rfl,by simp,by simp,by simp⟩,by (try simp only [List.length_append,List.length_cons,List.length_nil]);omega,?_⟩
      conv=>whnf
      refine CondP.dec (fun g=>?_) (fun g=>?_)
      case refine_1=>exact absurd (show ((encEs pl xs).length:Int)>0 from g) (by omega)
      conv=>whnf
      refine ⟨Nat.le_of_ble_eq_true rfl,?_⟩
      conv=>whnf
      refine ⟨_,by decide,rfl,?_⟩
      conv=>whnf
      refine ⟨(l++[40])++([36]++tx),[41],rfl,⟨.inr rfl,rfl,rfl⟩,⟨rfl,rfl⟩,by (try simp only [List.length_append,List.length_cons,List.length_nil]);omega,?_⟩
      conv=>whnf
      refine Or.inl ⟨InR.i64 (by omega) (by omega),?_⟩
      rw [show l++([40]++([36]++tx++[41]))=(l++[40])++([36]++tx)++[41] by first | rfl | simp only [List.append_assoc]] at h
      conv=>whnf
      exact h
     have hx:exT (.mk op tx nn xs at')=([36]++tx)++argT [40] [41] xs:=by rw [exT,exN,if_neg c1,if_neg c2,if_neg c3,if_neg c4,if_pos c5,exPs_len,if_neg hx0,exPs_snd,List.append_assoc];rfl
     rw [hx] at h hlen
     (try simp only [List.length_append,List.length_cons,List.length_nil] at hlen)
     conv=>whnf
     refine ⟨(l++[40]),[36]++tx,rfl,⟨(by first | exact .inl rfl | exact .inr rfl),rfl,rfl⟩,⟨[[36],tx],rfl,by simp,by simp,by simp⟩,by (try simp only [List.length_append,List.length_cons,List.length_nil]);omega,?_⟩
     conv=>whnf
     refine CondP.dec (fun g=>?_) (fun g=>?_)
     case refine_2=>exact absurd (show ((encEs pl xs).length:Int)>0 by omega) g
     conv=>whnf
     refine ⟨by omega,(l++[40])++([36]++tx),argT [40] [41] xs,rfl,⟨(by first | exact .inl rfl | exact .inr rfl),rfl,rfl⟩,⟨[40],[41],pl,xs,rfl,⟨List.all_eq_true.2 m5,by omega,by omega⟩,rfl⟩,by (try simp only [List.length_append,List.length_cons,List.length_nil]);omega,?_⟩
     conv=>whnf
     refine ⟨Nat.le_of_ble_eq_true rfl,?_⟩
     conv=>whnf
     refine ⟨_,by decide,rfl,?_⟩
     conv=>whnf
     refine ⟨(l++[40])++([36]++tx)++argT [40] [41] xs,[41],rfl,⟨.inr rfl,rfl,rfl⟩,⟨rfl,rfl⟩,by (try simp only [List.length_append,List.length_cons,List.length_nil]);omega,?_⟩
     conv=>whnf
     refine Or.inl ⟨InR.i64 (by omega) (by omega),?_⟩
     rw [show l++([40]++(([36]++tx)++argT [40] [41] xs++[41]))=(l++[40])++([36]++tx)++argT [40] [41] xs++[41] by first | rfl | simp only [List.append_assoc]] at h
     conv=>whnf
     exact h
    have c5:¬op=7:=by omega
    conv=>whnf
    refine CondP.dec (fun c6=>?_) (fun c6=>?_)
    ·have c6':op=3:=by omega
     obtain ⟨i0,i1⟩:=m4 c6'
     conv=>whnf
     refine CondP.dec (fun g=>absurd g (by omega)) (fun g=>?_)
     conv=>whnf
     refine CondP.dec (fun _=>?_) (fun g=>absurd c6 g)
     have hx:exT (.mk op tx nn xs at')=numT nn:=by rw [exT,exN,if_neg c1,if_neg c2,if_neg c3,if_neg c4,if_neg c5,if_pos c6']
     rw [hx] at h hlen
     (try simp only [List.length_append,List.length_cons,List.length_nil] at hlen)
     conv=>whnf
     refine ⟨⟨rfl,i0,i1⟩,?_⟩
     conv=>whnf
     refine ⟨(l++[40]),numT nn,rfl,⟨(by first | exact .inl rfl | exact .inr rfl),rfl,rfl⟩,⟨[numT nn],rfl,by simp,by simp,by simp⟩,by (try simp only [List.length_append,List.length_cons,List.length_nil]);omega,?_⟩
     conv=>whnf
     refine ⟨Nat.le_of_ble_eq_true rfl,?_⟩
     conv=>whnf
     refine ⟨_,by decide,rfl,?_⟩
     conv=>whnf
     refine ⟨(l++[40])++numT nn,[41],rfl,⟨.inr rfl,rfl,rfl⟩,⟨rfl,rfl⟩,by (try simp only [List.length_append,List.length_cons,List.length_nil]);omega,?_⟩
     conv=>whnf
     refine Or.inl ⟨InR.i64 (by omega) (by omega),?_⟩
     rw [show l++([40]++(numT nn++[41]))=(l++[40])++numT nn++[41] by first | rfl | simp only [List.append_assoc]] at h
     conv=>whnf
     exact h
    have c6':¬op=3:=by omega
    conv=>whnf
    refine CondP.dec (fun g=>absurd g c6) (fun _=>?_)
    conv=>whnf
    refine CondP.dec (fun c7=>?_) (fun c7=>?_)
    ·have c7':op=4:=by omega
     have hq:(quoteF tx).isSome=true:=by unfold textB at m3;rw [if_neg (by omega),if_pos c7'] at m3;exact m3
     obtain ⟨q,hq⟩:=Option.isSome_iff_exists.1 hq
     have hqT:quoT tx=q:=by rw [quoT,hq];rfl
     have hx:exT (.mk op tx nn xs at')=q:=by rw [exT,exN,if_neg c1,if_neg c2,if_neg c3,if_neg c4,if_neg c5,if_neg c6',if_pos c7',hqT]
     rw [hx] at h hlen
     (try simp only [List.length_append,List.length_cons,List.length_nil] at hlen)
     conv=>whnf
     refine ⟨by omega,?_⟩
     conv=>whnf
     refine ⟨fun g=>?_,fun q' hq'=>?_⟩
     case refine_1=>exact absurd (hq.symm.trans g) (by simp)
     obtain rfl:q=q':=by rw [hq] at hq';exact Option.some.inj hq'
     conv=>whnf
     refine ⟨(l++[40]),q,rfl,⟨(by first | exact .inl rfl | exact .inr rfl),rfl,rfl⟩,⟨[q],rfl,by simp,by simp,by simp⟩,by (try simp only [List.length_append,List.length_cons,List.length_nil]);omega,?_⟩
     conv=>whnf
     refine ⟨Nat.le_of_ble_eq_true rfl,?_⟩
     conv=>whnf
     refine ⟨_,by decide,rfl,?_⟩
     conv=>whnf
     refine ⟨(l++[40])++q,[41],rfl,⟨.inr rfl,rfl,rfl⟩,⟨rfl,rfl⟩,by (try simp only [List.length_append,List.length_cons,List.length_nil]);omega,?_⟩
     conv=>whnf
     refine Or.inl ⟨InR.i64 (by omega) (by omega),?_⟩
     rw [show l++([40]++(q++[41]))=(l++[40])++q++[41] by first | rfl | simp only [List.append_assoc]] at h
     conv=>whnf
     exact h
    have c7':¬op=4:=by omega
    conv=>whnf
    refine CondP.dec (fun c8=>?_) (fun c8=>?_)
    ·have c8':op=5:=by omega
     have hx:exT (.mk op tx nn xs at')=[110,105,108]:=by rw [exT,exN,if_neg c1,if_neg c2,if_neg c3,if_neg c4,if_neg c5,if_neg c6',if_neg c7',if_pos c8']
     rw [hx] at h hlen
     (try simp only [List.length_append,List.length_cons,List.length_nil] at hlen)
     conv=>whnf
     refine ⟨(l++[40]),[110,105,108],rfl,⟨(by first | exact .inl rfl | exact .inr rfl),rfl,rfl⟩,⟨[[110,105,108]],rfl,by simp,by simp,by simp⟩,by (try simp only [List.length_append,List.length_cons,List.length_nil]);omega,?_⟩
     conv=>whnf
     refine ⟨Nat.le_of_ble_eq_true rfl,?_⟩
     conv=>whnf
     refine ⟨_,by decide,rfl,?_⟩
     conv=>whnf
     refine ⟨(l++[40])++[110,105,108],[41],rfl,⟨.inr rfl,rfl,rfl⟩,⟨rfl,rfl⟩,by (try simp only [List.length_append,List.length_cons,List.length_nil]);omega,?_⟩
     conv=>whnf
     refine Or.inl ⟨InR.i64 (by omega) (by omega),?_⟩
     rw [show l++([40]++([110,105,108]++[41]))=(l++[40])++[110,105,108]++[41] by first | rfl | simp only [List.append_assoc]] at h
     conv=>whnf
     exact h
    have c8':¬op=5:=by omega
    conv=>whnf
    refine CondP.dec (fun c9=>?_) (fun c9=>?_)
    ·have c9':op=2:=by omega
     have hx:exT (.mk op tx nn xs at')=[95]:=by rw [exT,exN,if_neg c1,if_neg c2,if_neg c3,if_neg c4,if_neg c5,if_neg c6',if_neg c7',if_neg c8',if_pos c9']
     rw [hx] at h hlen
     (try simp only [List.length_append,List.length_cons,List.length_nil] at hlen)
     conv=>whnf
     refine ⟨(l++[40]),[95],rfl,⟨(by first | exact .inl rfl | exact .inr rfl),rfl,rfl⟩,⟨[[95]],rfl,by simp,by simp,by simp⟩,by (try simp only [List.length_append,List.length_cons,List.length_nil]);omega,?_⟩
     conv=>whnf
     refine ⟨Nat.le_of_ble_eq_true rfl,?_⟩
     conv=>whnf
     refine ⟨_,by decide,rfl,?_⟩
     conv=>whnf
     refine ⟨(l++[40])++[95],[41],rfl,⟨.inr rfl,rfl,rfl⟩,⟨rfl,rfl⟩,by (try simp only [List.length_append,List.length_cons,List.length_nil]);omega,?_⟩
     conv=>whnf
     refine Or.inl ⟨InR.i64 (by omega) (by omega),?_⟩
     rw [show l++([40]++([95]++[41]))=(l++[40])++[95]++[41] by first | rfl | simp only [List.append_assoc]] at h
     conv=>whnf
     exact h
    have c9':¬op=2:=by omega
    have hx:exT (.mk op tx nn xs at')=tx:=by rw [exT,exN,if_neg c1,if_neg c2,if_neg c3,if_neg c4,if_neg c5,if_neg c6',if_neg c7',if_neg c8',if_neg c9']
    rw [hx] at h hlen
    (try simp only [List.length_append,List.length_cons,List.length_nil] at hlen)
    conv=>whnf
    refine ⟨(l++[40]),tx,rfl,⟨(by first | exact .inl rfl | exact .inr rfl),rfl,rfl⟩,⟨[tx],rfl,by simp,by simp,by simp⟩,by (try simp only [List.length_append,List.length_cons,List.length_nil]);omega,?_⟩
    conv=>whnf
    refine ⟨Nat.le_of_ble_eq_true rfl,?_⟩
    conv=>whnf
    refine ⟨_,by decide,rfl,?_⟩
    conv=>whnf
    refine ⟨(l++[40])++tx,[41],rfl,⟨.inr rfl,rfl,rfl⟩,⟨rfl,rfl⟩,by (try simp only [List.length_append,List.length_cons,List.length_nil]);omega,?_⟩
    conv=>whnf
    refine Or.inl ⟨InR.i64 (by omega) (by omega),?_⟩
    rw [show l++([40]++(tx++[41]))=(l++[40])++tx++[41] by first | rfl | simp only [List.append_assoc]] at h
    conv=>whnf
    exact h
   ·have hW:exW want.toNat (.mk op tx nn xs at')=exT (.mk op tx nn xs at'):=by rw [exW,parP,if_neg (by show ¬lineF op<_;omega)]
    rw [hW] at h hlen
    conv=>whnf
    refine CondP.dec (fun c1=>?_) (fun c1=>?_)
    ·have c1:lineF op<5:=by omega
     have hl2:xs.length=2:=by have:=k1 c1;omega
     obtain ⟨x0,x1,rfl⟩:∃x0 x1,xs=[x0,x1]:=by match xs,hl2 with | [a,b],_=>exact ⟨a,b,rfl⟩
     simp only [szS] at hzx
     have g0:=m5 x0 (by simp)
     have g1:=m5 x1 (by simp)
     have z0:wE x0≤n - 1:=by omega
     have z1:wE x1≤n - 1:=by omega
     obtain ⟨o0,t0,n0,y0,q0⟩:=x0
     obtain ⟨o1,t1,n1,y1,q1⟩:=x1
     have hx:exT (.mk op tx nn [(.mk o0 t0 n0 y0 q0),(.mk o1 t1 n1 y1 q1)] at')=exW (lineF op) (.mk o0 t0 n0 y0 q0)++(([32]++(w1++[32]))++exW (lineF op+1) (.mk o1 t1 n1 y1 q1)):=by rw [exT,exN,if_pos c1,e2];rfl
     rw [hx] at h hlen
     (try simp only [List.length_append,List.length_cons,List.length_nil] at hlen)
     conv=>whnf
     refine ⟨_,by decide,rfl,?_⟩
     conv=>whnf
     refine ⟨by omega,l,exW (lineF op) (.mk o0 t0 n0 y0 q0),rfl,⟨(by first | exact .inl rfl | exact .inr rfl),rfl,rfl⟩,⟨pl,(.mk o0 t0 n0 y0 q0),(lineF op:Int),rfl,⟨g0,by omega,by omega,by omega,by omega⟩,rfl⟩,by (try simp only [List.length_append,List.length_cons,List.length_nil]);omega,?_⟩
     conv=>whnf
     refine ⟨l++exW (lineF op) (.mk o0 t0 n0 y0 q0),[32]++(w1++[32]),rfl,⟨(by first | exact .inl rfl | exact .inr rfl),rfl,rfl⟩,⟨[[32],w1,[32]],rfl,by simp,by simp,by simp⟩,by (try simp only [List.length_append,List.length_cons,List.length_nil]);omega,?_⟩
     conv=>whnf
     refine ⟨_,by decide,rfl,?_⟩
     conv=>whnf
     refine Or.inl ⟨InR.i64 (by omega) (by omega),?_⟩
     conv=>whnf
     refine ⟨by omega,l++exW (lineF op) (.mk o0 t0 n0 y0 q0)++([32]++(w1++[32])),exW (lineF op+1) (.mk o1 t1 n1 y1 q1),rfl,⟨(by first | exact .inl rfl | exact .inr rfl),rfl,rfl⟩,⟨pl,(.mk o1 t1 n1 y1 q1),((lineF op:Int)+1),rfl,⟨g1,by omega,by omega,by omega,by omega⟩,rfl⟩,by (try simp only [List.length_append,List.length_cons,List.length_nil]);omega,?_⟩
     rw [show l++(exW (lineF op) (.mk o0 t0 n0 y0 q0)++(([32]++(w1++[32]))++exW (lineF op+1) (.mk o1 t1 n1 y1 q1)))=l++exW (lineF op) (.mk o0 t0 n0 y0 q0)++([32]++(w1++[32]))++exW (lineF op+1) (.mk o1 t1 n1 y1 q1) by first | rfl | simp only [List.append_assoc]] at h
     conv=>whnf
     exact h
    have c1:¬lineF op<5:=by omega
    conv=>whnf
    refine CondP.dec (fun c2=>?_) (fun c2=>?_)
    ·have c2:lineF op=5:=by omega
     have hl2:xs.length=1:=by have:=k2 c2;omega
     obtain ⟨x0,rfl⟩:∃x0,xs=[x0]:=by match xs,hl2 with | [a],_=>exact ⟨a,rfl⟩
     simp only [szS] at hzx
     have g0:=m5 x0 (by simp)
     have z0:wE x0≤n - 1:=by omega
     obtain ⟨o0,t0,n0,y0,q0⟩:=x0
     have hx:exT (.mk op tx nn [(.mk o0 t0 n0 y0 q0)] at')=w1++exW 5 (.mk o0 t0 n0 y0 q0):=by rw [exT,exN,if_neg c1,if_pos c2,e2];rfl
     rw [hx] at h hlen
     (try simp only [List.length_append,List.length_cons,List.length_nil] at hlen)
     conv=>whnf
     refine ⟨l,w1,rfl,⟨(by first | exact .inl rfl | exact .inr rfl),rfl,rfl⟩,⟨[w1],rfl,by simp,by simp,by simp⟩,by (try simp only [List.length_append,List.length_cons,List.length_nil]);omega,?_⟩
     conv=>whnf
     refine ⟨_,by decide,rfl,?_⟩
     conv=>whnf
     refine ⟨by omega,l++w1,exW 5 (.mk o0 t0 n0 y0 q0),rfl,⟨(by first | exact .inl rfl | exact .inr rfl),rfl,rfl⟩,⟨pl,(.mk o0 t0 n0 y0 q0),5,rfl,⟨g0,by omega,by omega,by omega,by omega⟩,rfl⟩,by (try simp only [List.length_append,List.length_cons,List.length_nil]);omega,?_⟩
     rw [show l++(w1++exW 5 (.mk o0 t0 n0 y0 q0))=l++w1++exW 5 (.mk o0 t0 n0 y0 q0) by first | rfl | simp only [List.append_assoc]] at h
     conv=>whnf
     exact h
    have c2:¬lineF op=5:=by omega
    conv=>whnf
    refine CondP.ndec (fun c3=>?_) (fun c3=>?_)
    ·have c3:wordF op≠[]:=by rw [e2];exact c3
     have hx:exT (.mk op tx nn xs at')=w1++argT [40] [41] xs:=by rw [exT,exN,if_neg c1,if_neg c2,if_pos c3,e2,exPs_snd];rfl
     rw [hx] at h hlen
     (try simp only [List.length_append,List.length_cons,List.length_nil] at hlen)
     conv=>whnf
     refine ⟨l,w1,rfl,⟨(by first | exact .inl rfl | exact .inr rfl),rfl,rfl⟩,⟨[w1],rfl,by simp,by simp,by simp⟩,by (try simp only [List.length_append,List.length_cons,List.length_nil]);omega,?_⟩
     conv=>whnf
     refine ⟨by omega,l++w1,argT [40] [41] xs,rfl,⟨(by first | exact .inl rfl | exact .inr rfl),rfl,rfl⟩,⟨[40],[41],pl,xs,rfl,⟨List.all_eq_true.2 m5,by omega,by omega⟩,rfl⟩,by (try simp only [List.length_append,List.length_cons,List.length_nil]);omega,?_⟩
     rw [show l++(w1++argT [40] [41] xs)=l++w1++argT [40] [41] xs by first | rfl | simp only [List.append_assoc]] at h
     conv=>whnf
     exact h
    have c3:¬wordF op≠[]:=by rw [e2];exact fun g=>g c3
    conv=>whnf
    refine CondP.dec (fun c4=>?_) (fun c4=>?_)
    ·have c4:op=6:=by omega
     have hx:exT (.mk op tx nn xs at')=argT [91] [93] xs:=by rw [exT,exN,if_neg c1,if_neg c2,if_neg c3,if_pos c4,exPs_snd];rfl
     rw [hx] at h hlen
     (try simp only [List.length_append,List.length_cons,List.length_nil] at hlen)
     conv=>whnf
     refine ⟨by omega,l,argT [91] [93] xs,rfl,⟨(by first | exact .inl rfl | exact .inr rfl),rfl,rfl⟩,⟨[91],[93],pl,xs,rfl,⟨List.all_eq_true.2 m5,by omega,by omega⟩,rfl⟩,by (try simp only [List.length_append,List.length_cons,List.length_nil]);omega,?_⟩
     rw [show l++(argT [91] [93] xs)=l++argT [91] [93] xs by first | rfl | simp only [List.append_assoc]] at h
     conv=>whnf
     exact h
    have c4:¬op=6:=by omega
    conv=>whnf
    refine CondP.dec (fun c5=>?_) (fun c5=>?_)
    ·have c5:op=7:=by omega
     have hxl:(encEs pl xs).length=xs.length:=by rw [encEs_eq,List.length_map]
     by_cases hx0:xs.length=0
     ·have hx:exT (.mk op tx nn xs at')=[36]++tx:=by rw [exT,exN,if_neg c1,if_neg c2,if_neg c3,if_neg c4,if_pos c5,exPs_len,if_pos hx0,List.append_nil]
      rw [hx] at h hlen
      (try simp only [List.length_append,List.length_cons,List.length_nil] at hlen)
      conv=>whnf
      refine ⟨l,[36]++tx,rfl,⟨(by first | exact .inl rfl | exact .inr rfl),rfl,rfl⟩,⟨[[36],tx],rfl,by simp,by simp,by simp⟩,by (try simp only [List.length_append,List.length_cons,List.length_nil]);omega,?_⟩
      conv=>whnf
      refine CondP.dec (fun g=>?_) (fun g=>?_)
      case refine_1=>exact absurd (show ((encEs pl xs).length:Int)>0 from g) (by omega)
      rw [show l++([36]++tx)=l++([36]++tx) by first | rfl | simp only [List.append_assoc]] at h
      conv=>whnf
      exact h
     have hx:exT (.mk op tx nn xs at')=([36]++tx)++argT [40] [41] xs:=by rw [exT,exN,if_neg c1,if_neg c2,if_neg c3,if_neg c4,if_pos c5,exPs_len,if_neg hx0,exPs_snd,List.append_assoc];rfl
     rw [hx] at h hlen
     (try simp only [List.length_append,List.length_cons,List.length_nil] at hlen)
     conv=>whnf
     refine ⟨l,[36]++tx,rfl,⟨(by first | exact .inl rfl | exact .inr rfl),rfl,rfl⟩,⟨[[36],tx],rfl,by simp,by simp,by simp⟩,by (try simp only [List.length_append,List.length_cons,List.length_nil]);omega,?_⟩
     conv=>whnf
     refine CondP.dec (fun g=>?_) (fun g=>?_)
     case refine_2=>exact absurd (show ((encEs pl xs).length:Int)>0 by omega) g
     conv=>whnf
     refine ⟨by omega,l++([36]++tx),argT [40] [41] xs,rfl,⟨(by first | exact .inl rfl | exact .inr rfl),rfl,rfl⟩,⟨[40],[41],pl,xs,rfl,⟨List.all_eq_true.2 m5,by omega,by omega⟩,rfl⟩,by (try simp only [List.length_append,List.length_cons,List.length_nil]);omega,?_⟩
     rw [show l++(([36]++tx)++argT [40] [41] xs)=l++([36]++tx)++argT [40] [41] xs by first | rfl | simp only [List.append_assoc]] at h
     conv=>whnf
     exact h
    have c5:¬op=7:=by omega
    conv=>whnf
    refine CondP.dec (fun c6=>?_) (fun c6=>?_)
    ·have c6':op=3:=by omega
     obtain ⟨i0,i1⟩:=m4 c6'
     conv=>whnf
     refine CondP.dec (fun g=>absurd g (by omega)) (fun g=>?_)
     conv=>whnf
     refine CondP.dec (fun _=>?_) (fun g=>absurd c6 g)
     have hx:exT (.mk op tx nn xs at')=numT nn:=by rw [exT,exN,if_neg c1,if_neg c2,if_neg c3,if_neg c4,if_neg c5,if_pos c6']
     rw [hx] at h hlen
     (try simp only [List.length_append,List.length_cons,List.length_nil] at hlen)
     conv=>whnf
     refine ⟨⟨rfl,i0,i1⟩,?_⟩
     conv=>whnf
     refine ⟨l,numT nn,rfl,⟨(by first | exact .inl rfl | exact .inr rfl),rfl,rfl⟩,⟨[numT nn],rfl,by simp,by simp,by simp⟩,by (try simp only [List.length_append,List.length_cons,List.length_nil]);omega,?_⟩
     rw [show l++(numT nn)=l++numT nn by first | rfl | simp only [List.append_assoc]] at h
     conv=>whnf
     exact h
    have c6':¬op=3:=by omega
    conv=>whnf
    refine CondP.dec (fun g=>absurd g c6) (fun _=>?_)
    conv=>whnf
    refine CondP.dec (fun c7=>?_) (fun c7=>?_)
    ·have c7':op=4:=by omega
     have hq:(quoteF tx).isSome=true:=by unfold textB at m3;rw [if_neg (by omega),if_pos c7'] at m3;exact m3
     obtain ⟨q,hq⟩:=Option.isSome_iff_exists.1 hq
     have hqT:quoT tx=q:=by rw [quoT,hq];rfl
     have hx:exT (.mk op tx nn xs at')=q:=by rw [exT,exN,if_neg c1,if_neg c2,if_neg c3,if_neg c4,if_neg c5,if_neg c6',if_pos c7',hqT]
     rw [hx] at h hlen
     (try simp only [List.length_append,List.length_cons,List.length_nil] at hlen)
     conv=>whnf
     refine ⟨by omega,?_⟩
     conv=>whnf
     refine ⟨fun g=>?_,fun q' hq'=>?_⟩
     case refine_1=>exact absurd (hq.symm.trans g) (by simp)
     obtain rfl:q=q':=by rw [hq] at hq';exact Option.some.inj hq'
     conv=>whnf
     refine ⟨l,q,rfl,⟨(by first | exact .inl rfl | exact .inr rfl),rfl,rfl⟩,⟨[q],rfl,by simp,by simp,by simp⟩,by (try simp only [List.length_append,List.length_cons,List.length_nil]);omega,?_⟩
     rw [show l++(q)=l++q by first | rfl | simp only [List.append_assoc]] at h
     conv=>whnf
     exact h
    have c7':¬op=4:=by omega
    conv=>whnf
    refine CondP.dec (fun c8=>?_) (fun c8=>?_)
    ·have c8':op=5:=by omega
     have hx:exT (.mk op tx nn xs at')=[110,105,108]:=by rw [exT,exN,if_neg c1,if_neg c2,if_neg c3,if_neg c4,if_neg c5,if_neg c6',if_neg c7',if_pos c8']
     rw [hx] at h hlen
     (try simp only [List.length_append,List.length_cons,List.length_nil] at hlen)
     conv=>whnf
     refine ⟨l,[110,105,108],rfl,⟨(by first | exact .inl rfl | exact .inr rfl),rfl,rfl⟩,⟨[[110,105,108]],rfl,by simp,by simp,by simp⟩,by (try simp only [List.length_append,List.length_cons,List.length_nil]);omega,?_⟩
     rw [show l++([110,105,108])=l++[110,105,108] by first | rfl | simp only [List.append_assoc]] at h
     conv=>whnf
     exact h
    have c8':¬op=5:=by omega
    conv=>whnf
    refine CondP.dec (fun c9=>?_) (fun c9=>?_)
    ·have c9':op=2:=by omega
     have hx:exT (.mk op tx nn xs at')=[95]:=by rw [exT,exN,if_neg c1,if_neg c2,if_neg c3,if_neg c4,if_neg c5,if_neg c6',if_neg c7',if_neg c8',if_pos c9']
     rw [hx] at h hlen
     (try simp only [List.length_append,List.length_cons,List.length_nil] at hlen)
     conv=>whnf
     refine ⟨l,[95],rfl,⟨(by first | exact .inl rfl | exact .inr rfl),rfl,rfl⟩,⟨[[95]],rfl,by simp,by simp,by simp⟩,by (try simp only [List.length_append,List.length_cons,List.length_nil]);omega,?_⟩
     rw [show l++([95])=l++[95] by first | rfl | simp only [List.append_assoc]] at h
     conv=>whnf
     exact h
    have c9':¬op=2:=by omega
    have hx:exT (.mk op tx nn xs at')=tx:=by rw [exT,exN,if_neg c1,if_neg c2,if_neg c3,if_neg c4,if_neg c5,if_neg c6',if_neg c7',if_neg c8',if_neg c9']
    rw [hx] at h hlen
    (try simp only [List.length_append,List.length_cons,List.length_nil] at hlen)
    conv=>whnf
    refine ⟨l,tx,rfl,⟨(by first | exact .inl rfl | exact .inr rfl),rfl,rfl⟩,⟨[tx],rfl,by simp,by simp,by simp⟩,by (try simp only [List.length_append,List.length_cons,List.length_nil]);omega,?_⟩
    rw [show l++(tx)=l++tx by first | rfl | simp only [List.append_assoc]] at h
    conv=>whnf
    exact h
 ·exact h.elim
end Go.PM.Lex
end

section
set_option maxRecDepth 100000
set_option maxHeartbeats 4000000
namespace Go.PM.Lex
open Go.Proofs Go.Shelf Go.RowKit
variable {w0:World} {nG:Nat}
theorem freeze_own (w:World) (g n:Nat) {cs:Array Value} {ty:TypeId} {fz:Nat×Nat} (h:w.heap[g]?=some (.cells cs ty fz)) (h1:fz.1≤fz.2) (h2:∀o,n≤o→fz.1≤o→fz.2≤o) :
  ∃fz',(w.drew.freeze ⟨g,0,none⟩ n).heap[g]?=some (.cells cs ty fz')∧fz'.1≤fz'.2∧∀o,n≤o→fz'.1≤o→fz'.2≤o:=by
 have h':w.drew.heap[g]?=some (.cells cs ty fz):=h
 obtain ⟨lo,hi⟩:=fz
 unfold World.freeze
 split
 ·exact ⟨_,h',h1,h2⟩
 ·simp only [Array.getElem?_modify,if_true,h',Option.map_some]
  refine ⟨_,rfl,?_,?_⟩
  ·split
   ·exact Nat.zero_le _
   ·simp only at h1 ⊢;omega
  ·intro o ho ho2
   split
   ·simp only;omega
   ·rename_i hne
    have hne:lo≠hi:=by simpa using hne
    simp only at h1 ⊢
    have k:=h2 (max lo n) (by omega) (by simp only;omega)
    simp only at k
    omega
theorem _root_.Go.PM.Owned.grow {G:GE} {e:Env} {w w':World} {t el:Nat} {rows:List (List D)} {v:Value} (h:Owned G e w t el rows v) (g:Grows w w'):Owned G e w' t el rows v:=by
 rcases h with h | ⟨sz,a1,a2,a3,b,off,cap,cs,ty,fz,a4,a5,a6,a7,a8,a9,a10⟩
 ·exact .inl h
 ·exact .inr ⟨sz,a1,a2,a3,b,off,cap,cs,ty,fz,a4,a5,a6,(g.old _ (Array.getElem?_eq_some_iff.1 a7).1).trans a7,a8,a9,a10⟩
theorem _root_.Go.PM.Owned.refreeze {G:GE} {e:Env} {w w':World} {t:Nat} {rows:List (List D)} {v:Value} {g n:Nat} {cs:Array Value} {ty:TypeId} {fz fz':Nat×Nat} (h:Owned G e w t 5 rows v) (hM:e.M t=some (g,n))
  (h':w'.heap[g]?=some (.cells cs ty fz')) (h0:w.heap[g]?=some (.cells cs ty fz)) (h1:fz'.1≤fz'.2) (h2:∀o,n≤o→fz'.1≤o→fz'.2≤o):Owned G e w' t 5 rows v:=by
 rcases h with ⟨_,_,h⟩ | ⟨sz,a1,a2,a3,b,off,cap,cs2,ty2,fz2,a4,a5,a6,a7,a8,a9,a10⟩
 ·rw [hM] at h;cases h
 ·rw [hM] at a10
  simp only [Option.some.injEq,Prod.mk.injEq] at a10
  obtain ⟨rfl,rfl⟩:=a10
  rw [h0] at a7
  cases a7
  exact .inr ⟨sz,a1,a2,a3,g,off,cap,cs,ty,fz',a4,a5,a6,h',a8,⟨h1,h2⟩,hM⟩
theorem strikeK {G:GE} {e:Env} {w w':World} {t:TypeId} {p:PV} {rows:List (List D)} (hp:p=.d .nilp∨p=.ptr 0 0) (hS:SRel G e ⟨[.cells t [p,.sl 0 5 rows]],[0],1⟩ w)
  (hsz:w.heap.size≤w'.heap.size) (hos:w'.os=w.os) (htp:w'.tape=w.tape) (hout:w'.output=w.output)
  (hcell:∀b off u,w.cell? ⟨b,off,none⟩=some u→w'.cell? ⟨b,off,none⟩=some u)
  (hblk:∀b,b<w.heap.size→(∀q,e.M 0=some q→q.1≠b)→w'.heap[b]?=w.heap[b]?)
  (hown:∀v,Owned G e w 0 5 rows v→Owned G e w' 0 5 rows v) (hobk:∀q,e.M 0=some q→∃cs ty fz,w'.heap[q.1]?=some (.cells cs ty fz)) :
  SRel G e ⟨[.cells t [p,.sl 0 5 rows]],[0],1⟩ w'∧Later e ⟨[.cells t [p,.sl 0 5 rows]],[0],1⟩ w e ⟨[.cells t [p,.sl 0 5 rows]],[0],1⟩ w':=by
 have hL:Later e ⟨[.cells t [p,.sl 0 5 rows]],[0],1⟩ w e ⟨[.cells t [p,.sl 0 5 rows]],[0],1⟩ w':={
  len:=Nat.le_refl _
  beta:=fun _ _=>rfl
  X:=rfl
  pres:=fun b off u hu ho=>⟨ho,hcell b off u hu⟩
  blocks:=fun b hb h1 h2=>hblk b hb fun q hq=>h2 0 (by simp) q hq
  size:=hsz
  os:=hos
  tape:=htp
  output:=hout
  fresh:=fun i h1 h2=>by simp at h1 h2;omega
  ftok:=fun x hx q hq=>.inr ⟨x,hx,q,hq,rfl⟩ }
 have hlt:=hS.lt (i:=0) (by simp)
 have hblk0:w'.heap[e.β 0]?=w.heap[e.β 0]?:=hblk _ hlt fun q hq=>fun h=>(hS.own 0 (by simp) q hq).2.1 0 (by simp) h.symm
 refine ⟨?_,hL⟩
 exact {
  inj:=hS.inj
  box:=fun i x hx=>by
   match i,hx with
   | 0,hx =>
    cases hx
    obtain ⟨cv,h1,h2,h3⟩:=hS.box 0 _ rfl
    refine ⟨cv,hblk0.trans h1,h2,fun j y u hy hu=>?_⟩
    match j,hy with
    | 0,hy =>
     cases hy
     obtain ⟨q1,q2⟩:=h3 0 p u rfl hu
     refine ⟨?_,q2⟩
     rcases hp with rfl | rfl
     ·cases q1 with
      | d _ _ hd=>exact .d _ _ (hd.later hL)
     ·cases q1 with
      | ptr b o hb=>exact .ptr 0 0 (by simp)
    | 1,hy =>
     cases hy
     obtain ⟨q1,q2⟩:=h3 1 (.sl 0 5 rows) u rfl hu
     refine ⟨?_,q2⟩
     cases q1 with
     | sl _ _ _ _ hn hd ht=>exact .sl _ _ _ _ hn (hd.later hL) (fun h=>hown _ (ht h))
    | j+2,hy=>simp at hy
   | i+1,hx=>simp at hx
  low:=hS.low
  tkn:=hS.tkn
  own:=fun x hx q hq=>by
   obtain ⟨a,b,_⟩:=hS.own x hx q hq
   obtain rfl:x=0:=by simpa using hx
   exact ⟨a,b,hobk q hq⟩
  dis:=hS.dis
  xlt:=fun b off hx=>Nat.lt_of_lt_of_le (hS.xlt b off hx) hsz
  xown:=hS.xown
  glob:=fun b hb=>by
   rw [hblk b (Nat.lt_of_lt_of_le hb hS.big) fun q hq=>fun h=>by have:=(hS.own 0 (by simp) q hq).1;omega]
   exact hS.glob b hb
  big:=Nat.le_trans hS.big hsz }
noncomputable def spStringK:Spec:=fun args σ K=>match args,σ with
 | [.ptr 0 0],⟨[.cells t [p,.sl 0 e rows]],[0],1⟩=>∃l:Bs,(rows=bytesR l∧t=84∧e=5∧(p=.d .nilp∨p=.ptr 0 0)∧l.length<70368744177664)∧K (.ret (.d (.str l))) ⟨[.cells t [p,.sl 0 e rows]],[0],1⟩
 | _,_=>False
theorem spStringK_mono:SpecMono spStringK:=fun args σ K K' hK h=>by
 unfold spStringK at h ⊢
 split at h
 ·obtain ⟨x,h1,h2⟩:=h;exact ⟨x,h1,hK _ _ h2⟩
 ·exact h.elim
theorem stringK_ok:PCalls (GG w0 nG) 31 spStringK:=pcalls_mach (enters_of Tryz.func31 (by kernel_rfl) rfl) fun args σ K h e w vs hS ha=>by
 unfold spStringK at h
 split at h
 ·rename_i t p el rows
  obtain ⟨l,⟨rfl,rfl,rfl,hp,hbig⟩,hK⟩:=h
  obtain ⟨u,rfl,hu⟩:=args1 ha
  obtain ⟨cv,hc1,hc2,hc3⟩:=hS.box 0 _ rfl
  have hcs:cv.size=2:=hc2
  obtain ⟨v0,v1,rfl⟩:∃v0 v1,cv=#[v0,v1]:=by
   obtain ⟨lst⟩:=cv
   match lst,hcs with
   | [a,b],_=>exact ⟨a,b,rfl⟩
  have hr1:=(hc3 1 (.sl 0 5 (bytesR l)) v1 rfl rfl).1
  cases hu with
  | ptr b off hb =>
  refine ⟨_,_,.string ⟨l.toArray⟩,hK,?_⟩
  have fin:∀w',w.heap.size≤w'.heap.size→w'.os=w.os→w'.tape=w.tape→w'.output=w.output →
    (∀b off u,w.cell? ⟨b,off,none⟩=some u→w'.cell? ⟨b,off,none⟩=some u) →
    (∀b,b<w.heap.size→(∀q,e.M 0=some q→q.1≠b)→w'.heap[b]?=w.heap[b]?)→(∀v,Owned (GG w0 nG) e w 0 5 (bytesR l) v→Owned (GG w0 nG) e w' 0 5 (bytesR l) v)→(∀q,e.M 0=some q→∃cs ty fz,w'.heap[q.1]?=some (.cells cs ty fz)) →
    VRel (GG w0 nG) e ⟨[.cells 84 [p,.sl 0 5 (bytesR l)]],[0],1⟩ w' (.d (.str l)) (.string ⟨l.toArray⟩)∧SRel (GG w0 nG) e ⟨[.cells 84 [p,.sl 0 5 (bytesR l)]],[0],1⟩ w'∧Later e ⟨[.cells 84 [p,.sl 0 5 (bytesR l)]],[0],1⟩ w e ⟨[.cells 84 [p,.sl 0 5 (bytesR l)]],[0],1⟩ w':=fun w' h1 h2 h3 h4 h5 h6 h7 h8 =>
   ⟨.mkstr,strikeK hp hS h1 h2 h3 h4 h5 h6 h7 h8⟩
  have grown:∀w',Grows w w'→_:=fun w' g=>fin w' g.size g.os g.tape g.output (fun b off u hu=>(g.cell (cell_lt hu)).trans hu) (fun b hb _=>g.old b hb) (fun v hv=>hv.grow g) (fun q hq=>by obtain ⟨_,_,cs,ty,fz,hh⟩:=hS.own 0 (by simp) q hq;exact ⟨cs,ty,fz,(g.old _ (Array.getElem?_eq_some_iff.1 hh).1).trans hh⟩)
  cases hr1 with
  | sl _ _ _ _ hn hd ht =>
  rcases ht (by simp) with ⟨rfl,hrows,hM⟩ | ⟨sz,g1,g2,g3,g,off,cap,cs,ty,fz,rfl,g4,g5,g6,⟨g7,rfl,rfl,g8⟩,g9,hM⟩
  ·have hl:l=[]:=by simpa [bytesR] using hrows
   subst hl
   refine (str_nil2 Tryz.lays169 Tryz.Builder_Extra_169 w.heap.size (e.β 0) v0 w hc1).mono fun en w' ⟨h1,h2⟩=>?_
   exact ⟨h1,grown w' (Grows.of_below h2)⟩
  ·have hsz1:sz=1:=by
    have:(Tryz.prog.info? 5).map (·.size)=some sz:=g1
    rw [info5] at this;cases this;rfl
   subst hsz1
   rw [bytesR_len'] at g5 hc1 g9 hM hd
   by_cases hl:l=[]
   ·subst hl
    refine (str_room2 Tryz.lays169 Tryz.Builder_Extra_169 w.heap.size (e.β 0) g cap v0 w (by omega) hc1).mono fun en w' ⟨h1,h2⟩=>?_
    exact ⟨h1,grown w' (Grows.of_below h2)⟩
   ·have hcell:∀j x,l[j]?=some x→w.cell? ⟨g,j,none⟩=some (.int .u8 x.toNat):=by
     intro j x hx
     have hj:=(List.getElem?_eq_some_iff.1 hx).1
     have hrow:(bytesR l)[j]?=some [.int .u8 x.toNat]:=by simp [bytesR,hx]
     generalize hrr:bytesR l=rr at hd hrow
     have hlen:rr.length=l.length:=by rw [← hrr];simp [bytesR]
     generalize hvv:Value.slice (some ⟨g,0,none⟩) l.length cap=vv at hd
     cases hd with
     | slnil=>simp at hrow
     | slz=>simp at hrow
     | sl _ _ _ _ sz u hcap hsz hc ho hu =>
      simp only [Value.slice.injEq,Option.some.injEq,Addr.mk.injEq] at hvv
      obtain ⟨⟨rfl,rfl,_⟩,_,rfl⟩:=hvv
      have hsz':sz=1:=by
       have:=hsz _ (List.mem_of_getElem? hrow);simpa using this.symm
      subst hsz'
      have h1:=hc j 0 (by omega) (by omega)
      have h2:=hu j 0 (.int .u8 x.toNat) (by rw [hrow];rfl)
      generalize huu:u j 0=uu at h1 h2;cases h2
      simpa using h1
    obtain ⟨fz',hfz',hfa,hfb⟩:=freeze_own w g l.length g6 g9.1 (fun o ho=>g9.2 o (by omega))
    refine (str_exact2 Tryz.lays169 Tryz.Builder_Extra_169 (e.β 0) g cap v0 cs fz l w hl hc1 g6 (by omega) (by omega) (by omega) hcell).mono fun en w' ⟨h1,h2⟩=>?_
    rw [h2]
    refine ⟨h1,fin _ ?_ ?_ ?_ ?_ ?_ ?_ ?_ ?_⟩
    ·unfold World.freeze;split <;> first | exact Nat.le_refl _ | (simp only [Array.size_modify];exact Nat.le_refl _)
    ·unfold World.freeze;split <;> rfl
    ·unfold World.freeze;split <;> rfl
    ·unfold World.freeze;split <;> rfl
    ·intro b off u hu
     by_cases hbg:b=g
     ·subst hbg
      simp only [World.cell?,hfz',g6] at hu ⊢
      exact hu
     ·simpa [World.cell?,freeze_heap w g l.length b hbg] using hu
    ·intro b hb hq
     exact freeze_heap w g l.length b fun h=>hq _ hM h.symm
    ·intro v hv
     exact hv.refreeze hM hfz' g6 hfa (by simpa [bytesR_len'] using hfb)
    ·intro q hq
     rw [hM] at hq;cases hq
     exact ⟨_,_,_,hfz'⟩
 ·exact h.elim
end Go.PM.Lex
end

section
set_option maxRecDepth 100000
set_option maxHeartbeats 4000000
namespace Go.PM.Lex
open Go.Proofs
variable {w0:World} {nG:Nat}
noncomputable def tblLiEb (n:Nat):Tbl:=[(155,spWSx),(157,spOne (aggV encE) ablE exT wE n)]
theorem liEb_ok {n:Nat} (ht:TblOK (GG w0 nG) (tblLiEb n)):PCalls (GG w0 nG) 156 (spLi 157 encE ablE exT wE n):=by
 refine pcalls tab_ok mixed (tbl:=tblLiEb n) ht Tryz.func156 rfl (by kernel_rfl) (by kernel_rfl) ?_
 intro args σ K h
 unfold spLi at h
 split at h
 ·rename_i r bt g t e rows tp
  obtain ⟨l,pl,xs,rfl,rfl,⟨rfl,rfl,rfl⟩,⟨hmay,hz,hn⟩,hlen,h⟩:=h
  have hl1:(xs.map (encE pl)).length=xs.length:=List.length_map ..
  have hsz:=szS_len wE xs
  refine ⟨loopsOf [(1,⟨[12],[0,1,2,3,10,11],fun vs σ=>∃i:Nat,vs=[.d (.int .i64 i)]∧σ=⟨[.cells 84 [.ptr 0 0,.sl 0 5 (bytesR (l++commas bt ((xs.take i).map exT)))],.cells tp [.ptr 0 0]],[0],1⟩∧i≤xs.length,fun vs _=>match vs with | [.d (.int _ i)]=>((xs.length:Int) - i).toNat | _=>0⟩)],2,true,by simp,Nat.le_of_ble_eq_true rfl,?_⟩
  conv=>whnf
  refine ⟨⟨0,rfl,(by simp only [List.take_zero,List.map_nil,commas,List.append_nil];rfl),by omega⟩,?_⟩
  intro vs σ hI
  obtain ⟨i,rfl,rfl,hi⟩:=hI
  conv=>whnf
  refine CondP.dec (fun hi2=>?_) (fun hi2=>?_)
  ·have hi2:i<xs.length:=by have hi2:(i:Int)<(xs.map (encE pl)).length:=hi2;rw [hl1] at hi2;omega
   have hg:=szS_get wE xs i hi2
   have hmx:ablE xs[i]=true:=List.all_eq_true.1 hmay _ (List.getElem_mem hi2)
   have htk:=commas_take bt exT hi2
   have hle:=commas_le bt exT xs (i+1)
   obtain ⟨eA,hA⟩:∃x,xs[i]=x:=⟨_,rfl⟩
   obtain ⟨a1,a2,a3,a4,a5⟩:=eA
   rw [hA] at hg hmx htk
   have hr1:(xs.map (encE pl))[((i:Nat):Int).toNat]?=some (encE pl (.mk a1 a2 a3 a4 a5)):=by simp [hi2,hA]
   conv=>whnf
   refine ⟨_,by omega,hr1,?_⟩
   conv=>whnf
   refine CondP.dec (fun h0=>?_) (fun h0=>?_)
   ·have h0:0<i:=by omega
    rw [if_neg (by omega)] at htk
    rw [htk] at hle
    simp only [List.length_append] at hle
    conv=>whnf
    refine ⟨l++commas bt ((xs.take i).map exT),bt,rfl,⟨.inr rfl,rfl,rfl⟩,⟨rfl,rfl⟩,by simp only [List.length_append];omega,?_⟩
    conv=>whnf
    refine ⟨l++commas bt ((xs.take i).map exT)++bt,pl,(.mk a1 a2 a3 a4 a5),rfl,rfl,⟨rfl,rfl⟩,⟨hmx,by omega,by omega⟩,by simp only [List.length_append];omega,?_⟩
    conv=>whnf
    refine Or.inl ⟨InR.i64 (by omega) (by omega),?_⟩
    conv=>whnf
    refine ⟨⟨i+1,rfl,(by rw [htk];simp only [List.append_assoc];rfl),by omega⟩,?_⟩
    show ((xs.length:Int) - ((i:Int)+1)).toNat<((xs.length:Int) - (i:Int)).toNat
    omega
   ·obtain rfl:i=0:=by omega
    rw [if_pos rfl] at htk
    rw [htk] at hle
    conv=>whnf
    refine ⟨l++commas bt ((xs.take 0).map exT),pl,(.mk a1 a2 a3 a4 a5),rfl,rfl,⟨rfl,rfl⟩,⟨hmx,by omega,by omega⟩,by simp only [List.take_zero,List.map_nil,commas,List.length_append,List.length_nil];omega,?_⟩
    conv=>whnf
    refine Or.inl ⟨InR.i64 (by omega) (by omega),?_⟩
    conv=>whnf
    refine ⟨⟨1,rfl,(by rw [htk];simp only [List.take_zero,List.map_nil,commas,List.append_nil];rfl),by omega⟩,?_⟩
    show ((xs.length:Int) - ((0:Int)+1)).toNat<((xs.length:Int) - (0:Int)).toNat
    omega
  ·have hi2:i=xs.length:=by have hi2:¬(i:Int)<(xs.map (encE pl)).length:=hi2;rw [hl1] at hi2;omega
   subst hi2
   rw [List.take_length]
   conv=>whnf
   exact h
 ·exact h.elim
theorem cWA_of {n:Nat} (h:PCalls (GG w0 nG) 30 (spWE n)):PCalls (GG w0 nG) 76 (spWA n) :=
 wa_ok ⟨⟨add_ok,spAdd_mono⟩,⟨liEb_ok ⟨⟨ws_ok,spWSx_mono⟩,⟨wa1_ok ⟨⟨h,spWE_mono n⟩,trivial⟩,spOne_mono _ _ _ _ _⟩,trivial⟩,spLi_mono _ _ _ _ _ _⟩,trivial⟩
theorem cWE (hL:LexC w0 nG):∀n,PCalls (GG w0 nG) 30 (spWE n)
 | 0=>we_ok ⟨⟨of_ok,spOf_mono⟩,⟨add_ok,spAdd_mono⟩,⟨pcalls_none (enters_of Tryz.func30 (by kernel_rfl) rfl),spB_mono spWE_mono _⟩,⟨pcalls_none (enters_of Tryz.func76 (by kernel_rfl) rfl),spB_mono spWA_mono _⟩,⟨fmt_ok,spFmt_mono⟩,⟨hL.quote,spQuote_mono⟩,trivial⟩
 | n+1=>we_ok ⟨⟨of_ok,spOf_mono⟩,⟨add_ok,spAdd_mono⟩,⟨pcalls_less (sp:=spWE) (cWE hL n),spB_mono spWE_mono _⟩,⟨pcalls_less (sp:=spWA) (cWA_of (cWE hL n)),spB_mono spWA_mono _⟩,⟨fmt_ok,spFmt_mono⟩,⟨hL.quote,spQuote_mono⟩,trivial⟩
noncomputable def spTold:Spec:=fun args σ K=>match args,σ with
 | [.ptr 0 0,.d (.int .i64 c)],⟨[.cells t [p,.sl 0 e rows]],[0],1⟩=>∃l:Bs,(rows=bytesR l∧t=84∧e=5∧(p=.d .nilp∨p=.ptr 0 0)∧l.length<70368744177664) ∧
   ((c=3∨c=151→K (.ret (.tuple [.d (.str []),.d (.int .i64 3)])) ⟨[.cells t [p,.sl 0 e rows]],[0],1⟩)∧(c≠3∧c≠151→K (.ret (.tuple [.d (.str l),.d (.int .i64 0)])) ⟨[.cells t [p,.sl 0 e rows]],[0],1⟩))
 | _,_=>False
theorem spTold_mono:SpecMono spTold:=fun args σ K K' hK h=>by
 unfold spTold at h ⊢
 split at h
 ·obtain ⟨l,h1,h2,h3⟩:=h;exact ⟨l,h1,fun g=>hK _ _ (h2 g),fun g=>hK _ _ (h3 g)⟩
 ·exact h.elim
noncomputable def tblTold:Tbl:=[(31,spStringK)]
theorem told_ok:PCalls (GG w0 nG) 32 spTold:=by
 refine pcalls tab_ok mixed (tbl:=tblTold) ⟨⟨stringK_ok,spStringK_mono⟩,trivial⟩ Tryz.func32 rfl (by kernel_rfl) (by kernel_rfl) ?_
 intro args σ K h
 unfold spTold at h
 split at h
 ·rename_i c t p e rows
  obtain ⟨l,⟨rfl,rfl,rfl,hp,hlen⟩,ha,hb⟩:=h
  refine ⟨loopsOf [],1,true,by simp,Nat.le_of_ble_eq_true rfl,?_⟩
  rcases hp with rfl | rfl
  all_goals
   conv=>whnf
   refine CondP.dec (fun c1=>?_) (fun c1=>?_)
   ·conv=>whnf
    exact ha (.inl c1)
   conv=>whnf
   refine CondP.dec (fun c2=>?_) (fun c2=>?_)
   ·conv=>whnf
    exact ha (.inr c2)
   conv=>whnf
   refine ⟨l,⟨rfl,rfl,rfl,(by first | exact .inl rfl | exact .inr rfl),hlen⟩,?_⟩
   conv=>whnf
   exact hb ⟨c1,c2⟩
 ·exact h.elim
def printed (txt:Bs) {α:Type}:Top α→Bs×Nat
 | .ok _ _=>(txt,0)
 | .err _ e=>if e=3∨e=151 then ([],3) else (txt,0)
noncomputable def spPE (n:Nat):Spec:=fun args σ K=>match args,σ with
 | [.agg c],⟨[],[],0⟩=>∃pl e,c=(encE pl e).map .d∧((mayE e=true→numB e=true∧(exT e).length<1073741824)∧wE e≤n∧n≤1073741824) ∧
   ((mayE e=false→K (.ret (.tuple [.d (.str []),.d (.int .i64 160)])) ⟨[],[],0⟩)∧(mayE e=true→∀x,readTop 65536 16384 (exprD 64) (exT e)=x→K (.ret (.tuple [.d (.str (printed (exT e) x).1),.d (.int .i64 (printed (exT e) x).2)])) ⟨[],[],0⟩))
 | _,_=>False
theorem spPE_mono (n:Nat):SpecMono (spPE n):=fun args σ K K' hK h=>by
 unfold spPE at h ⊢
 split at h
 ·obtain ⟨pl,e,h1,h2,h3,h4⟩:=h;exact ⟨pl,e,h1,h2,fun g=>hK _ _ (h3 g),fun g x hx=>hK _ _ (h4 g x hx)⟩
 ·exact h.elim
noncomputable def tblPE (n:Nat):Tbl:=[(29,spHo (aggV encE) mayE wE n),(30,spWE n),(31,spStringK),(14,spTopE),(32,spTold)]
theorem pe_ok {n:Nat} (ht:TblOK (GG w0 nG) (tblPE n)):PCalls (GG w0 nG) 13 (spPE n):=by
 refine pcalls tab_ok mixed (tbl:=tblPE n) ht Tryz.func13 rfl (by kernel_rfl) (by kernel_rfl) ?_
 intro args σ K h
 unfold spPE at h
 split at h
 ·obtain ⟨pl,⟨op,tx,nn,xs,at'⟩,rfl,⟨hab,hz,hn⟩,ha,hb⟩:=h
  obtain ⟨E,hE⟩:∃E,Ex.mk op tx nn xs at'=E:=⟨_,rfl⟩
  refine ⟨loopsOf [],0,true,by simp,Nat.le_of_ble_eq_true rfl,?_⟩
  conv=>whnf
  refine ⟨pl,.mk op tx nn xs at',rfl,⟨hz,hn⟩,fun b hb1=>?_⟩
  cases b with
  | false =>
   conv=>whnf
   exact ha hb1
  | true =>
   obtain ⟨h1,h2⟩:=hab hb1
   have hb:=hb hb1
   conv=>whnf
   refine ⟨[],exW 0 (.mk op tx nn xs at'),rfl,⟨.inl rfl,rfl,rfl⟩,⟨pl,.mk op tx nn xs at',0,rfl,⟨by rw [ablE,hb1,h1];rfl,hz,hn,by omega,by omega⟩,rfl⟩,by rw [exW_0];simp only [List.length_nil];omega,?_⟩
   rw [exW_0]
   obtain ⟨T,hT⟩:∃T,exT (.mk op tx nn xs at')=T:=⟨_,rfl⟩
   rw [hT] at hb h2 ⊢
   conv=>whnf
   refine ⟨T,⟨rfl,rfl,rfl,.inr rfl,by omega⟩,?_⟩
   conv=>whnf
   refine ⟨by omega,fun x hx=>?_⟩
   have hb:=hb x hx
   cases x with
   | ok v L =>
    obtain ⟨v1,v2,v3,v4,v5⟩:=v
    unfold TopK
    dsimp only
    conv=>whnf
    refine ⟨T,⟨rfl,rfl,rfl,.inr rfl,by omega⟩,?_⟩
    conv=>whnf
    refine ⟨fun g=>absurd g (by decide),fun _=>?_⟩
    conv=>whnf
    exact hb
   | err p c =>
    conv=>whnf
    refine ⟨T,⟨rfl,rfl,rfl,.inr rfl,by omega⟩,?_⟩
    conv=>whnf
    refine ⟨fun g=>?_,fun g=>?_⟩
    ·conv=>whnf
     rw [printed,if_pos (by omega)] at hb
     exact hb
    ·conv=>whnf
     rw [printed,if_neg (by omega)] at hb
     exact hb
 ·exact h.elim
theorem cPE (hg:GlobOK w0 nG) (hL:LexC w0 nG) (n:Nat):PCalls (GG w0 nG) 13 (spPE n) :=
 pe_ok ⟨⟨cHE hL n,spHo_mono _ _ _ _⟩,⟨cWE hL n,spWE_mono n⟩,⟨stringK_ok,spStringK_mono⟩,⟨cTopE hg,spTopE_mono⟩,⟨told_ok,spTold_mono⟩,trivial⟩
def oneE:Ex:=.mk 8 [] 0 [.mk 10 [] 0 [.mk 1 [97] 0 [] 0,.mk 3 [] 1 [] 0] 0] 0
theorem one_may:mayE oneE=true:=by decide +kernel
theorem one_txt:exT oneE=[45,40,97,32,43,32,49,41]:=by decide +kernel
def okTop {α:Type}:Top α→Bool | .ok _ _=>true | .err _ _=>false
theorem one_read:okTop (readTop 65536 16384 (exprD 64) [45,40,97,32,43,32,49,41])=true:=by decide +kernel
noncomputable def spTrue16:Spec:=fun args σ K=>match args,σ with
 | [],⟨[],[],0⟩=>K (.ret (.d (.bool true))) ⟨[],[],0⟩
 | _,_=>False
theorem spTrue16_mono:SpecMono spTrue16:=fun args σ K K' hK h=>by
 unfold spTrue16 at h ⊢
 split at h
 ·exact hK _ _ h
 ·exact h.elim
noncomputable def tblWorks16:Tbl:=[(13,spPE 1000)]
theorem works16_ok (ht:TblOK (GG w0 nG) tblWorks16):PCalls (GG w0 nG) 12 spTrue16:=by
 refine pcalls tab_ok mixed (tbl:=tblWorks16) ht Tryz.func12 rfl (by kernel_rfl) (by kernel_rfl) ?_
 intro args σ K h
 unfold spTrue16 at h
 split at h
 ·refine ⟨loopsOf [],0,false,by simp,Nat.le_of_ble_eq_true rfl,?_⟩
  conv=>whnf
  refine ⟨fun _=>0,oneE,rfl,⟨fun _=>⟨by decide +kernel,by rw [one_txt];decide⟩,by decide +kernel,by decide⟩,?_⟩
  refine ⟨fun g=>(by rw [one_may] at g;cases g),fun _ x hx=>?_⟩
  have hr:=one_read
  rw [one_txt] at hx ⊢
  rw [hx] at hr
  cases x with
  | ok v L =>
   rw [printed]
   conv=>whnf
   exact h
  | err p c=>cases hr
 ·exact h.elim
end Go.PM.Lex
end

section
set_option maxRecDepth 100000
set_option maxHeartbeats 4000000
namespace Go.PM.Lex
open Go.Proofs
variable {w0:World} {nG:Nat}
noncomputable def spSz {α:Type} (enc:Pl→α→List D) (sz:α→Nat) (bd:Int→Int) (m:Nat):Spec:=fun args σ K=>match args,σ with
 | [.agg c,.d (.int .i64 most)],⟨[],[],0⟩=>∃pl x B,c=(enc pl x).map .d∧((0≤most∧most<m)∧m≤1000000∧sz x≤B∧B≤1099511627776)∧∀r,0≤r→r≤bd most→K (.ret (.d (.int .i64 r))) ⟨[],[],0⟩
 | _,_=>False
theorem spSz_mono {α:Type} (enc:Pl→α→List D) (sz:α→Nat) (bd:Int→Int) (m:Nat):SpecMono (spSz enc sz bd m):=fun args σ K K' hK h=>by
 unfold spSz at h ⊢
 split at h
 ·obtain ⟨p,x,B,h1,h2,h3⟩:=h
  exact ⟨p,x,B,h1,h2,fun r hr hr'=>hK _ _ (h3 r hr hr')⟩
 ·exact h.elim
noncomputable def spSzL {α:Type} (enc:Pl→α→List D) (sz:α→Nat) (bd:Int→Int) (m:Nat):Spec:=fun args σ K=>match args,σ with
 | [.d (.sl r1),.d (.int .i64 most)],⟨[],[],0⟩=>∃pl l B,r1=l.map (enc pl)∧((0≤most∧most<m)∧m≤1000000∧szS sz l≤B∧B≤1099511627776)∧∀r,0≤r→r≤bd most→K (.ret (.d (.int .i64 r))) ⟨[],[],0⟩
 | _,_=>False
theorem spSzL_mono {α:Type} (enc:Pl→α→List D) (sz:α→Nat) (bd:Int→Int) (m:Nat):SpecMono (spSzL enc sz bd m):=fun args σ K K' hK h=>by
 unfold spSzL at h ⊢
 split at h
 ·obtain ⟨p,x,B,h1,h2,h3⟩:=h
  exact ⟨p,x,B,h1,h2,fun r hr hr'=>hK _ _ (h3 r hr hr')⟩
 ·exact h.elim
def bd2 (m:Int):Int:=2 * m+1
def bd3 (m:Int):Int:=3 * m+1
def bd5 (m:Int):Int:=5 * m+2
def bdU (m:Int):Int:=5 * m+4611686018427
noncomputable def tblZE (m:Nat):Tbl:=[(11,spB (spSz encE szE bd2) m)]
theorem zE_ok {m:Nat} (ht:TblOK (GG w0 nG) (tblZE m)):PCalls (GG w0 nG) 11 (spSz encE szE bd2 m):=by
 refine pcalls tab_ok mixed (tbl:=(tblZE m)) ht Tryz.func11 rfl (by kernel_rfl) (by kernel_rfl) ?_
 intro args σ K h
 unfold spSz at h
 split at h
 ·obtain ⟨pl,⟨a1,a2,a3,a4,a5⟩,B,rfl,⟨⟨hm0,hm1⟩,hm2,hz,hB⟩,h⟩:=h
  rename_i most
  simp only [szE] at hz
  have hl4:(encEs pl a4).length=a4.length:=by rw [encEs_eq,List.length_map]
  have hsz:=szEs_len a4
  unfold bd2 at h
  refine ⟨loopsOf [(3,⟨[6,5],[1,2],fun vs σ=>∃(i:Nat) (nn:Int),vs=[.d (.int .i64 i),.d (.int .i64 nn)]∧σ=⟨[.cells 24 ((encE pl (.mk a1 a2 a3 a4 a5)).map .d)],[],0⟩∧i≤a4.length∧1≤nn∧nn≤2 * most+1,fun vs _=>match vs with | [.d (.int _ i),_]=>((a4.length:Nat) - i:Int).toNat | _=>0⟩)],0,false,by simp,Nat.le_of_ble_eq_true rfl,?_⟩
  conv=>whnf
  (repeat (first | (refine Or.inl ⟨InR.i64 (by omega) (by omega),?_⟩;conv=>whnf) | (refine ⟨_,by omega,hr1,?_⟩;conv=>whnf)))
  refine ⟨⟨0,_,rfl,rfl,by omega,by omega,by omega⟩,?_⟩
  intro vs σ hI
  obtain ⟨i,nn,rfl,rfl,hi,hn0,hn1⟩:=hI
  conv=>whnf
  refine CondP.dec (fun hi2=>?_) (fun hi2=>?_)
  rotate_left
  ·conv=>whnf
   exact h _ (by omega) (by omega)
  have hi2:i<a4.length:=by have hi2:(i:Int)<(encEs pl a4).length:=hi2;rw [hl4] at hi2;omega
  conv=>whnf
  refine CondP.dec (fun hi2n=>?_) (fun hi2n=>?_)
  rotate_left
  ·conv=>whnf
   exact h _ (by omega) (by omega)
  conv=>whnf
  obtain ⟨eA,hA⟩:∃e,a4[i]=e:=⟨_,rfl⟩
  have hg:=szEs_get a4 i hi2
  obtain ⟨b1,b2,b3,b4,b5⟩:=eA
  rw [hA] at hg
  have hr1:(encEs pl a4)[((i:Nat):Int).toNat]?=some (encE pl (.mk b1 b2 b3 b4 b5)):=by rw [encEs_eq];simp [hi2,hA]
  (repeat (first | (refine Or.inl ⟨InR.i64 (by omega) (by omega),?_⟩;conv=>whnf) | (refine ⟨_,by omega,hr1,?_⟩;conv=>whnf)))
  refine ⟨by omega,pl,.mk b1 b2 b3 b4 b5,B,rfl,⟨⟨by omega,by omega⟩,by omega,by omega,hB⟩,fun r hr0 hrb=>?_⟩
  unfold bd2 at hrb
  conv=>whnf
  refine Or.inl ⟨InR.i64 (by omega) (by omega),?_⟩
  conv=>whnf
  refine Or.inl ⟨InR.i64 (by omega) (by omega),?_⟩
  conv=>whnf
  refine ⟨⟨i+1,_,rfl,rfl,by omega,by omega,by omega⟩,?_⟩
  show ((a4.length:Nat) - ((i:Int)+1)).toNat<((a4.length:Nat) - (i:Int)).toNat
  omega
 ·exact h.elim
theorem cZE:∀m,PCalls (GG w0 nG) 11 (spSz encE szE bd2 m)
 | 0=>zE_ok ⟨⟨pcalls_none (enters_of Tryz.func11 (by kernel_rfl) rfl),spB_mono (spSz_mono _ _ _) _⟩,trivial⟩
 | m+1=>zE_ok ⟨⟨pcalls_less (sp:=spSz encE szE bd2) (cZE m),spB_mono (spSz_mono _ _ _) _⟩,trivial⟩
theorem zFi_ok {m:Nat} :PCalls (GG w0 nG) 83 (spSzL (fun _=>encFi) sz0 bd3 m):=by
 refine pcalls tab_ok mixed (tbl:=[]) trivial Tryz.func83 rfl (by kernel_rfl) (by kernel_rfl) ?_
 intro args σ K h
 unfold spSzL at h
 split at h
 ·obtain ⟨pl,l,B,rfl,⟨⟨hm0,hm1⟩,hm2,hz,hB⟩,h⟩:=h
  rename_i most
  have hl4:(l.map encFi).length=l.length:=List.length_map ..
  have hsz:=szS_len (sz0 (α:=Fi)) l
  unfold bd3 at h
  refine ⟨loopsOf [(3,⟨[6,5],[0,1],fun vs σ=>∃(i:Nat) (nn:Int),vs=[.d (.int .i64 i),.d (.int .i64 nn)]∧σ=⟨[],[],0⟩∧i≤l.length∧0≤nn∧nn≤3 * most+1,fun vs _=>match vs with | [.d (.int _ i),_]=>((l.length:Nat) - i:Int).toNat | _=>0⟩)],0,false,by simp,Nat.le_of_ble_eq_true rfl,?_⟩
  conv=>whnf
  refine ⟨⟨0,0,rfl,rfl,by omega,by omega,by omega⟩,?_⟩
  intro vs σ hI
  obtain ⟨i,nn,rfl,rfl,hi,hn0,hn1⟩:=hI
  conv=>whnf
  refine CondP.dec (fun hi2=>?_) (fun hi2=>?_)
  rotate_left
  ·conv=>whnf
   exact h _ (by omega) (by omega)
  have hi2:i<l.length:=by have hi2:(i:Int)<(l.map encFi).length:=hi2;rw [hl4] at hi2;omega
  conv=>whnf
  refine CondP.dec (fun hi2n=>?_) (fun hi2n=>?_)
  rotate_left
  ·conv=>whnf
   exact h _ (by omega) (by omega)
  conv=>whnf
  obtain ⟨eA,hA⟩:∃e,l[i]=e:=⟨_,rfl⟩
  obtain ⟨b1,b2⟩:=eA
  have hr1:(l.map encFi)[((i:Nat):Int).toNat]?=some (encFi ⟨b1,b2⟩):=by simp [hi2,hA]
  (repeat (first | (refine Or.inl ⟨InR.i64 (by omega) (by omega),?_⟩;conv=>whnf) | (refine ⟨_,by omega,hr1,?_⟩;conv=>whnf)))
  refine ⟨⟨i+1,_,rfl,rfl,by omega,by omega,by omega⟩,?_⟩
  show ((l.length:Nat) - ((i:Int)+1)).toNat<((l.length:Nat) - (i:Int)).toNat
  omega
 ·exact h.elim
noncomputable def tblZL (m:Nat):Tbl:=[(11,spSz encE szE bd2 m),(55,spB (spSzL encL szL bd2) m)]
theorem zL_ok {m:Nat} (ht:TblOK (GG w0 nG) (tblZL m)):PCalls (GG w0 nG) 55 (spSzL encL szL bd2 m):=by
 refine pcalls tab_ok mixed (tbl:=(tblZL m)) ht Tryz.func55 rfl (by kernel_rfl) (by kernel_rfl) ?_
 intro args σ K h
 unfold spSzL at h
 split at h
 ·obtain ⟨pl,l,B,rfl,⟨⟨hm0,hm1⟩,hm2,hz,hB⟩,h⟩:=h
  rename_i most
  have hl4:(l.map (encL pl)).length=l.length:=List.length_map ..
  have hsz:=szS_len szL l
  unfold bd2 at h
  refine ⟨loopsOf [(3,⟨[6,5],[0,1],fun vs σ=>∃(i:Nat) (nn:Int),vs=[.d (.int .i64 i),.d (.int .i64 nn)]∧σ=⟨[],[],0⟩∧i≤l.length∧0≤nn∧nn≤2 * most+1,fun vs _=>match vs with | [.d (.int _ i),_]=>((l.length:Nat) - i:Int).toNat | _=>0⟩),(7,⟨[7,5],[0,1,6],fun vs σ=>∃(i:Nat) (nn:Int),vs=[.d (.int .i64 i),.d (.int .i64 nn)]∧σ=⟨[],[],0⟩∧i≤B∧1≤nn∧nn≤2 * most+1,fun vs _=>match vs with | [.d (.int _ i),_]=>((B:Nat) - i:Int).toNat | _=>0⟩)],0,false,by simp,Nat.le_of_ble_eq_true rfl,?_⟩
  conv=>whnf
  refine ⟨⟨0,0,rfl,rfl,by omega,by omega,by omega⟩,?_⟩
  intro vs σ hI
  obtain ⟨i,nn,rfl,rfl,hi,hn0,hn1⟩:=hI
  conv=>whnf
  refine CondP.dec (fun hi2=>?_) (fun hi2=>?_)
  rotate_left
  ·conv=>whnf
   exact h _ (by omega) (by omega)
  have hi2:i<l.length:=by have hi2:(i:Int)<(l.map (encL pl)).length:=hi2;rw [hl4] at hi2;omega
  conv=>whnf
  refine CondP.dec (fun hi2n=>?_) (fun hi2n=>?_)
  rotate_left
  ·conv=>whnf
   exact h _ (by omega) (by omega)
  conv=>whnf
  obtain ⟨eA,hA⟩:∃e,l[i]=e:=⟨_,rfl⟩
  have hg:=szS_get szL l i hi2
  obtain ⟨b1,b2,ar,b4,b5⟩:=eA
  rw [hA] at hg
  simp only [szL,szLs_eq] at hg
  have hr1:(l.map (encL pl))[((i:Nat):Int).toNat]?=some (encL pl (.mk b1 b2 ar b4 b5)):=by simp [hi2,hA]
  have ha4:(encEs pl ar).length=ar.length:=by rw [encEs_eq,List.length_map]
  have hs4:=szS_len szE ar
  (repeat (first | (refine Or.inl ⟨InR.i64 (by omega) (by omega),?_⟩;conv=>whnf) | (refine ⟨_,by omega,hr1,?_⟩;conv=>whnf)))
  refine ⟨⟨0,_,rfl,rfl,by omega,by omega,by omega⟩,?_⟩
  intro vs' σ' hI'
  obtain ⟨j,n2,rfl,rfl,hj,hn20,hn21⟩:=hI'
  conv=>whnf
  (repeat (first | (refine Or.inl ⟨InR.i64 (by omega) (by omega),?_⟩;conv=>whnf) | (refine ⟨_,by omega,hr1,?_⟩;conv=>whnf)))
  refine CondP.dec (fun hj2=>?_) (fun hj2=>?_)
  rotate_left
  ·conv=>whnf
   refine CondP.dec (fun hle=>?_) (fun hle=>?_)
   ·conv=>whnf
    (repeat (first | (refine Or.inl ⟨InR.i64 (by omega) (by omega),?_⟩;conv=>whnf) | (refine ⟨_,by omega,hr1,?_⟩;conv=>whnf)))
    refine ⟨by omega,pl,b4,B,encLs_eq _ _,⟨⟨by omega,by omega⟩,by omega,by omega,hB⟩,fun r hr0 hrb=>?_⟩
    unfold bd2 at hrb
    conv=>whnf
    refine Or.inl ⟨InR.i64 (by omega) (by omega),?_⟩
    conv=>whnf
    refine Or.inl ⟨InR.i64 (by omega) (by omega),?_⟩
    conv=>whnf
    refine ⟨⟨i+1,_,rfl,rfl,by omega,by omega,by omega⟩,?_⟩
    show ((l.length:Nat) - ((i:Int)+1)).toNat<((l.length:Nat) - (i:Int)).toNat
    omega
   conv=>whnf
   refine Or.inl ⟨InR.i64 (by omega) (by omega),?_⟩
   conv=>whnf
   refine ⟨⟨i+1,_,rfl,rfl,by omega,by omega,by omega⟩,?_⟩
   show ((l.length:Nat) - ((i:Int)+1)).toNat<((l.length:Nat) - (i:Int)).toNat
   omega
  have hj2:j<ar.length:=by have hj2:(j:Int)<(encEs pl ar).length:=hj2;rw [ha4] at hj2;omega
  conv=>whnf
  refine CondP.dec (fun hj3=>?_) (fun hj3=>?_)
  rotate_left
  ·conv=>whnf
   refine CondP.dec (fun hle=>?_) (fun hle=>?_)
   ·conv=>whnf
    (repeat (first | (refine Or.inl ⟨InR.i64 (by omega) (by omega),?_⟩;conv=>whnf) | (refine ⟨_,by omega,hr1,?_⟩;conv=>whnf)))
    refine ⟨by omega,pl,b4,B,encLs_eq _ _,⟨⟨by omega,by omega⟩,by omega,by omega,hB⟩,fun r hr0 hrb=>?_⟩
    unfold bd2 at hrb
    conv=>whnf
    refine Or.inl ⟨InR.i64 (by omega) (by omega),?_⟩
    conv=>whnf
    refine Or.inl ⟨InR.i64 (by omega) (by omega),?_⟩
    conv=>whnf
    refine ⟨⟨i+1,_,rfl,rfl,by omega,by omega,by omega⟩,?_⟩
    show ((l.length:Nat) - ((i:Int)+1)).toNat<((l.length:Nat) - (i:Int)).toNat
    omega
   conv=>whnf
   refine Or.inl ⟨InR.i64 (by omega) (by omega),?_⟩
   conv=>whnf
   refine ⟨⟨i+1,_,rfl,rfl,by omega,by omega,by omega⟩,?_⟩
   show ((l.length:Nat) - ((i:Int)+1)).toNat<((l.length:Nat) - (i:Int)).toNat
   omega
  conv=>whnf
  obtain ⟨eC,hC⟩:∃e,ar[j]=e:=⟨_,rfl⟩
  have hgc:=szS_get szE ar j hj2
  obtain ⟨c1,c2,c3,c4,c5⟩:=eC
  rw [hC] at hgc
  have hr2:(encEs pl ar)[((j:Nat):Int).toNat]?=some (encE pl (.mk c1 c2 c3 c4 c5)):=by rw [encEs_eq];simp [hj2,hC]
  (repeat (first | (refine ⟨_,by omega,hr1,?_⟩;conv=>whnf) | (refine ⟨_,by omega,hr2,?_⟩;conv=>whnf) | (refine Or.inl ⟨InR.i64 (by omega) (by omega),?_⟩;conv=>whnf)))
  refine ⟨pl,.mk c1 c2 c3 c4 c5,B,rfl,⟨⟨by omega,by omega⟩,by omega,by omega,hB⟩,fun r hr0 hrb=>?_⟩
  unfold bd2 at hrb
  conv=>whnf
  refine Or.inl ⟨InR.i64 (by omega) (by omega),?_⟩
  conv=>whnf
  refine Or.inl ⟨InR.i64 (by omega) (by omega),?_⟩
  conv=>whnf
  refine ⟨⟨j+1,_,rfl,rfl,by omega,by omega,by omega⟩,?_⟩
  show ((B:Nat) - ((j:Int)+1)).toNat<((B:Nat) - (j:Int)).toNat
  omega
 ·exact h.elim
theorem cZL:∀m,PCalls (GG w0 nG) 55 (spSzL encL szL bd2 m)
 | 0=>zL_ok ⟨⟨cZE 0,spSz_mono _ _ _ _⟩,⟨pcalls_none (enters_of Tryz.func55 (by kernel_rfl) rfl),spB_mono (spSzL_mono _ _ _) _⟩,trivial⟩
 | m+1=>zL_ok ⟨⟨cZE _,spSz_mono _ _ _ _⟩,⟨pcalls_less (sp:=spSzL encL szL bd2) (cZL m),spB_mono (spSzL_mono _ _ _) _⟩,trivial⟩
noncomputable def tblZRu (m:Nat):Tbl:=[(11,spSz encE szE bd2 m),(55,spSzL encL szL bd2 m)]
theorem zRu_ok {m:Nat} (ht:TblOK (GG w0 nG) (tblZRu m)):PCalls (GG w0 nG) 21 (spSzL encRu szRu bd2 m):=by
 refine pcalls tab_ok mixed (tbl:=(tblZRu m)) ht Tryz.func21 rfl (by kernel_rfl) (by kernel_rfl) ?_
 intro args σ K h
 unfold spSzL at h
 split at h
 ·obtain ⟨pl,l,B,rfl,⟨⟨hm0,hm1⟩,hm2,hz,hB⟩,h⟩:=h
  rename_i most
  have hl4:(l.map (encRu pl)).length=l.length:=List.length_map ..
  have hsz:=szS_len szRu l
  unfold bd2 at h
  refine ⟨loopsOf [(3,⟨[6,5],[0,1],fun vs σ=>∃(i:Nat) (nn:Int),vs=[.d (.int .i64 i),.d (.int .i64 nn)]∧σ=⟨[],[],0⟩∧i≤l.length∧0≤nn∧nn≤2 * most+1,fun vs _=>match vs with | [.d (.int _ i),_]=>((l.length:Nat) - i:Int).toNat | _=>0⟩),(7,⟨[7,5],[0,1,6],fun vs σ=>∃(i:Nat) (nn:Int),vs=[.d (.int .i64 i),.d (.int .i64 nn)]∧σ=⟨[],[],0⟩∧i≤B∧1≤nn∧nn≤2 * most+1,fun vs _=>match vs with | [.d (.int _ i),_]=>((B:Nat) - i:Int).toNat | _=>0⟩)],0,false,by simp,Nat.le_of_ble_eq_true rfl,?_⟩
  conv=>whnf
  refine ⟨⟨0,0,rfl,rfl,by omega,by omega,by omega⟩,?_⟩
  intro vs σ hI
  obtain ⟨i,nn,rfl,rfl,hi,hn0,hn1⟩:=hI
  conv=>whnf
  refine CondP.dec (fun hi2=>?_) (fun hi2=>?_)
  rotate_left
  ·conv=>whnf
   exact h _ (by omega) (by omega)
  have hi2:i<l.length:=by have hi2:(i:Int)<(l.map (encRu pl)).length:=hi2;rw [hl4] at hi2;omega
  conv=>whnf
  refine CondP.dec (fun hi2n=>?_) (fun hi2n=>?_)
  rotate_left
  ·conv=>whnf
   exact h _ (by omega) (by omega)
  conv=>whnf
  obtain ⟨eA,hA⟩:∃e,l[i]=e:=⟨_,rfl⟩
  have hg:=szS_get szRu l i hi2
  obtain ⟨b1,ar,b4,b5⟩:=eA
  rw [hA] at hg
  simp only [szRu,szLs_eq] at hg
  have hr1:(l.map (encRu pl))[((i:Nat):Int).toNat]?=some (encRu pl (⟨b1,ar,b4,b5⟩:Ru)):=by simp [hi2,hA]
  have ha4:(encEs pl ar).length=ar.length:=by rw [encEs_eq,List.length_map]
  have hs4:=szS_len szE ar
  (repeat (first | (refine Or.inl ⟨InR.i64 (by omega) (by omega),?_⟩;conv=>whnf) | (refine ⟨_,by omega,hr1,?_⟩;conv=>whnf)))
  refine ⟨⟨0,_,rfl,rfl,by omega,by omega,by omega⟩,?_⟩
  intro vs' σ' hI'
  obtain ⟨j,n2,rfl,rfl,hj,hn20,hn21⟩:=hI'
  conv=>whnf
  (repeat (first | (refine Or.inl ⟨InR.i64 (by omega) (by omega),?_⟩;conv=>whnf) | (refine ⟨_,by omega,hr1,?_⟩;conv=>whnf)))
  refine CondP.dec (fun hj2=>?_) (fun hj2=>?_)
  rotate_left
  ·conv=>whnf
   refine CondP.dec (fun hle=>?_) (fun hle=>?_)
   ·conv=>whnf
    (repeat (first | (refine Or.inl ⟨InR.i64 (by omega) (by omega),?_⟩;conv=>whnf) | (refine ⟨_,by omega,hr1,?_⟩;conv=>whnf)))
    refine ⟨pl,b4,B,encLs_eq _ _,⟨⟨by omega,by omega⟩,by omega,by omega,hB⟩,fun r hr0 hrb=>?_⟩
    unfold bd2 at hrb
    conv=>whnf
    refine Or.inl ⟨InR.i64 (by omega) (by omega),?_⟩
    conv=>whnf
    refine Or.inl ⟨InR.i64 (by omega) (by omega),?_⟩
    conv=>whnf
    refine ⟨⟨i+1,_,rfl,rfl,by omega,by omega,by omega⟩,?_⟩
    show ((l.length:Nat) - ((i:Int)+1)).toNat<((l.length:Nat) - (i:Int)).toNat
    omega
   conv=>whnf
   refine Or.inl ⟨InR.i64 (by omega) (by omega),?_⟩
   conv=>whnf
   refine ⟨⟨i+1,_,rfl,rfl,by omega,by omega,by omega⟩,?_⟩
   show ((l.length:Nat) - ((i:Int)+1)).toNat<((l.length:Nat) - (i:Int)).toNat
   omega
  have hj2:j<ar.length:=by have hj2:(j:Int)<(encEs pl ar).length:=hj2;rw [ha4] at hj2;omega
  conv=>whnf
  refine CondP.dec (fun hj3=>?_) (fun hj3=>?_)
  rotate_left
  ·conv=>whnf
   refine CondP.dec (fun hle=>?_) (fun hle=>?_)
   ·conv=>whnf
    (repeat (first | (refine Or.inl ⟨InR.i64 (by omega) (by omega),?_⟩;conv=>whnf) | (refine ⟨_,by omega,hr1,?_⟩;conv=>whnf)))
    refine ⟨pl,b4,B,encLs_eq _ _,⟨⟨by omega,by omega⟩,by omega,by omega,hB⟩,fun r hr0 hrb=>?_⟩
    unfold bd2 at hrb
    conv=>whnf
    refine Or.inl ⟨InR.i64 (by omega) (by omega),?_⟩
    conv=>whnf
    refine Or.inl ⟨InR.i64 (by omega) (by omega),?_⟩
    conv=>whnf
    refine ⟨⟨i+1,_,rfl,rfl,by omega,by omega,by omega⟩,?_⟩
    show ((l.length:Nat) - ((i:Int)+1)).toNat<((l.length:Nat) - (i:Int)).toNat
    omega
   conv=>whnf
   refine Or.inl ⟨InR.i64 (by omega) (by omega),?_⟩
   conv=>whnf
   refine ⟨⟨i+1,_,rfl,rfl,by omega,by omega,by omega⟩,?_⟩
   show ((l.length:Nat) - ((i:Int)+1)).toNat<((l.length:Nat) - (i:Int)).toNat
   omega
  conv=>whnf
  obtain ⟨eC,hC⟩:∃e,ar[j]=e:=⟨_,rfl⟩
  have hgc:=szS_get szE ar j hj2
  obtain ⟨c1,c2,c3,c4,c5⟩:=eC
  rw [hC] at hgc
  have hr2:(encEs pl ar)[((j:Nat):Int).toNat]?=some (encE pl (.mk c1 c2 c3 c4 c5)):=by rw [encEs_eq];simp [hj2,hC]
  (repeat (first | (refine ⟨_,by omega,hr1,?_⟩;conv=>whnf) | (refine ⟨_,by omega,hr2,?_⟩;conv=>whnf) | (refine Or.inl ⟨InR.i64 (by omega) (by omega),?_⟩;conv=>whnf)))
  refine ⟨pl,.mk c1 c2 c3 c4 c5,B,rfl,⟨⟨by omega,by omega⟩,by omega,by omega,hB⟩,fun r hr0 hrb=>?_⟩
  unfold bd2 at hrb
  conv=>whnf
  refine Or.inl ⟨InR.i64 (by omega) (by omega),?_⟩
  conv=>whnf
  refine Or.inl ⟨InR.i64 (by omega) (by omega),?_⟩
  conv=>whnf
  refine ⟨⟨j+1,_,rfl,rfl,by omega,by omega,by omega⟩,?_⟩
  show ((B:Nat) - ((j:Int)+1)).toNat<((B:Nat) - (j:Int)).toNat
  omega
 ·exact h.elim
structure Pr where
 types:List Ty
 rels:List Re
 rules:List Ru
def encPr (pl:Pl) (p:Pr):List D:=[.sl (p.types.map (encTy pl)),.sl (p.rels.map (encRe pl)),.sl (p.rules.map (encRu pl))]
def szPr (p:Pr):Nat:=1+szS szTy p.types+szS szRe p.rels+szS szRu p.rules
noncomputable def tblZPr (m:Nat):Tbl:=[(83,spSzL (fun _=>encFi) sz0 bd3 m),(21,spSzL encRu szRu bd2 m)]
theorem zPr_ok {m:Nat} (ht:TblOK (GG w0 nG) (tblZPr m)):PCalls (GG w0 nG) 37 (spSz encPr szPr bd5 m):=by
 refine pcalls tab_ok mixed (tbl:=(tblZPr m)) ht Tryz.func37 rfl (by kernel_rfl) (by kernel_rfl) ?_
 intro args σ K h
 unfold spSz at h
 split at h
 ·obtain ⟨pl,⟨p1,p2,p3⟩,B,rfl,⟨⟨hm0,hm1⟩,hm2,hz,hB⟩,h⟩:=h
  rename_i most
  simp only [szPr] at hz
  unfold bd5 at h
  have hl1:(p1.map (encTy pl)).length=p1.length:=List.length_map ..
  have hl2:(p2.map (encRe pl)).length=p2.length:=List.length_map ..
  have hs1:=szS_len szTy p1
  have hs2:=szS_len szRe p2
  refine ⟨loopsOf [(3,⟨[6,5],[1,2],fun vs σ=>∃(i:Nat) (nn:Int),vs=[.d (.int .i64 i),.d (.int .i64 nn)]∧σ=⟨[.cells 96 ((encPr pl ⟨p1,p2,p3⟩).map .d)],[],0⟩∧i≤p1.length∧0≤nn∧nn≤5 * most+2,fun vs _=>match vs with | [.d (.int _ i),_]=>((p1.length:Nat) - i:Int).toNat | _=>0⟩),(10,⟨[8,5],[1,2,6,7],fun vs σ=>∃(i:Nat) (nn:Int) (b1:Nat) (b2 b3:Bs) (b4:List Fi) (b5:List Ca) (b6:Nat),vs=[.d (.int .i64 i),.d (.int .i64 nn)]∧σ=⟨[.cells 96 ((encPr pl ⟨p1,p2,p3⟩).map .d),.cells 64 ((encTy pl ⟨b1,b2,b3,b4,b5,b6⟩).map .d)],[],0⟩∧(i≤b5.length∧szS szCa b5≤B)∧0≤nn∧nn≤5 * most+2,fun vs _=>match vs with | [.d (.int _ i),_]=>((B:Nat) - i:Int).toNat | _=>0⟩),(14,⟨[9,5],[1,2],fun vs σ=>∃(i:Nat) (nn:Int),vs=[.d (.int .i64 i),.d (.int .i64 nn)]∧σ=⟨[.cells 96 ((encPr pl ⟨p1,p2,p3⟩).map .d)],[],0⟩∧i≤p2.length∧0≤nn∧nn≤5 * most+2,fun vs _=>match vs with | [.d (.int _ i),_]=>((p2.length:Nat) - i:Int).toNat | _=>0⟩)],0,false,by simp,Nat.le_of_ble_eq_true rfl,?_⟩
  conv=>whnf
  refine ⟨⟨0,0,rfl,rfl,by omega,by omega,by omega⟩,?_⟩
  intro vs σ hI
  obtain ⟨i,nn,rfl,rfl,hi,hn0,hn1⟩:=hI
  conv=>whnf
  refine CondP.dec (fun hi2=>?_) (fun hi2=>?_)
  rotate_left
  ·conv=>whnf
   refine ⟨⟨0,_,rfl,rfl,by omega,by omega,by omega⟩,?_⟩
   intro vs σ hI
   obtain ⟨i,nn,rfl,rfl,hi,hn0,hn1⟩:=hI
   conv=>whnf
   refine CondP.dec (fun hi2=>?_) (fun hi2=>?_)
   rotate_left
   ·conv=>whnf
    refine CondP.dec (fun hle=>?_) (fun hle=>?_)
    ·conv=>whnf
     (repeat (first | (refine Or.inl ⟨InR.i64 (by omega) (by omega),?_⟩;conv=>whnf) | (refine ⟨_,by omega,hr1,?_⟩;conv=>whnf)))
     refine ⟨pl,p3,B,rfl,⟨⟨by omega,by omega⟩,by omega,by omega,hB⟩,fun r hr0 hrb=>?_⟩
     unfold bd2 at hrb
     conv=>whnf
     refine Or.inl ⟨InR.i64 (by omega) (by omega),?_⟩
     conv=>whnf
     exact h _ (by omega) (by omega)
    conv=>whnf
    exact h _ (by omega) (by omega)
   have hi2:i<p2.length:=by have hi2:(i:Int)<(p2.map (encRe pl)).length:=hi2;rw [hl2] at hi2;omega
   conv=>whnf
   refine CondP.dec (fun hi2n=>?_) (fun hi2n=>?_)
   rotate_left
   ·conv=>whnf
    refine CondP.dec (fun hle=>?_) (fun hle=>?_)
    ·conv=>whnf
     (repeat (first | (refine Or.inl ⟨InR.i64 (by omega) (by omega),?_⟩;conv=>whnf) | (refine ⟨_,by omega,hr1,?_⟩;conv=>whnf)))
     refine ⟨pl,p3,B,rfl,⟨⟨by omega,by omega⟩,by omega,by omega,hB⟩,fun r hr0 hrb=>?_⟩
     unfold bd2 at hrb
     conv=>whnf
     refine Or.inl ⟨InR.i64 (by omega) (by omega),?_⟩
     conv=>whnf
     exact h _ (by omega) (by omega)
    conv=>whnf
    exact h _ (by omega) (by omega)
   conv=>whnf
   obtain ⟨eA,hA⟩:∃e,p2[i]=e:=⟨_,rfl⟩
   have hg:=szS_get szRe p2 i hi2
   obtain ⟨b1,b2,b3,b4,b5,b6⟩:=eA
   rw [hA] at hg
   simp only [szRe] at hg
   have hr1:(p2.map (encRe pl))[((i:Nat):Int).toNat]?=some (encRe pl ⟨b1,b2,b3,b4,b5,b6⟩):=by simp [hi2,hA]
   (repeat (first | (refine Or.inl ⟨InR.i64 (by omega) (by omega),?_⟩;conv=>whnf) | (refine ⟨_,by omega,hr1,?_⟩;conv=>whnf)))
   refine ⟨pl,b2,B,rfl,⟨⟨by omega,by omega⟩,by omega,by omega,hB⟩,fun r hr0 hrb=>?_⟩
   unfold bd3 at hrb
   conv=>whnf
   (repeat (refine ⟨rfl,?_⟩;conv=>whnf))
   (repeat (first | (refine Or.inl ⟨InR.i64 (by omega) (by omega),?_⟩;conv=>whnf) | (refine ⟨_,by omega,hr1,?_⟩;conv=>whnf)))
   refine ⟨⟨i+1,_,rfl,rfl,by omega,by omega,by omega⟩,?_⟩
   show ((p2.length:Nat) - ((i:Int)+1)).toNat<((p2.length:Nat) - (i:Int)).toNat
   omega
  have hi2:i<p1.length:=by have hi2:(i:Int)<(p1.map (encTy pl)).length:=hi2;rw [hl1] at hi2;omega
  conv=>whnf
  refine CondP.dec (fun hi2n=>?_) (fun hi2n=>?_)
  rotate_left
  ·conv=>whnf
   refine ⟨⟨0,_,rfl,rfl,by omega,by omega,by omega⟩,?_⟩
   intro vs σ hI
   obtain ⟨i,nn,rfl,rfl,hi,hn0,hn1⟩:=hI
   conv=>whnf
   refine CondP.dec (fun hi2=>?_) (fun hi2=>?_)
   rotate_left
   ·conv=>whnf
    refine CondP.dec (fun hle=>?_) (fun hle=>?_)
    ·conv=>whnf
     (repeat (first | (refine Or.inl ⟨InR.i64 (by omega) (by omega),?_⟩;conv=>whnf) | (refine ⟨_,by omega,hr1,?_⟩;conv=>whnf)))
     refine ⟨pl,p3,B,rfl,⟨⟨by omega,by omega⟩,by omega,by omega,hB⟩,fun r hr0 hrb=>?_⟩
     unfold bd2 at hrb
     conv=>whnf
     refine Or.inl ⟨InR.i64 (by omega) (by omega),?_⟩
     conv=>whnf
     exact h _ (by omega) (by omega)
    conv=>whnf
    exact h _ (by omega) (by omega)
   have hi2:i<p2.length:=by have hi2:(i:Int)<(p2.map (encRe pl)).length:=hi2;rw [hl2] at hi2;omega
   conv=>whnf
   refine CondP.dec (fun hi2n=>?_) (fun hi2n=>?_)
   rotate_left
   ·conv=>whnf
    refine CondP.dec (fun hle=>?_) (fun hle=>?_)
    ·conv=>whnf
     (repeat (first | (refine Or.inl ⟨InR.i64 (by omega) (by omega),?_⟩;conv=>whnf) | (refine ⟨_,by omega,hr1,?_⟩;conv=>whnf)))
     refine ⟨pl,p3,B,rfl,⟨⟨by omega,by omega⟩,by omega,by omega,hB⟩,fun r hr0 hrb=>?_⟩
     unfold bd2 at hrb
     conv=>whnf
     refine Or.inl ⟨InR.i64 (by omega) (by omega),?_⟩
     conv=>whnf
     exact h _ (by omega) (by omega)
    conv=>whnf
    exact h _ (by omega) (by omega)
   conv=>whnf
   obtain ⟨eA,hA⟩:∃e,p2[i]=e:=⟨_,rfl⟩
   have hg:=szS_get szRe p2 i hi2
   obtain ⟨b1,b2,b3,b4,b5,b6⟩:=eA
   rw [hA] at hg
   simp only [szRe] at hg
   have hr1:(p2.map (encRe pl))[((i:Nat):Int).toNat]?=some (encRe pl ⟨b1,b2,b3,b4,b5,b6⟩):=by simp [hi2,hA]
   (repeat (first | (refine Or.inl ⟨InR.i64 (by omega) (by omega),?_⟩;conv=>whnf) | (refine ⟨_,by omega,hr1,?_⟩;conv=>whnf)))
   refine ⟨pl,b2,B,rfl,⟨⟨by omega,by omega⟩,by omega,by omega,hB⟩,fun r hr0 hrb=>?_⟩
   unfold bd3 at hrb
   conv=>whnf
   (repeat (refine ⟨rfl,?_⟩;conv=>whnf))
   (repeat (first | (refine Or.inl ⟨InR.i64 (by omega) (by omega),?_⟩;conv=>whnf) | (refine ⟨_,by omega,hr1,?_⟩;conv=>whnf)))
   refine ⟨⟨i+1,_,rfl,rfl,by omega,by omega,by omega⟩,?_⟩
   show ((p2.length:Nat) - ((i:Int)+1)).toNat<((p2.length:Nat) - (i:Int)).toNat
   omega
  conv=>whnf
  obtain ⟨eA,hA⟩:∃e,p1[i]=e:=⟨_,rfl⟩
  have hg:=szS_get szTy p1 i hi2
  obtain ⟨b1,b2,b3,b4,b5,b6⟩:=eA
  rw [hA] at hg
  simp only [szTy] at hg
  have hr1:(p1.map (encTy pl))[((i:Nat):Int).toNat]?=some (encTy pl ⟨b1,b2,b3,b4,b5,b6⟩):=by simp [hi2,hA]
  (repeat (first | (refine Or.inl ⟨InR.i64 (by omega) (by omega),?_⟩;conv=>whnf) | (refine ⟨_,by omega,hr1,?_⟩;conv=>whnf)))
  refine CondP.dec (fun hle=>?_) (fun hle=>?_)
  ·conv=>whnf
   (repeat (first | (refine Or.inl ⟨InR.i64 (by omega) (by omega),?_⟩;conv=>whnf) | (refine ⟨_,by omega,hr1,?_⟩;conv=>whnf)))
   refine ⟨pl,b4,B,rfl,⟨⟨by omega,by omega⟩,by omega,by omega,hB⟩,fun r hr0 hrb=>?_⟩
   unfold bd3 at hrb
   conv=>whnf
   (repeat (first | (refine Or.inl ⟨InR.i64 (by omega) (by omega),?_⟩;conv=>whnf) | (refine ⟨_,by omega,hr1,?_⟩;conv=>whnf)))
   refine ⟨⟨0,_,b1,b2,b3,b4,b5,b6,rfl,rfl,⟨by omega,by omega⟩,by omega,by omega⟩,?_⟩
   intro vs' σ' hI'
   obtain ⟨j,n2,c1,c2,c3,c4,c5,c6,rfl,rfl,⟨hj,hzc⟩,hn20,hn21⟩:=hI'
   conv=>whnf
   have hl5:(c5.map encCa).length=c5.length:=List.length_map ..
   have hs5:=szS_len szCa c5
   refine CondP.dec (fun hj2=>?_) (fun hj2=>?_)
   rotate_left
   ·conv=>whnf
    refine Or.inl ⟨InR.i64 (by omega) (by omega),?_⟩
    conv=>whnf
    refine ⟨⟨i+1,_,rfl,rfl,by omega,by omega,by omega⟩,?_⟩
    show ((p1.length:Nat) - ((i:Int)+1)).toNat<((p1.length:Nat) - (i:Int)).toNat
    omega
   have hj2:j<c5.length:=by have hj2:(j:Int)<(c5.map encCa).length:=hj2;rw [hl5] at hj2;omega
   conv=>whnf
   refine CondP.dec (fun hj3=>?_) (fun hj3=>?_)
   rotate_left
   ·conv=>whnf
    refine Or.inl ⟨InR.i64 (by omega) (by omega),?_⟩
    conv=>whnf
    refine ⟨⟨i+1,_,rfl,rfl,by omega,by omega,by omega⟩,?_⟩
    show ((p1.length:Nat) - ((i:Int)+1)).toNat<((p1.length:Nat) - (i:Int)).toNat
    omega
   conv=>whnf
   obtain ⟨eC,hC⟩:∃e,c5[j]=e:=⟨_,rfl⟩
   have hgc:=szS_get szCa c5 j hj2
   obtain ⟨d1,d2⟩:=eC
   rw [hC] at hgc
   simp only [szCa] at hgc
   have hr1:(c5.map encCa)[((j:Nat):Int).toNat]?=some (encCa ⟨d1,d2⟩):=by simp [hj2,hC]
   (repeat (first | (refine Or.inl ⟨InR.i64 (by omega) (by omega),?_⟩;conv=>whnf) | (refine ⟨_,by omega,hr1,?_⟩;conv=>whnf)))
   refine ⟨pl,d2,B,rfl,⟨⟨by omega,by omega⟩,by omega,by omega,hB⟩,fun r hr0 hrb=>?_⟩
   unfold bd3 at hrb
   conv=>whnf
   (repeat (refine ⟨rfl,?_⟩;conv=>whnf))
   (repeat (first | (refine Or.inl ⟨InR.i64 (by omega) (by omega),?_⟩;conv=>whnf) | (refine ⟨_,by omega,hr1,?_⟩;conv=>whnf)))
   refine ⟨⟨j+1,_,c1,c2,c3,c4,c5,c6,rfl,rfl,⟨by omega,hzc⟩,by omega,by omega⟩,?_⟩
   show ((B:Nat) - ((j:Int)+1)).toNat<((B:Nat) - (j:Int)).toNat
   omega
  conv=>whnf
  refine ⟨⟨0,_,b1,b2,b3,b4,b5,b6,rfl,rfl,⟨by omega,by omega⟩,by omega,by omega⟩,?_⟩
  intro vs' σ' hI'
  obtain ⟨j,n2,c1,c2,c3,c4,c5,c6,rfl,rfl,⟨hj,hzc⟩,hn20,hn21⟩:=hI'
  conv=>whnf
  have hl5:(c5.map encCa).length=c5.length:=List.length_map ..
  have hs5:=szS_len szCa c5
  refine CondP.dec (fun hj2=>?_) (fun hj2=>?_)
  rotate_left
  ·conv=>whnf
   refine Or.inl ⟨InR.i64 (by omega) (by omega),?_⟩
   conv=>whnf
   refine ⟨⟨i+1,_,rfl,rfl,by omega,by omega,by omega⟩,?_⟩
   show ((p1.length:Nat) - ((i:Int)+1)).toNat<((p1.length:Nat) - (i:Int)).toNat
   omega
  have hj2:j<c5.length:=by have hj2:(j:Int)<(c5.map encCa).length:=hj2;rw [hl5] at hj2;omega
  conv=>whnf
  refine CondP.dec (fun hj3=>?_) (fun hj3=>?_)
  rotate_left
  ·conv=>whnf
   refine Or.inl ⟨InR.i64 (by omega) (by omega),?_⟩
   conv=>whnf
   refine ⟨⟨i+1,_,rfl,rfl,by omega,by omega,by omega⟩,?_⟩
   show ((p1.length:Nat) - ((i:Int)+1)).toNat<((p1.length:Nat) - (i:Int)).toNat
   omega
  conv=>whnf
  obtain ⟨eC,hC⟩:∃e,c5[j]=e:=⟨_,rfl⟩
  have hgc:=szS_get szCa c5 j hj2
  obtain ⟨d1,d2⟩:=eC
  rw [hC] at hgc
  simp only [szCa] at hgc
  have hr1:(c5.map encCa)[((j:Nat):Int).toNat]?=some (encCa ⟨d1,d2⟩):=by simp [hj2,hC]
  (repeat (first | (refine Or.inl ⟨InR.i64 (by omega) (by omega),?_⟩;conv=>whnf) | (refine ⟨_,by omega,hr1,?_⟩;conv=>whnf)))
  refine ⟨pl,d2,B,rfl,⟨⟨by omega,by omega⟩,by omega,by omega,hB⟩,fun r hr0 hrb=>?_⟩
  unfold bd3 at hrb
  conv=>whnf
  (repeat (refine ⟨rfl,?_⟩;conv=>whnf))
  (repeat (first | (refine Or.inl ⟨InR.i64 (by omega) (by omega),?_⟩;conv=>whnf) | (refine ⟨_,by omega,hr1,?_⟩;conv=>whnf)))
  refine ⟨⟨j+1,_,c1,c2,c3,c4,c5,c6,rfl,rfl,⟨by omega,hzc⟩,by omega,by omega⟩,?_⟩
  show ((B:Nat) - ((j:Int)+1)).toNat<((B:Nat) - (j:Int)).toNat
  omega
 ·exact h.elim
noncomputable def tblZUn (m:Nat):Tbl:=[(37,spSz encPr szPr bd5 m),(18,spB (spSz encUn szUn bdU) m)]
theorem zUn_ok {m:Nat} (ht:TblOK (GG w0 nG) (tblZUn m)):PCalls (GG w0 nG) 18 (spSz encUn szUn bdU m):=by
 refine pcalls tab_ok mixed (tbl:=(tblZUn m)) ht Tryz.func18 rfl (by kernel_rfl) (by kernel_rfl) ?_
 intro args σ K h
 unfold spSz at h
 split at h
 ·obtain ⟨pl,⟨p1,p2,p3,p4,p5,p6⟩,B,rfl,⟨⟨hm0,hm1⟩,hm2,hz,hB⟩,h⟩:=h
  rename_i most
  simp only [szUn,szCos_eq] at hz
  unfold bdU at h
  have hl4:(encCos pl p4).length=p4.length:=by rw [encCos_eq,List.length_map]
  have hl5:(p5.map (encIn pl)).length=p5.length:=List.length_map ..
  have hl6:(p6.map (encOv pl)).length=p6.length:=List.length_map ..
  have hs4:=szS_len szCo p4
  have hs5:=szS_len szIn p5
  have hs6:=szS_len (sz0 (α:=Ov)) p6
  refine ⟨loopsOf [(3,⟨[6,5],[1,2],fun vs σ=>∃(i:Nat) (nn:Int),vs=[.d (.int .i64 i),.d (.int .i64 nn)]∧σ=⟨[.cells 44 ((encUn pl (.mk p1 p2 p3 p4 p5 p6)).map .d)],[],0⟩∧i≤p5.length∧0≤nn∧nn≤5 * most+4611686018427,fun vs _=>match vs with | [.d (.int _ i),_]=>((p5.length:Nat) - i:Int).toNat | _=>0⟩),(7,⟨[7,5],[1,2,6],fun vs σ=>∃(i:Nat) (nn:Int),vs=[.d (.int .i64 i),.d (.int .i64 nn)]∧σ=⟨[.cells 44 ((encUn pl (.mk p1 p2 p3 p4 p5 p6)).map .d)],[],0⟩∧i≤B∧0≤nn∧nn≤5 * most+4611686018427,fun vs _=>match vs with | [.d (.int _ i),_]=>((B:Nat) - i:Int).toNat | _=>0⟩),(11,⟨[8,5],[1,2],fun vs σ=>∃(i:Nat) (nn:Int),vs=[.d (.int .i64 i),.d (.int .i64 nn)]∧σ=⟨[.cells 44 ((encUn pl (.mk p1 p2 p3 p4 p5 p6)).map .d)],[],0⟩∧i≤p6.length∧0≤nn∧nn≤5 * most+4611686018427,fun vs _=>match vs with | [.d (.int _ i),_]=>((p6.length:Nat) - i:Int).toNat | _=>0⟩),(15,⟨[9,5],[1,2],fun vs σ=>∃(i:Nat) (nn:Int),vs=[.d (.int .i64 i),.d (.int .i64 nn)]∧σ=⟨[.cells 44 ((encUn pl (.mk p1 p2 p3 p4 p5 p6)).map .d)],[],0⟩∧i≤p4.length∧0≤nn∧nn≤5 * most+4611686018427,fun vs _=>match vs with | [.d (.int _ i),_]=>((p4.length:Nat) - i:Int).toNat | _=>0⟩)],0,false,by simp,Nat.le_of_ble_eq_true rfl,?_⟩
  conv=>whnf
  refine ⟨pl,⟨p1,p2,p3⟩,B,rfl,⟨⟨by omega,by omega⟩,by omega,by simp only [szPr];omega,hB⟩,fun r hr0 hrb=>?_⟩
  unfold bd5 at hrb
  conv=>whnf
  refine ⟨⟨0,_,rfl,rfl,by omega,by omega,by omega⟩,?_⟩
  intro vs σ hI
  obtain ⟨i,nn,rfl,rfl,hi,hn0,hn1⟩:=hI
  conv=>whnf
  refine CondP.dec (fun hi2=>?_) (fun hi2=>?_)
  rotate_left
  ·conv=>whnf
   refine ⟨⟨0,_,rfl,rfl,by omega,by omega,by omega⟩,?_⟩
   intro vs σ hI
   obtain ⟨i,nn,rfl,rfl,hi,hn0,hn1⟩:=hI
   conv=>whnf
   refine CondP.dec (fun hi2=>?_) (fun hi2=>?_)
   rotate_left
   ·conv=>whnf
    refine ⟨⟨0,_,rfl,rfl,by omega,by omega,by omega⟩,?_⟩
    intro vs σ hI
    obtain ⟨i,nn,rfl,rfl,hi,hn0,hn1⟩:=hI
    conv=>whnf
    refine CondP.dec (fun hi2=>?_) (fun hi2=>?_)
    rotate_left
    ·conv=>whnf
     exact h _ (by omega) (by omega)
    have hi2:i<p4.length:=by have hi2:(i:Int)<(encCos pl p4).length:=hi2;rw [hl4] at hi2;omega
    conv=>whnf
    refine CondP.dec (fun hi2n=>?_) (fun hi2n=>?_)
    rotate_left
    ·conv=>whnf
     exact h _ (by omega) (by omega)
    conv=>whnf
    obtain ⟨eA,hA⟩:∃e,p4[i]=e:=⟨_,rfl⟩
    have hg:=szS_get szCo p4 i hi2
    obtain ⟨a1,a2,a3,a4,⟨u1,u2,u3,u4,u5,u6⟩,a6⟩:=eA
    rw [hA] at hg
    simp only [szCo] at hg
    have hr1:(encCos pl p4)[((i:Nat):Int).toNat]?=some (encCo pl (.mk a1 a2 a3 a4 (.mk u1 u2 u3 u4 u5 u6) a6)):=by rw [encCos_eq];simp [hi2,hA]
    have hla:(a2.map encBs).length=a2.length:=List.length_map ..
    have hlb:(a4.map encBs).length=a4.length:=List.length_map ..
    have hsa:=szS_len (sz0 (α:=Bs)) a2
    have hsb:=szS_len (sz0 (α:=Bs)) a4
    (repeat (first | (refine Or.inl ⟨InR.i64 (by omega) (by omega),?_⟩;conv=>whnf) | (refine ⟨_,by omega,hr1,?_⟩;conv=>whnf)))
    refine CondP.dec (fun hle=>?_) (fun hle=>?_)
    ·conv=>whnf
     (repeat (first | (refine Or.inl ⟨InR.i64 (by omega) (by omega),?_⟩;conv=>whnf) | (refine ⟨_,by omega,hr1,?_⟩;conv=>whnf)))
     refine ⟨by omega,pl,.mk u1 u2 u3 u4 u5 u6,B,rfl,⟨⟨by omega,by omega⟩,by omega,by omega,hB⟩,fun r hr0 hrb=>?_⟩
     unfold bdU at hrb
     conv=>whnf
     refine Or.inl ⟨InR.i64 (by omega) (by omega),?_⟩
     conv=>whnf
     refine Or.inl ⟨InR.i64 (by omega) (by omega),?_⟩
     conv=>whnf
     refine ⟨⟨i+1,_,rfl,rfl,by omega,by omega,by omega⟩,?_⟩
     show ((p4.length:Nat) - ((i:Int)+1)).toNat<((p4.length:Nat) - (i:Int)).toNat
     omega
    conv=>whnf
    refine Or.inl ⟨InR.i64 (by omega) (by omega),?_⟩
    conv=>whnf
    refine ⟨⟨i+1,_,rfl,rfl,by omega,by omega,by omega⟩,?_⟩
    show ((p4.length:Nat) - ((i:Int)+1)).toNat<((p4.length:Nat) - (i:Int)).toNat
    omega
   have hi2:i<p6.length:=by have hi2:(i:Int)<(p6.map (encOv pl)).length:=hi2;rw [hl6] at hi2;omega
   conv=>whnf
   refine CondP.dec (fun hi2n=>?_) (fun hi2n=>?_)
   rotate_left
   ·conv=>whnf
    refine ⟨⟨0,_,rfl,rfl,by omega,by omega,by omega⟩,?_⟩
    intro vs σ hI
    obtain ⟨i,nn,rfl,rfl,hi,hn0,hn1⟩:=hI
    conv=>whnf
    refine CondP.dec (fun hi2=>?_) (fun hi2=>?_)
    rotate_left
    ·conv=>whnf
     exact h _ (by omega) (by omega)
    have hi2:i<p4.length:=by have hi2:(i:Int)<(encCos pl p4).length:=hi2;rw [hl4] at hi2;omega
    conv=>whnf
    refine CondP.dec (fun hi2n=>?_) (fun hi2n=>?_)
    rotate_left
    ·conv=>whnf
     exact h _ (by omega) (by omega)
    conv=>whnf
    obtain ⟨eA,hA⟩:∃e,p4[i]=e:=⟨_,rfl⟩
    have hg:=szS_get szCo p4 i hi2
    obtain ⟨a1,a2,a3,a4,⟨u1,u2,u3,u4,u5,u6⟩,a6⟩:=eA
    rw [hA] at hg
    simp only [szCo] at hg
    have hr1:(encCos pl p4)[((i:Nat):Int).toNat]?=some (encCo pl (.mk a1 a2 a3 a4 (.mk u1 u2 u3 u4 u5 u6) a6)):=by rw [encCos_eq];simp [hi2,hA]
    have hla:(a2.map encBs).length=a2.length:=List.length_map ..
    have hlb:(a4.map encBs).length=a4.length:=List.length_map ..
    have hsa:=szS_len (sz0 (α:=Bs)) a2
    have hsb:=szS_len (sz0 (α:=Bs)) a4
    (repeat (first | (refine Or.inl ⟨InR.i64 (by omega) (by omega),?_⟩;conv=>whnf) | (refine ⟨_,by omega,hr1,?_⟩;conv=>whnf)))
    refine CondP.dec (fun hle=>?_) (fun hle=>?_)
    ·conv=>whnf
     (repeat (first | (refine Or.inl ⟨InR.i64 (by omega) (by omega),?_⟩;conv=>whnf) | (refine ⟨_,by omega,hr1,?_⟩;conv=>whnf)))
     refine ⟨by omega,pl,.mk u1 u2 u3 u4 u5 u6,B,rfl,⟨⟨by omega,by omega⟩,by omega,by omega,hB⟩,fun r hr0 hrb=>?_⟩
     unfold bdU at hrb
     conv=>whnf
     refine Or.inl ⟨InR.i64 (by omega) (by omega),?_⟩
     conv=>whnf
     refine Or.inl ⟨InR.i64 (by omega) (by omega),?_⟩
     conv=>whnf
     refine ⟨⟨i+1,_,rfl,rfl,by omega,by omega,by omega⟩,?_⟩
     show ((p4.length:Nat) - ((i:Int)+1)).toNat<((p4.length:Nat) - (i:Int)).toNat
     omega
    conv=>whnf
    refine Or.inl ⟨InR.i64 (by omega) (by omega),?_⟩
    conv=>whnf
    refine ⟨⟨i+1,_,rfl,rfl,by omega,by omega,by omega⟩,?_⟩
    show ((p4.length:Nat) - ((i:Int)+1)).toNat<((p4.length:Nat) - (i:Int)).toNat
    omega
   conv=>whnf
   obtain ⟨eA,hA⟩:∃e,p6[i]=e:=⟨_,rfl⟩
   obtain ⟨b1,b2⟩:=eA
   have hr1:(p6.map (encOv pl))[((i:Nat):Int).toNat]?=some (encOv pl ⟨b1,b2⟩):=by simp [hi2,hA]
   (repeat (first | (refine ⟨_,by omega,hr1,?_⟩;conv=>whnf) | (refine Or.inl ⟨InR.i64 (by omega) (by omega),?_⟩;conv=>whnf)))
   refine ⟨⟨i+1,_,rfl,rfl,by omega,by omega,by omega⟩,?_⟩
   show ((p6.length:Nat) - ((i:Int)+1)).toNat<((p6.length:Nat) - (i:Int)).toNat
   omega
  have hi2:i<p5.length:=by have hi2:(i:Int)<(p5.map (encIn pl)).length:=hi2;rw [hl5] at hi2;omega
  conv=>whnf
  refine CondP.dec (fun hi2n=>?_) (fun hi2n=>?_)
  rotate_left
  ·conv=>whnf
   refine ⟨⟨0,_,rfl,rfl,by omega,by omega,by omega⟩,?_⟩
   intro vs σ hI
   obtain ⟨i,nn,rfl,rfl,hi,hn0,hn1⟩:=hI
   conv=>whnf
   refine CondP.dec (fun hi2=>?_) (fun hi2=>?_)
   rotate_left
   ·conv=>whnf
    refine ⟨⟨0,_,rfl,rfl,by omega,by omega,by omega⟩,?_⟩
    intro vs σ hI
    obtain ⟨i,nn,rfl,rfl,hi,hn0,hn1⟩:=hI
    conv=>whnf
    refine CondP.dec (fun hi2=>?_) (fun hi2=>?_)
    rotate_left
    ·conv=>whnf
     exact h _ (by omega) (by omega)
    have hi2:i<p4.length:=by have hi2:(i:Int)<(encCos pl p4).length:=hi2;rw [hl4] at hi2;omega
    conv=>whnf
    refine CondP.dec (fun hi2n=>?_) (fun hi2n=>?_)
    rotate_left
    ·conv=>whnf
     exact h _ (by omega) (by omega)
    conv=>whnf
    obtain ⟨eA,hA⟩:∃e,p4[i]=e:=⟨_,rfl⟩
    have hg:=szS_get szCo p4 i hi2
    obtain ⟨a1,a2,a3,a4,⟨u1,u2,u3,u4,u5,u6⟩,a6⟩:=eA
    rw [hA] at hg
    simp only [szCo] at hg
    have hr1:(encCos pl p4)[((i:Nat):Int).toNat]?=some (encCo pl (.mk a1 a2 a3 a4 (.mk u1 u2 u3 u4 u5 u6) a6)):=by rw [encCos_eq];simp [hi2,hA]
    have hla:(a2.map encBs).length=a2.length:=List.length_map ..
    have hlb:(a4.map encBs).length=a4.length:=List.length_map ..
    have hsa:=szS_len (sz0 (α:=Bs)) a2
    have hsb:=szS_len (sz0 (α:=Bs)) a4
    (repeat (first | (refine Or.inl ⟨InR.i64 (by omega) (by omega),?_⟩;conv=>whnf) | (refine ⟨_,by omega,hr1,?_⟩;conv=>whnf)))
    refine CondP.dec (fun hle=>?_) (fun hle=>?_)
    ·conv=>whnf
     (repeat (first | (refine Or.inl ⟨InR.i64 (by omega) (by omega),?_⟩;conv=>whnf) | (refine ⟨_,by omega,hr1,?_⟩;conv=>whnf)))
     refine ⟨by omega,pl,.mk u1 u2 u3 u4 u5 u6,B,rfl,⟨⟨by omega,by omega⟩,by omega,by omega,hB⟩,fun r hr0 hrb=>?_⟩
     unfold bdU at hrb
     conv=>whnf
     refine Or.inl ⟨InR.i64 (by omega) (by omega),?_⟩
     conv=>whnf
     refine Or.inl ⟨InR.i64 (by omega) (by omega),?_⟩
     conv=>whnf
     refine ⟨⟨i+1,_,rfl,rfl,by omega,by omega,by omega⟩,?_⟩
     show ((p4.length:Nat) - ((i:Int)+1)).toNat<((p4.length:Nat) - (i:Int)).toNat
     omega
    conv=>whnf
    refine Or.inl ⟨InR.i64 (by omega) (by omega),?_⟩
    conv=>whnf
    refine ⟨⟨i+1,_,rfl,rfl,by omega,by omega,by omega⟩,?_⟩
    show ((p4.length:Nat) - ((i:Int)+1)).toNat<((p4.length:Nat) - (i:Int)).toNat
    omega
   have hi2:i<p6.length:=by have hi2:(i:Int)<(p6.map (encOv pl)).length:=hi2;rw [hl6] at hi2;omega
   conv=>whnf
   refine CondP.dec (fun hi2n=>?_) (fun hi2n=>?_)
   rotate_left
   ·conv=>whnf
    refine ⟨⟨0,_,rfl,rfl,by omega,by omega,by omega⟩,?_⟩
    intro vs σ hI
    obtain ⟨i,nn,rfl,rfl,hi,hn0,hn1⟩:=hI
    conv=>whnf
    refine CondP.dec (fun hi2=>?_) (fun hi2=>?_)
    rotate_left
    ·conv=>whnf
     exact h _ (by omega) (by omega)
    have hi2:i<p4.length:=by have hi2:(i:Int)<(encCos pl p4).length:=hi2;rw [hl4] at hi2;omega
    conv=>whnf
    refine CondP.dec (fun hi2n=>?_) (fun hi2n=>?_)
    rotate_left
    ·conv=>whnf
     exact h _ (by omega) (by omega)
    conv=>whnf
    obtain ⟨eA,hA⟩:∃e,p4[i]=e:=⟨_,rfl⟩
    have hg:=szS_get szCo p4 i hi2
    obtain ⟨a1,a2,a3,a4,⟨u1,u2,u3,u4,u5,u6⟩,a6⟩:=eA
    rw [hA] at hg
    simp only [szCo] at hg
    have hr1:(encCos pl p4)[((i:Nat):Int).toNat]?=some (encCo pl (.mk a1 a2 a3 a4 (.mk u1 u2 u3 u4 u5 u6) a6)):=by rw [encCos_eq];simp [hi2,hA]
    have hla:(a2.map encBs).length=a2.length:=List.length_map ..
    have hlb:(a4.map encBs).length=a4.length:=List.length_map ..
    have hsa:=szS_len (sz0 (α:=Bs)) a2
    have hsb:=szS_len (sz0 (α:=Bs)) a4
    (repeat (first | (refine Or.inl ⟨InR.i64 (by omega) (by omega),?_⟩;conv=>whnf) | (refine ⟨_,by omega,hr1,?_⟩;conv=>whnf)))
    refine CondP.dec (fun hle=>?_) (fun hle=>?_)
    ·conv=>whnf
     (repeat (first | (refine Or.inl ⟨InR.i64 (by omega) (by omega),?_⟩;conv=>whnf) | (refine ⟨_,by omega,hr1,?_⟩;conv=>whnf)))
     refine ⟨by omega,pl,.mk u1 u2 u3 u4 u5 u6,B,rfl,⟨⟨by omega,by omega⟩,by omega,by omega,hB⟩,fun r hr0 hrb=>?_⟩
     unfold bdU at hrb
     conv=>whnf
     refine Or.inl ⟨InR.i64 (by omega) (by omega),?_⟩
     conv=>whnf
     refine Or.inl ⟨InR.i64 (by omega) (by omega),?_⟩
     conv=>whnf
     refine ⟨⟨i+1,_,rfl,rfl,by omega,by omega,by omega⟩,?_⟩
     show ((p4.length:Nat) - ((i:Int)+1)).toNat<((p4.length:Nat) - (i:Int)).toNat
     omega
    conv=>whnf
    refine Or.inl ⟨InR.i64 (by omega) (by omega),?_⟩
    conv=>whnf
    refine ⟨⟨i+1,_,rfl,rfl,by omega,by omega,by omega⟩,?_⟩
    show ((p4.length:Nat) - ((i:Int)+1)).toNat<((p4.length:Nat) - (i:Int)).toNat
    omega
   conv=>whnf
   obtain ⟨eA,hA⟩:∃e,p6[i]=e:=⟨_,rfl⟩
   obtain ⟨b1,b2⟩:=eA
   have hr1:(p6.map (encOv pl))[((i:Nat):Int).toNat]?=some (encOv pl ⟨b1,b2⟩):=by simp [hi2,hA]
   (repeat (first | (refine ⟨_,by omega,hr1,?_⟩;conv=>whnf) | (refine Or.inl ⟨InR.i64 (by omega) (by omega),?_⟩;conv=>whnf)))
   refine ⟨⟨i+1,_,rfl,rfl,by omega,by omega,by omega⟩,?_⟩
   show ((p6.length:Nat) - ((i:Int)+1)).toNat<((p6.length:Nat) - (i:Int)).toNat
   omega
  conv=>whnf
  obtain ⟨eA,hA⟩:∃e,p5[i]=e:=⟨_,rfl⟩
  have hg:=szS_get szIn p5 i hi2
  obtain ⟨b1,b2,b3,b4⟩:=eA
  rw [hA] at hg
  simp only [szIn] at hg
  have hr1:(p5.map (encIn pl))[((i:Nat):Int).toNat]?=some (encIn pl ⟨b1,b2,b3,b4⟩):=by simp [hi2,hA]
  have hlb:(b3.map encBs).length=b3.length:=List.length_map ..
  have hlb2:(List.map encBs (Ini.types ⟨b1,b2,b3,b4⟩)).length=b3.length:=List.length_map ..
  have hsb:=szS_len (sz0 (α:=Bs)) b3
  (repeat (first | (refine Or.inl ⟨InR.i64 (by omega) (by omega),?_⟩;conv=>whnf) | (refine ⟨_,by omega,hr1,?_⟩;conv=>whnf)))
  refine ⟨⟨0,_,rfl,rfl,by omega,by omega,by omega⟩,?_⟩
  intro vs' σ' hI'
  obtain ⟨j,n2,rfl,rfl,hj,hn20,hn21⟩:=hI'
  conv=>whnf
  (repeat (first | (refine Or.inl ⟨InR.i64 (by omega) (by omega),?_⟩;conv=>whnf) | (refine ⟨_,by omega,hr1,?_⟩;conv=>whnf)))
  refine CondP.dec (fun hj2=>?_) (fun hj2=>?_)
  rotate_left
  ·conv=>whnf
   refine Or.inl ⟨InR.i64 (by omega) (by omega),?_⟩
   conv=>whnf
   refine ⟨⟨i+1,_,rfl,rfl,by omega,by omega,by omega⟩,?_⟩
   show ((p5.length:Nat) - ((i:Int)+1)).toNat<((p5.length:Nat) - (i:Int)).toNat
   omega
  have hj2:j<b3.length:=by have hj2:(j:Int)<(b3.map encBs).length:=hj2;rw [hlb] at hj2;omega
  conv=>whnf
  refine CondP.dec (fun hj3=>?_) (fun hj3=>?_)
  rotate_left
  ·conv=>whnf
   refine Or.inl ⟨InR.i64 (by omega) (by omega),?_⟩
   conv=>whnf
   refine ⟨⟨i+1,_,rfl,rfl,by omega,by omega,by omega⟩,?_⟩
   show ((p5.length:Nat) - ((i:Int)+1)).toNat<((p5.length:Nat) - (i:Int)).toNat
   omega
  conv=>whnf
  have hr2:(b3.map encBs)[((j:Nat):Int).toNat]?=some (encBs b3[j]):=by simp [hj2]
  (repeat (first | (refine ⟨_,by omega,hr1,?_⟩;conv=>whnf) | (refine ⟨_,by omega,hr2,?_⟩;conv=>whnf) | (refine Or.inl ⟨InR.i64 (by omega) (by omega),?_⟩;conv=>whnf)))
  refine ⟨⟨j+1,_,rfl,rfl,by omega,by omega,by omega⟩,?_⟩
  show ((B:Nat) - ((j:Int)+1)).toNat<((B:Nat) - (j:Int)).toNat
  omega
 ·exact h.elim
theorem cZPr (m:Nat):PCalls (GG w0 nG) 37 (spSz encPr szPr bd5 m):=zPr_ok ⟨⟨zFi_ok,spSzL_mono _ _ _ _⟩,⟨zRu_ok ⟨⟨cZE m,spSz_mono _ _ _ _⟩,⟨cZL m,spSzL_mono _ _ _ _⟩,trivial⟩,spSzL_mono _ _ _ _⟩,trivial⟩
theorem cZUn:∀m,PCalls (GG w0 nG) 18 (spSz encUn szUn bdU m)
 | 0=>zUn_ok ⟨⟨cZPr 0,spSz_mono _ _ _ _⟩,⟨pcalls_none (enters_of Tryz.func18 (by kernel_rfl) rfl),spB_mono (spSz_mono _ _ _) _⟩,trivial⟩
 | m+1=>zUn_ok ⟨⟨cZPr _,spSz_mono _ _ _ _⟩,⟨pcalls_less (sp:=spSz encUn szUn bdU) (cZUn m),spB_mono (spSz_mono _ _ _) _⟩,trivial⟩
end Go.PM.Lex
end

section
set_option maxRecDepth 100000
namespace Go.PM.Lex
end Go.PM.Lex
end

section
set_option maxRecDepth 100000
namespace Go.PM.Lex
theorem pk_low1 {z:Bs} {c:UInt8} (hc:c.toNat<128):pk (c::z)=((c.toNat:Int),1):=by
 have e:Lib.decodeL (c::z)=(c.toNat,1):=by
  rw [Lib.decodeL_N];unfold Lib.decodeN;rw [if_pos (by simpa using hc)];simp
 unfold pk
 rw [e,if_neg (by simp;omega)]
structure Fol (c:UInt8) (z:Bs):Prop where
 low:c.toNat<128
 let':isLetter c.toNat=false
 dig:isDigit c.toNat=false
 dot:c=46→isLetter (pk z).1=false
theorem Fol.pk {c:UInt8} {z:Bs} (h:Fol c z):Lex.pk (c::z)=((c.toNat:Int),1):=pk_low1 h.low
end Go.PM.Lex
end

section
set_option maxRecDepth 100000
namespace Go.PM.Lex
end Go.PM.Lex
end

section
set_option maxRecDepth 100000
set_option maxHeartbeats 4000000
namespace Go.PM.Lex
open Go.Proofs
theorem szE_mk (o:Nat) (t:Bs) (n:Int) (l:List Ex) (a:Nat):szE (.mk o t n l a)=1+szS szE l:=by rw [szE,szEs_eq]
theorem szL_mk (o:Nat) (t:Bs) (l:List Ex) (b:List Li) (a:Nat):szL (.mk o t l b a)=1+szS szE l+szS szL b:=by rw [szL,szLs_eq]
theorem szCo_mk (n:Bs) (p:List Bs) (b:Bs) (t:List Bs) (u:Un) (a:Nat):szCo (.mk n p b t u a)=1+szS sz0 p+szS sz0 t+szUn u:=by rw [szCo]
theorem szUn_mk (a1 a2 a3 a4 a5 a6):szUn (.mk a1 a2 a3 a4 a5 a6)=1+szS szTy a1+szS szRe a2+szS szRu a3+szS szCo a4+szS szIn a5+szS sz0 a6:=by rw [szUn,szCos_eq]
theorem allS_er {α:Type} {er:α→α} {f:α→α→Bool}:∀(l m:List α),(∀x∈l,∀y,er x=er y→f x y=true)→l.map er=m.map er→allS f l m=true
 | [],[],_,_=>rfl
 | [],_::_,_,h=>by simp at h
 | _::_,[],_,h=>by simp at h
 | x::l,y::m,hf,h=>by
  simp only [List.map_cons,List.cons.injEq] at h
  rw [allS,hf x (List.mem_cons_self ..) y h.1,Bool.true_and]
  exact allS_er l m (fun z hz=>hf z (List.mem_cons_of_mem _ hz)) h.2
theorem allS_refl {α:Type} {f:α→α→Bool} (hf:∀x,f x x=true) (l:List α):allS f l l=true:=by
 induction l with
 | nil=>rfl
 | cons x l ih=>rw [allS,hf,ih];rfl
theorem eqB_refl (x:Bs):eqB x x=true:=by simp [eqB]
theorem sameFi_refl (x:Fi):sameFi x x=true:=by simp [sameFi]
theorem sameCa_refl (x:Ca):sameCa x x=true:=by simp [sameCa,allS_refl sameFi_refl]
theorem sameE_er:∀(n:Nat) (x:Ex),szE x<n→∀y,erE x=erE y→sameE x y=true
 | 0,_,h,_,_=>by omega
 | n+1,.mk o1 t1 n1 l1 a1,hz,.mk o2 t2 n2 l2 a2,h=>by
  simp only [erE,erEs_eq,Ex.mk.injEq] at h
  obtain ⟨rfl,rfl,rfl,h,-⟩:=h
  rw [szE_mk] at hz
  have:allS sameE l1 l2=true:=allS_er l1 l2 (fun x hx y e=>by
   obtain ⟨i,hi,rfl⟩:=List.getElem_of_mem hx
   have:=szS_get szE l1 i hi
   exact sameE_er n _ (by omega) y e) h
  simp [sameE,sameEs_eq,this]
theorem sameE_of {x y:Ex} (h:erE x=erE y):sameE x y=true:=sameE_er _ x (Nat.lt_succ_self _) y h
theorem sameL_er:∀(n:Nat) (x:Li),szL x<n→∀y,erL x=erL y→sameL x y=true
 | 0,_,h,_,_=>by omega
 | n+1,.mk o1 t1 l1 b1 a1,hz,.mk o2 t2 l2 b2 a2,h=>by
  simp only [erL,erLs_eq,Li.mk.injEq] at h
  obtain ⟨rfl,rfl,h,h2,-⟩:=h
  rw [szL_mk] at hz
  have e1:allS sameE l1 l2=true:=allS_er l1 l2 (fun x hx y e=>sameE_of e) (by first | exact h | (simpa [erEs_eq] using h))
  have e2:allS sameL b1 b2=true:=allS_er b1 b2 (fun x hx y e=>by
   obtain ⟨i,hi,rfl⟩:=List.getElem_of_mem hx
   have:=szS_get szL b1 i hi
   exact sameL_er n _ (by omega) y e) h2
  simp [sameL,sameLs_eq,e1,e2]
theorem sameL_of {x y:Li} (h:erL x=erL y):sameL x y=true:=sameL_er _ x (Nat.lt_succ_self _) y h
theorem sameRu_of {x y:Ru} (h:erRu x=erRu y):sameRu x y=true:=by
 simp only [erRu,Ru.mk.injEq] at h
 obtain ⟨e1,e2,e3,-⟩:=h
 simp [sameRu,e1,allS_er (er:=erE) _ _ (fun x hx y e=>sameE_of e) e2,allS_er (er:=erL) _ _ (fun x hx y e=>sameL_of e) e3]
theorem sameTy_of {x y:Ty} (h:erTy x=erTy y):sameTy x y=true:=by
 simp only [erTy,Ty.mk.injEq] at h
 obtain ⟨e1,e2,e3,e4,e5,-⟩:=h
 simp [sameTy,e1,e2,e3,e4,e5,allS_refl sameFi_refl,allS_refl sameCa_refl]
theorem sameRe_of {x y:Re} (h:erRe x=erRe y):sameRe x y=true:=by
 simp only [erRe,Re.mk.injEq] at h
 obtain ⟨e1,e2,e3,e4,e5,-⟩:=h
 simp [sameRe,e1,e2,e3,e4,e5,allS_refl sameFi_refl]
theorem sameIn_of {x y:Ini} (h:erIn x=erIn y):sameIn x y=true:=by
 simp only [erIn,Ini.mk.injEq] at h
 obtain ⟨e1,e2,e3,-⟩:=h
 simp [sameIn,e1,e2,e3,allS_refl eqB_refl]
theorem sameOv_of {x y:Ov} (h:erOv x=erOv y):sameOv x y=true:=by
 simp only [erOv,Ov.mk.injEq] at h
 simp [sameOv,h.1]
theorem sameUn_er:∀(n:Nat) (x:Un),szUn x<n→∀y,erUn x=erUn y→sameUn x y=true
 | 0,_,h,_,_=>by omega
 | n+1,.mk a1 a2 a3 a4 a5 a6,hz,.mk b1 b2 b3 b4 b5 b6,h=>by
  simp only [erUn,erCos_eq,Un.mk.injEq] at h
  obtain ⟨e1,e2,e3,e4,e5,e6⟩:=h
  rw [szUn_mk] at hz
  have k4:allS sameCo a4 b4=true:=allS_er a4 b4 (fun x hx y e=>by
   obtain ⟨i,hi,rfl⟩:=List.getElem_of_mem hx
   have hg:=szS_get szCo a4 i hi
   revert hg e
   generalize a4[i]=c
   intro e hg
   obtain ⟨n1,p1,c1,t1,u1,q1⟩:=c
   obtain ⟨n2,p2,c2,t2,u2,q2⟩:=y
   rw [szCo_mk] at hg
   simp only [erCo,Co.mk.injEq] at e
   obtain ⟨rfl,rfl,rfl,rfl,e,-⟩:=e
   have:=sameUn_er n u1 (by omega) u2 e
   simp [sameCo,this,allS_refl eqB_refl]) e4
  simp [sameUn,sameCos_eq,k4,allS_er (er:=erTy) _ _ (fun x hx y e=>sameTy_of e) e1,allS_er (er:=erRe) _ _ (fun x hx y e=>sameRe_of e) e2,allS_er (er:=erRu) _ _ (fun x hx y e=>sameRu_of e) e3,allS_er (er:=erIn) _ _ (fun x hx y e=>sameIn_of e) e5,allS_er (er:=erOv) _ _ (fun x hx y e=>sameOv_of e) e6]
theorem sameUn_of {x y:Un} (h:erUn x=erUn y):sameUn x y=true:=sameUn_er _ x (Nat.lt_succ_self _) y h
end Go.PM.Lex
end

section
set_option maxRecDepth 100000
set_option maxHeartbeats 4000000
namespace Go.PM.Lex
open Go.Proofs
variable {w0:World} {nG:Nat}
noncomputable def spPrSame (n:Nat):Spec:=fun args σ K=>match args,σ with
 | [.agg c1,.agg c2],⟨[],[],0⟩=>(∃pl1 x1 pl2 x2,c1=(encUn pl1 x1).map .d∧c2=(encUn pl2 x2).map .d∧szUn x1≤n∧szUn x2≤n∧n≤1073741824)∧K (.ret (.d (.bool true))) ⟨[],[],0⟩
 | _,_=>False
noncomputable def tblPrSame (n:Nat):Tbl:=[(18,spSz encUn szUn bdU 6000),(19,spSt encUn sameUn szUn n),(20,spKU n),(12,spTrue16)]
theorem prSame_ok {n:Nat} (ht:TblOK (GG w0 nG) (tblPrSame n)):PCalls (GG w0 nG) 5 (spPrSame n):=by
 refine pcalls tab_ok mixed (tbl:=tblPrSame n) ht Tryz.func5 rfl (by kernel_rfl) (by kernel_rfl) ?_
 intro args σ K h
 unfold spPrSame at h
 split at h
 ·obtain ⟨⟨pl1,⟨a1,a2,a3,a4,a5,a6⟩,pl2,⟨b1,b2,b3,b4,b5,b6⟩,rfl,rfl,z1,z2,hn⟩,h⟩:=h
  refine ⟨loopsOf [],0,false,by simp,Nat.le_of_ble_eq_true rfl,?_⟩
  conv=>whnf
  refine ⟨pl1,.mk a1 a2 a3 a4 a5 a6,n,rfl,⟨⟨by decide,by decide⟩,by decide,z1,by omega⟩,fun r hr0 hr1=>?_⟩
  conv=>whnf
  refine CondP.dec (fun hc=>?_) (fun hc=>?_)
  ·conv=>whnf
   exact h
  conv=>whnf
  refine ⟨pl2,.mk b1 b2 b3 b4 b5 b6,n,rfl,⟨⟨by decide,by decide⟩,by decide,z2,by omega⟩,fun r2 hr20 hr21=>?_⟩
  conv=>whnf
  refine CondP.dec (fun hc2=>?_) (fun hc2=>?_)
  ·conv=>whnf
   exact h
  have hs:sameUn (.mk a1 a2 a3 a4 a5 a6) (.mk a1 a2 a3 a4 a5 a6)=true:=sameUn_of rfl
  conv=>whnf
  refine ⟨pl1,.mk a1 a2 a3 a4 a5 a6,pl2,.mk b1 b2 b3 b4 b5 b6,rfl,rfl,⟨z1,by omega⟩,fun b hb=>?_⟩
  conv=>whnf
  (repeat (refine ⟨rfl,?_⟩;conv=>whnf))
  refine ⟨pl1,.mk a1 a2 a3 a4 a5 a6,pl2,.mk b1 b2 b3 b4 b5 b6,rfl,rfl,⟨rfl,z1,by omega⟩,fun b' hb'=>?_⟩
  obtain rfl:b=b':=hb.symm.trans hb'
  cases b
  all_goals
   conv=>whnf
   (repeat (refine ⟨rfl,?_⟩;conv=>whnf))
   refine ⟨pl1,.mk a1 a2 a3 a4 a5 a6,pl1,.mk a1 a2 a3 a4 a5 a6,rfl,rfl,⟨z1,by omega⟩,fun b'' hb''=>?_⟩
   obtain rfl:b''=true:=hb''.symm.trans hs
   conv=>whnf
   (repeat (refine ⟨rfl,?_⟩;conv=>whnf))
   exact h
 ·exact h.elim
end Go.PM.Lex
end

section
set_option maxRecDepth 100000
namespace Go
variable {H:Type} {enc:TypeId×Value→H}
end Go
namespace Go.PM.Lex
open Go.Proofs Go.Proofs.YtflgockgjnddnaaGreatDoor Go.ChangeShapes Go.WideShapes Go.ChangeAt Go.RowKit
theorem r_own:ownKnob Tryz.prog.godebug=none:=by kernel_rfl
theorem r_star : "*" ++ "errors.errorString" = "*errors.errorString" := by decide
theorem r_row124 (u : TypeId) (h : Tryz.prog.typeName? 3 u = some "*errors.errorString") : u = 352 :=
 typeName_ptr_named (nm := "errors.errorString") (by rw [r_star]; kernel_rfl) (by kernel_rfl) (by decide) u (by rw [r_star]; exact h)
theorem r_iface {W:World} {n:String} {text:List UInt8} {g:Nat} (hg:Tryz.prog.globalNamed n=some g) (ht:(Tryz.prog.globals[g]?).map (·.type)=some 206)
  (h : laidMet Tryz.prog [(n, .iface "*errors.errorString" (.ptr (.agg [.lit (.string text)])))] W) : ∃ ev, W.cell? ⟨g, 0, none⟩ = some ev ∧ (ev = .nilIface ∨ ∃ te pe, ev = .iface te pe) := by
 obtain ⟨a1,s1,hv1,_⟩:=laid_sentinel h hg ht Tryz.underlying206 r_row124 Tryz.underlying352 Tryz.underlying354 rfl rfl Tryz.underlying9 (by kernel_rfl) (by kernel_rfl)
 refine ⟨.iface 352 (.pointer (some a1)),?_,.inr ⟨_,_,rfl⟩⟩
 simpa using World.var?_cell hg hv1 0
theorem r_glob {W:World} (h:laidMetH Tryz.prog Rows.printUnlikeRow.laid W) (hsh:W.ShapedOpen Tryz.prog):GlobOK W 8:=by
 rw [MakeChecks.laidMetH_plain _ _ _ (by kernel_rfl)] at h
 have h1 := laidMet.filter (fun x => x.1 == "strconv.ErrSyntax") h
 have h2 := laidMet.filter (fun x => x.1 == "strconv.ErrRange") h
 exact ⟨by omega,Tryz.laysM143.s1_3 W hsh,r_iface (by kernel_rfl) (by kernel_rfl) h1,r_iface (by kernel_rfl) (by kernel_rfl) h2⟩
theorem r_kept {e e':Env} {W W':World} {σ':St} {may:MemPlace→Prop} (h:Later e ⟨[],[],0⟩ W e' σ' W'):W.keptBut W' may:=by
 refine ⟨h.os,h.output,fun i hi=>?_⟩
 have:=h.blocks i hi (fun j hj=>by simp at hj) (fun t ht=>by cases ht)
 rw [this]
 cases hh:W.heap[i]? with
 | none=>rfl
 | some o=>cases o <;> simp
def ePure:Env:=⟨fun _=>0,fun _=>none,fun _ _=>False⟩
theorem r_start {W:World} (h:8≤W.heap.size):SRel (GG W 8) ePure ⟨[],[],0⟩ W where
 inj:=fun i j hi=>by simp at hi
 box:=fun i x hx=>by simp at hx
 low:=fun i hi=>by simp at hi
 tkn:=fun t ht=>by cases ht
 own:=fun t ht=>by cases ht
 dis:=fun t t' ht=>by cases ht
 xlt:=fun b off hx=>hx.elim
 xown:=fun t ht=>by cases ht
 glob:=fun b hb=>rfl
 big:=h
end Go.PM.Lex
end

section
namespace Go.PM.Lex
open Go.Proofs Go.Proofs.YtflgockgjnddnaaGreatDoor
theorem and_tt {a b:Bool} (h1:a=true) (h2:b=true):(a && b)=true:=by rw [h1,h2];rfl
theorem joined_of {P:Program} {f:FuncId} {fn:Func} {s:ChangeSpec} {c:OpenClaim}
  (p1:laidOutB P=true) (p2:mapsRowed P=true) (p3:(P.stops == [])=true) (p4:(P.stopKnobs == [])=true) (p5:(c.plainKeys == P.plainKeys)=true) (p6:P.stopsHeard=true) (p7:P.mayEnter=true) (p8:(c.lifted == P.liftsFinal)=true) (p9:(P.make == some c.make)=true)
  (k1:c.wf (OpenSpec.ofChange s)=true) (k2:fn.params.all (P.readableRec ·)=true) (k3:namedTie P c.named s.vars=true) (k4:(c.stops == [])=true) (k5:(c.knobs == [])=true)
  (k6:(c.inPlace == P.inPlace f)=true) (k7:(c.unfollowed == P.unfollowed f)=true) (k8:(c.recurses == P.recurses f)=true) (k9:(c.named == P.varsNamed f)=true)
  (k10:(c.maps == (fn.params.toList++s.plain.varTypes P).any (P.mapsRec ·))=true) (k11:(c.ifaces == (fn.params.toList++s.plain.varTypes P).any (P.ifacesRec ·))=true) (k12:(c.mapsOut == P.mapsAmong fn.resultTypes.toList)=true)
  (k13:(c.loops == (fn.params.toList++s.plain.varTypes P).any (P.loopsFrom ·))=true) (k14:(c.wideKeys == (fn.params.toList++s.plain.varTypes P++fn.resultTypes.toList).any (P.wideKeysFrom ·))=true)
  (k15:s.vars.all (P.varReadable ·)=true) (k16:fn.resultTypes.all (fun t=>P.readableRec t && decide (t<P.types.size))=true) (k17:(c.ifacesOut == fn.resultTypes.toList.any (P.ifacesRec ·))=true) (k18:(c.loopsOut == fn.resultTypes.toList.any (P.loopsFrom ·))=true)
  (k19:c.shortTexts.isNone=true) (k20:(c.kinds == (if c.domain.isEmpty then [] else fn.params.toList.map fun t=>match P.underlying t with | some (.int k)=>some k | _=>none))=true) (k21:(c.pinned == c.pinnedBy)=true)
  (k22:(c.veiled == (fn.params.toList++s.plain.varTypes P++fn.resultTypes.toList).any (P.veiledRec ·))=true) (k23:c.veiledFits P fn.params.toList (fn.params.toList++s.plain.varTypes P++fn.resultTypes.toList)=true):joinedFacts P f fn s c=true:=by
 unfold joinedFacts
 exact (and_tt (and_tt (and_tt (and_tt (and_tt (and_tt (and_tt (and_tt (and_tt (and_tt (and_tt (and_tt (and_tt (and_tt (and_tt (and_tt (and_tt (and_tt (and_tt (and_tt (and_tt (and_tt (and_tt (and_tt (and_tt (and_tt (and_tt (and_tt (and_tt (and_tt (and_tt k1 p1) p2) k2) k3) k4) p3) k5) p4) k6) k7) k8) k9) k10) k11) k12) k13) k14) k15) k16) k17) k18) p5) k19) p6) p7) p8) p9) k20) k21) k22) k23)
theorem jp1:laidOutB Tryz.checked.prog=true:=by kernel_rfl
theorem jp2:mapsRowed Tryz.checked.prog=true:=by kernel_rfl
theorem jp3:(Tryz.checked.prog.stops == [])=true:=by kernel_rfl
theorem jp4:(Tryz.checked.prog.stopKnobs == [])=true:=by kernel_rfl
theorem jp5:(Rows.printUnlikeRow.plainKeys == Tryz.checked.prog.plainKeys)=true:=by kernel_rfl
theorem jp6:Tryz.checked.prog.stopsHeard=true:=by kernel_rfl
theorem jp7:Tryz.checked.prog.mayEnter=true:=by kernel_rfl
theorem jp8:(Rows.printUnlikeRow.lifted == Tryz.checked.prog.liftsFinal)=true:=by kernel_rfl
theorem jp9:(Tryz.checked.prog.make == some Rows.printUnlikeRow.make)=true:=by kernel_rfl
theorem jp10:Tryz.checked.prog.mainIs=some (Rows.printUnlikeCard.stood.harness.1,Rows.printUnlikeCard.stood.harness.2.toList):=by kernel_rfl
theorem jp11:Rows.printUnlikeCard.stood.looks=Tryz.checked.prog.looks []:=by kernel_rfl
end Go.PM.Lex
end

section
set_option maxRecDepth 100000
set_option maxHeartbeats 1000000
namespace Go.PM
mutual
inductive PlainD (P:Program):TypeId→List D→Nat→Prop
 | int {t:TypeId} {k:IntKind} {n:Int} (h:P.underlying t=some (.int k)) (hw:(Lit.int k n).wf=true):PlainD P t [.int k n] 1
 | str {t:TypeId} {s:List UInt8} (h:P.underlying t=some .string):PlainD P t [.str s] (s.length+1)
 | bool {t:TypeId} {b:Bool} (h:P.underlying t=some .bool):PlainD P t [.bool b] 1
 | st {t:TypeId} {fs:Array Field} {ds:List D} {b:Nat} (h:P.underlying t=some (.struct fs)) (hf:PlainFs P (fs.toList.map (·.type)) ds b):PlainD P t ds (b+1)
 | sl {t e:TypeId} {rows:List (List D)} {b:Nat} (h:P.underlying t=some (.slice e)) (hr:PlainRs P e rows b):PlainD P t [.sl rows] (b+1)
inductive PlainFs (P:Program):List TypeId→List D→Nat→Prop
 | nil:PlainFs P [] [] 0
 | cons {f:TypeId} {l:List TypeId} {r ds:List D} {b c:Nat} (h1:PlainD P f r b) (h2:PlainFs P l ds c):PlainFs P (f::l) (r++ds) (b+c)
inductive PlainRs (P:Program):TypeId→List (List D)→Nat→Prop
 | nil {e:TypeId}:PlainRs P e [] 0
 | cons {e:TypeId} {r:List D} {rows:List (List D)} {b c:Nat} (h1:PlainD P e r b) (h2:PlainRs P e rows c):PlainRs P e (r::rows) (b+c)
end
structure CR (ok:Nat→Nat→Prop) (w:World) (ds:List D) (cs:List Value):Prop where
 len:ds.length=cs.length
 rel:∀(i:Nat) (x:D) (u:Value),ds[i]?=some x→cs[i]?=some u→DRel ok w x u
 one:∀u∈cs,u.oneCell'=true
theorem CR.nil {ok:Nat→Nat→Prop} {w:World}:CR ok w [] []:=⟨rfl,fun i x u h=>by simp at h,fun u h=>by cases h⟩
theorem CR.one1 {ok:Nat→Nat→Prop} {w:World} {x:D} {u:Value} (h:DRel ok w x u) (h1:u.oneCell'=true):CR ok w [x] [u]:=⟨rfl,fun i y v hy hv=>by
 match i,hy,hv with
 | 0,hy,hv=>cases hy;cases hv;exact h
 | i+1,hy,hv=>simp at hy,fun v hv=>by rw [List.mem_singleton.1 hv];exact h1⟩
theorem CR.app {ok:Nat→Nat→Prop} {w:World} {d1 d2:List D} {c1 c2:List Value} (h1:CR ok w d1 c1) (h2:CR ok w d2 c2):CR ok w (d1++d2) (c1++c2):=by
 refine ⟨by rw [List.length_append,List.length_append,h1.len,h2.len],fun i x u hx hu=>?_,fun u hu=>?_⟩
 ·by_cases hi:i<d1.length
  ·rw [List.getElem?_append_left hi] at hx
   rw [List.getElem?_append_left (by rw [← h1.len];exact hi)] at hu
   exact h1.rel i x u hx hu
  ·rw [List.getElem?_append_right (by omega)] at hx
   rw [List.getElem?_append_right (by rw [← h1.len];omega),← h1.len] at hu
   exact h2.rel _ x u hx hu
 ·rcases List.mem_append.1 hu with h | h
  ·exact h1.one u h
  ·exact h2.one u h
def offsB (P:Program):List Field→Nat→Option Nat
 | [],a=>some a
 | f::l,a=>if f.offset=a then offsB P l (a+P.cellsOf f.type) else none
def plainB (P:Program) (S:List TypeId) (t:TypeId):Bool:=match P.underlying t with
 | some (.int _) | some .string | some .bool=>true
 | some (.struct fs)=>fs.toList.all (fun f=>S.contains f.type) && decide (offsB P fs.toList 0=some (P.cellsOf t))
 | some (.slice e)=>S.contains e && decide (0<P.cellsOf e)
 | _=>false
section
variable {H:Type} {enc:TypeId×Value→H} {P:Program} {w:World} {ok:Nat→Nat→Prop}
theorem trod_plain {S:List TypeId} (hS:S.all (plainB P S)=true) (hok:∀b off,ok b off) (bulk:DataW H→Nat) (bulks:List (DataW H)→Nat)
  (k1:∀k n,1≤bulk (.lit (.int k n))) (k2:∀s,s.length+1≤bulk (.lit (.string s))) (k3:∀b,1≤bulk (.lit (.bool b))) (k4:∀l,bulks l+1≤bulk (.agg l)) (k5:∀l m,bulks l+1≤bulk (.slice l m)) (k6:1≤bulk .nil) (k7:∀d l,bulk d+bulks l≤bulks (d::l)) :
  ∀(fuel:Nat) (t:TypeId) (cs:List Value) (x:DataW H×List MemPlace),t∈S→DataW.trod enc P w 0 (fun _=>true) true fuel t cs=some x→∃ds b,PlainD P t ds b∧CR ok w ds cs∧b≤bulk x.1
 | 0,t,cs,x,ht,h=>by simp [DataW.trod] at h
 | fuel+1,t,cs,x,ht,h=>by
  have hp:=List.all_eq_true.1 hS t ht
  unfold plainB at hp
  split at hp
  ·rename_i k hu
   obtain ⟨n,rfl,rfl,hw⟩:=DataW.trod_int hu h
   exact ⟨_,1,.int hu hw,.one1 (.int _ _) rfl,k1 _ _⟩
  ·rename_i hu
   obtain ⟨s,rfl,rfl,hw⟩:=DataW.trod_string hu h
   exact ⟨[.str s.data.toList],_,.str hu,.one1 (.str _) rfl,k2 _⟩
  ·rename_i hu
   obtain ⟨b,rfl,rfl⟩:=DataW.trod_bool hu h
   exact ⟨_,1,.bool hu,.one1 (.bool _) rfl,k3 _⟩
  ·rename_i fs hu
   rw [Bool.and_eq_true,decide_eq_true_eq,List.all_eq_true] at hp
   obtain ⟨hp1,hp2⟩:=hp
   obtain ⟨xs,n,hn,rfl,hlen,hxl,hf⟩:=DataW.trod_struct hu h
   obtain rfl:fuel=n:=by omega
   have key:∀(l:List Field) (k a:Nat),fs.toList.drop k=l→offsB P l a=some (P.cellsOf t)→∃ds b,PlainFs P (l.map (·.type)) ds b∧CR ok w ds (cs.drop a)∧b≤bulks ((xs.drop k).map (·.1)):=by
    intro l
    induction l with
    | nil =>
     intro k a hk ha
     cases ha
     exact ⟨[],0,.nil,by rw [List.drop_eq_nil_of_le (by omega)];exact .nil,Nat.zero_le _⟩
    | cons f l ih =>
     intro k a hk ha
     rw [offsB] at ha
     split at ha
     ·rename_i hoff
      have hkl:k<fs.size:=by
       have:=congrArg List.length hk
       simp at this;omega
      have hfk:fs[k]?=some f:=by
       have:(fs.toList.drop k)[0]?=some f:=by rw [hk];rfl
       simpa using this
      have hd:fs.toList.drop (k+1)=l:=by rw [← List.drop_drop,hk];rfl
      obtain ⟨ds,b,g1,g2,g3⟩:=ih (k+1) _ hd ha
      have hx:=hf k f hfk
      rw [List.getElem?_eq_getElem (by omega)] at hx
      have hfS:f.type∈S:=by
       have:=hp1 f (by have:=List.mem_of_getElem? (l:=fs.toList) (i:=k) (a:=f) (by simpa using hfk);exact this)
       simpa using this
      obtain ⟨dr,br,q1,q2,q3⟩:=trod_plain hS hok bulk bulks k1 k2 k3 k4 k5 k6 k7 fuel _ _ _ hfS hx
      rw [hoff] at q2
      refine ⟨dr++ds,br+b,.cons q1 g1,?_,?_⟩
      ·have e:cs.drop a=(cs.drop a).take (P.cellsOf f.type)++cs.drop (a+P.cellsOf f.type):=by rw [← List.drop_drop,List.take_append_drop]
       rw [e]
       exact q2.app g2
      ·have e:xs.drop k=xs[k]::xs.drop (k+1):=List.drop_eq_getElem_cons (by omega)
       rw [e,List.map_cons]
       exact Nat.le_trans (Nat.add_le_add q3 g3) (k7 _ _)
     ·cases ha
   obtain ⟨ds,b,g1,g2,g3⟩:=key fs.toList 0 0 rfl hp2
   rw [List.drop_zero] at g2 g3
   exact ⟨ds,b+1,.st hu g1,g2,Nat.le_trans (Nat.add_le_add_right g3 1) (k4 _)⟩
  ·rename_i e hu
   rw [Bool.and_eq_true,decide_eq_true_eq] at hp
   obtain ⟨hp,hpos⟩:=hp
   have heS:e∈S:=by simpa using hp
   rcases DataW.trod_slice hu h with ⟨rfl,rfl⟩ | ⟨a,len,cap,elems,rest,n,hn,rfl,rfl,hb,hl,hm,hlen,hel,hsp,hns⟩
   ·exact ⟨[.sl []],1,.sl hu .nil,.one1 .slnil rfl,k6⟩
   obtain rfl:fuel=n:=by omega
   obtain ⟨hs1,hs2⟩:=hsp rfl
   by_cases hc0:cap=0
   ·subst hc0
    obtain rfl:len=0:=by omega
    exact ⟨[.sl []],1,.sl hu .nil,.one1 (.slz a) rfl,Nat.le_trans (by omega) (k5 _ _)⟩
   have hspot:a.spot=none:=by
    have h0:∃cs',w.cells? 0 (a.add (0 * P.cellsOf e)) (P.cellsOf e)=some cs':=by
     by_cases hl0:0<len
     ·have:=hel 0 hl0
      rw [List.getElem?_eq_getElem (by omega)] at this
      obtain ⟨cs',h1,_⟩:=Option.bind_eq_some_iff.1 this
      exact ⟨cs',h1⟩
     ·have:=hs2 0 (by omega)
      rw [List.getElem?_eq_getElem (by omega)] at this
      obtain ⟨cs',h1,_⟩:=Option.bind_eq_some_iff.1 this
      exact ⟨cs',by rw [show len+0=0 by omega] at h1;exact h1⟩
    obtain ⟨cs',h1⟩:=h0
    obtain ⟨_,h2,h3⟩:=World.cells?_some h1
    have h4:=h3 0 hpos
    rw [List.getElem?_eq_getElem (by omega)] at h4
    have ea:(a.add (0 * P.cellsOf e)).add 0=a:=by simp [Addr.add]
    rw [ea] at h4
    cases hsp:a.spot with
    | none=>rfl
    | some q =>
     unfold World.cell? at h4
     split at h4
     ·rw [hsp] at h4;simp at h4
     ·cases h4
   obtain ⟨blk,off,sp⟩:=a
   obtain rfl:sp=none:=hspot
   have key:∀(m k:Nat),k+m=len→∃rows b,PlainRs P e rows b∧rows.length=m∧b≤bulks ((elems.drop k).map (·.1))∧∀(i:Nat) (r:List D),rows[i]?=some r→∃cs,cs.length=P.cellsOf e∧CR ok w r cs∧∀j,j<P.cellsOf e→w.cell? ⟨blk,off+(k+i) * P.cellsOf e+j,none⟩=cs[j]?:=by
    intro m
    induction m with
    | zero=>intro k hk;exact ⟨[],0,.nil,rfl,Nat.zero_le _,fun i r h=>by simp at h⟩
    | succ m ih =>
     intro k hk
     obtain ⟨rows,b,g1,g2,g3,g4⟩:=ih (k+1) (by omega)
     have hx:=hel k (by omega)
     rw [List.getElem?_eq_getElem (by omega)] at hx
     obtain ⟨cs',h1,h2⟩:=Option.bind_eq_some_iff.1 hx
     obtain ⟨_,h3,h4⟩:=World.cells?_some h1
     obtain ⟨dr,br,q1,q2,q3⟩:=trod_plain hS hok bulk bulks k1 k2 k3 k4 k5 k6 k7 fuel _ _ _ heS h2
     refine ⟨dr::rows,br+b,.cons q1 g1,by rw [List.length_cons,g2],?_,fun i r hr=>?_⟩
     ·rw [List.drop_eq_getElem_cons (show k<elems.length by omega),List.map_cons]
      exact Nat.le_trans (Nat.add_le_add q3 g3) (k7 _ _)
     ·cases i with
      | zero =>
       cases hr
       refine ⟨cs',h3,q2,fun j hj=>?_⟩
       have:=h4 j hj
       rw [add_addr,add_addr] at this
       rw [Nat.add_zero];exact this
      | succ i =>
       rw [List.getElem?_cons_succ] at hr
       obtain ⟨cs,e1,e2,e3⟩:=g4 i r hr
       exact ⟨cs,e1,e2,fun j hj=>by rw [show k+(i+1)=k+1+i by omega];exact e3 j hj⟩
   obtain ⟨rows,b,g1,g2,g3,g4⟩:=key len 0 (by omega)
   rw [List.drop_zero] at g3
   refine ⟨[.sl rows],b+1,.sl hu g1,.one1 ?_ rfl,Nat.le_trans (Nat.add_le_add_right g3 1) (k5 _ _)⟩
   subst g2
   refine .sl rows blk off cap (P.cellsOf e) (fun i j=>(w.cell? ⟨blk,off+i * P.cellsOf e+j,none⟩).getD default) hl (fun r hr=>?_) (fun i j hi hj=>?_) (fun i j _ _=>hok _ _) (fun i j x hx=>?_)
   ·obtain ⟨i,hi,rfl⟩:=List.getElem_of_mem hr
    obtain ⟨cs,e1,e2,_⟩:=g4 i _ (List.getElem?_eq_getElem hi)
    rw [e2.len,e1]
   ·obtain ⟨cs,e1,e2,e3⟩:=g4 i _ (List.getElem?_eq_getElem hi)
    have:=e3 j hj
    rw [Nat.zero_add,List.getElem?_eq_getElem (by omega)] at this
    simp only [this,Option.getD_some]
   ·obtain ⟨r,hr,hx⟩:=Option.bind_eq_some_iff.1 hx
    obtain ⟨cs,e1,e2,e3⟩:=g4 i r hr
    have hjr:=(List.getElem?_eq_some_iff.1 hx).1
    have hj:j<P.cellsOf e:=by rw [← e1,← e2.len];exact hjr
    have:=e3 j hj
    rw [Nat.zero_add,List.getElem?_eq_getElem (by omega)] at this
    simp only [this,Option.getD_some]
    exact e2.rel j x _ hx (List.getElem?_eq_getElem (by omega))
  ·cases hp
end
end Go.PM
end

section
namespace Go.PM.Lex
def rngN (n:Int):Bool:=decide (-9223372036854775808≤n) && decide (n<9223372036854775808)
mutual
def rngE:Ex→Bool
 | .mk _ _ n l _=>rngN n && rngEs l
def rngEs:List Ex→Bool
 | []=>true
 | x::l=>rngE x && rngEs l
end
theorem rngEs_eq (l:List Ex):rngEs l=l.all rngE:=by induction l with | nil=>rfl | cons x l ih=>simp [rngEs,ih]
mutual
def rngL:Li→Bool
 | .mk _ _ args body _=>rngEs args && rngLs body
def rngLs:List Li→Bool
 | []=>true
 | x::l=>rngL x && rngLs l
end
theorem rngLs_eq (l:List Li):rngLs l=l.all rngL:=by induction l with | nil=>rfl | cons x l ih=>simp [rngLs,ih]
def rngRu (r:Ru):Bool:=r.args.all rngE && r.body.all rngL
mutual
def rngU:Un→Bool
 | .mk _ _ rules comps _ _=>rules.all rngRu && rngCos comps
def rngCo:Co→Bool
 | .mk _ _ _ _ u _=>rngU u
def rngCos:List Co→Bool
 | []=>true
 | c::l=>rngCo c && rngCos l
end
theorem rngCos_eq (l:List Co):rngCos l=l.all rngCo:=by induction l with | nil=>rfl | cons x l ih=>simp [rngCos,ih]
end Go.PM.Lex
end
