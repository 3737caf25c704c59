/- A part of the proof: plain logic, contracts and laws over the given program. -/
import Derived.Lib.ValidU
import Derived.Test.YtflgockgjnddnaaGreatDoorValid
import Derived.Shelf.Unicode.ValidAny
import Derived.Lib.MapLaws
import Derived.Test.YtflgockgjnddnaaGreatDoorMore
import Derived.Lib.AppendIntMem
import Derived.WalkKit
import Derived.Test.YtflgockgjnddnaaGreatDoorB07
set_option linter.unusedVariables false
set_option linter.unusedSimpArgs false
set_option linter.all false
set_option maxRecDepth 100000
set_option maxHeartbeats 16000000
section
namespace Go.PM.Lex
def Zfo (c:Nat):Option UInt8:=if c=10 then some 110 else if c=9 then some 116 else if c=34 then some 34 else if c=92 then some 92 else none
def Vr:Nat→Bs→Bs→Option Bs
 | 0,_,_=>none
 | f+1,r,out=>if r=[] then some out else match Zfo (Lib.decodeL r).1 with
  | some b=>Vr f (r.drop (Lib.decodeL r).2) (out++[92,b])
  | none=>if (Lib.decodeL r).1<32 then none else Vr f (r.drop (Lib.decodeL r).2) (out++Lib.encodeRune (Lib.decodeL r).1)
def Uv (s:Bs):Option Bs:=if Lib.validD s=true then (Vr (s.length+1) s [34]).map (·++[34]) else none
theorem ZmZ {c:Nat} {b:UInt8} (h:Zfo c=some b):ZqH b.toNat=some (UInt8.ofNat c)∧c<128∧b.toNat<128:=by
 unfold Zfo at h
 split at h;· rename_i g;cases h;subst g;decide
 split at h;· rename_i g;cases h;subst g;decide
 split at h;· rename_i g;cases h;subst g;decide
 split at h;· rename_i g;cases h;subst g;decide
 cases h
theorem Zm0 {c:Nat} (h:Zfo c=none):c≠34∧c≠92:=by
 unfold Zfo at h
 split at h;· cases h
 split at h;· cases h
 split at h;· cases h
 split at h;· cases h
 exact ⟨by assumption,by assumption⟩
theorem Zkb (b:UInt8) (z:Bs) (h:b.toNat<128):Lib.decodeL (b::z)=(b.toNat,1):=by
 rw [Lib.decodeL_N];unfold Lib.decodeN;rw [Th (by simpa using h)];simp
theorem ZuL (f:Nat) (z acc:Bs) (p:Nat):ZO (f+1) (92::z) false acc p=ZO f z true acc (p+1):=by
 have h:Lib.decodeL (92::z)=(92,1):=Zkb 92 z (by decide)
 simp [ZO,h]
theorem ZuM (f:Nat) (b x:UInt8) (z acc:Bs) (p:Nat) (hb:b.toNat<128) (hx:ZqH b.toNat=some x):ZO (f+1) (b::z) true acc p=ZO f z false (acc++[x]) (p+1):=by
 have h:=Zkb b z hb
 simp [ZO,h,hx]
theorem ZgJ:∀(f:Nat) (r out q:Bs),Vr f r out=some q→Lib.validGoD f r=true∨Lib.validGoD (f - 1) r=true→r.length<f→∃m,q=out++m∧∀(g:Nat) (acc:Bs) (p:Nat),m.length+1<g→ZO g (m++[34]) false acc p=.ok (acc++r) (p+m.length+1)
 | 0,r,out,q,h,hv,hf=>by simp [Vr] at h
 | f+1,r,out,q,h,hv,hf=>by
  unfold Vr at h
  split at h
  ·rename_i hr
   cases h
   refine ⟨[],by simp,fun g acc p hg=>?_⟩
   obtain ⟨g,rfl⟩:∃k,g=k+1:=⟨g - 1,by omega⟩
   simp [ZO,Zkb 34 [] (by decide),hr]
  ·rename_i hr
   have hpos:=T8.2 hr
   have hd:=Lib.decodeL_le r hr
   have hrg:=Zcl r
   have hnv:¬((Lib.decodeL r).1=65533∧(Lib.decodeL r).2=1)∧(Lib.validGoD f (r.drop (Lib.decodeL r).2)=true∨Lib.validGoD (f - 1) (r.drop (Lib.decodeL r).2)=true):=by
    rcases hv with hv | hv
    ·unfold Lib.validGoD at hv
     rw [Tf hr] at hv
     split at hv
     ·cases hv
     ·rename_i g;exact ⟨g,.inl hv⟩
    ·simp only [Nat.add_sub_cancel] at hv
     obtain ⟨f2,rfl⟩:∃k,f=k+1:=⟨f - 1,by omega⟩
     unfold Lib.validGoD at hv
     rw [Tf hr] at hv
     split at hv
     ·cases hv
     ·rename_i g;exact ⟨g,.inr hv⟩
   have henc:=Lib.encode_decode r hr hnv.1
   have hsplit:r=r.take (Lib.decodeL r).2++r.drop (Lib.decodeL r).2:=(Sw _ _).symm
   split at h
   ·rename_i b hb
    obtain ⟨u1,u2,u3⟩:=ZmZ hb
    obtain ⟨m,e1,e2⟩:=ZgJ f _ _ _ h hnv.2 (by rw [Tv];omega)
    refine ⟨[92,b]++m,by rw [e1];simp,fun g acc p hg=>?_⟩
    obtain ⟨g,rfl⟩:∃k,g=k+2:=⟨g - 2,by omega⟩
    simp only [Ta,Tc,Td] at hg
    have hone:r.take (Lib.decodeL r).2=[UInt8.ofNat (Lib.decodeL r).1]:=by
     rw [← henc]
     unfold Lib.encodeRune
     rw [Lib.encodeRuneZ_one (by omega) (by omega)]
     simp
    have el:([92,b]++m++[34]:Bs)=92::b::(m++[34]):=by simp
    rw [el,show g+2=(g+1)+1 from rfl,ZuL,ZuM _ _ _ _ _ _ u3 u1]
    rw [e2 g _ _ (by omega)]
    rw [hone] at hsplit
    simp only [Tg,Ta,Tc,Td,TR.ok.injEq]
    refine ⟨?_,by omega⟩
    congr 1
    exact hsplit.symm
   ·rename_i hb
    split at h
    ·cases h
    ·rename_i h32
     obtain ⟨n34,n92⟩:=Zm0 hb
     obtain ⟨m,e1,e2⟩:=ZgJ f _ _ _ h hnv.2 (by rw [Tv];omega)
     refine ⟨Lib.encodeRune (Lib.decodeL r).1++m,by rw [e1];simp,fun g acc p hg=>?_⟩
     obtain ⟨g,rfl⟩:∃k,g=k+1:=⟨g - 1,by omega⟩
     rw [henc] at hg ⊢
     have htl:(r.take (Lib.decodeL r).2).length=(Lib.decodeL r).2:=by rw [List.length_take];omega
     have hdt:Lib.decodeL (r.take (Lib.decodeL r).2)=Lib.decodeL r:=ZrB (by omega) (Tt _)
     have htn:r.take (Lib.decodeL r).2≠[]:=fun g=>by rw [g] at htl;simp at htl;omega
     have hda:Lib.decodeL (r.take (Lib.decodeL r).2++(m++[34]))=Lib.decodeL r:=by
      rw [ZgI htn (by rw [hdt];intro g;exact hnv.1 ⟨by rw [g],by rw [g]⟩),hdt]
     rw [Tg]
     simp only [Ta] at hg
     unfold ZO
     rw [Tf (by simp [htn]),Tf (by simp),hda,Tf n34,Tf n92]
     have hpk:¬(pk (r.take (Lib.decodeL r).2++(m++[34]))).1<32:=by
      unfold pk
      rw [hda,Tf]
      ·simp only;omega
      ·simp only [not_or]
       exact ⟨by simp [htn],fun g=>hnv.1 ⟨by rw [g],by rw [g]⟩⟩
     rw [Tf hpk,henc]
     have hdrop:(r.take (Lib.decodeL r).2++(m++[34])).drop (Lib.decodeL r).2=m++[34]:=by
      conv=>lhs;arg 1;rw [← htl]
      rw [List.drop_left]
     rw [hdrop,e2 g _ _ (by omega)]
     simp only [Tg,Ta,TR.ok.injEq]
     refine ⟨?_,by omega⟩
     congr 1
     exact hsplit.symm
end Go.PM.Lex
end

section
namespace Go.PM.Lex
open Go.Proofs
variable {w0:World} {nG:Nat}
end Go.PM.Lex
end

section
namespace Go.PM.Lex
open Go.Proofs
variable {w0:World} {nG:Nat}
end Go.PM.Lex
end

section
namespace Go.PM.Lex
open Go.Proofs
variable {w0:World} {nG:Nat}
noncomputable def ZeE:ZA:=fun args σ K=>match args with
 | [.d (.str s)]=>s.length≤9223372036854775807∧K (.ret (.d (.bool (Lib.validD s)))) σ
 | _=>False
theorem Ziv:Zc ZeE:=fun args σ K K' hK h=>by
 unfold ZeE at h ⊢;split at h <;> first | exact ⟨h.1,hK _ _ h.2⟩ | exact h.elim
theorem ZrC (h1:1<nG) (hT:Lib.Utf8Tabs 0 1 w0):PCalls (GG w0 nG) 149 ZeE:=Xa (Zh Tryz.func149 (by kernel_rfl) rfl) fun args σ K h e w vs hS ha=>by
 unfold ZeE at h
 split at h
 ·rename_i s
  obtain ⟨u,rfl,hu⟩:=ZhM ha
  cases hu.dstr
  have hT':Lib.Utf8Tabs 0 1 w:=by
   have g0:=hS.glob 0 (show 0<nG by omega)
   have g1:=hS.glob 1 h1
   obtain ⟨a,b⟩:=hT
   refine ⟨fun c hc=>?_,fun i hi=>?_⟩
   ·have:=a c hc
    simpa [World.cell?,g0] using this
   ·have:=b i hi
    simpa [World.cell?,g1] using this
  exact ⟨_,h.2,_,fun _ _=>.mkbool,(Any.utf8_ValidString Tryz.laysValid ⟨s.toArray⟩ w (show s.toArray.size≤_ by simpa using h.1) hT').mono fun en w' ⟨h1,h2⟩=>⟨h1,ZC3 h2⟩⟩
 ·exact h.elim
end Go.PM.Lex
end

section
namespace Go.PM.Lex
open Go.Proofs
variable {w0:World} {nG:Nat}
theorem ZrD {n:Nat} (h:Zfo n=none):Zd8 [10,9,34,92] n=-1:=by
 unfold Zfo at h
 split at h;· cases h
 split at h;· cases h
 split at h;· cases h
 split at h;· cases h
 rename_i h1 h2 h3 h4
 unfold Zd8
 split
 ·rename_i h5
  have hc:([10,9,34,92]:Bs).contains ((n:Int).toNat.toUInt8)=false:=by
   have b1:=JF (n:=n) (k:=10) (by omega) (by omega) h1
   have b2:=JF (n:=n) (k:=9) (by omega) (by omega) h2
   exact m93
  rw [Lib.contains_iff_indexByte,decide_eq_false_iff_not] at hc
  have:=Lib.indexByte_ge [10,9,34,92] ((n:Int).toNat.toUInt8)
  omega
 ·rfl
theorem ZrE {n:Nat} {b:UInt8} (h:Zfo n=some b):(Zd8 [10,9,34,92] n=0∧b=110)∨(Zd8 [10,9,34,92] n=1∧b=116)∨(Zd8 [10,9,34,92] n=2∧b=34)∨(Zd8 [10,9,34,92] n=3∧b=92):=by
 unfold Zfo at h
 exact m67
noncomputable def Za6:ZA:=fun args σ K=>match args,σ with
 | [.d (.str s)],⟨[],[],0⟩=>s.length<4294967281∧(Uv s=none→K (.ret (.tuple [.d (.str []),.d (.bool false)])) ⟨[],[],0⟩)∧(∀q,Uv s=some q→K (.ret (.tuple [.d (.str q),.d (.bool true)])) ⟨[],[],0⟩)
 | _,_=>False
theorem VS:Zc Za6:=fun args σ K K' hK h=>by
 unfold Za6 at h ⊢
 split at h
 ·exact ⟨h.1,fun g=>hK _ _ (h.2.1 g),fun q g=>hK _ _ (h.2.2 q g)⟩
 ·exact h.elim
def ZCB (B:Nat):List PV→St→Nat:=fun _ σ=>match σ.bx with | [_,.iter _ p]=>B - p | _=>0
noncomputable def ZrF:Tbl:=[(149,ZeE),(150,Wt),(151,XU),(152,Wu),(31,J6)]
theorem ZrG (ht:TblOK (GG w0 nG) ZrF):PCalls (GG w0 nG) 73 Za6:=by
 refine pc ht Tryz.func73 ?_
 intro args σ K h
 unfold Za6 at h
 split at h
 ·rename_i s
  obtain ⟨hs,hbad,hgood⟩:=h
  refine ⟨Za [(6,⟨[],[4,13],fun vs σ=>vs=[]∧∃(out:Bs) (i f:Nat),σ=⟨[.cells 82 [.ptr 0 0,.sl 0 5 (Zl out)],.iter s i],[0],1⟩∧(i≤s.length∧s.length<i+f∧out.length≤4 * i+1)∧Vr f (s.drop i) out=Vr (s.length+1) s [34],ZCB s.length⟩)],0,false,by simp,Tb rfl,?_⟩
  conv=>whnf
  refine ⟨by omega,?_⟩
  conv=>whnf
  refine ZC1 (fun h1=>?_) (fun h1=>?_)
  ·have hv:Lib.validD s=false:=by simpa using h1
   conv=>whnf
   exact hbad (by unfold Uv;rw [Tf (by rw [hv];simp)])
  ·have hv:Lib.validD s=true:=by simpa using h1
   have hq:Uv s=(Vr (s.length+1) s [34]).map (·++[34]):=by unfold Uv;rw [Th hv]
   conv=>whnf
   refine ⟨⟨.inl rfl,rfl,rfl,by simp,by simp⟩,?_⟩
   conv=>whnf
   refine ⟨⟨rfl,[34],0,s.length+1,rfl,⟨by omega,by omega,by simp⟩,by rw [Ss]⟩,?_⟩
   intro vs σ1 hI
   obtain ⟨rfl,out,i,f,rfl,⟨hi1,hi2,hol⟩,hgo⟩:=hI
   obtain ⟨f,rfl⟩:∃g,f=g+1:=⟨f - 1,by omega⟩
   have hb1:=ZfI out
   have hbl:=ZfJ out
   have hdec:=ZfD s i
   have hdr:=Zcl (s.drop i)
   have hdl:=Lib.decodeL_le (s.drop i)
   rw [Tv] at hdl
   conv=>whnf
   refine ZCX (fun h2=>?_) (fun h2=>?_)
   ·have hne:s.drop i≠[]:=fun g=>by have:=congrArg List.length g;rw [Tv] at this;simp at this;omega
    have g3:i+(decodeL s i).2≤s.length:=by rw [hdec];have:=hdl hne;omega
    have hdr':1≤(decodeL s i).2:=by rw [hdec];omega
    conv=>whnf
    refine ⟨⟨.inr rfl,by omega,by rw [hdec];omega⟩,?_⟩
    conv=>whnf
    generalize hk:Zd8 _ _=k
    have hk':Zd8 [10,9,34,92] ((Lib.decodeL (s.drop i)).1:Int)=k:=by rw [← hdec];exact hk
    cases hE:Zfo (Lib.decodeL (s.drop i)).1 with
    | some b =>
     have g1:Vr f (s.drop (i+(decodeL s i).2)) (out++[92,b])=Vr (s.length+1) s [34]:=by rw [← hgo,hdec];simp [Vr,hne,hE,TO]
     rcases ZrE hE with ⟨e1,rfl⟩ | ⟨e1,rfl⟩ | ⟨e1,rfl⟩ | ⟨e1,rfl⟩
     all_goals (rw [e1] at hk';subst hk')
     all_goals (conv=>whnf)
     all_goals (refine ⟨⟨.inr rfl,rfl,rfl,hb1,by omega⟩,?_⟩)
     all_goals (conv=>whnf)
     all_goals (refine ⟨by omega,by first | omega | (simp;done) | (simp;omega),?_⟩)
     all_goals (conv=>whnf)
     all_goals (refine ⟨⟨.inr rfl,rfl,rfl,fun r hr=>by (rcases TX.1 hr with hr | hr;exact hb1 r hr;simp at hr;subst hr;rfl),by rw [Ta];simp;omega⟩,?_⟩)
     all_goals (conv=>whnf)
     all_goals (refine ⟨⟨rfl,_,_,f,?_,⟨g3,by omega,?_⟩,g1⟩,?_⟩)
     all_goals (first | (rw [Up,Tg];rfl) | (rw [Ta];simp;omega) | exact (show s.length - (i+(decodeL s i).2)<s.length - i by omega))
    | none =>
     rw [ZrD hE] at hk'
     subst hk'
     conv=>whnf
     refine ZCX (fun h5=>?_) (fun h5=>?_)
     ·have h5':(Lib.decodeL (s.drop i)).1<32:=by rw [hdec] at h5;omega
      conv=>whnf
      refine hbad ?_
      rw [hq,← hgo]
      simp [Vr,hne,hE,h5']
     ·have h5':¬(Lib.decodeL (s.drop i)).1<32:=by rw [hdec] at h5;omega
      have g1:Vr f (s.drop (i+(decodeL s i).2)) (out++Lib.encodeRune ((decodeL s i).1:Int))=Vr (s.length+1) s [34]:=by rw [← hgo,hdec];simp [Vr,hne,hE,h5',TO]
      have hen:=ZjH ((decodeL s i).1:Int)
      conv=>whnf
      refine ⟨⟨.inr rfl,rfl,rfl,hb1,by omega,by omega,by rw [hdec];omega⟩,?_⟩
      conv=>whnf
      refine ⟨⟨rfl,_,_,f,?_,⟨g3,by omega,?_⟩,g1⟩,?_⟩
      ·rw [Up];rfl
      ·rw [Ta];omega
      ·exact (show s.length - (i+(decodeL s i).2)<s.length - i by omega)
   ·have hnil:s.drop i=[]:=TP (by omega)
    have g1:Vr (s.length+1) s [34]=some out:=by rw [← hgo];simp [Vr,hnil]
    conv=>whnf
    refine ⟨⟨.inr rfl,rfl,rfl,hb1,by omega⟩,?_⟩
    conv=>whnf
    refine ⟨out++[34],⟨by rw [ZaV];rfl,rfl,rfl,.inr rfl,by rw [Ta];simp;omega⟩,?_⟩
    conv=>whnf
    exact hgood _ (by rw [hq,g1];rfl)
 ·exact h.elim
end Go.PM.Lex
end

section
namespace Go.PM.Lex
open Go.Proofs
variable {w0:World} {nG:Nat}
end Go.PM.Lex
end

section
namespace Go.PM.Lex
open Go.Proofs
variable {w0:World} {nG:Nat}
def Vs (s:Bs):Bool:=Zi (pk s).1 && decide (Vz s=s.length)
noncomputable def Zcw:ZA:=fun args σ K=>match args,σ with
 | [.d (.str s)],⟨[],[],0⟩=>s.length<4294967281∧K (.ret (.d (.bool (Vs s)))) ⟨[],[],0⟩
 | _,_=>False
theorem Ziw:Zc Zcw:=fun args σ K K' hK h=>by
 unfold Zcw at h ⊢;split at h <;> first | exact ⟨h.1,hK _ _ h.2⟩ | exact h.elim
noncomputable def ZBm:Tbl:=[(209,Zat),(210,VL),(211,Zd6)]
theorem ZBn (ht:TblOK (GG w0 nG) ZBm):PCalls (GG w0 nG) 147 Zcw:=by
 refine pc ht Tryz.func147 ?_
 intro args σ K h
 unfold Zcw at h
 split at h
 ·rename_i s
  obtain ⟨hs,h⟩:=h
  refine ⟨Za [],0,false,by decide,Tb rfl,?_⟩
  have hpr:=VN (s.drop (Int.toNat 0))
  have hd:s.drop (Int.toNat 0)=s:=Ss
  conv=>whnf
  refine ⟨⟨by omega,by omega⟩,?_⟩
  conv=>whnf
  refine ⟨⟨hpr.1,by omega⟩,?_⟩
  conv=>whnf
  refine ZC1 (fun h1=>?_) (fun h1=>?_)
  ·have h1':Zi (pk s).1=true:=by rw [← hd];exact h1
   conv=>whnf
   refine ⟨⟨by omega,by omega,hs⟩,?_⟩
   conv=>whnf
   refine ZkY h ?_
   rw [Vs,h1',Tu,decide_eq_decide,hd]
   omega
  ·have h1':Zi (pk s).1=false:=by rw [← hd];exact h1
   conv=>whnf
   rw [Vs,h1'] at h
   exact h
 ·exact h.elim
end Go.PM.Lex
end

section
namespace Go.PM.Lex
def YF (s:Bs):Bool:=Vs s && (!decide (s=[95]) && !Zed s)
def Zm (op:Nat):Nat:=if op=16 then 0 else if op=17 then 0 else if op=15 then 1 else if op=18 then 2 else if op=19 then 2 else if op=10 then 3 else if op=11 then 3 else if op=12 then 4 else if op=13 then 4 else if op=14 then 4
 else if op=8 then 5 else if op=9 then 5 else if op=20 then 6 else if op=21 then 6 else if op=22 then 6 else if op=23 then 6 else if op=24 then 6 else if op=25 then 6 else if op=6∨op=7 then 6 else if op=1∨op=2∨op=3∨op=4∨op=5 then 6 else 0
def ZM (op:Nat):Bs:=if op=16 then [98,111,114] else if op=17 then [98,120,111,114] else if op=15 then [98,97,110,100] else if op=18 then [115,104,108] else if op=19 then [115,104,114] else if op=10 then [43] else if op=11 then [45] else if op=12 then [42] else if op=13 then [47] else if op=14 then [37]
 else if op=8 then [45] else if op=9 then [126] else if op=20 then [99,97,116] else if op=21 then [115,116,114,108,101,110] else if op=22 then [115,117,98,115,116,114] else if op=23 then [99,111,100,101] else if op=24 then [115,116,114] else if op=25 then [110,117,109] else []
def Yq (op:Nat):Int:=if op=16 then 2 else if op=17 then 2 else if op=15 then 2 else if op=18 then 2 else if op=19 then 2 else if op=10 then 2 else if op=11 then 2 else if op=12 then 2 else if op=13 then 2 else if op=14 then 2
 else if op=8 then 1 else if op=9 then 1 else if op=20 then 2 else if op=21 then 1 else if op=22 then 3 else if op=23 then 1 else if op=24 then 1 else if op=25 then 1 else if op=6∨op=7 then -1 else if op=1∨op=2∨op=3∨op=4∨op=5 then 0 else -2
def W6 (op:Nat) (text:Bs):Bool:=if op=1∨op=7 then YF text else if op=4 then (Uv text).isSome else decide (text=[])
mutual
def Z7:Ex→Bool
 | .mk op text n args _=>decide (-2<Yq op) && ((decide (Yq op<0) || decide ((args.length:Int)=Yq op)) && ((decide (n=0) || decide (op=3)) && (W6 op text && ZgK args)))
def ZgK:List Ex→Bool
 | []=>true
 | e::l=>Z7 e && ZgK l
end
theorem Zz (l:List Ex):ZgK l=l.all Z7:=by induction l with | nil=>rfl | cons x l ih=>simp [ZgK,ih]
def XM (op:Nat) (rel:Bs) (args body:Nat):Bool :=
 if op=1∨op=2 then YF rel && !decide (0<body)
 else if 3≤op∧op≤8 then decide (rel=[]) && (decide (args=2) && !decide (0<body))
 else if op=9 then decide (rel=[]) && (decide (args=1) && decide (0<body))
 else if 9<op∧op≤12 then decide (rel=[]) && (decide (args=2) && decide (0<body)) else false
mutual
def Xj:Li→Bool
 | .mk op rel args body _=>XM op rel args.length body.length && (ZgK args && Zix body)
def Zix:List Li→Bool
 | []=>true
 | e::l=>Xj e && Zix l
end
theorem VT (l:List Li):Zix l=l.all Xj:=by induction l with | nil=>rfl | cons x l ih=>simp [Zix,ih]
def XF (r:Ru):Bool:=YF r.head && (r.args.all Z7 && r.body.all Xj)
def YY (f:Fi):Bool:=YF f.name && YF f.typ
def XN (c:Ca):Bool:=YF c.name && c.fields.all YY
def Zc9 (t:Ty):Bool:=if t.kind=1 then YF t.base && (decide (t.fields.length=0) && decide (t.cases.length=0)) else if t.kind=2 then decide (t.base=[]) && decide (t.cases.length=0)
 else if t.kind=3 then decide (t.base=[]) && (decide (t.fields.length=0) && !decide (t.cases.length=0)) else false
def YH (t:Ty):Bool:=Zc9 t && (YF t.name && (t.fields.all YY && t.cases.all XN))
def X3 (d:Re):Bool:=YF d.name && d.fields.all YY
def Wd (i:Ini):Bool:=YF i.name && (YF i.comp && i.types.all YF)
def WY (o:Ov):Bool:=YF o.rel
mutual
def Zbh:Un→Bool
 | .mk tys rels rules comps inits overs=>tys.all YH && (rels.all X3 && (rules.all XF && (Zda comps && (inits.all Wd && overs.all WY))))
def Yr:Co→Bool
 | .mk nm ps base tys u _=>YF nm && (ps.all YF && (tys.all YF && (((decide (base=[]) && decide (tys.length=0)) || YF base) && Zbh u)))
def Zda:List Co→Bool
 | []=>true
 | c::l=>Yr c && Zda l
end
theorem Vt (l:List Co):Zda l=l.all Yr:=by induction l with | nil=>rfl | cons x l ih=>simp [Zda,ih]
def Zi7 (d:Nat):UInt8:=if d<10 then UInt8.ofNat (48+d) else UInt8.ofNat (87+d)
def Za7 (base:Nat):Nat→Nat→Bs
 | 0,_=>[]
 | f+1,n=>if n<base then [Zi7 n] else Za7 base f (n / base)++[Zi7 (n % base)]
def YG (base n:Nat):Bs:=Za7 base (n+1) n
def Zdz (n:Int):Bs:=if n<0 then [48,120]++YG 16 (n+18446744073709551616).toNat else YG 10 n.toNat
def Zpf (s:Bs):Bs:=(Uv s).getD []
def Zg (sep:Bs):List Bs→Bs
 | []=>[]
 | [x]=>x
 | x::l=>x++(sep++Zg sep l)
def cmm:Bs:=[44,32]
def opE:Ex→Nat | .mk op _ _ _ _=>op
def Zpg (want:Nat) (p:Nat×Bs):Bs:=if p.1<want then [40]++(p.2++[41]) else p.2
def exA (w1 w2:Nat) (sep:Bs):List (Nat×Bs)→Bs
 | []=>[]
 | [a]=>Zpg w1 a
 | a::b::_=>Zpg w1 a++(sep++Zpg w2 b)
def exN (op:Nat) (text:Bs) (n:Int) (ps:List (Nat×Bs)):Bs :=
 if Zm op<5 then exA (Zm op) (Zm op+1) ([32]++(ZM op++[32])) ps
 else if Zm op=5 then ZM op++exA 5 5 [] ps
 else if ZM op≠[] then ZM op++([40]++(Zg cmm (ps.map Prod.snd)++[41]))
 else if op=6 then [91]++(Zg cmm (ps.map Prod.snd)++[93])
 else if op=7 then [36]++(text++(if ps.length=0 then [] else [40]++(Zg cmm (ps.map Prod.snd)++[41])))
 else if op=3 then Zdz n
 else if op=4 then Zpf text
 else if op=5 then [110,105,108]
 else if op=2 then [95]
 else text
mutual
def exT:Ex→Bs
 | .mk op text n args _=>exN op text n (Zhm args)
def Zhm:List Ex→List (Nat×Bs)
 | []=>[]
 | e::l=>(Zm (opE e),exT e)::Zhm l
end
theorem Zph (l:List Ex):Zhm l=l.map fun e=>(Zm (opE e),exT e):=by induction l with | nil=>rfl | cons x l ih=>simp [Zhm,ih]
theorem ZdA (l:List Ex):(Zhm l).length=l.length:=by rw [Zph,Te]
def exW (want:Nat) (e:Ex):Bs:=Zpg want (Zm (opE e),exT e)
def ZsW (l:List Ex):List Bs:=l.map exT
theorem J9 (l:List Ex):(Zhm l).map Prod.snd=ZsW l:=by rw [Zph,TL];rfl
def Wl (fr fin:Bs) (l:List Ex):Bs:=fr++(Zg cmm (ZsW l)++fin)
def Zpi (op:Nat):Bs:=if op=3 then [32,61,32] else if op=4 then [32,33,61,32] else if op=5 then [32,60,32] else if op=6 then [32,60,61,32] else if op=7 then [32,62,32] else [32,62,61,32]
def JO (op:Nat):Bs:=if op=9 then [99,111,117,110,116] else if op=10 then [115,117,109] else if op=11 then [109,105,110] else [109,97,120]
def Zlv (l:List Ex):Bs:=(l.map fun e=>[32]++exT e).flatten
def Ziy:List Ex→Bs
 | []=>[]
 | e::_=>exT e
mutual
def liT:Li→Bs
 | .mk op rel args body _ =>
  if op=2 then [33]++(rel++Wl [40] [41] args)
  else if op=1 then rel++Wl [40] [41] args
  else if op≤8 then Ziy args++(Zpi op++Ziy args.tail)
  else Ziy args++([32,61,32]++(JO op++(Zlv args.tail++([32,58,32,123,32]++(Zg cmm (Zhn body)++[32,125])))))
def Zhn:List Li→List Bs
 | []=>[]
 | e::l=>liT e::Zhn l
end
theorem ZeF (l:List Li):Zhn l=l.map liT:=by induction l with | nil=>rfl | cons x l ih=>simp [Zhn,ih]
def ruT (r:Ru):Bs:=r.head++(Wl [40] [41] r.args++((if 0<r.body.length then [32,58,45,32]++Zg cmm (Zhn r.body) else [])++[46]))
def fiT (f:Fi):Bs:=f.name++([58,32]++f.typ)
def V3 (fr:Bs) (l:List Fi) (fin:Bs):Bs:=fr++(Zg cmm (l.map fiT)++fin)
def Jl (l:List Bs):Bs:=if l.length=0 then [] else [60]++(Zg cmm l++[62])
def caT (c:Ca):Bs:=V3 (c.name++[32,123]) c.fields [125]
def tyT (t:Ty):Bs:=[116,121,112,101,32]++(t.name++((if t.kind=1 then [32,60,58,32]++t.base else if t.kind=2 then V3 [32,61,32,91] t.fields [93] else [32,61,32]++Zg [32,124,32] (t.cases.map caT))++[10]))
def reT (d:Re):Bs:=V3 ([100,101,99,108,32]++(d.name++[40])) d.fields [41]++((if d.inn then [32,105,110,112,117,116] else [])++((if d.out then [32,111,117,116,112,117,116] else [])++((if d.inl then [32,105,110,108,105,110,101] else [])++[10])))
def inT (i:Ini):Bs:=[105,110,105,116,32]++(i.name++([32,61,32]++(i.comp++(Jl i.types++[10]))))
def ovT (o:Ov):Bs:=[111,118,101,114,114,105,100,101,32]++(o.rel++[10])
mutual
def unT:Un→Bs
 | .mk tys rels rules comps inits overs=>(tys.map tyT).flatten++((rels.map reT).flatten++((Zlw comps).flatten++((inits.map inT).flatten++((overs.map ovT).flatten++(rules.map fun r=>ruT r++[10]).flatten))))
def coT:Co→Bs
 | .mk nm ps base tys u _=>[99,111,109,112,32]++(nm++(Jl ps++((if base=[] then [] else [32,58,32]++(base++Jl tys))++([32,123,10]++(unT u++[125,10])))))
def Zlw:List Co→List Bs
 | []=>[]
 | c::l=>coT c::Zlw l
end
theorem ZuN (l:List Co):Zlw l=l.map coT:=by induction l with | nil=>rfl | cons x l ih=>simp [Zlw,ih]
end Go.PM.Lex
end

section
namespace Go.PM.Lex
open Go.Proofs
variable {w0:World} {nG:Nat}
mutual
def wE:Ex→Nat
 | .mk _ t _ args _=>1+t.length+wEs args
def wEs:List Ex→Nat
 | []=>0
 | x::l=>1+wE x+wEs l
end
theorem VU:∀(l:List Ex),wEs l=szS wE l
 | []=>by rw [wEs,szS]
 | x::l=>by rw [wEs,szS,VU l]
mutual
def wL:Li→Nat
 | .mk _ r a b _=>1+r.length+szS wE a+wLs b
def wLs:List Li→Nat
 | []=>0
 | x::l=>1+wL x+wLs l
end
theorem Vu:∀(l:List Li),wLs l=szS wL l
 | []=>by rw [wLs,szS]
 | x::l=>by rw [wLs,szS,Vu l]
def wRu (r:Ru):Nat:=1+r.head.length+szS wE r.args+szS wL r.body
def wFi (f:Fi):Nat:=1+f.name.length+f.typ.length
def wCa (c:Ca):Nat:=1+c.name.length+szS wFi c.fields
def wTy (t:Ty):Nat:=1+t.name.length+t.base.length+szS wFi t.fields+szS wCa t.cases
def wRe (d:Re):Nat:=1+d.name.length+szS wFi d.fields
def wBs (s:Bs):Nat:=1+s.length
def wIn (i:Ini):Nat:=1+i.name.length+i.comp.length+szS wBs i.types
def wOv (o:Ov):Nat:=1+o.rel.length
mutual
def wUn:Un→Nat
 | .mk a1 a2 a3 a4 a5 a6=>1+szS wTy a1+szS wRe a2+szS wRu a3+Zpj a4+szS wIn a5+szS wOv a6
def wCo:Co→Nat
 | .mk n p b t u _=>1+n.length+szS wBs p+b.length+szS wBs t+wUn u
def Zpj:List Co→Nat
 | []=>0
 | x::l=>1+wCo x+Zpj l
end
theorem We:∀(l:List Co),Zpj l=szS wCo l
 | []=>by rw [Zpj,szS]
 | x::l=>by rw [Zpj,szS,We l]
abbrev Xk {α:Type} (enc:Pl→α→List D):Pl→α→PV:=fun pl x=>.agg ((enc pl x).map .d)
abbrev Zi8:Pl→Bs→PV:=fun _ s=>.d (.str s)
noncomputable def Xy {α:Type} (val:Pl→α→PV) (p:α→Bool) (w:α→Nat) (n:Nat):ZA:=fun args σ K=>match args,σ with
 | [v],⟨[],[],0⟩=>∃pl x,v=val pl x∧(w x≤n∧n≤1073741824)∧∀b,p x=b→K (.ret (.d (.bool b))) ⟨[],[],0⟩
 | _,_=>False
theorem ZC {α:Type} (val:Pl→α→PV) (p:α→Bool) (w:α→Nat) (n:Nat):Zc (Xy val p w n):=fun args σ K K' hK h=>by
 unfold Xy at h ⊢
 exact m61
noncomputable def JP {α:Type} (h0:FuncId) (val:Pl→α→PV) (p:α→Bool) (w:α→Nat) (n:Nat):ZA:=fun args σ K=>match args,σ with
 | [v,.ptr 0 0],⟨[.cells t [.func h' [] []]],[],0⟩=>∃pl x,v=val pl x∧(h'=h0∧w x≤n∧n≤1073741824)∧∀b,(!p x)=b→K (.ret (.d (.bool b))) ⟨[.cells t [.func h' [] []]],[],0⟩
 | _,_=>False
theorem Xv {α:Type} (h0:FuncId) (val:Pl→α→PV) (p:α→Bool) (w:α→Nat) (n:Nat):Zc (JP h0 val p w n):=fun args σ K K' hK h=>by
 unfold JP at h ⊢
 exact m61
noncomputable def JQ {α:Type} (g0 h0:FuncId) (enc:Pl→α→List D) (p:α→Bool) (w:α→Nat) (n:Nat):ZA:=fun args σ K=>match args,σ with
 | [.d (.sl r),.func g' [] [.ptr 0 0]],⟨[.cells t [.func h' [] []]],[],0⟩=>∃pl l,r=l.map (enc pl)∧(g'=g0∧h'=h0∧szS w l≤n∧n≤1073741824)∧∀r:Int,(r<0↔l.all p=true)→K (.ret (.d (.int .i64 r))) ⟨[.cells t [.func h' [] []]],[],0⟩
 | _,_=>False
theorem Xw {α:Type} (g0 h0:FuncId) (enc:Pl→α→List D) (p:α→Bool) (w:α→Nat) (n:Nat):Zc (JQ g0 h0 enc p w n):=fun args σ K K' hK h=>by
 unfold JQ at h ⊢
 exact m61
noncomputable def JR {α:Type} (g0 h0:FuncId) (enc:Pl→α→List D) (p:α→Bool) (w:α→Nat) (n:Nat):ZA:=fun args σ K=>match args,σ with
 | [.d (.sl r),.func g' [] [.ptr 0 0]],⟨[.cells t [.func h' [] []]],[],0⟩=>∃pl l,r=l.map (enc pl)∧(g'=g0∧h'=h0∧szS w l≤n∧n≤1073741824)∧∀b,(!l.all p)=b→K (.ret (.d (.bool b))) ⟨[.cells t [.func h' [] []]],[],0⟩
 | _,_=>False
theorem Xx {α:Type} (g0 h0:FuncId) (enc:Pl→α→List D) (p:α→Bool) (w:α→Nat) (n:Nat):Zc (JR g0 h0 enc p w n):=fun args σ K K' hK h=>by
 unfold JR at h ⊢
 exact m61
noncomputable def Wm {α:Type} (h0:FuncId) (enc:Pl→α→List D) (p:α→Bool) (w:α→Nat) (n:Nat):ZA:=fun args σ K=>match args,σ with
 | [.d (.sl r),.func h' [] []],⟨[],[],0⟩=>∃pl l,r=l.map (enc pl)∧(h'=h0∧szS w l≤n∧n≤1073741824)∧∀b,l.all p=b→K (.ret (.d (.bool b))) ⟨[],[],0⟩
 | _,_=>False
theorem ZD {α:Type} (h0:FuncId) (enc:Pl→α→List D) (p:α→Bool) (w:α→Nat) (n:Nat):Zc (Wm h0 enc p w n):=fun args σ K K' hK h=>by
 unfold Wm at h ⊢
 exact m61
theorem Wf {α:Type} (p:α→Bool) {l:List α} {i:Nat} (h:i<l.length):(l.drop i).all p=(p l[i] && (l.drop (i+1)).all p):=by rw [T1 h,List.all_cons]
theorem Vv {α:Type} (p:α→Bool) {l:List α} {i:Nat} (h:l.length≤i):(l.drop i).all p=true:=by rw [TP h];rfl
noncomputable def Zyg (n:Nat):Tbl:=[(29,Xy (Xk Yh) Z7 wE n)]
theorem Zyh {n:Nat} (ht:TblOK (GG w0 nG) (Zyg n)):PCalls (GG w0 nG) 154 (JP 29 (Xk Yh) Z7 wE n):=by
 refine pc ht Tryz.func154 ?_
 exact m70
noncomputable def Zyi (n:Nat):Tbl:=[(154,JP 29 (Xk Yh) Z7 wE n)]
theorem Zyj {n:Nat} (ht:TblOK (GG w0 nG) (Zyi n)):PCalls (GG w0 nG) 220 (JQ 154 29 Yh Z7 wE n):=by
 refine pc ht Tryz.func220 ?_
 intro args σ K h
 unfold JQ at h
 split at h
 ·obtain ⟨pl,l,rfl,⟨rfl,rfl,hz,hn⟩,h⟩:=h
  rename_i t
  have hlen:(l.map (Yh pl)).length=l.length:=Te ..
  have hsz:=Zj wE l
  refine ⟨Za [(2,⟨[8],[0,1,7],fun vs σ=>∃i:Nat,vs=[.d (.int .i64 i)]∧σ=⟨[.cells t [.func 29 [] []]],[],0⟩∧i≤l.length∧l.all Z7=(l.drop i).all Z7,fun vs _=>match vs with | [.d (.int _ i)]=>((l.length:Int) - i).toNat | _=>0⟩)],1,false,by simp,Tb rfl,?_⟩
  conv=>whnf
  refine ⟨⟨0,rfl,rfl,by omega,rfl⟩,?_⟩
  intro vs σ hI
  obtain ⟨i,rfl,rfl,hi,hs⟩:=hI
  conv=>whnf
  refine ZCX (fun hi2=>?_) (fun hi2=>?_)
  ·have hi2:i<l.length:=by have hi2:(i:Int)<(l.map (Yh pl)).length:=hi2;rw [hlen] at hi2;omega
   have hg:=Zn wE l i hi2
   rw [Wf _ hi2] at hs
   obtain ⟨eA,hA⟩:∃e,l[i]=e:=⟨_,rfl⟩
   obtain ⟨a1,a2,a3,a4,a5⟩:=eA
   have hr1:(l.map (Yh pl))[((i:Nat):Int).toNat]?=some (Yh pl (.mk a1 a2 a3 a4 a5)):=by simp [hi2,hA]
   rw [hA] at hs hg
   conv=>whnf
   refine ⟨_,by omega,hr1,?_⟩
   conv=>whnf
   refine ⟨pl,(.mk a1 a2 a3 a4 a5),rfl,⟨rfl,by omega,by omega⟩,fun b hb=>?_⟩
   cases b with
   | true =>
    have hp:Z7 (.mk a1 a2 a3 a4 a5)=false:=by simpa using hb
    exact m48
   | false =>
    have hp:Z7 (.mk a1 a2 a3 a4 a5)=true:=by simpa using hb
    exact m16
  ·have hi2:l.length≤i:=by have hi2:¬(i:Int)<(l.map (Yh pl)).length:=hi2;rw [hlen] at hi2;omega
   exact m52
 ·exact h.elim
noncomputable def Zyk (n:Nat):Tbl:=[(220,JQ 154 29 Yh Z7 wE n)]
theorem Zyl {n:Nat} (ht:TblOK (GG w0 nG) (Zyk n)):PCalls (GG w0 nG) 153 (JR 154 29 Yh Z7 wE n):=by
 refine pc ht Tryz.func153 ?_
 intro args σ K h
 unfold JR at h
 split at h
 ·obtain ⟨pl,l,rfl,⟨rfl,rfl,hz,hn⟩,h⟩:=h
  refine ⟨Za [],1,false,by simp,Tb rfl,?_⟩
  conv=>whnf
  refine ⟨pl,l,rfl,⟨rfl,rfl,hz,hn⟩,fun r hr=>?_⟩
  conv=>whnf
  refine h _ ?_
  cases hb:l.all Z7 with
  | true=>rw [hb] at hr;have:=hr.2 rfl;simp;omega
  | false=>rw [hb] at hr;have:¬r<0:=fun g=>(by have:=hr.1 g;cases this);simp;omega
 ·exact h.elim
noncomputable def Zym (n:Nat):Tbl:=[(153,JR 154 29 Yh Z7 wE n)]
theorem Zyn {n:Nat} (ht:TblOK (GG w0 nG) (Zym n)):PCalls (GG w0 nG) 74 (Wm 29 Yh Z7 wE n):=by
 refine pc ht Tryz.func74 ?_
 exact m8
theorem ZAM {n:Nat} (h:PCalls (GG w0 nG) 29 (Xy (Xk Yh) Z7 wE n)):PCalls (GG w0 nG) 74 (Wm 29 Yh Z7 wE n) :=
 Zyn ⟨⟨Zyl ⟨⟨Zyj ⟨⟨Zyh ⟨⟨h,ZC _ _ _ _⟩,trivial⟩,Xv _ _ _ _ _⟩,trivial⟩,Xw _ _ _ _ _ _⟩,trivial⟩,Xx _ _ _ _ _ _⟩,trivial⟩
noncomputable def Zyo (n:Nat):Tbl:=[(109,Xy (Xk Yt) Xj wL n)]
theorem Zyp {n:Nat} (ht:TblOK (GG w0 nG) (Zyo n)):PCalls (GG w0 nG) 175 (JP 109 (Xk Yt) Xj wL n):=by
 refine pc ht Tryz.func175 ?_
 exact m70
noncomputable def Zyq (n:Nat):Tbl:=[(175,JP 109 (Xk Yt) Xj wL n)]
theorem Zyr {n:Nat} (ht:TblOK (GG w0 nG) (Zyq n)):PCalls (GG w0 nG) 245 (JQ 175 109 Yt Xj wL n):=by
 refine pc ht Tryz.func245 ?_
 intro args σ K h
 unfold JQ at h
 split at h
 ·obtain ⟨pl,l,rfl,⟨rfl,rfl,hz,hn⟩,h⟩:=h
  rename_i t
  have hlen:(l.map (Yt pl)).length=l.length:=Te ..
  have hsz:=Zj wL l
  refine ⟨Za [(2,⟨[8],[0,1,7],fun vs σ=>∃i:Nat,vs=[.d (.int .i64 i)]∧σ=⟨[.cells t [.func 109 [] []]],[],0⟩∧i≤l.length∧l.all Xj=(l.drop i).all Xj,fun vs _=>match vs with | [.d (.int _ i)]=>((l.length:Int) - i).toNat | _=>0⟩)],1,false,by simp,Tb rfl,?_⟩
  conv=>whnf
  refine ⟨⟨0,rfl,rfl,by omega,rfl⟩,?_⟩
  intro vs σ hI
  obtain ⟨i,rfl,rfl,hi,hs⟩:=hI
  conv=>whnf
  refine ZCX (fun hi2=>?_) (fun hi2=>?_)
  ·have hi2:i<l.length:=by have hi2:(i:Int)<(l.map (Yt pl)).length:=hi2;rw [hlen] at hi2;omega
   have hg:=Zn wL l i hi2
   rw [Wf _ hi2] at hs
   obtain ⟨eA,hA⟩:∃e,l[i]=e:=⟨_,rfl⟩
   obtain ⟨a1,a2,a3,a4,a5⟩:=eA
   have hr1:(l.map (Yt pl))[((i:Nat):Int).toNat]?=some (Yt pl (.mk a1 a2 a3 a4 a5)):=by simp [hi2,hA]
   rw [hA] at hs hg
   conv=>whnf
   refine ⟨_,by omega,hr1,?_⟩
   conv=>whnf
   refine ⟨pl,(.mk a1 a2 a3 a4 a5),rfl,⟨rfl,by omega,by omega⟩,fun b hb=>?_⟩
   cases b with
   | true =>
    have hp:Xj (.mk a1 a2 a3 a4 a5)=false:=by simpa using hb
    exact m48
   | false =>
    have hp:Xj (.mk a1 a2 a3 a4 a5)=true:=by simpa using hb
    exact m16
  ·have hi2:l.length≤i:=by have hi2:¬(i:Int)<(l.map (Yt pl)).length:=hi2;rw [hlen] at hi2;omega
   exact m52
 ·exact h.elim
noncomputable def Zys (n:Nat):Tbl:=[(245,JQ 175 109 Yt Xj wL n)]
theorem Zyt {n:Nat} (ht:TblOK (GG w0 nG) (Zys n)):PCalls (GG w0 nG) 174 (JR 175 109 Yt Xj wL n):=by
 refine pc ht Tryz.func174 ?_
 intro args σ K h
 unfold JR at h
 split at h
 ·obtain ⟨pl,l,rfl,⟨rfl,rfl,hz,hn⟩,h⟩:=h
  refine ⟨Za [],1,false,by simp,Tb rfl,?_⟩
  conv=>whnf
  refine ⟨pl,l,rfl,⟨rfl,rfl,hz,hn⟩,fun r hr=>?_⟩
  conv=>whnf
  refine h _ ?_
  cases hb:l.all Xj with
  | true=>rw [hb] at hr;have:=hr.2 rfl;simp;omega
  | false=>rw [hb] at hr;have:¬r<0:=fun g=>(by have:=hr.1 g;cases this);simp;omega
 ·exact h.elim
noncomputable def Zyu (n:Nat):Tbl:=[(174,JR 175 109 Yt Xj wL n)]
theorem Zyv {n:Nat} (ht:TblOK (GG w0 nG) (Zyu n)):PCalls (GG w0 nG) 108 (Wm 109 Yt Xj wL n):=by
 refine pc ht Tryz.func108 ?_
 exact m8
theorem ZB9 {n:Nat} (h:PCalls (GG w0 nG) 109 (Xy (Xk Yt) Xj wL n)):PCalls (GG w0 nG) 108 (Wm 109 Yt Xj wL n) :=
 Zyv ⟨⟨Zyt ⟨⟨Zyr ⟨⟨Zyp ⟨⟨h,ZC _ _ _ _⟩,trivial⟩,Xv _ _ _ _ _⟩,trivial⟩,Xw _ _ _ _ _ _⟩,trivial⟩,Xx _ _ _ _ _ _⟩,trivial⟩
noncomputable def ZuO (n:Nat):Tbl:=[(63,Xy (Xk ZI) XF wRu n)]
theorem ZuP {n:Nat} (ht:TblOK (GG w0 nG) (ZuO n)):PCalls (GG w0 nG) 186 (JP 63 (Xk ZI) XF wRu n):=by
 refine pc ht Tryz.func186 ?_
 exact m72
noncomputable def ZuQ (n:Nat):Tbl:=[(186,JP 63 (Xk ZI) XF wRu n)]
theorem ZuR {n:Nat} (ht:TblOK (GG w0 nG) (ZuQ n)):PCalls (GG w0 nG) 251 (JQ 186 63 ZI XF wRu n):=by
 refine pc ht Tryz.func251 ?_
 intro args σ K h
 unfold JQ at h
 split at h
 ·obtain ⟨pl,l,rfl,⟨rfl,rfl,hz,hn⟩,h⟩:=h
  rename_i t
  have hlen:(l.map (ZI pl)).length=l.length:=Te ..
  have hsz:=Zj wRu l
  refine ⟨Za [(2,⟨[8],[0,1,7],fun vs σ=>∃i:Nat,vs=[.d (.int .i64 i)]∧σ=⟨[.cells t [.func 63 [] []]],[],0⟩∧i≤l.length∧l.all XF=(l.drop i).all XF,fun vs _=>match vs with | [.d (.int _ i)]=>((l.length:Int) - i).toNat | _=>0⟩)],1,false,by simp,Tb rfl,?_⟩
  conv=>whnf
  refine ⟨⟨0,rfl,rfl,by omega,rfl⟩,?_⟩
  intro vs σ hI
  obtain ⟨i,rfl,rfl,hi,hs⟩:=hI
  conv=>whnf
  refine ZCX (fun hi2=>?_) (fun hi2=>?_)
  ·have hi2:i<l.length:=by have hi2:(i:Int)<(l.map (ZI pl)).length:=hi2;rw [hlen] at hi2;omega
   have hg:=Zn wRu l i hi2
   rw [Wf _ hi2] at hs
   obtain ⟨eA,hA⟩:∃e,l[i]=e:=⟨_,rfl⟩
   obtain ⟨a1,a2,a3,a4⟩:=eA
   have hr1:(l.map (ZI pl))[((i:Nat):Int).toNat]?=some (ZI pl ⟨a1,a2,a3,a4⟩):=by simp [hi2,hA]
   rw [hA] at hs hg
   conv=>whnf
   refine ⟨_,by omega,hr1,?_⟩
   conv=>whnf
   refine ⟨pl,⟨a1,a2,a3,a4⟩,rfl,⟨rfl,by omega,by omega⟩,fun b hb=>?_⟩
   cases b with
   | true =>
    have hp:XF ⟨a1,a2,a3,a4⟩=false:=by simpa using hb
    exact m48
   | false =>
    have hp:XF ⟨a1,a2,a3,a4⟩=true:=by simpa using hb
    exact m16
  ·have hi2:l.length≤i:=by have hi2:¬(i:Int)<(l.map (ZI pl)).length:=hi2;rw [hlen] at hi2;omega
   exact m52
 ·exact h.elim
noncomputable def ZuS (n:Nat):Tbl:=[(251,JQ 186 63 ZI XF wRu n)]
theorem ZuT {n:Nat} (ht:TblOK (GG w0 nG) (ZuS n)):PCalls (GG w0 nG) 185 (JR 186 63 ZI XF wRu n):=by
 refine pc ht Tryz.func185 ?_
 intro args σ K h
 unfold JR at h
 split at h
 ·obtain ⟨pl,l,rfl,⟨rfl,rfl,hz,hn⟩,h⟩:=h
  refine ⟨Za [],1,false,by simp,Tb rfl,?_⟩
  conv=>whnf
  refine ⟨pl,l,rfl,⟨rfl,rfl,hz,hn⟩,fun r hr=>?_⟩
  conv=>whnf
  refine h _ ?_
  cases hb:l.all XF with
  | true=>rw [hb] at hr;have:=hr.2 rfl;simp;omega
  | false=>rw [hb] at hr;have:¬r<0:=fun g=>(by have:=hr.1 g;cases this);simp;omega
 ·exact h.elim
noncomputable def ZuU (n:Nat):Tbl:=[(185,JR 186 63 ZI XF wRu n)]
theorem ZuV {n:Nat} (ht:TblOK (GG w0 nG) (ZuU n)):PCalls (GG w0 nG) 124 (Wm 63 ZI XF wRu n):=by
 refine pc ht Tryz.func124 ?_
 exact m8
theorem Zyw {n:Nat} (h:PCalls (GG w0 nG) 63 (Xy (Xk ZI) XF wRu n)):PCalls (GG w0 nG) 124 (Wm 63 ZI XF wRu n) :=
 ZuV ⟨⟨ZuT ⟨⟨ZuR ⟨⟨ZuP ⟨⟨h,ZC _ _ _ _⟩,trivial⟩,Xv _ _ _ _ _⟩,trivial⟩,Xw _ _ _ _ _ _⟩,trivial⟩,Xx _ _ _ _ _ _⟩,trivial⟩
noncomputable def ZuW (n:Nat):Tbl:=[(123,Xy (Xk (fun _=>Zt)) YY wFi n)]
theorem ZuX {n:Nat} (ht:TblOK (GG w0 nG) (ZuW n)):PCalls (GG w0 nG) 184 (JP 123 (Xk (fun _=>Zt)) YY wFi n):=by
 refine pc ht Tryz.func184 ?_
 exact m49
noncomputable def ZuY (n:Nat):Tbl:=[(184,JP 123 (Xk (fun _=>Zt)) YY wFi n)]
theorem ZuZ {n:Nat} (ht:TblOK (GG w0 nG) (ZuY n)):PCalls (GG w0 nG) 250 (JQ 184 123 (fun _=>Zt) YY wFi n):=by
 refine pc ht Tryz.func250 ?_
 intro args σ K h
 unfold JQ at h
 split at h
 ·obtain ⟨pl,l,rfl,⟨rfl,rfl,hz,hn⟩,h⟩:=h
  rename_i t
  have hlen:(l.map ((fun _=>Zt) pl)).length=l.length:=Te ..
  have hsz:=Zj wFi l
  refine ⟨Za [(2,⟨[8],[0,1,7],fun vs σ=>∃i:Nat,vs=[.d (.int .i64 i)]∧σ=⟨[.cells t [.func 123 [] []]],[],0⟩∧i≤l.length∧l.all YY=(l.drop i).all YY,fun vs _=>match vs with | [.d (.int _ i)]=>((l.length:Int) - i).toNat | _=>0⟩)],1,false,by simp,Tb rfl,?_⟩
  conv=>whnf
  refine ⟨⟨0,rfl,rfl,by omega,rfl⟩,?_⟩
  intro vs σ hI
  obtain ⟨i,rfl,rfl,hi,hs⟩:=hI
  conv=>whnf
  refine ZCX (fun hi2=>?_) (fun hi2=>?_)
  ·have hi2:i<l.length:=by have hi2:(i:Int)<(l.map ((fun _=>Zt) pl)).length:=hi2;rw [hlen] at hi2;omega
   have hg:=Zn wFi l i hi2
   rw [Wf _ hi2] at hs
   obtain ⟨eA,hA⟩:∃e,l[i]=e:=⟨_,rfl⟩
   obtain ⟨a1,a2⟩:=eA
   have hr1:(l.map ((fun _=>Zt) pl))[((i:Nat):Int).toNat]?=some ((fun _=>Zt) pl ⟨a1,a2⟩):=by simp [hi2,hA]
   rw [hA] at hs hg
   conv=>whnf
   refine ⟨_,by omega,hr1,?_⟩
   conv=>whnf
   refine ⟨pl,⟨a1,a2⟩,rfl,⟨rfl,by omega,by omega⟩,fun b hb=>?_⟩
   cases b with
   | true =>
    have hp:YY ⟨a1,a2⟩=false:=by simpa using hb
    exact m48
   | false =>
    have hp:YY ⟨a1,a2⟩=true:=by simpa using hb
    exact m16
  ·have hi2:l.length≤i:=by have hi2:¬(i:Int)<(l.map ((fun _=>Zt) pl)).length:=hi2;rw [hlen] at hi2;omega
   exact m52
 ·exact h.elim
noncomputable def Zu0 (n:Nat):Tbl:=[(250,JQ 184 123 (fun _=>Zt) YY wFi n)]
theorem Zu1 {n:Nat} (ht:TblOK (GG w0 nG) (Zu0 n)):PCalls (GG w0 nG) 183 (JR 184 123 (fun _=>Zt) YY wFi n):=by
 refine pc ht Tryz.func183 ?_
 intro args σ K h
 unfold JR at h
 split at h
 ·obtain ⟨pl,l,rfl,⟨rfl,rfl,hz,hn⟩,h⟩:=h
  refine ⟨Za [],1,false,by simp,Tb rfl,?_⟩
  conv=>whnf
  refine ⟨pl,l,rfl,⟨rfl,rfl,hz,hn⟩,fun r hr=>?_⟩
  conv=>whnf
  refine h _ ?_
  cases hb:l.all YY with
  | true=>rw [hb] at hr;have:=hr.2 rfl;simp;omega
  | false=>rw [hb] at hr;have:¬r<0:=fun g=>(by have:=hr.1 g;cases this);simp;omega
 ·exact h.elim
noncomputable def Zu2 (n:Nat):Tbl:=[(183,JR 184 123 (fun _=>Zt) YY wFi n)]
theorem Zu3 {n:Nat} (ht:TblOK (GG w0 nG) (Zu2 n)):PCalls (GG w0 nG) 122 (Wm 123 (fun _=>Zt) YY wFi n):=by
 refine pc ht Tryz.func122 ?_
 exact m8
theorem ZBo {n:Nat} (h:PCalls (GG w0 nG) 123 (Xy (Xk (fun _=>Zt)) YY wFi n)):PCalls (GG w0 nG) 122 (Wm 123 (fun _=>Zt) YY wFi n) :=
 Zu3 ⟨⟨Zu1 ⟨⟨ZuZ ⟨⟨ZuX ⟨⟨h,ZC _ _ _ _⟩,trivial⟩,Xv _ _ _ _ _⟩,trivial⟩,Xw _ _ _ _ _ _⟩,trivial⟩,Xx _ _ _ _ _ _⟩,trivial⟩
noncomputable def Zu4 (n:Nat):Tbl:=[(180,Xy (Xk (fun _=>Zs)) XN wCa n)]
theorem Zu5 {n:Nat} (ht:TblOK (GG w0 nG) (Zu4 n)):PCalls (GG w0 nG) 248 (JP 180 (Xk (fun _=>Zs)) XN wCa n):=by
 refine pc ht Tryz.func248 ?_
 exact m49
noncomputable def Zu6 (n:Nat):Tbl:=[(248,JP 180 (Xk (fun _=>Zs)) XN wCa n)]
theorem Zu7 {n:Nat} (ht:TblOK (GG w0 nG) (Zu6 n)):PCalls (GG w0 nG) 298 (JQ 248 180 (fun _=>Zs) XN wCa n):=by
 refine pc ht Tryz.func298 ?_
 intro args σ K h
 unfold JQ at h
 split at h
 ·obtain ⟨pl,l,rfl,⟨rfl,rfl,hz,hn⟩,h⟩:=h
  rename_i t
  have hlen:(l.map ((fun _=>Zs) pl)).length=l.length:=Te ..
  have hsz:=Zj wCa l
  refine ⟨Za [(2,⟨[8],[0,1,7],fun vs σ=>∃i:Nat,vs=[.d (.int .i64 i)]∧σ=⟨[.cells t [.func 180 [] []]],[],0⟩∧i≤l.length∧l.all XN=(l.drop i).all XN,fun vs _=>match vs with | [.d (.int _ i)]=>((l.length:Int) - i).toNat | _=>0⟩)],1,false,by simp,Tb rfl,?_⟩
  conv=>whnf
  refine ⟨⟨0,rfl,rfl,by omega,rfl⟩,?_⟩
  intro vs σ hI
  obtain ⟨i,rfl,rfl,hi,hs⟩:=hI
  conv=>whnf
  refine ZCX (fun hi2=>?_) (fun hi2=>?_)
  ·have hi2:i<l.length:=by have hi2:(i:Int)<(l.map ((fun _=>Zs) pl)).length:=hi2;rw [hlen] at hi2;omega
   have hg:=Zn wCa l i hi2
   rw [Wf _ hi2] at hs
   obtain ⟨eA,hA⟩:∃e,l[i]=e:=⟨_,rfl⟩
   obtain ⟨a1,a2⟩:=eA
   have hr1:(l.map ((fun _=>Zs) pl))[((i:Nat):Int).toNat]?=some ((fun _=>Zs) pl ⟨a1,a2⟩):=by simp [hi2,hA]
   rw [hA] at hs hg
   conv=>whnf
   refine ⟨_,by omega,hr1,?_⟩
   conv=>whnf
   refine ⟨pl,⟨a1,a2⟩,rfl,⟨rfl,by omega,by omega⟩,fun b hb=>?_⟩
   cases b with
   | true =>
    have hp:XN ⟨a1,a2⟩=false:=by simpa using hb
    exact m48
   | false =>
    have hp:XN ⟨a1,a2⟩=true:=by simpa using hb
    exact m16
  ·have hi2:l.length≤i:=by have hi2:¬(i:Int)<(l.map ((fun _=>Zs) pl)).length:=hi2;rw [hlen] at hi2;omega
   exact m52
 ·exact h.elim
noncomputable def Zu8 (n:Nat):Tbl:=[(298,JQ 248 180 (fun _=>Zs) XN wCa n)]
theorem Zu9 {n:Nat} (ht:TblOK (GG w0 nG) (Zu8 n)):PCalls (GG w0 nG) 247 (JR 248 180 (fun _=>Zs) XN wCa n):=by
 refine pc ht Tryz.func247 ?_
 intro args σ K h
 unfold JR at h
 split at h
 ·obtain ⟨pl,l,rfl,⟨rfl,rfl,hz,hn⟩,h⟩:=h
  refine ⟨Za [],1,false,by simp,Tb rfl,?_⟩
  conv=>whnf
  refine ⟨pl,l,rfl,⟨rfl,rfl,hz,hn⟩,fun r hr=>?_⟩
  conv=>whnf
  refine h _ ?_
  cases hb:l.all XN with
  | true=>rw [hb] at hr;have:=hr.2 rfl;simp;omega
  | false=>rw [hb] at hr;have:¬r<0:=fun g=>(by have:=hr.1 g;cases this);simp;omega
 ·exact h.elim
noncomputable def Zva (n:Nat):Tbl:=[(247,JR 248 180 (fun _=>Zs) XN wCa n)]
theorem Zvb {n:Nat} (ht:TblOK (GG w0 nG) (Zva n)):PCalls (GG w0 nG) 179 (Wm 180 (fun _=>Zs) XN wCa n):=by
 refine pc ht Tryz.func179 ?_
 exact m8
theorem ZBp {n:Nat} (h:PCalls (GG w0 nG) 180 (Xy (Xk (fun _=>Zs)) XN wCa n)):PCalls (GG w0 nG) 179 (Wm 180 (fun _=>Zs) XN wCa n) :=
 Zvb ⟨⟨Zu9 ⟨⟨Zu7 ⟨⟨Zu5 ⟨⟨h,ZC _ _ _ _⟩,trivial⟩,Xv _ _ _ _ _⟩,trivial⟩,Xw _ _ _ _ _ _⟩,trivial⟩,Xx _ _ _ _ _ _⟩,trivial⟩
noncomputable def Zvc (n:Nat):Tbl:=[(119,Xy (Xk Zx) YH wTy n)]
theorem Zvd {n:Nat} (ht:TblOK (GG w0 nG) (Zvc n)):PCalls (GG w0 nG) 178 (JP 119 (Xk Zx) YH wTy n):=by
 refine pc ht Tryz.func178 ?_
 exact m69
noncomputable def Zve (n:Nat):Tbl:=[(178,JP 119 (Xk Zx) YH wTy n)]
theorem Zvf {n:Nat} (ht:TblOK (GG w0 nG) (Zve n)):PCalls (GG w0 nG) 246 (JQ 178 119 Zx YH wTy n):=by
 refine pc ht Tryz.func246 ?_
 intro args σ K h
 unfold JQ at h
 split at h
 ·obtain ⟨pl,l,rfl,⟨rfl,rfl,hz,hn⟩,h⟩:=h
  rename_i t
  have hlen:(l.map (Zx pl)).length=l.length:=Te ..
  have hsz:=Zj wTy l
  refine ⟨Za [(2,⟨[8],[0,1,7],fun vs σ=>∃i:Nat,vs=[.d (.int .i64 i)]∧σ=⟨[.cells t [.func 119 [] []]],[],0⟩∧i≤l.length∧l.all YH=(l.drop i).all YH,fun vs _=>match vs with | [.d (.int _ i)]=>((l.length:Int) - i).toNat | _=>0⟩)],1,false,by simp,Tb rfl,?_⟩
  conv=>whnf
  refine ⟨⟨0,rfl,rfl,by omega,rfl⟩,?_⟩
  intro vs σ hI
  obtain ⟨i,rfl,rfl,hi,hs⟩:=hI
  conv=>whnf
  refine ZCX (fun hi2=>?_) (fun hi2=>?_)
  ·have hi2:i<l.length:=by have hi2:(i:Int)<(l.map (Zx pl)).length:=hi2;rw [hlen] at hi2;omega
   have hg:=Zn wTy l i hi2
   rw [Wf _ hi2] at hs
   obtain ⟨eA,hA⟩:∃e,l[i]=e:=⟨_,rfl⟩
   obtain ⟨a1,a2,a3,a4,a5,a6⟩:=eA
   have hr1:(l.map (Zx pl))[((i:Nat):Int).toNat]?=some (Zx pl ⟨a1,a2,a3,a4,a5,a6⟩):=by simp [hi2,hA]
   rw [hA] at hs hg
   conv=>whnf
   refine ⟨_,by omega,hr1,?_⟩
   conv=>whnf
   refine ⟨pl,⟨a1,a2,a3,a4,a5,a6⟩,rfl,⟨rfl,by omega,by omega⟩,fun b hb=>?_⟩
   cases b with
   | true =>
    have hp:YH ⟨a1,a2,a3,a4,a5,a6⟩=false:=by simpa using hb
    exact m48
   | false =>
    have hp:YH ⟨a1,a2,a3,a4,a5,a6⟩=true:=by simpa using hb
    exact m16
  ·have hi2:l.length≤i:=by have hi2:¬(i:Int)<(l.map (Zx pl)).length:=hi2;rw [hlen] at hi2;omega
   exact m52
 ·exact h.elim
noncomputable def Zvg (n:Nat):Tbl:=[(246,JQ 178 119 Zx YH wTy n)]
theorem Zvh {n:Nat} (ht:TblOK (GG w0 nG) (Zvg n)):PCalls (GG w0 nG) 177 (JR 178 119 Zx YH wTy n):=by
 refine pc ht Tryz.func177 ?_
 intro args σ K h
 unfold JR at h
 split at h
 ·obtain ⟨pl,l,rfl,⟨rfl,rfl,hz,hn⟩,h⟩:=h
  refine ⟨Za [],1,false,by simp,Tb rfl,?_⟩
  conv=>whnf
  refine ⟨pl,l,rfl,⟨rfl,rfl,hz,hn⟩,fun r hr=>?_⟩
  conv=>whnf
  refine h _ ?_
  cases hb:l.all YH with
  | true=>rw [hb] at hr;have:=hr.2 rfl;simp;omega
  | false=>rw [hb] at hr;have:¬r<0:=fun g=>(by have:=hr.1 g;cases this);simp;omega
 ·exact h.elim
noncomputable def Zvi (n:Nat):Tbl:=[(177,JR 178 119 Zx YH wTy n)]
theorem Zvj {n:Nat} (ht:TblOK (GG w0 nG) (Zvi n)):PCalls (GG w0 nG) 118 (Wm 119 Zx YH wTy n):=by
 refine pc ht Tryz.func118 ?_
 exact m8
theorem Zyx {n:Nat} (h:PCalls (GG w0 nG) 119 (Xy (Xk Zx) YH wTy n)):PCalls (GG w0 nG) 118 (Wm 119 Zx YH wTy n) :=
 Zvj ⟨⟨Zvh ⟨⟨Zvf ⟨⟨Zvd ⟨⟨h,ZC _ _ _ _⟩,trivial⟩,Xv _ _ _ _ _⟩,trivial⟩,Xw _ _ _ _ _ _⟩,trivial⟩,Xx _ _ _ _ _ _⟩,trivial⟩
noncomputable def Zvk (n:Nat):Tbl:=[(121,Xy (Xk ZG) X3 wRe n)]
theorem Zvl {n:Nat} (ht:TblOK (GG w0 nG) (Zvk n)):PCalls (GG w0 nG) 182 (JP 121 (Xk ZG) X3 wRe n):=by
 refine pc ht Tryz.func182 ?_
 exact m69
noncomputable def Zvm (n:Nat):Tbl:=[(182,JP 121 (Xk ZG) X3 wRe n)]
theorem Zvn {n:Nat} (ht:TblOK (GG w0 nG) (Zvm n)):PCalls (GG w0 nG) 249 (JQ 182 121 ZG X3 wRe n):=by
 refine pc ht Tryz.func249 ?_
 intro args σ K h
 unfold JQ at h
 split at h
 ·obtain ⟨pl,l,rfl,⟨rfl,rfl,hz,hn⟩,h⟩:=h
  rename_i t
  have hlen:(l.map (ZG pl)).length=l.length:=Te ..
  have hsz:=Zj wRe l
  refine ⟨Za [(2,⟨[8],[0,1,7],fun vs σ=>∃i:Nat,vs=[.d (.int .i64 i)]∧σ=⟨[.cells t [.func 121 [] []]],[],0⟩∧i≤l.length∧l.all X3=(l.drop i).all X3,fun vs _=>match vs with | [.d (.int _ i)]=>((l.length:Int) - i).toNat | _=>0⟩)],1,false,by simp,Tb rfl,?_⟩
  conv=>whnf
  refine ⟨⟨0,rfl,rfl,by omega,rfl⟩,?_⟩
  intro vs σ hI
  obtain ⟨i,rfl,rfl,hi,hs⟩:=hI
  conv=>whnf
  refine ZCX (fun hi2=>?_) (fun hi2=>?_)
  ·have hi2:i<l.length:=by have hi2:(i:Int)<(l.map (ZG pl)).length:=hi2;rw [hlen] at hi2;omega
   have hg:=Zn wRe l i hi2
   rw [Wf _ hi2] at hs
   obtain ⟨eA,hA⟩:∃e,l[i]=e:=⟨_,rfl⟩
   obtain ⟨a1,a2,a3,a4,a5,a6⟩:=eA
   have hr1:(l.map (ZG pl))[((i:Nat):Int).toNat]?=some (ZG pl ⟨a1,a2,a3,a4,a5,a6⟩):=by simp [hi2,hA]
   rw [hA] at hs hg
   conv=>whnf
   refine ⟨_,by omega,hr1,?_⟩
   conv=>whnf
   refine ⟨pl,⟨a1,a2,a3,a4,a5,a6⟩,rfl,⟨rfl,by omega,by omega⟩,fun b hb=>?_⟩
   cases b with
   | true =>
    have hp:X3 ⟨a1,a2,a3,a4,a5,a6⟩=false:=by simpa using hb
    exact m48
   | false =>
    have hp:X3 ⟨a1,a2,a3,a4,a5,a6⟩=true:=by simpa using hb
    exact m16
  ·have hi2:l.length≤i:=by have hi2:¬(i:Int)<(l.map (ZG pl)).length:=hi2;rw [hlen] at hi2;omega
   exact m52
 ·exact h.elim
noncomputable def Zvo (n:Nat):Tbl:=[(249,JQ 182 121 ZG X3 wRe n)]
theorem Zvp {n:Nat} (ht:TblOK (GG w0 nG) (Zvo n)):PCalls (GG w0 nG) 181 (JR 182 121 ZG X3 wRe n):=by
 refine pc ht Tryz.func181 ?_
 intro args σ K h
 unfold JR at h
 split at h
 ·obtain ⟨pl,l,rfl,⟨rfl,rfl,hz,hn⟩,h⟩:=h
  refine ⟨Za [],1,false,by simp,Tb rfl,?_⟩
  conv=>whnf
  refine ⟨pl,l,rfl,⟨rfl,rfl,hz,hn⟩,fun r hr=>?_⟩
  conv=>whnf
  refine h _ ?_
  cases hb:l.all X3 with
  | true=>rw [hb] at hr;have:=hr.2 rfl;simp;omega
  | false=>rw [hb] at hr;have:¬r<0:=fun g=>(by have:=hr.1 g;cases this);simp;omega
 ·exact h.elim
noncomputable def Zvq (n:Nat):Tbl:=[(181,JR 182 121 ZG X3 wRe n)]
theorem Zvr {n:Nat} (ht:TblOK (GG w0 nG) (Zvq n)):PCalls (GG w0 nG) 120 (Wm 121 ZG X3 wRe n):=by
 refine pc ht Tryz.func120 ?_
 exact m8
theorem Zyy {n:Nat} (h:PCalls (GG w0 nG) 121 (Xy (Xk ZG) X3 wRe n)):PCalls (GG w0 nG) 120 (Wm 121 ZG X3 wRe n) :=
 Zvr ⟨⟨Zvp ⟨⟨Zvn ⟨⟨Zvl ⟨⟨h,ZC _ _ _ _⟩,trivial⟩,Xv _ _ _ _ _⟩,trivial⟩,Xw _ _ _ _ _ _⟩,trivial⟩,Xx _ _ _ _ _ _⟩,trivial⟩
noncomputable def Zvs (n:Nat):Tbl:=[(126,Xy (Xk ZW) Yr wCo n)]
theorem Zvt {n:Nat} (ht:TblOK (GG w0 nG) (Zvs n)):PCalls (GG w0 nG) 188 (JP 126 (Xk ZW) Yr wCo n):=by
 refine pc ht Tryz.func188 ?_
 intro args σ K h
 unfold JP at h
 split at h
 ·obtain ⟨pl,⟨a1,a2,a3,a4,⟨u1,u2,u3,u4,u5,u6⟩,a6⟩,rfl,⟨rfl,hz,hn⟩,h⟩:=h
  refine ⟨Za [],1,false,by simp,Tb rfl,?_⟩
  conv=>whnf
  refine ⟨pl,(.mk a1 a2 a3 a4 (.mk u1 u2 u3 u4 u5 u6) a6),rfl,⟨hz,hn⟩,fun b hb=>?_⟩
  exact m201
 ·exact h.elim
noncomputable def Zvu (n:Nat):Tbl:=[(188,JP 126 (Xk ZW) Yr wCo n)]
theorem Zvv {n:Nat} (ht:TblOK (GG w0 nG) (Zvu n)):PCalls (GG w0 nG) 252 (JQ 188 126 ZW Yr wCo n):=by
 refine pc ht Tryz.func252 ?_
 intro args σ K h
 unfold JQ at h
 split at h
 ·obtain ⟨pl,l,rfl,⟨rfl,rfl,hz,hn⟩,h⟩:=h
  rename_i t
  have hlen:(l.map (ZW pl)).length=l.length:=Te ..
  have hsz:=Zj wCo l
  refine ⟨Za [(2,⟨[8],[0,1,7],fun vs σ=>∃i:Nat,vs=[.d (.int .i64 i)]∧σ=⟨[.cells t [.func 126 [] []]],[],0⟩∧i≤l.length∧l.all Yr=(l.drop i).all Yr,fun vs _=>match vs with | [.d (.int _ i)]=>((l.length:Int) - i).toNat | _=>0⟩)],1,false,by simp,Tb rfl,?_⟩
  conv=>whnf
  refine ⟨⟨0,rfl,rfl,by omega,rfl⟩,?_⟩
  intro vs σ hI
  obtain ⟨i,rfl,rfl,hi,hs⟩:=hI
  conv=>whnf
  refine ZCX (fun hi2=>?_) (fun hi2=>?_)
  ·have hi2:i<l.length:=by have hi2:(i:Int)<(l.map (ZW pl)).length:=hi2;rw [hlen] at hi2;omega
   have hg:=Zn wCo l i hi2
   rw [Wf _ hi2] at hs
   obtain ⟨eA,hA⟩:∃e,l[i]=e:=⟨_,rfl⟩
   obtain ⟨a1,a2,a3,a4,⟨u1,u2,u3,u4,u5,u6⟩,a6⟩:=eA
   have hr1:(l.map (ZW pl))[((i:Nat):Int).toNat]?=some (ZW pl (.mk a1 a2 a3 a4 (.mk u1 u2 u3 u4 u5 u6) a6)):=by simp [hi2,hA]
   rw [hA] at hs hg
   conv=>whnf
   refine ⟨_,by omega,hr1,?_⟩
   conv=>whnf
   refine ⟨pl,(.mk a1 a2 a3 a4 (.mk u1 u2 u3 u4 u5 u6) a6),rfl,⟨rfl,by omega,by omega⟩,fun b hb=>?_⟩
   cases b with
   | true =>
    have hp:Yr (.mk a1 a2 a3 a4 (.mk u1 u2 u3 u4 u5 u6) a6)=false:=by simpa using hb
    exact m48
   | false =>
    have hp:Yr (.mk a1 a2 a3 a4 (.mk u1 u2 u3 u4 u5 u6) a6)=true:=by simpa using hb
    exact m16
  ·have hi2:l.length≤i:=by have hi2:¬(i:Int)<(l.map (ZW pl)).length:=hi2;rw [hlen] at hi2;omega
   exact m52
 ·exact h.elim
noncomputable def Zvw (n:Nat):Tbl:=[(252,JQ 188 126 ZW Yr wCo n)]
theorem Zvx {n:Nat} (ht:TblOK (GG w0 nG) (Zvw n)):PCalls (GG w0 nG) 187 (JR 188 126 ZW Yr wCo n):=by
 refine pc ht Tryz.func187 ?_
 intro args σ K h
 unfold JR at h
 split at h
 ·obtain ⟨pl,l,rfl,⟨rfl,rfl,hz,hn⟩,h⟩:=h
  refine ⟨Za [],1,false,by simp,Tb rfl,?_⟩
  conv=>whnf
  refine ⟨pl,l,rfl,⟨rfl,rfl,hz,hn⟩,fun r hr=>?_⟩
  conv=>whnf
  refine h _ ?_
  cases hb:l.all Yr with
  | true=>rw [hb] at hr;have:=hr.2 rfl;simp;omega
  | false=>rw [hb] at hr;have:¬r<0:=fun g=>(by have:=hr.1 g;cases this);simp;omega
 ·exact h.elim
noncomputable def Zvy (n:Nat):Tbl:=[(187,JR 188 126 ZW Yr wCo n)]
theorem Zvz {n:Nat} (ht:TblOK (GG w0 nG) (Zvy n)):PCalls (GG w0 nG) 125 (Wm 126 ZW Yr wCo n):=by
 refine pc ht Tryz.func125 ?_
 exact m8
theorem ZBq {n:Nat} (h:PCalls (GG w0 nG) 126 (Xy (Xk ZW) Yr wCo n)):PCalls (GG w0 nG) 125 (Wm 126 ZW Yr wCo n) :=
 Zvz ⟨⟨Zvx ⟨⟨Zvv ⟨⟨Zvt ⟨⟨h,ZC _ _ _ _⟩,trivial⟩,Xv _ _ _ _ _⟩,trivial⟩,Xw _ _ _ _ _ _⟩,trivial⟩,Xx _ _ _ _ _ _⟩,trivial⟩
noncomputable def ZvA (n:Nat):Tbl:=[(129,Xy (Xk ZQ) Wd wIn n)]
theorem ZvB {n:Nat} (ht:TblOK (GG w0 nG) (ZvA n)):PCalls (GG w0 nG) 192 (JP 129 (Xk ZQ) Wd wIn n):=by
 refine pc ht Tryz.func192 ?_
 exact m72
noncomputable def ZvC (n:Nat):Tbl:=[(192,JP 129 (Xk ZQ) Wd wIn n)]
theorem ZvD {n:Nat} (ht:TblOK (GG w0 nG) (ZvC n)):PCalls (GG w0 nG) 254 (JQ 192 129 ZQ Wd wIn n):=by
 refine pc ht Tryz.func254 ?_
 intro args σ K h
 unfold JQ at h
 split at h
 ·obtain ⟨pl,l,rfl,⟨rfl,rfl,hz,hn⟩,h⟩:=h
  rename_i t
  have hlen:(l.map (ZQ pl)).length=l.length:=Te ..
  have hsz:=Zj wIn l
  refine ⟨Za [(2,⟨[8],[0,1,7],fun vs σ=>∃i:Nat,vs=[.d (.int .i64 i)]∧σ=⟨[.cells t [.func 129 [] []]],[],0⟩∧i≤l.length∧l.all Wd=(l.drop i).all Wd,fun vs _=>match vs with | [.d (.int _ i)]=>((l.length:Int) - i).toNat | _=>0⟩)],1,false,by simp,Tb rfl,?_⟩
  conv=>whnf
  refine ⟨⟨0,rfl,rfl,by omega,rfl⟩,?_⟩
  intro vs σ hI
  obtain ⟨i,rfl,rfl,hi,hs⟩:=hI
  conv=>whnf
  refine ZCX (fun hi2=>?_) (fun hi2=>?_)
  ·have hi2:i<l.length:=by have hi2:(i:Int)<(l.map (ZQ pl)).length:=hi2;rw [hlen] at hi2;omega
   have hg:=Zn wIn l i hi2
   rw [Wf _ hi2] at hs
   obtain ⟨eA,hA⟩:∃e,l[i]=e:=⟨_,rfl⟩
   obtain ⟨a1,a2,a3,a4⟩:=eA
   have hr1:(l.map (ZQ pl))[((i:Nat):Int).toNat]?=some (ZQ pl ⟨a1,a2,a3,a4⟩):=by simp [hi2,hA]
   rw [hA] at hs hg
   conv=>whnf
   refine ⟨_,by omega,hr1,?_⟩
   conv=>whnf
   refine ⟨pl,⟨a1,a2,a3,a4⟩,rfl,⟨rfl,by omega,by omega⟩,fun b hb=>?_⟩
   cases b with
   | true =>
    have hp:Wd ⟨a1,a2,a3,a4⟩=false:=by simpa using hb
    exact m48
   | false =>
    have hp:Wd ⟨a1,a2,a3,a4⟩=true:=by simpa using hb
    exact m16
  ·have hi2:l.length≤i:=by have hi2:¬(i:Int)<(l.map (ZQ pl)).length:=hi2;rw [hlen] at hi2;omega
   exact m52
 ·exact h.elim
noncomputable def ZvE (n:Nat):Tbl:=[(254,JQ 192 129 ZQ Wd wIn n)]
theorem ZvF {n:Nat} (ht:TblOK (GG w0 nG) (ZvE n)):PCalls (GG w0 nG) 191 (JR 192 129 ZQ Wd wIn n):=by
 refine pc ht Tryz.func191 ?_
 intro args σ K h
 unfold JR at h
 split at h
 ·obtain ⟨pl,l,rfl,⟨rfl,rfl,hz,hn⟩,h⟩:=h
  refine ⟨Za [],1,false,by simp,Tb rfl,?_⟩
  conv=>whnf
  refine ⟨pl,l,rfl,⟨rfl,rfl,hz,hn⟩,fun r hr=>?_⟩
  conv=>whnf
  refine h _ ?_
  cases hb:l.all Wd with
  | true=>rw [hb] at hr;have:=hr.2 rfl;simp;omega
  | false=>rw [hb] at hr;have:¬r<0:=fun g=>(by have:=hr.1 g;cases this);simp;omega
 ·exact h.elim
noncomputable def ZvG (n:Nat):Tbl:=[(191,JR 192 129 ZQ Wd wIn n)]
theorem ZvH {n:Nat} (ht:TblOK (GG w0 nG) (ZvG n)):PCalls (GG w0 nG) 128 (Wm 129 ZQ Wd wIn n):=by
 refine pc ht Tryz.func128 ?_
 exact m8
theorem Zyz {n:Nat} (h:PCalls (GG w0 nG) 129 (Xy (Xk ZQ) Wd wIn n)):PCalls (GG w0 nG) 128 (Wm 129 ZQ Wd wIn n) :=
 ZvH ⟨⟨ZvF ⟨⟨ZvD ⟨⟨ZvB ⟨⟨h,ZC _ _ _ _⟩,trivial⟩,Xv _ _ _ _ _⟩,trivial⟩,Xw _ _ _ _ _ _⟩,trivial⟩,Xx _ _ _ _ _ _⟩,trivial⟩
noncomputable def ZvI (n:Nat):Tbl:=[(131,Xy (Xk ZN) WY wOv n)]
theorem ZvJ {n:Nat} (ht:TblOK (GG w0 nG) (ZvI n)):PCalls (GG w0 nG) 194 (JP 131 (Xk ZN) WY wOv n):=by
 refine pc ht Tryz.func194 ?_
 exact m49
noncomputable def ZvK (n:Nat):Tbl:=[(194,JP 131 (Xk ZN) WY wOv n)]
theorem ZvL {n:Nat} (ht:TblOK (GG w0 nG) (ZvK n)):PCalls (GG w0 nG) 255 (JQ 194 131 ZN WY wOv n):=by
 refine pc ht Tryz.func255 ?_
 intro args σ K h
 unfold JQ at h
 split at h
 ·obtain ⟨pl,l,rfl,⟨rfl,rfl,hz,hn⟩,h⟩:=h
  rename_i t
  have hlen:(l.map (ZN pl)).length=l.length:=Te ..
  have hsz:=Zj wOv l
  refine ⟨Za [(2,⟨[8],[0,1,7],fun vs σ=>∃i:Nat,vs=[.d (.int .i64 i)]∧σ=⟨[.cells t [.func 131 [] []]],[],0⟩∧i≤l.length∧l.all WY=(l.drop i).all WY,fun vs _=>match vs with | [.d (.int _ i)]=>((l.length:Int) - i).toNat | _=>0⟩)],1,false,by simp,Tb rfl,?_⟩
  conv=>whnf
  refine ⟨⟨0,rfl,rfl,by omega,rfl⟩,?_⟩
  intro vs σ hI
  obtain ⟨i,rfl,rfl,hi,hs⟩:=hI
  conv=>whnf
  refine ZCX (fun hi2=>?_) (fun hi2=>?_)
  ·have hi2:i<l.length:=by have hi2:(i:Int)<(l.map (ZN pl)).length:=hi2;rw [hlen] at hi2;omega
   have hg:=Zn wOv l i hi2
   rw [Wf _ hi2] at hs
   obtain ⟨eA,hA⟩:∃e,l[i]=e:=⟨_,rfl⟩
   obtain ⟨a1,a2⟩:=eA
   have hr1:(l.map (ZN pl))[((i:Nat):Int).toNat]?=some (ZN pl ⟨a1,a2⟩):=by simp [hi2,hA]
   rw [hA] at hs hg
   conv=>whnf
   refine ⟨_,by omega,hr1,?_⟩
   conv=>whnf
   refine ⟨pl,⟨a1,a2⟩,rfl,⟨rfl,by omega,by omega⟩,fun b hb=>?_⟩
   cases b with
   | true =>
    have hp:WY ⟨a1,a2⟩=false:=by simpa using hb
    exact m48
   | false =>
    have hp:WY ⟨a1,a2⟩=true:=by simpa using hb
    exact m16
  ·have hi2:l.length≤i:=by have hi2:¬(i:Int)<(l.map (ZN pl)).length:=hi2;rw [hlen] at hi2;omega
   exact m52
 ·exact h.elim
noncomputable def ZvM (n:Nat):Tbl:=[(255,JQ 194 131 ZN WY wOv n)]
theorem ZvN {n:Nat} (ht:TblOK (GG w0 nG) (ZvM n)):PCalls (GG w0 nG) 193 (JR 194 131 ZN WY wOv n):=by
 refine pc ht Tryz.func193 ?_
 intro args σ K h
 unfold JR at h
 split at h
 ·obtain ⟨pl,l,rfl,⟨rfl,rfl,hz,hn⟩,h⟩:=h
  refine ⟨Za [],1,false,by simp,Tb rfl,?_⟩
  conv=>whnf
  refine ⟨pl,l,rfl,⟨rfl,rfl,hz,hn⟩,fun r hr=>?_⟩
  conv=>whnf
  refine h _ ?_
  cases hb:l.all WY with
  | true=>rw [hb] at hr;have:=hr.2 rfl;simp;omega
  | false=>rw [hb] at hr;have:¬r<0:=fun g=>(by have:=hr.1 g;cases this);simp;omega
 ·exact h.elim
noncomputable def ZvO (n:Nat):Tbl:=[(193,JR 194 131 ZN WY wOv n)]
theorem ZvP {n:Nat} (ht:TblOK (GG w0 nG) (ZvO n)):PCalls (GG w0 nG) 130 (Wm 131 ZN WY wOv n):=by
 refine pc ht Tryz.func130 ?_
 exact m8
theorem ZyA {n:Nat} (h:PCalls (GG w0 nG) 131 (Xy (Xk ZN) WY wOv n)):PCalls (GG w0 nG) 130 (Wm 131 ZN WY wOv n) :=
 ZvP ⟨⟨ZvN ⟨⟨ZvL ⟨⟨ZvJ ⟨⟨h,ZC _ _ _ _⟩,trivial⟩,Xv _ _ _ _ _⟩,trivial⟩,Xw _ _ _ _ _ _⟩,trivial⟩,Xx _ _ _ _ _ _⟩,trivial⟩
noncomputable def ZvQ (n:Nat):Tbl:=[(72,Xy Zi8 YF wBs n)]
theorem ZvR {n:Nat} (ht:TblOK (GG w0 nG) (ZvQ n)):PCalls (GG w0 nG) 190 (JP 72 Zi8 YF wBs n):=by
 refine pc ht Tryz.func190 ?_
 intro args σ K h
 unfold JP at h
 split at h
 ·obtain ⟨pl,x,rfl,⟨rfl,hz,hn⟩,h⟩:=h
  refine ⟨Za [],1,false,by simp,Tb rfl,?_⟩
  conv=>whnf
  refine ⟨pl,x,rfl,⟨hz,hn⟩,fun b hb=>?_⟩
  exact m201
 ·exact h.elim
noncomputable def ZvS (n:Nat):Tbl:=[(190,JP 72 Zi8 YF wBs n)]
theorem ZvT {n:Nat} (ht:TblOK (GG w0 nG) (ZvS n)):PCalls (GG w0 nG) 253 (JQ 190 72 (fun _=>Zr) YF wBs n):=by
 refine pc ht Tryz.func253 ?_
 intro args σ K h
 unfold JQ at h
 split at h
 ·obtain ⟨pl,l,rfl,⟨rfl,rfl,hz,hn⟩,h⟩:=h
  rename_i t
  have hlen:(l.map ((fun _=>Zr) pl)).length=l.length:=Te ..
  have hsz:=Zj wBs l
  refine ⟨Za [(2,⟨[8],[0,1,7],fun vs σ=>∃i:Nat,vs=[.d (.int .i64 i)]∧σ=⟨[.cells t [.func 72 [] []]],[],0⟩∧i≤l.length∧l.all YF=(l.drop i).all YF,fun vs _=>match vs with | [.d (.int _ i)]=>((l.length:Int) - i).toNat | _=>0⟩)],1,false,by simp,Tb rfl,?_⟩
  conv=>whnf
  refine ⟨⟨0,rfl,rfl,by omega,rfl⟩,?_⟩
  intro vs σ hI
  obtain ⟨i,rfl,rfl,hi,hs⟩:=hI
  conv=>whnf
  refine ZCX (fun hi2=>?_) (fun hi2=>?_)
  ·have hi2:i<l.length:=by have hi2:(i:Int)<(l.map ((fun _=>Zr) pl)).length:=hi2;rw [hlen] at hi2;omega
   have hg:=Zn wBs l i hi2
   rw [Wf _ hi2] at hs
   obtain ⟨eA,hA⟩:∃e,l[i]=e:=⟨_,rfl⟩
   have hr1:(l.map ((fun _=>Zr) pl))[((i:Nat):Int).toNat]?=some ((fun _=>Zr) pl eA):=by simp [hi2,hA]
   rw [hA] at hs hg
   conv=>whnf
   refine ⟨_,by omega,hr1,?_⟩
   conv=>whnf
   refine ⟨pl,eA,rfl,⟨rfl,by omega,by omega⟩,fun b hb=>?_⟩
   cases b with
   | true =>
    have hp:YF eA=false:=by simpa using hb
    exact m48
   | false =>
    have hp:YF eA=true:=by simpa using hb
    exact m16
  ·have hi2:l.length≤i:=by have hi2:¬(i:Int)<(l.map ((fun _=>Zr) pl)).length:=hi2;rw [hlen] at hi2;omega
   exact m52
 ·exact h.elim
noncomputable def ZvU (n:Nat):Tbl:=[(253,JQ 190 72 (fun _=>Zr) YF wBs n)]
theorem ZvV {n:Nat} (ht:TblOK (GG w0 nG) (ZvU n)):PCalls (GG w0 nG) 189 (JR 190 72 (fun _=>Zr) YF wBs n):=by
 refine pc ht Tryz.func189 ?_
 intro args σ K h
 unfold JR at h
 split at h
 ·obtain ⟨pl,l,rfl,⟨rfl,rfl,hz,hn⟩,h⟩:=h
  refine ⟨Za [],1,false,by simp,Tb rfl,?_⟩
  conv=>whnf
  refine ⟨pl,l,rfl,⟨rfl,rfl,hz,hn⟩,fun r hr=>?_⟩
  conv=>whnf
  refine h _ ?_
  cases hb:l.all YF with
  | true=>rw [hb] at hr;have:=hr.2 rfl;simp;omega
  | false=>rw [hb] at hr;have:¬r<0:=fun g=>(by have:=hr.1 g;cases this);simp;omega
 ·exact h.elim
noncomputable def ZvW (n:Nat):Tbl:=[(189,JR 190 72 (fun _=>Zr) YF wBs n)]
theorem ZvX {n:Nat} (ht:TblOK (GG w0 nG) (ZvW n)):PCalls (GG w0 nG) 127 (Wm 72 (fun _=>Zr) YF wBs n):=by
 refine pc ht Tryz.func127 ?_
 exact m8
theorem ZBr {n:Nat} (h:PCalls (GG w0 nG) 72 (Xy Zi8 YF wBs n)):PCalls (GG w0 nG) 127 (Wm 72 (fun _=>Zr) YF wBs n) :=
 ZvX ⟨⟨ZvV ⟨⟨ZvT ⟨⟨ZvR ⟨⟨h,ZC _ _ _ _⟩,trivial⟩,Xv _ _ _ _ _⟩,trivial⟩,Xw _ _ _ _ _ _⟩,trivial⟩,Xx _ _ _ _ _ _⟩,trivial⟩
end Go.PM.Lex
end

section
namespace Go.PM.Lex
open Go.Proofs
variable {w0:World} {nG:Nat}
noncomputable def Zxl:ZA:=fun args σ K=>match args,σ with
 | [.d (.int .u8 op)],⟨[],[],0⟩=>∃o:Nat,op=o∧∀l w a,(Zm o:Int)=l→ZM o=w→Yq o=a→K (.ret (.agg [.d (.int .i64 l),.d (.str w),.d (.int .i64 a)])) ⟨[],[],0⟩
 | _,_=>False
theorem ZbN:Zc Zxl:=fun args σ K K' hK h=>by
 unfold Zxl at h ⊢
 split at h
 ·obtain ⟨o,h1,h2⟩:=h;exact ⟨o,h1,fun l w a e1 e2 e3=>hK _ _ (h2 l w a e1 e2 e3)⟩
 ·exact h.elim
theorem ZrH:PCalls (GG w0 nG) 71 Zxl:=by
 refine pc (tbl:=[]) trivial Tryz.func71 ?_
 intro args σ K h
 unfold Zxl at h
 split at h
 ·obtain ⟨o,rfl,h⟩:=h
  refine ⟨Za [],0,false,by simp,Tb rfl,?_⟩
  repeat' ((conv=>whnf);refine ZCX (fun hc=>?_) (fun hc=>?_))
  all_goals (conv=>whnf)
  all_goals first
  | (have e : o = 16 := by omega
     subst e;exact h _ _ _ rfl rfl rfl)
  | (have e : o = 17 := by omega
     subst e;exact h _ _ _ rfl rfl rfl)
  | (have e : o = 15 := by omega
     subst e;exact h _ _ _ rfl rfl rfl)
  | (have e : o = 18 := by omega
     subst e;exact h _ _ _ rfl rfl rfl)
  | (have e : o = 19 := by omega
     subst e;exact h _ _ _ rfl rfl rfl)
  | (have e : o = 10 := by omega
     subst e;exact h _ _ _ rfl rfl rfl)
  | (have e : o = 11 := by omega
     subst e;exact h _ _ _ rfl rfl rfl)
  | (have e : o = 12 := by omega
     subst e;exact h _ _ _ rfl rfl rfl)
  | (have e : o = 13 := by omega
     subst e;exact h _ _ _ rfl rfl rfl)
  | (have e : o = 14 := by omega
     subst e;exact h _ _ _ rfl rfl rfl)
  | (have e : o = 8 := by omega
     subst e;exact h _ _ _ rfl rfl rfl)
  | (have e : o = 9 := by omega
     subst e;exact h _ _ _ rfl rfl rfl)
  | (have e : o = 20 := by omega
     subst e;exact h _ _ _ rfl rfl rfl)
  | (have e : o = 21 := by omega
     subst e;exact h _ _ _ rfl rfl rfl)
  | (have e : o = 22 := by omega
     subst e;exact h _ _ _ rfl rfl rfl)
  | (have e : o = 23 := by omega
     subst e;exact h _ _ _ rfl rfl rfl)
  | (have e : o = 24 := by omega
     subst e;exact h _ _ _ rfl rfl rfl)
  | (have e : o = 25 := by omega
     subst e;exact h _ _ _ rfl rfl rfl)
  | (have e : o = 6 := by omega
     subst e;exact h _ _ _ rfl rfl rfl)
  | (have e : o = 7 := by omega
     subst e;exact h _ _ _ rfl rfl rfl)
  | (have e : o = 1 := by omega
     subst e;exact h _ _ _ rfl rfl rfl)
  | (have e : o = 2 := by omega
     subst e;exact h _ _ _ rfl rfl rfl)
  | (have e : o = 3 := by omega
     subst e;exact h _ _ _ rfl rfl rfl)
  | (have e : o = 4 := by omega
     subst e;exact h _ _ _ rfl rfl rfl)
  | (have e : o = 5 := by omega
     subst e;exact h _ _ _ rfl rfl rfl)
  | (refine h _ _ _ ?_ ?_ ?_
     ·unfold Zm;(repeat rw [Tf (by omega)]);rfl
     ·unfold ZM;(repeat rw [Tf (by omega)])
     ·unfold Yq;(repeat rw [Tf (by omega)]))
 ·exact h.elim
noncomputable def ZyB:Tbl:=[(147,Zcw),(148,Zeh)]
theorem ZyC {n:Nat} (ht:TblOK (GG w0 nG) ZyB):PCalls (GG w0 nG) 72 (Xy Zi8 YF wBs n):=by
 refine pc ht Tryz.func72 ?_
 intro args σ K h
 unfold Xy at h
 split at h
 ·obtain ⟨pl,s,rfl,⟨hz,hn⟩,h⟩:=h
  unfold wBs at hz
  refine ⟨Za [],0,false,by simp,Tb rfl,?_⟩
  conv=>whnf
  refine ⟨by omega,?_⟩
  conv=>whnf
  refine ZC1 (fun hc0=>?_) (fun hc0=>?_)
  rotate_left
  ·(conv=>whnf);exact h _ (by simp [YF,hc0])
  conv=>whnf
  refine ZCY (fun hc1=>?_) (fun hc1=>?_)
  rotate_left
  ·(conv=>whnf);exact h _ (by simp only [YF,hc0,hc1];decide)
  conv=>whnf
  refine fun b hb=>?_
  conv=>whnf
  exact h _ (by rw [YF,hc0,hb,decide_eq_false hc1];simp)
 ·exact h.elim
noncomputable def ZyD (n:Nat):Tbl:=[(72,Xy Zi8 YF wBs n)]
theorem ZyE {n:Nat} (ht:TblOK (GG w0 nG) (ZyD n)):PCalls (GG w0 nG) 123 (Xy (Xk (fun _=>Zt)) YY wFi n):=by
 refine pc ht Tryz.func123 ?_
 intro args σ K h
 unfold Xy at h
 split at h
 ·obtain ⟨pl,⟨a1,a2⟩,rfl,⟨hz,hn⟩,h⟩:=h
  simp only [wFi] at hz
  refine ⟨Za [],0,false,by simp,Tb rfl,?_⟩
  conv=>whnf
  refine ⟨fun _=>0,a1,rfl,⟨by simp only [wBs];omega,by omega⟩,fun b hn0=>?_⟩
  cases b with
  | false =>
   conv=>whnf
   exact h _ (by simp [YY,hn0])
  | true =>
   conv=>whnf
   refine ⟨fun _=>0,a2,rfl,⟨by simp only [wBs];omega,by omega⟩,fun b hn1=>?_⟩
   conv=>whnf
   exact h _ (by simp [YY,hn0,hn1])
 ·exact h.elim
noncomputable def ZyF (n:Nat):Tbl:=[(72,Xy Zi8 YF wBs n),(122,Wm 123 (fun _=>Zt) YY wFi n)]
theorem ZyG {n:Nat} (ht:TblOK (GG w0 nG) (ZyF n)):PCalls (GG w0 nG) 180 (Xy (Xk (fun _=>Zs)) XN wCa n):=by
 refine pc ht Tryz.func180 ?_
 intro args σ K h
 unfold Xy at h
 split at h
 ·obtain ⟨pl,⟨a1,a2⟩,rfl,⟨hz,hn⟩,h⟩:=h
  simp only [wCa] at hz
  refine ⟨Za [],0,false,by simp,Tb rfl,?_⟩
  conv=>whnf
  refine ⟨fun _=>0,a1,rfl,⟨by simp only [wBs];omega,by omega⟩,fun b hn0=>?_⟩
  cases b with
  | false =>
   conv=>whnf
   exact h _ (by simp [XN,hn0])
  | true =>
   conv=>whnf
   refine ⟨pl,a2,rfl,⟨rfl,by omega,by omega⟩,fun b ha1=>?_⟩
   conv=>whnf
   exact h _ (by simp [XN,hn0,ha1])
 ·exact h.elim
noncomputable def ZyH (n:Nat):Tbl:=[(72,Xy Zi8 YF wBs n),(122,Wm 123 (fun _=>Zt) YY wFi n)]
theorem ZyI {n:Nat} (ht:TblOK (GG w0 nG) (ZyH n)):PCalls (GG w0 nG) 121 (Xy (Xk ZG) X3 wRe n):=by
 refine pc ht Tryz.func121 ?_
 intro args σ K h
 unfold Xy at h
 split at h
 ·obtain ⟨pl,⟨a1,a2,a3,a4,a5,a6⟩,rfl,⟨hz,hn⟩,h⟩:=h
  simp only [wRe] at hz
  refine ⟨Za [],0,false,by simp,Tb rfl,?_⟩
  conv=>whnf
  refine ⟨fun _=>0,a1,rfl,⟨by simp only [wBs];omega,by omega⟩,fun b hn0=>?_⟩
  cases b with
  | false =>
   conv=>whnf
   exact h _ (by simp [X3,hn0])
  | true =>
   conv=>whnf
   refine ⟨pl,a2,rfl,⟨rfl,by omega,by omega⟩,fun b ha1=>?_⟩
   conv=>whnf
   exact h _ (by simp [X3,hn0,ha1])
 ·exact h.elim
noncomputable def ZyJ (n:Nat):Tbl:=[(72,Xy Zi8 YF wBs n),(127,Wm 72 (fun _=>Zr) YF wBs n)]
theorem ZyK {n:Nat} (ht:TblOK (GG w0 nG) (ZyJ n)):PCalls (GG w0 nG) 129 (Xy (Xk ZQ) Wd wIn n):=by
 refine pc ht Tryz.func129 ?_
 intro args σ K h
 unfold Xy at h
 split at h
 ·obtain ⟨pl,⟨a1,a2,a3,a4⟩,rfl,⟨hz,hn⟩,h⟩:=h
  simp only [wIn] at hz
  refine ⟨Za [],0,false,by simp,Tb rfl,?_⟩
  conv=>whnf
  refine ⟨fun _=>0,a1,rfl,⟨by simp only [wBs];omega,by omega⟩,fun b hn0=>?_⟩
  cases b with
  | false =>
   conv=>whnf
   exact h _ (by simp [Wd,hn0])
  | true =>
   conv=>whnf
   refine ⟨fun _=>0,a2,rfl,⟨by simp only [wBs];omega,by omega⟩,fun b hn1=>?_⟩
   cases b with
   | false =>
    conv=>whnf
    exact h _ (by simp [Wd,hn0,hn1])
   | true =>
    conv=>whnf
    refine ⟨pl,a3,rfl,⟨rfl,by omega,by omega⟩,fun b ha2=>?_⟩
    conv=>whnf
    exact h _ (by simp [Wd,hn0,hn1,ha2])
 ·exact h.elim
noncomputable def ZyL (n:Nat):Tbl:=[(72,Xy Zi8 YF wBs n)]
theorem ZyM {n:Nat} (ht:TblOK (GG w0 nG) (ZyL n)):PCalls (GG w0 nG) 131 (Xy (Xk ZN) WY wOv n):=by
 refine pc ht Tryz.func131 ?_
 intro args σ K h
 unfold Xy at h
 split at h
 ·obtain ⟨pl,⟨a1,a2⟩,rfl,⟨hz,hn⟩,h⟩:=h
  simp only [wOv] at hz
  refine ⟨Za [],0,false,by simp,Tb rfl,?_⟩
  conv=>whnf
  refine ⟨fun _=>0,a1,rfl,⟨by simp only [wBs];omega,by omega⟩,fun b hn0=>?_⟩
  conv=>whnf
  exact h _ (by simp [WY,hn0])
 ·exact h.elim
noncomputable def ZyN (n:Nat):Tbl:=[(72,Xy Zi8 YF wBs n),(74,Wm 29 Yh Z7 wE n),(108,Wm 109 Yt Xj wL n)]
theorem ZyO {n:Nat} (ht:TblOK (GG w0 nG) (ZyN n)):PCalls (GG w0 nG) 63 (Xy (Xk ZI) XF wRu n):=by
 refine pc ht Tryz.func63 ?_
 intro args σ K h
 unfold Xy at h
 split at h
 ·obtain ⟨pl,⟨a1,a2,a3,a4⟩,rfl,⟨hz,hn⟩,h⟩:=h
  simp only [wRu] at hz
  refine ⟨Za [],0,false,by simp,Tb rfl,?_⟩
  conv=>whnf
  refine ⟨fun _=>0,a1,rfl,⟨by simp only [wBs];omega,by omega⟩,fun b hn0=>?_⟩
  cases b with
  | false =>
   conv=>whnf
   exact h _ (by simp [XF,hn0])
  | true =>
   conv=>whnf
   refine ⟨pl,a2,Zf _ _,⟨rfl,by omega,by omega⟩,fun b ha1=>?_⟩
   cases b with
   | false =>
    conv=>whnf
    exact h _ (by simp [XF,hn0,ha1])
   | true =>
    conv=>whnf
    refine ⟨pl,a3,Zp _ _,⟨rfl,by omega,by omega⟩,fun b ha2=>?_⟩
    conv=>whnf
    exact h _ (by simp [XF,hn0,ha1,ha2])
 ·exact h.elim
noncomputable def ZBs (n:Nat):Tbl:=[(71,Zxl),(72,Xy Zi8 YF wBs n),(73,Za6),(74,spB (Wm 29 Yh Z7 wE) n)]
theorem ZyP {n:Nat} (ht:TblOK (GG w0 nG) (ZBs n)):PCalls (GG w0 nG) 29 (Xy (Xk Yh) Z7 wE n):=by
 refine pc ht Tryz.func29 ?_
 intro args σ K h
 unfold Xy at h
 split at h
 ·obtain ⟨pl,⟨a1,a2,a3,a4,a5⟩,rfl,⟨hz,hn⟩,h⟩:=h
  simp only [wE,VU] at hz
  refine ⟨Za [],0,false,by simp,Tb rfl,?_⟩
  have hl4:(Yi pl a4).length=a4.length:=by rw [Zf,Te]
  conv=>whnf
  refine ⟨a1,rfl,fun l w a hl hw ha=>?_⟩
  conv=>whnf
  refine ZCX (fun hop=>?_) (fun hop=>?_)
  ·have hopI:=hop
   have hop:a1=1:=by omega
   conv=>whnf
   refine ZCX (fun _=>?_) (fun hx=>absurd hopI hx)
   exact m174
  conv=>whnf
  refine ZCX (fun hop7=>?_) (fun hop7=>?_)
  ·have hop:a1=7:=by omega
   exact m174
  have hop:¬a1=1:=by omega
  have hop7:¬a1=7:=by omega
  conv=>whnf
  refine ZCX (fun hop4=>?_) (fun hop4=>?_)
  ·have hop4:a1=4:=by omega
   conv=>whnf
   refine ⟨by omega,fun hq=>?_,fun q hq=>?_⟩
   ·have htx:W6 a1 a2=false:=by simp [W6,hop4,hq]
    exact m10
   ·have htx:W6 a1 a2=true:=by simp [W6,hop4,hq]
    exact m4
  have hop4:¬a1=4:=by omega
  have htx:W6 a1 a2=decide (a2=[]):=by simp [W6,hop,hop7,hop4]
  conv=>whnf
  refine ZCX (fun h1=>?_) (fun h1=>?_)
  rotate_left
  ·exact m207
  conv=>whnf
  refine ZCX (fun h2=>?_) (fun h2=>?_)
  ·conv=>whnf
   refine ZCX (fun h3=>?_) (fun h3=>?_)
   ·conv=>whnf
    refine ZCX (fun h4=>?_) (fun h4=>?_)
    rotate_left
    ·exact m148
    rw [Sq h4] at htx
    exact m191
   conv=>whnf
   refine ZCX (fun h5=>?_) (fun h5=>?_)
   rotate_left
   ·exact m168
   have h5:a1=3:=by omega
   have hor:(decide (a3=0) || decide (a1=3))=true:=by simp [h5]
   conv=>whnf
   refine ZCX (fun h4=>?_) (fun h4=>?_)
   rotate_left
   ·exact m148
   rw [Sq h4] at htx
   exact m189
  conv=>whnf
  refine ZCX (fun h6=>?_) (fun h6=>?_)
  rotate_left
  ·exact m173
  have h6:(a4.length:Int)=a:=by rw [← hl4];exact h6
  conv=>whnf
  refine ZCX (fun h3=>?_) (fun h3=>?_)
  ·conv=>whnf
   refine ZCX (fun h4=>?_) (fun h4=>?_)
   rotate_left
   ·exact m148
   rw [Sq h4] at htx
   exact m190
  conv=>whnf
  refine ZCX (fun h5=>?_) (fun h5=>?_)
  rotate_left
  ·exact m168
  have h5:a1=3:=by omega
  have hor:(decide (a3=0) || decide (a1=3))=true:=by simp [h5]
  conv=>whnf
  refine ZCX (fun h4=>?_) (fun h4=>?_)
  rotate_left
  ·exact m148
  rw [Sq h4] at htx
  exact m188
 ·exact h.elim
noncomputable def ZBt (n:Nat):Tbl:=[(72,Xy Zi8 YF wBs n),(74,Wm 29 Yh Z7 wE n),(108,spB (Wm 109 Yt Xj wL) n)]
theorem ZyQ {n:Nat} (ht:TblOK (GG w0 nG) (ZBt n)):PCalls (GG w0 nG) 109 (Xy (Xk Yt) Xj wL n):=by
 refine pc ht Tryz.func109 ?_
 intro args σ K h
 unfold Xy at h
 split at h
 ·obtain ⟨pl,⟨a1,a2,a3,a4,a5⟩,rfl,⟨hz,hn⟩,h⟩:=h
  simp only [wL,Vu] at hz
  refine ⟨Za [],0,false,by simp,Tb rfl,?_⟩
  have hl3:(Yi pl a3).length=a3.length:=by rw [Zf,Te]
  have hl4:(Zfj pl a4).length=a4.length:=by rw [Zp,Te]
  have hbd:((0:Int)<((Zfj pl a4).length:Int))↔0<a4.length:=by rw [hl4];omega
  conv=>whnf
  refine ZCX (fun hop=>?_) (fun hop=>?_)
  ·have hopI:=hop
   have hop:a1=1:=by omega
   conv=>whnf
   refine ZCX (fun _=>?_) (fun hx=>absurd hopI hx)
   exact m158
  conv=>whnf
  refine ZCX (fun hop2=>?_) (fun hop2=>?_)
  ·have hop:a1=2:=by omega
   exact m158
  have hn12:¬(a1=1∨a1=2):=by omega
  conv=>whnf
  refine ZCX (fun hop3=>?_) (fun hop3=>?_)
  ·conv=>whnf
   refine ZCX (fun hop8=>?_) (fun hop8=>?_)
   ·have h38:3≤a1∧a1≤8:=by omega
    conv=>whnf
    refine ZCX (fun hr=>?_) (fun hr=>?_)
    rotate_left
    ·have hlb:XM a1 a2 a3.length a4.length=false:=by simp [XM,hn12,h38,hr]
     exact m40
    conv=>whnf
    refine ZCX (fun hA=>?_) (fun hA=>?_)
    rotate_left
    ·have hA:¬a3.length=2:=fun g=>hA (by show ((Yi pl a3).length:Int)=2;rw [hl3,g];rfl)
     have hlb:XM a1 a2 a3.length a4.length=false:=by simp [XM,hn12,h38,hA]
     exact m40
    have hA:a3.length=2:=by have hA:((Yi pl a3).length:Int)=2:=hA;rw [hl3] at hA;omega
    conv=>whnf
    refine ZCY (fun hB=>?_) (fun hB=>?_)
    ·have hB:¬0<a4.length:=fun g=>hB (hbd.2 g)
     have hlb:XM a1 a2 a3.length a4.length=true:=by simp only [XM,hn12,h38,hr,hA,decide_eq_false hB];simp
     exact m13
    ·have hB:=hbd.1 hB
     have hlb:XM a1 a2 a3.length a4.length=false:=by simp [XM,hn12,h38,hr,hA,hB]
     exact m40
   exact m5
  exact m5
 ·exact h.elim
end Go.PM.Lex
end

section
namespace Go.PM.Lex
open Go.Proofs
variable {w0:World} {nG:Nat}
noncomputable def ZyR (n:Nat):Tbl:=[(72,Xy Zi8 YF wBs n),(122,Wm 123 (fun _=>Zt) YY wFi n),(179,Wm 180 (fun _=>Zs) XN wCa n)]
theorem ZyS {n:Nat} (ht:TblOK (GG w0 nG) (ZyR n)):PCalls (GG w0 nG) 119 (Xy (Xk Zx) YH wTy n):=by
 refine pc ht Tryz.func119 ?_
 intro args σ K h
 unfold Xy at h
 split at h
 ·obtain ⟨pl,⟨a1,a2,a3,a4,a5,a6⟩,rfl,⟨hz,hn⟩,h⟩:=h
  simp only [wTy] at hz
  refine ⟨Za [],0,false,by simp,Tb rfl,?_⟩
  have hl4:(a4.map Zt).length=a4.length:=Te ..
  have hl5:(a5.map Zs).length=a5.length:=Te ..
  have hz4:(((a4.map Zt).length:Int)=0)↔a4.length=0:=by rw [hl4];omega
  have hz5:(((a5.map Zs).length:Int)=0)↔a5.length=0:=by rw [hl5];omega
  conv=>whnf
  refine ZCX (fun hk=>?_) (fun hk=>?_)
  ·(try dsimp only at hk)
   have hk:a1=1:=by omega
   conv=>whnf
   refine ⟨fun _=>0,a3,rfl,⟨by simp only [wBs];omega,by omega⟩,fun b hb0=>?_⟩
   cases b with
   | false =>
    conv=>whnf
    have htb:Zc9 (⟨a1,a2,a3,a4,a5,a6⟩:Ty)=false:=by simp [Zc9,hk,hb0]
    exact m79
   | true =>
    conv=>whnf
    refine ZCX (fun h4=>?_) (fun h4=>?_)
    ·have h4:=hz4.1 h4
     conv=>whnf
     refine ZCX (fun h5=>?_) (fun h5=>?_)
     ·have h5:=hz5.1 h5
      have htb:Zc9 (⟨a1,a2,a3,a4,a5,a6⟩:Ty)=true:=by simp [Zc9,hk,hb0,h4,h5]
      exact m28
     ·have h5:¬a5.length=0:=fun g=>h5 (hz5.2 g)
      have htb:Zc9 (⟨a1,a2,a3,a4,a5,a6⟩:Ty)=false:=by simp [Zc9,hk,hb0,h4,h5]
      exact m79
    ·have h4:¬a4.length=0:=fun g=>h4 (hz4.2 g)
     have htb:Zc9 (⟨a1,a2,a3,a4,a5,a6⟩:Ty)=false:=by simp [Zc9,hk,hb0,h4]
     exact m79
  conv=>whnf
  refine ZCX (fun hk2=>?_) (fun hk2=>?_)
  ·(try dsimp only at hk2)
   have hk2:a1=2:=by omega
   conv=>whnf
   refine ZCX (fun hb0=>?_) (fun hb0=>?_)
   rotate_left
   ·have htb:Zc9 (⟨a1,a2,a3,a4,a5,a6⟩:Ty)=false:=by simp [Zc9,hk2,hb0]
    exact m79
   (try dsimp only at hb0)
   conv=>whnf
   refine ZCX (fun h5=>?_) (fun h5=>?_)
   ·have h5:=hz5.1 h5
    have htb:Zc9 (⟨a1,a2,a3,a4,a5,a6⟩:Ty)=true:=by simp [Zc9,hk2,hb0,h5]
    exact m28
   ·have h5:¬a5.length=0:=fun g=>h5 (hz5.2 g)
    have htb:Zc9 (⟨a1,a2,a3,a4,a5,a6⟩:Ty)=false:=by simp [Zc9,hk2,hb0,h5]
    exact m79
  conv=>whnf
  refine ZCX (fun hk3=>?_) (fun hk3=>?_)
  ·(try dsimp only at hk3)
   have hk3:a1=3:=by omega
   conv=>whnf
   refine ZCX (fun hb0=>?_) (fun hb0=>?_)
   rotate_left
   ·have htb:Zc9 (⟨a1,a2,a3,a4,a5,a6⟩:Ty)=false:=by simp [Zc9,hk3,hb0]
    exact m79
   (try dsimp only at hb0)
   conv=>whnf
   refine ZCX (fun h4=>?_) (fun h4=>?_)
   ·have h4:=hz4.1 h4
    conv=>whnf
    refine ZCY (fun h5=>?_) (fun h5=>?_)
    ·have h5:¬a5.length=0:=fun g=>h5 (hz5.2 g)
     have htb:Zc9 (⟨a1,a2,a3,a4,a5,a6⟩:Ty)=true:=by simp [Zc9,hk3,hb0,h4,h5]
     exact m28
    ·have h5:=hz5.1 h5
     have htb:Zc9 (⟨a1,a2,a3,a4,a5,a6⟩:Ty)=false:=by simp [Zc9,hk3,hb0,h4,h5]
     exact m79
   ·have h4:¬a4.length=0:=fun g=>h4 (hz4.2 g)
    have htb:Zc9 (⟨a1,a2,a3,a4,a5,a6⟩:Ty)=false:=by simp [Zc9,hk3,hb0,h4]
    exact m79
  (try dsimp only at hk hk2 hk3)
  have hk:¬a1=1:=by omega
  have hk2:¬a1=2:=by omega
  have hk3:¬a1=3:=by omega
  have htb:Zc9 (⟨a1,a2,a3,a4,a5,a6⟩:Ty)=false:=by simp [Zc9,hk,hk2,hk3]
  exact m79
 ·exact h.elim
noncomputable def ZyT (n:Nat):Tbl:=[(72,Xy Zi8 YF wBs n),(127,Wm 72 (fun _=>Zr) YF wBs n),(67,Xy (Xk Yf) Zbh wUn n)]
theorem ZyU {n:Nat} (ht:TblOK (GG w0 nG) (ZyT n)):PCalls (GG w0 nG) 126 (Xy (Xk ZW) Yr wCo n):=by
 refine pc ht Tryz.func126 ?_
 intro args σ K h
 unfold Xy at h
 split at h
 ·obtain ⟨pl,⟨a1,a2,a3,a4,⟨u1,u2,u3,u4,u5,u6⟩,a6⟩,rfl,⟨hz,hn⟩,h⟩:=h
  simp only [wCo] at hz
  refine ⟨Za [],0,false,by simp,Tb rfl,?_⟩
  have hl4:(a4.map Zr).length=a4.length:=Te ..
  have hz4:(((a4.map Zr).length:Int)=0)↔a4.length=0:=by rw [hl4];omega
  conv=>whnf
  refine ZCX (fun hb=>?_) (fun hb=>?_)
  ·conv=>whnf
   refine ZCX (fun h4=>?_) (fun h4=>?_)
   ·have h4:=hz4.1 h4
    have hbs:((decide (a3=[]) && decide (a4.length=0)) || YF a3)=true:=by simp [hb,h4]
    exact m20
   ·have h4:¬a4.length=0:=fun g=>h4 (hz4.2 g)
    conv=>whnf
    refine ⟨fun _=>0,a3,rfl,⟨by simp only [wBs];omega,by omega⟩,fun b hb0=>?_⟩
    cases b with
    | false =>
     have hbs:((decide (a3=[]) && decide (a4.length=0)) || YF a3)=false:=by simp [h4,hb0]
     exact m41
    | true =>
     have hbs:((decide (a3=[]) && decide (a4.length=0)) || YF a3)=true:=by simp [h4,hb0]
     exact m20
  conv=>whnf
  refine ⟨fun _=>0,a3,rfl,⟨by simp only [wBs];omega,by omega⟩,fun b hb0=>?_⟩
  cases b with
  | false =>
   have hbs:((decide (a3=[]) && decide (a4.length=0)) || YF a3)=false:=by simp [hb,hb0]
   exact m41
  | true =>
   have hbs:((decide (a3=[]) && decide (a4.length=0)) || YF a3)=true:=by simp [hb,hb0]
   exact m20
 ·exact h.elim
noncomputable def ZyV (n:Nat):Tbl:=[(118,Wm 119 Zx YH wTy n),(120,Wm 121 ZG X3 wRe n),(124,Wm 63 ZI XF wRu n),(125,spB (Wm 126 ZW Yr wCo) n),(128,Wm 129 ZQ Wd wIn n),(130,Wm 131 ZN WY wOv n)]
theorem ZsX {n:Nat} (ht:TblOK (GG w0 nG) (ZyV n)):PCalls (GG w0 nG) 67 (Xy (Xk Yf) Zbh wUn n):=by
 refine pc ht Tryz.func67 ?_
 intro args σ K h
 unfold Xy at h
 split at h
 ·obtain ⟨pl,⟨a1,a2,a3,a4,a5,a6⟩,rfl,⟨hz,hn⟩,h⟩:=h
  simp only [wUn,We] at hz
  refine ⟨Za [],0,false,by simp,Tb rfl,?_⟩
  conv=>whnf
  refine ⟨pl,a1,rfl,⟨rfl,by omega,by omega⟩,fun b ha0=>?_⟩
  cases b with
  | false =>
   conv=>whnf
   exact h _ (by simp [Zbh,Vt,ha0])
  | true =>
   conv=>whnf
   refine ⟨pl,a2,rfl,⟨rfl,by omega,by omega⟩,fun b ha1=>?_⟩
   cases b with
   | false =>
    conv=>whnf
    exact h _ (by simp [Zbh,Vt,ha0,ha1])
   | true =>
    conv=>whnf
    refine ⟨pl,a3,rfl,⟨rfl,by omega,by omega⟩,fun b ha2=>?_⟩
    cases b with
    | false =>
     conv=>whnf
     exact h _ (by simp [Zbh,Vt,ha0,ha1,ha2])
    | true =>
     conv=>whnf
     refine ⟨by omega,pl,a4,ZH _ _,⟨rfl,by omega,by omega⟩,fun b ha3=>?_⟩
     cases b with
     | false =>
      conv=>whnf
      exact h _ (by simp [Zbh,Vt,ha0,ha1,ha2,ha3])
     | true =>
      conv=>whnf
      refine ⟨pl,a5,rfl,⟨rfl,by omega,by omega⟩,fun b ha4=>?_⟩
      cases b with
      | false =>
       conv=>whnf
       exact h _ (by simp [Zbh,Vt,ha0,ha1,ha2,ha3,ha4])
      | true =>
       conv=>whnf
       refine ⟨pl,a6,rfl,⟨rfl,by omega,by omega⟩,fun b ha5=>?_⟩
       conv=>whnf
       exact h _ (by simp [Zbh,Vt,ha0,ha1,ha2,ha3,ha4,ha5])
 ·exact h.elim
structure LexC (w0:World) (nG:Nat):Prop where
 name:PCalls (GG w0 nG) 147 Zcw
 quote:PCalls (GG w0 nG) 73 Za6
variable (hL:LexC w0 nG)
include hL
theorem Zm1 (n:Nat):PCalls (GG w0 nG) 72 (Xy Zi8 YF wBs n):=ZyC ⟨⟨hL.name,Ziw⟩,⟨ZjQ,ZaZ⟩,trivial⟩
theorem cHE:∀n,PCalls (GG w0 nG) 29 (Xy (Xk Yh) Z7 wE n)
 | 0=>ZyP ⟨⟨ZrH,ZbN⟩,⟨Zm1 hL _,ZC _ _ _ _⟩,⟨hL.quote,VS⟩,⟨ZK (Zh Tryz.func74 (by kernel_rfl) rfl),Zy (ZD _ _ _ _) _⟩,trivial⟩
 | n+1=>ZyP ⟨⟨ZrH,ZbN⟩,⟨Zm1 hL _,ZC _ _ _ _⟩,⟨hL.quote,VS⟩,⟨ZL (sp:=Wm 29 Yh Z7 wE) (ZAM (cHE n)),Zy (ZD _ _ _ _) _⟩,trivial⟩
theorem cHL:∀n,PCalls (GG w0 nG) 109 (Xy (Xk Yt) Xj wL n)
 | 0=>ZyQ ⟨⟨Zm1 hL _,ZC _ _ _ _⟩,⟨ZAM (cHE hL 0),ZD _ _ _ _ _⟩,⟨ZK (Zh Tryz.func108 (by kernel_rfl) rfl),Zy (ZD _ _ _ _) _⟩,trivial⟩
 | n+1=>ZyQ ⟨⟨Zm1 hL _,ZC _ _ _ _⟩,⟨ZAM (cHE hL _),ZD _ _ _ _ _⟩,⟨ZL (sp:=Wm 109 Yt Xj wL) (ZB9 (cHL n)),Zy (ZD _ _ _ _) _⟩,trivial⟩
theorem ZCa (n:Nat):PCalls (GG w0 nG) 63 (Xy (Xk ZI) XF wRu n):=ZyO ⟨⟨Zm1 hL _,ZC _ _ _ _⟩,⟨ZAM (cHE hL _),ZD _ _ _ _ _⟩,⟨ZB9 (cHL hL _),ZD _ _ _ _ _⟩,trivial⟩
theorem ZBu (n:Nat):PCalls (GG w0 nG) 122 (Wm 123 (fun _=>Zt) YY wFi n):=ZBo (ZyE ⟨⟨Zm1 hL _,ZC _ _ _ _⟩,trivial⟩)
theorem ZCb (n:Nat):PCalls (GG w0 nG) 119 (Xy (Xk Zx) YH wTy n):=ZyS ⟨⟨Zm1 hL _,ZC _ _ _ _⟩,⟨ZBu hL n,ZD _ _ _ _ _⟩,⟨ZBp (ZyG ⟨⟨Zm1 hL _,ZC _ _ _ _⟩,⟨ZBu hL n,ZD _ _ _ _ _⟩,trivial⟩),ZD _ _ _ _ _⟩,trivial⟩
theorem ZCc (n:Nat):PCalls (GG w0 nG) 121 (Xy (Xk ZG) X3 wRe n):=ZyI ⟨⟨Zm1 hL _,ZC _ _ _ _⟩,⟨ZBu hL n,ZD _ _ _ _ _⟩,trivial⟩
theorem ZCd (n:Nat):PCalls (GG w0 nG) 127 (Wm 72 (fun _=>Zr) YF wBs n):=ZBr (Zm1 hL n)
theorem ZCe (n:Nat):PCalls (GG w0 nG) 129 (Xy (Xk ZQ) Wd wIn n):=ZyK ⟨⟨Zm1 hL _,ZC _ _ _ _⟩,⟨ZCd hL n,ZD _ _ _ _ _⟩,trivial⟩
theorem ZCf (n:Nat):PCalls (GG w0 nG) 131 (Xy (Xk ZN) WY wOv n):=ZyM ⟨⟨Zm1 hL _,ZC _ _ _ _⟩,trivial⟩
theorem ZCg:∀n,PCalls (GG w0 nG) 67 (Xy (Xk Yf) Zbh wUn n)
 | 0=>ZsX ⟨⟨Zyx (ZCb hL _),ZD _ _ _ _ _⟩,⟨Zyy (ZCc hL _),ZD _ _ _ _ _⟩,⟨Zyw (ZCa hL _),ZD _ _ _ _ _⟩,⟨ZK (Zh Tryz.func125 (by kernel_rfl) rfl),Zy (ZD _ _ _ _) _⟩,⟨Zyz (ZCe hL _),ZD _ _ _ _ _⟩,⟨ZyA (ZCf hL _),ZD _ _ _ _ _⟩,trivial⟩
 | n+1=>ZsX ⟨⟨Zyx (ZCb hL _),ZD _ _ _ _ _⟩,⟨Zyy (ZCc hL _),ZD _ _ _ _ _⟩,⟨Zyw (ZCa hL _),ZD _ _ _ _ _⟩,⟨ZL (sp:=Wm 126 ZW Yr wCo) (ZBq (ZyU ⟨⟨Zm1 hL _,ZC _ _ _ _⟩,⟨ZCd hL _,ZD _ _ _ _ _⟩,⟨ZCg n,ZC _ _ _ _⟩,trivial⟩)),Zy (ZD _ _ _ _) _⟩,⟨Zyz (ZCe hL _),ZD _ _ _ _ _⟩,⟨ZyA (ZCf hL _),ZD _ _ _ _ _⟩,trivial⟩
end Go.PM.Lex
end

section
namespace Go.PM.Lex
open Go.Proofs Go.Shelf Go.RowKit
variable {w0:World} {nG:Nat}
theorem ZBv:liesAt Tryz.prog Tryz.prog.depth 84 (2 / Tryz.prog.cellsOf 84) 0 82 1=true:=by kernel_rfl
theorem Zkc (b:Nat) (w:World) (h0:w.cell? ⟨b,0,none⟩=some (.pointer none)) (hsh:w.shape? b=some (84,2)) (hfz:w.frozen? ⟨b,0,none⟩=false) :
  Calls Tryz.prog 214 #[.pointer (some ⟨b,0,none⟩)] w fun e w'=>e=.returned (.tuple #[])∧w'=w.setCell ⟨b,0,none⟩ (.pointer (some ⟨b,0,none⟩)):=by
 obtain ⟨j,hj,hjs⟩:=i53
 go_enter Tryz.func214,Tryz.ntmps214
 go_wp2
 rw [Go.Lib.run_to_unsafe w ⟨b,0,none⟩ u50 u95 hj (by rw [hjs];decide) hsh (Nat.zero_lt_succ 1)]
 simp only [Result.andThen]
 rw [Oper.upon_value]
 go_wp2
 rw [run_callFunc_extern Tryz.func269 (by kernel_rfl) (by kernel_rfl) (by kernel_rfl) (e:=Extern.AbiNoEscape.same) (by kernel_rfl)]
 rw [Go.Lib.run_noEscape]
 simp only [Result.andThen]
 rw [Oper.upon_value]
 go_wp2
 rw [Go.Lib.run_from_unsafe w ⟨b,0,none⟩ u95 u50 hj hsh ZBv]
 simp only [Result.andThen]
 rw [Oper.upon_value]
 go_wp2
 go_end0
 exact ⟨rfl,rfl⟩
noncomputable def WR:ZA:=fun args σ K=>match args,σ with
 | [.ptr 0 0],⟨[.cells t [p,q]],tk,nx⟩=>((p=.d .nilp∨p=.ptr 0 0)∧t=84)∧K (.ret (.tuple [])) ⟨[.cells t [.ptr 0 0,q]],tk,nx⟩
 | _,_=>False
theorem Zcx:Zc WR:=fun args σ K K' hK h=>by
 unfold WR at h ⊢;split at h <;> first | exact ⟨h.1,hK _ _ h.2⟩ | exact h.elim
theorem ZgL:PCalls (GG w0 nG) 214 WR:=UT (Zh Tryz.func214 (by kernel_rfl) rfl) fun args σ K h e w vs hS ha=>by
 unfold WR at h
 split at h
 ·rename_i t p q tk nx
  obtain ⟨⟨hp,rfl⟩,hK⟩:=h
  obtain ⟨u,rfl,hu⟩:=ZhM ha
  obtain ⟨cv,hc1,hc2,hc3⟩:=hS.box 0 _ rfl
  have hcs:cv.size=2:=hc2
  obtain ⟨x0,hx0⟩:∃x,cv[0]?=some x:=⟨cv[0]'(by omega),by simp [hcs]⟩
  have hr0:=(hc3 0 p x0 rfl hx0).1
  cases hu with
  | ptr b off hb =>
  refine ⟨_,_,.tuple #[],hK,?_⟩
  rcases hp with rfl | rfl
  ·cases hr0 with
   | d _ _ hd =>
   cases hd
   refine Calls.mono (Zkc (e.β 0) w ?_ ?_ ?_) fun en w' ⟨h1,h2⟩=>?_
   ·simp [World.cell?,hc1,hx0]
   ·simp only [World.shape?,hc1,hcs]
   ·simp [World.frozen?,hc1]
   ·have hst:=Zd9 (G:=GG w0 nG) (T:=ZjB) XG hS (t:=79) (b:=0) (off:=0) (x:=.ptr 0 0) (v:=.pointer (some ⟨e.β 0,0,none⟩)) (l:=[.ptr 0 0]) (cs:=[.d .nilp,q]) (ty:=84) rfl (.ptr 0 0 hb) rfl rfl (by simp) (by intro h;cases h)
    rw [h2]
    exact ⟨h1,.tuple [] #[] rfl (fun i x u hx=>by simp at hx),hst.2,hst.1.toLater⟩
  ·exact m88
 ·exact h.elim
theorem Zm3 {ty:TypeId} {P:Program} {ρ:Ren} (L:Lays.n169 P ρ) (X:Builder.Extra P ρ) (b g cap:Nat) (p:Value) (cur:Array Value) (fz:Nat×Nat) (l:Bs) (w:World) (h0:l≠[])
  (hbk:w.heap[b]?=some (.cells #[p,.slice (some ⟨g,0,none⟩) l.length cap] ty (0,0))) (hg:w.heap[g]?=some (.cells cur (ρ.t 5) fz)) (hn:l.length≤cur.size) (hcap:cap≠0) (hbig:l.length≤9223372036854775807)
  (hcell:∀j x,l[j]?=some x→w.cell? ⟨g,j,none⟩=some (.int .u8 x.toNat)) :
  Calls P (ρ.f 169) #[.pointer (some ⟨b,0,none⟩)] w fun e w'=>e=.returned (.string ⟨l.toArray⟩)∧w'=w.drew.freeze ⟨g,0,none⟩ l.length:=by
 have c1:w.drew.cell? ⟨b,1,none⟩=some (.slice (some ⟨g,0,none⟩) l.length cap):=by
  have:w.drew.heap[b]?=some (.cells #[p,.slice (some ⟨g,0,none⟩) l.length cap] ty (0,0)):=hbk
  rw [Go.Lib.cell_of_heap this];rfl
 have hSD:(Builtin.unsafeSliceData_ #[(ρ.t 37)] (ρ.t 127) #[.slice (some ⟨g,0,none⟩) l.length cap]).run P w.drew=.ok (.pointer (some ⟨g,0,none⟩)) w.drew :=
  Go.Lib.run_unsafeSliceData_row _ _ _ _ _ _ hcap
 have hUS:(Builtin.unsafeString_ #[(ρ.t 127),(ρ.t 3)] (ρ.t 9) #[.pointer (some ⟨g,0,none⟩),.int .i64 l.length]).run P w.drew=.ok (.string ⟨l.toArray⟩) (w.drew.freeze ⟨g,0,none⟩ l.length):=by
  exact m77
 have mixed:=L.mixed
 have t72:=L.t72;have a72:=L.a72;have z72:=L.z72;have v72:=L.v72;have u72:=run_underlying L.t72
 have t70:=L.t70;have a70:=L.a70;have z70:=L.z70;have v70:=L.v70;have u70:=run_underlying L.t70
 have t37:=L.t37;have a37:=L.a37;have z37:=L.z37;have v37:=L.v37;have u37:=run_underlying L.t37
 have t127:=L.t127;have a127:=L.a127;have z127:=L.z127;have v127:=L.v127;have u127:=run_underlying L.t127
 have t3:=L.t3;have a3:=L.a3;have z3:=L.z3;have v3:=L.v3;have u3:=run_underlying L.t3
 have t9:=L.t9;have a9:=L.a9;have z9:=L.z9;have v9:=L.v9;have u9:=run_underlying L.t9
 have t5:=X.t5;have a5:=X.a5;have z5:=X.z5;have v5:=X.v5;have u5:=run_underlying X.t5
 go_enter L.f169,Body.n169_ntmps ρ
 go_wp2
 go_region_o
 all_goals (go_wp2;go_ret;exact ⟨rfl,rfl⟩)
theorem ZrJ {ty:TypeId} {P:Program} {ρ:Ren} (L:Lays.n169 P ρ) (X:Builder.Extra P ρ) (B b:Nat) (p:Value) (w:World) (hbk:w.heap[b]?=some (.cells #[p,.slice none 0 0] ty (0,0))) :
  Calls P (ρ.f 169) #[.pointer (some ⟨b,0,none⟩)] w fun e w'=>e=.returned (.string ⟨#[]⟩)∧Below B w w':=by
 have hUS:=Any.unsafeString_none L X
 have c1:w.drew.cell? ⟨b,1,none⟩=some (.slice none 0 0):=by
  have:w.drew.heap[b]?=some (.cells #[p,.slice none 0 0] ty (0,0)):=hbk
  rw [Lib.cell_of_heap this];rfl
 have hSD:(Builtin.unsafeSliceData_ #[(ρ.t 37)] (ρ.t 127) #[.slice none 0 0]).run P w.drew=.ok (.pointer none) w.drew:=rfl
 have mixed:=L.mixed
 have t72:=L.t72;have a72:=L.a72;have z72:=L.z72;have v72:=L.v72;have u72:=run_underlying L.t72
 have t70:=L.t70;have a70:=L.a70;have z70:=L.z70;have v70:=L.v70;have u70:=run_underlying L.t70
 have t37:=L.t37;have a37:=L.a37;have z37:=L.z37;have v37:=L.v37;have u37:=run_underlying L.t37
 have t127:=L.t127;have a127:=L.a127;have z127:=L.z127;have v127:=L.v127;have u127:=run_underlying L.t127
 have t3:=L.t3;have a3:=L.a3;have z3:=L.z3;have v3:=L.v3;have u3:=run_underlying L.t3
 have t9:=L.t9;have a9:=L.a9;have z9:=L.z9;have v9:=L.v9;have u9:=run_underlying L.t9
 have t5:=X.t5;have a5:=X.a5;have z5:=X.z5;have v5:=X.v5;have u5:=run_underlying X.t5
 go_enter L.f169,Body.n169_ntmps ρ
 go_wp2
 go_region_o
 all_goals (go_wp2;go_ret;exact ⟨rfl,Below.drew (Below.refl B w)⟩)
theorem Zpl {ty:TypeId} {P:Program} {ρ:Ren} (L:Lays.n169 P ρ) (X:Builder.Extra P ρ) (B b g cap:Nat) (p:Value) (w:World) (hc0:cap≠0) (hbk:w.heap[b]?=some (.cells #[p,.slice (some ⟨g,0,none⟩) 0 cap] ty (0,0))) :
  Calls P (ρ.f 169) #[.pointer (some ⟨b,0,none⟩)] w fun e w'=>e=.returned (.string ⟨#[]⟩)∧Below B w w':=by
 have hUS:=Any.unsafeString_none L X
 have c1:w.drew.cell? ⟨b,1,none⟩=some (.slice (some ⟨g,0,none⟩) 0 cap):=by
  have:w.drew.heap[b]?=some (.cells #[p,.slice (some ⟨g,0,none⟩) 0 cap] ty (0,0)):=hbk
  rw [Lib.cell_of_heap this];rfl
 have hSD:(Builtin.unsafeSliceData_ #[(ρ.t 37)] (ρ.t 127) #[.slice (some ⟨g,0,none⟩) 0 cap]).run P w.drew=.ok (.pointer (some ⟨g,0,none⟩)) w.drew:=Go.Lib.run_unsafeSliceData_row _ _ _ _ _ _ hc0
 clear hc0
 have mixed:=L.mixed
 have t72:=L.t72;have a72:=L.a72;have z72:=L.z72;have v72:=L.v72;have u72:=run_underlying L.t72
 have t70:=L.t70;have a70:=L.a70;have z70:=L.z70;have v70:=L.v70;have u70:=run_underlying L.t70
 have t37:=L.t37;have a37:=L.a37;have z37:=L.z37;have v37:=L.v37;have u37:=run_underlying L.t37
 have t127:=L.t127;have a127:=L.a127;have z127:=L.z127;have v127:=L.v127;have u127:=run_underlying L.t127
 have t3:=L.t3;have a3:=L.a3;have z3:=L.z3;have v3:=L.v3;have u3:=run_underlying L.t3
 have t9:=L.t9;have a9:=L.a9;have z9:=L.z9;have v9:=L.v9;have u9:=run_underlying L.t9
 have t5:=X.t5;have a5:=X.a5;have z5:=X.z5;have v5:=X.v5;have u5:=run_underlying X.t5
 go_enter L.f169,Body.n169_ntmps ρ
 go_wp2
 go_region_o
 all_goals (go_wp2;go_ret;exact ⟨rfl,Below.drew (Below.refl B w)⟩)
end Go.PM.Lex
end

section
namespace Go.PM.Lex
open Go.Proofs
variable {w0:World} {nG:Nat}
noncomputable def Zi9 (r:PV) (body:List PV→Bs→Prop):ZA:=fun args σ K=>match args,σ with
 | .ptr 0 0::rest,⟨[.cells t [p,.sl 0 e rows]],[0],1⟩=>∃l txt,rows=Zl l∧((p=.d .nilp∨p=.ptr 0 0)∧t=84∧e=5)∧body rest txt∧l.length+txt.length<70368744177664 ∧
   K (.ret r) ⟨[.cells t [.ptr 0 0,.sl 0 e (Zl (l++txt))]],[0],1⟩
 | _,_=>False
theorem Vw (r:PV) (body:List PV→Bs→Prop):Zc (Zi9 r body):=fun args σ K K' hK h=>by
 unfold Zi9 at h ⊢
 split at h
 ·obtain ⟨l,txt,h1,h2,h3,h4,h5⟩:=h;exact ⟨l,txt,h1,h2,h3,h4,hK _ _ h5⟩
 ·exact h.elim
noncomputable def ZeG {α:Type} (val:Pl→α→PV) (may:α→Bool) (txt:α→Bs) (w:α→Nat) (n:Nat):ZA:=fun args σ K=>match args,σ with
 | [v,.ptr 0 0],⟨[.cells tp [.ptr 1 0],.cells t [.ptr 1 0,.sl 0 e rows]],[0],1⟩=>∃l pl x,rows=Zl l∧v=val pl x∧(t=84∧e=5)∧(may x=true∧w x≤n∧n≤1073741824)∧l.length+(txt x).length<70368744177664 ∧
   K (.ret (.tuple [])) ⟨[.cells tp [.ptr 1 0],.cells t [.ptr 1 0,.sl 0 e (Zl (l++txt x))]],[0],1⟩
 | _,_=>False
theorem Zcy {α:Type} (val:Pl→α→PV) (may:α→Bool) (txt:α→Bs) (w:α→Nat) (n:Nat):Zc (ZeG val may txt w n):=fun args σ K K' hK h=>by
 unfold ZeG at h ⊢
 exact m91
noncomputable def Zm4 {α:Type} (g0:FuncId) (enc:Pl→α→List D) (may:α→Bool) (txt:α→Bs) (w:α→Nat) (n:Nat):ZA:=fun args σ K=>match args,σ with
 | [.ptr 0 0,.d (.sl r),.d (.str bt),.func g [] [.ptr 1 0]],⟨[.cells t [.ptr 0 0,.sl 0 e rows],.cells tp [.ptr 0 0]],[0],1⟩=>∃l pl xs,rows=Zl l∧r=xs.map (enc pl)∧(t=84∧e=5∧g=g0)∧(xs.all may=true∧szS w xs≤n∧n≤1073741824)∧l.length+(Zg bt (xs.map txt)).length<70368744177664 ∧
   K (.ret (.tuple [])) ⟨[.cells t [.ptr 0 0,.sl 0 e (Zl (l++Zg bt (xs.map txt)))],.cells tp [.ptr 0 0]],[0],1⟩
 | _,_=>False
theorem ZbO {α:Type} (g0:FuncId) (enc:Pl→α→List D) (may:α→Bool) (txt:α→Bs) (w:α→Nat) (n:Nat):Zc (Zm4 g0 enc may txt w n):=fun args σ K K' hK h=>by
 unfold Zm4 at h ⊢
 exact m91
noncomputable def ZCh (s:Bs):ZA:=Zi9 (.tuple [.d (.int .i64 s.length),.d .nili]) fun rest txt=>rest=[.d (.str s)]∧txt=s
noncomputable def ZgM:ZA:=fun args σ K=>match args with
 | [.ptr 0 0,.d (.str s)]=>ZCh s args σ K
 | _=>False
theorem Uw:Zc ZgM:=fun args σ K K' hK h=>by
 unfold ZgM at h ⊢
 split at h
 ·exact Vw _ _ _ _ _ _ hK h
 ·exact h.elim
noncomputable def ZyY:Tbl:=[(214,WR)]
theorem Zpm:PCalls (GG w0 nG) 155 ZgM:=by
 refine pc (tbl:=ZyY) ⟨⟨ZgL,Zcx⟩,trivial⟩ Tryz.func155 ?_
 intro args σ K h
 unfold ZgM at h
 split at h
 ·rename_i s
  unfold ZCh Zi9 at h
  split at h
  ·rename_i rest t p e rows hargs
   obtain ⟨l,txt,rfl,⟨hp,rfl,rfl⟩,⟨hrest,rfl⟩,hlen,h⟩:=h
   simp only [List.cons.injEq,true_and] at hargs
   have hb:∀x:Bs,(Zl x).length=x.length:=fun x=>by simp [Zl]
   rw [Up] at h
   refine ⟨Za [],1,true,by simp,Tb rfl,?_⟩
   rcases hp with rfl | rfl
   all_goals
    conv=>whnf
    first | refine ⟨⟨.inl rfl,rfl⟩,?_⟩ | refine ⟨⟨.inr rfl,rfl⟩,?_⟩
    conv=>whnf
    refine ⟨fun r hr=>?_,?_,?_,?_⟩
    ·obtain ⟨b,_,rfl⟩:=Sd.1 hr;rfl
    ·show ((Zl l).length+(Zl txt).length) * 1≤2 ^ 47;rw [hb,hb];omega
    ·show (Zl l).length+(Zl txt).length≤2 ^ 47;rw [hb,hb];omega
    ·exact m35
  ·exact h.elim
 ·exact h.elim
noncomputable def Zfp:ZA:=Zi9 (.tuple []) fun rest txt=>∃ps:List Bs,rest=[.d (.sl (ps.map Zr))]∧ps≠[]∧ps.length≤1073741824∧txt=ps.flatten
theorem Xc:Zc Zfp:=Vw _ _
noncomputable def Zpn:Tbl:=[(155,ZgM)]
theorem Ziz:TblOK (GG w0 nG) Zpn:=⟨⟨Zpm,Uw⟩,trivial⟩
theorem ZaA:PCalls (GG w0 nG) 75 Zfp:=by
 refine ZhI XG mixed (tbl:=Zpn) Ziz Tryz.func75 rfl (by kernel_rfl) (by kernel_rfl) ?_
 intro args σ K h
 unfold Zfp Zi9 at h
 split at h
 ·rename_i rest t p e rows
  obtain ⟨l,txt,rfl,⟨hp,rfl,rfl⟩,⟨ps,rfl,hne,hpl,rfl⟩,hlen,h⟩:=h
  have hl1:(ps.map Zr).length=ps.length:=Te ..
  refine ⟨Za [(1,⟨[8],[0,6,7],fun vs σ=>∃(i:Nat) (P:PV),vs=[.d (.int .i64 i)]∧σ=⟨[.cells 84 [P,.sl 0 5 (Zl (l++(ps.take i).flatten))]],[0],1⟩∧(P=.d .nilp∨P=.ptr 0 0)∧(0<i→P=.ptr 0 0)∧i≤ps.length,fun vs _=>match vs with | [.d (.int _ i)]=>((ps.length:Int) - i).toNat | _=>0⟩)],1,true,by simp,Tb rfl,?_⟩
  rcases hp with rfl | rfl
  all_goals
   conv=>whnf
   refine ⟨⟨0,_,rfl,(by simp only [T6,Sl,TC];rfl),(by first | exact .inl rfl | exact .inr rfl),fun g=>absurd g (by omega),by omega⟩,?_⟩
   intro vs σ hI
   obtain ⟨i,P,rfl,rfl,hP,hP0,hi⟩:=hI
   conv=>whnf
   refine ZCX (fun hi2=>?_) (fun hi2=>?_)
   ·have hi2:i<ps.length:=by have hi2:(i:Int)<(ps.map Zr).length:=hi2;rw [hl1] at hi2;omega
    obtain ⟨s,hs⟩:∃s,ps[i]=s:=⟨_,rfl⟩
    have hr1:(ps.map Zr)[((i:Nat):Int).toNat]?=some (Zr s):=by simp [hi2,hs]
    have htk:(ps.take (i+1)).flatten=(ps.take i).flatten++s:=by rw [List.take_succ_eq_append_getElem hi2,List.flatten_append,hs];simp
    have hle:(ps.take (i+1)).flatten.length≤ps.flatten.length:=by
     have e:ps.flatten=(ps.take (i+1)).flatten++(ps.drop (i+1)).flatten:=by rw [← List.flatten_append,Sw]
     rw [e,Ta];omega
    rw [htk,Ta] at hle
    rcases hP with rfl | rfl
    all_goals
     conv=>whnf
     refine ⟨_,by omega,hr1,?_⟩
     conv=>whnf
     refine ⟨l++(ps.take i).flatten,s,rfl,⟨(by first | exact .inl rfl | exact .inr rfl),rfl,rfl⟩,⟨rfl,rfl⟩,by rw [Ta];omega,?_⟩
     conv=>whnf
     refine oiO ?_
     conv=>whnf
     refine ⟨⟨i+1,_,rfl,(by rw [htk,Tg];rfl),.inr rfl,fun _=>rfl,by omega⟩,?_⟩
     show ((ps.length:Int) - ((i:Int)+1)).toNat<((ps.length:Int) - (i:Int)).toNat
     omega
   ·have hi2:i=ps.length:=by have hi2:¬(i:Int)<(ps.map Zr).length:=hi2;rw [hl1] at hi2;omega
    subst hi2
    obtain rfl:=hP0 (T8.2 hne)
    rw [Sc]
    exact m35
 ·exact h.elim
theorem ZeH (bt:Bs):∀(l:List Bs) (x:Bs),Zg bt (l++[x])=if l=[] then x else Zg bt l++(bt++x)
 | [],x=>rfl
 | [y],x=>by simp [Zg]
 | y::z::l,x=>by
  have ih:=ZeH bt (z::l) x
  simp only [Tm] at ih ⊢
  rw [Zg,ih] <;> simp [Zg]
theorem U5 {α:Type} (bt:Bs) (f:α→Bs) {xs:List α} {i:Nat} (h:i<xs.length):Zg bt ((xs.take (i+1)).map f)=if i=0 then f xs[i] else Zg bt ((xs.take i).map f)++(bt++f xs[i]):=by
 rw [List.take_succ_eq_append_getElem h,List.map_append,Tz,TG,ZeH]
 have e:((xs.take i).map f=[])↔i=0:=by
  rw [← List.length_eq_zero_iff,Te,List.length_take];omega
 by_cases h0:i=0
 ·rw [Th (e.2 h0),Th h0]
 ·rw [Tf (fun g=>h0 (e.1 g)),Tf h0]
theorem ZbP (bt:Bs):∀(l m:List Bs),(Zg bt l).length≤(Zg bt (l++m)).length
 | [],m=>T7 _
 | [x],[]=>Tt _
 | [x],y::m=>by simp only [Tm,To,Zg,Ta];omega
 | x::y::l,m=>by
  have ih:=ZbP bt (y::l) m
  simp only [Tm,Zg,Ta] at ih ⊢;omega
theorem ZbQ {α:Type} (bt:Bs) (f:α→Bs) (xs:List α) (i:Nat):(Zg bt ((xs.take i).map f)).length≤(Zg bt (xs.map f)).length:=by
 have h:=ZbP bt ((xs.take i).map f) ((xs.drop i).map f)
 rwa [← List.map_append,Sw] at h
noncomputable def ZvY (n:Nat):Tbl:=[(155,ZgM),(196,ZeG (Xk (fun _=>Zt)) YY fiT wFi n)]
theorem ZvZ {n:Nat} (ht:TblOK (GG w0 nG) (ZvY n)):PCalls (GG w0 nG) 195 (Zm4 196 (fun _=>Zt) YY fiT wFi n):=by
 refine pc ht Tryz.func195 ?_
 intro args σ K h
 unfold Zm4 at h
 split at h
 ·rename_i r bt g t e rows tp
  obtain ⟨l,pl,xs,rfl,rfl,⟨rfl,rfl,rfl⟩,⟨hmay,hz,hn⟩,hlen,h⟩:=h
  have hl1:(xs.map ((fun _=>Zt) pl)).length=xs.length:=Te ..
  have hsz:=Zj wFi xs
  refine ⟨Za [(1,⟨[12],[0,1,2,3,10,11],fun vs σ=>∃i:Nat,vs=[.d (.int .i64 i)]∧σ=⟨[.cells 84 [.ptr 0 0,.sl 0 5 (Zl (l++Zg bt ((xs.take i).map fiT)))],.cells tp [.ptr 0 0]],[0],1⟩∧i≤xs.length,fun vs _=>match vs with | [.d (.int _ i)]=>((xs.length:Int) - i).toNat | _=>0⟩)],2,true,by simp,Tb rfl,?_⟩
  conv=>whnf
  refine ⟨⟨0,rfl,(by simp only [T6,TG,Zg,TC];rfl),by omega⟩,?_⟩
  intro vs σ hI
  obtain ⟨i,rfl,rfl,hi⟩:=hI
  conv=>whnf
  refine ZCX (fun hi2=>?_) (fun hi2=>?_)
  ·have hi2:i<xs.length:=by have hi2:(i:Int)<(xs.map ((fun _=>Zt) pl)).length:=hi2;rw [hl1] at hi2;omega
   have hg:=Zn wFi xs i hi2
   have hmx:YY xs[i]=true:=Tl.1 hmay _ (TU hi2)
   have htk:=U5 bt fiT hi2
   have hle:=ZbQ bt fiT xs (i+1)
   obtain ⟨eA,hA⟩:∃x,xs[i]=x:=⟨_,rfl⟩
   obtain ⟨a1,a2⟩:=eA
   rw [hA] at hg hmx htk
   have hr1:(xs.map ((fun _=>Zt) pl))[((i:Nat):Int).toNat]?=some ((fun _=>Zt) pl ⟨a1,a2⟩):=by simp [hi2,hA]
   conv=>whnf
   refine ⟨_,by omega,hr1,?_⟩
   conv=>whnf
   refine ZCX (fun h0=>?_) (fun h0=>?_)
   ·have h0:0<i:=by omega
    rw [Tf (by omega)] at htk
    rw [htk] at hle
    simp only [Ta] at hle
    conv=>whnf
    refine ⟨l++Zg bt ((xs.take i).map fiT),bt,rfl,⟨.inr rfl,rfl,rfl⟩,⟨rfl,rfl⟩,by simp only [Ta];omega,?_⟩
    conv=>whnf
    refine ⟨l++Zg bt ((xs.take i).map fiT)++bt,pl,⟨a1,a2⟩,rfl,rfl,⟨rfl,rfl⟩,⟨hmx,by omega,by omega⟩,by simp only [Ta];omega,?_⟩
    exact m47
   ·obtain rfl:i=0:=by omega
    rw [Th rfl] at htk
    rw [htk] at hle
    conv=>whnf
    refine ⟨l++Zg bt ((xs.take 0).map fiT),pl,⟨a1,a2⟩,rfl,rfl,⟨rfl,rfl⟩,⟨hmx,by omega,by omega⟩,by simp only [T6,TG,Zg,Ta,Td];omega,?_⟩
    exact m45
  ·have hi2:i=xs.length:=by have hi2:¬(i:Int)<(xs.map ((fun _=>Zt) pl)).length:=hi2;rw [hl1] at hi2;omega
   subst hi2
   rw [Sc]
   exact m35
 ·exact h.elim
noncomputable def Zv0 (n:Nat):Tbl:=[(155,ZgM),(134,ZeG (Xk (fun _=>Zs)) XN caT wCa n)]
theorem Zv1 {n:Nat} (ht:TblOK (GG w0 nG) (Zv0 n)):PCalls (GG w0 nG) 133 (Zm4 134 (fun _=>Zs) XN caT wCa n):=by
 refine pc ht Tryz.func133 ?_
 intro args σ K h
 unfold Zm4 at h
 split at h
 ·rename_i r bt g t e rows tp
  obtain ⟨l,pl,xs,rfl,rfl,⟨rfl,rfl,rfl⟩,⟨hmay,hz,hn⟩,hlen,h⟩:=h
  have hl1:(xs.map ((fun _=>Zs) pl)).length=xs.length:=Te ..
  have hsz:=Zj wCa xs
  refine ⟨Za [(1,⟨[12],[0,1,2,3,10,11],fun vs σ=>∃i:Nat,vs=[.d (.int .i64 i)]∧σ=⟨[.cells 84 [.ptr 0 0,.sl 0 5 (Zl (l++Zg bt ((xs.take i).map caT)))],.cells tp [.ptr 0 0]],[0],1⟩∧i≤xs.length,fun vs _=>match vs with | [.d (.int _ i)]=>((xs.length:Int) - i).toNat | _=>0⟩)],2,true,by simp,Tb rfl,?_⟩
  conv=>whnf
  refine ⟨⟨0,rfl,(by simp only [T6,TG,Zg,TC];rfl),by omega⟩,?_⟩
  intro vs σ hI
  obtain ⟨i,rfl,rfl,hi⟩:=hI
  conv=>whnf
  refine ZCX (fun hi2=>?_) (fun hi2=>?_)
  ·have hi2:i<xs.length:=by have hi2:(i:Int)<(xs.map ((fun _=>Zs) pl)).length:=hi2;rw [hl1] at hi2;omega
   have hg:=Zn wCa xs i hi2
   have hmx:XN xs[i]=true:=Tl.1 hmay _ (TU hi2)
   have htk:=U5 bt caT hi2
   have hle:=ZbQ bt caT xs (i+1)
   obtain ⟨eA,hA⟩:∃x,xs[i]=x:=⟨_,rfl⟩
   obtain ⟨a1,a2⟩:=eA
   rw [hA] at hg hmx htk
   have hr1:(xs.map ((fun _=>Zs) pl))[((i:Nat):Int).toNat]?=some ((fun _=>Zs) pl ⟨a1,a2⟩):=by simp [hi2,hA]
   conv=>whnf
   refine ⟨_,by omega,hr1,?_⟩
   conv=>whnf
   refine ZCX (fun h0=>?_) (fun h0=>?_)
   ·have h0:0<i:=by omega
    rw [Tf (by omega)] at htk
    rw [htk] at hle
    simp only [Ta] at hle
    conv=>whnf
    refine ⟨l++Zg bt ((xs.take i).map caT),bt,rfl,⟨.inr rfl,rfl,rfl⟩,⟨rfl,rfl⟩,by simp only [Ta];omega,?_⟩
    conv=>whnf
    refine ⟨l++Zg bt ((xs.take i).map caT)++bt,pl,⟨a1,a2⟩,rfl,rfl,⟨rfl,rfl⟩,⟨hmx,by omega,by omega⟩,by simp only [Ta];omega,?_⟩
    exact m47
   ·obtain rfl:i=0:=by omega
    rw [Th rfl] at htk
    rw [htk] at hle
    conv=>whnf
    refine ⟨l++Zg bt ((xs.take 0).map caT),pl,⟨a1,a2⟩,rfl,rfl,⟨rfl,rfl⟩,⟨hmx,by omega,by omega⟩,by simp only [T6,TG,Zg,Ta,Td];omega,?_⟩
    exact m45
  ·have hi2:i=xs.length:=by have hi2:¬(i:Int)<(xs.map ((fun _=>Zs) pl)).length:=hi2;rw [hl1] at hi2;omega
   subst hi2
   rw [Sc]
   exact m35
 ·exact h.elim
end Go.PM.Lex
end

section
namespace Go.PM.Lex
open Go.Proofs
def ZBw:Tab:=(.node (.node (.node (.node .leaf 3 ⟨1,8,.int .i64,[.d (.int .i64 (0))],true⟩ .leaf) 4 ⟨1,1,.bool,[.d (.bool false)],false⟩ .leaf) 5 ⟨1,1,.int .u8,[.d (.int .u8 (0))],true⟩ (.node .leaf 9 ⟨1,16,.string,[.d (.str [])],false⟩ .leaf)) 80 ⟨1,24,.slice 5,[.nils 5],false⟩ (.node (.node .leaf 131 ⟨1,8,.int .u64,[.d (.int .u64 (0))],true⟩ .leaf) 261 ⟨1,8,.int .u64,[.d (.int .u64 (0))],true⟩ (.node .leaf 305 ⟨65,65,.array 65 5,[.d (.int .u8 (0)),.d (.int .u8 (0)),.d (.int .u8 (0)),.d (.int .u8 (0)),.d (.int .u8 (0)),.d (.int .u8 (0)),.d (.int .u8 (0)),.d (.int .u8 (0)),.d (.int .u8 (0)),.d (.int .u8 (0)),.d (.int .u8 (0)),.d (.int .u8 (0)),.d (.int .u8 (0)),.d (.int .u8 (0)),.d (.int .u8 (0)),.d (.int .u8 (0)),.d (.int .u8 (0)),.d (.int .u8 (0)),.d (.int .u8 (0)),.d (.int .u8 (0)),.d (.int .u8 (0)),.d (.int .u8 (0)),.d (.int .u8 (0)),.d (.int .u8 (0)),.d (.int .u8 (0)),.d (.int .u8 (0)),.d (.int .u8 (0)),.d (.int .u8 (0)),.d (.int .u8 (0)),.d (.int .u8 (0)),.d (.int .u8 (0)),.d (.int .u8 (0)),.d (.int .u8 (0)),.d (.int .u8 (0)),.d (.int .u8 (0)),.d (.int .u8 (0)),.d (.int .u8 (0)),.d (.int .u8 (0)),.d (.int .u8 (0)),.d (.int .u8 (0)),.d (.int .u8 (0)),.d (.int .u8 (0)),.d (.int .u8 (0)),.d (.int .u8 (0)),.d (.int .u8 (0)),.d (.int .u8 (0)),.d (.int .u8 (0)),.d (.int .u8 (0)),.d (.int .u8 (0)),.d (.int .u8 (0)),.d (.int .u8 (0)),.d (.int .u8 (0)),.d (.int .u8 (0)),.d (.int .u8 (0)),.d (.int .u8 (0)),.d (.int .u8 (0)),.d (.int .u8 (0)),.d (.int .u8 (0)),.d (.int .u8 (0)),.d (.int .u8 (0)),.d (.int .u8 (0)),.d (.int .u8 (0)),.d (.int .u8 (0)),.d (.int .u8 (0)),.d (.int .u8 (0))],false⟩ .leaf)))
theorem ZrK:TabOK ZBw Tryz.prog:=by unfold TabOK;kernel_rfl
end Go.PM.Lex
end

section
namespace Go.PM.Lex
open Go.Proofs Go.Shelf Go.RowKit
variable {w0:World} {nG:Nat}
structure NumOK (w0:World) (nG:Nat):Prop where
 big:7<nG
 pow : Lib.TabIs Tryz.prog w0 "internal/strconv.uint64pow10" .u64 Lib.pow10Tab
 bru:w0.cell? ⟨5,15,none⟩=some (.int .u8 4)
theorem ZyZ:IntKind.u64.wrap (bits BinOp.and IntKind.u64 (16:Int) (IntKind.u64.wrap (-(16:Int))) * 285870213051353865) / 288230376151711744=(15:Int):=by decide +kernel
theorem Zv2 (w:World) (hcell:w.cell? ⟨5,15,none⟩=some (.int .u8 4)):Calls Tryz.prog 306 #[.int .u64 16] w fun e w'=>e=.returned (.int .i64 4)∧w'=w:=by
 go_enter Tryz.func306,Tryz.ntmps306
 go_wp2_with (simp only [ZyZ])
 go_ret
 exact ⟨rfl,rfl⟩
theorem Zdb:∀(f n:Nat),n<f→Lib.decDigits n=Za7 10 f n
 | 0,n,h=>by omega
 | f+1,n,h=>by
  rw [Lib.decDigits,Za7]
  by_cases c:n<10
  ·rw [dif_pos c,Th c,Zi7,Th c]
  ·rw [dif_neg c,Tf c,Zdb f (n / 10) (by omega),Zi7,Th (by omega)]
theorem Zpo {n:Int} (h:0≤n):Lib.itoa n=Zdz n:=by
 rw [Lib.itoa,Tf (by omega),Zdz,Tf (by omega),YG]
 exact Zdb _ _ (by omega)
theorem ZrL {e:Env} {σ:St} {w:World} {name:String} {k:IntKind} {zs:List Int} {g:Nat} (hS:SRel (GG w0 nG) e σ w) (h:Lib.TabIs Tryz.prog w0 name k zs) (hg:Tryz.prog.globalNamed name=some g) (hlt:g<nG):Lib.TabIs Tryz.prog w name k zs:=by
 unfold Lib.TabIs World.var? at h ⊢
 rw [hg] at h ⊢
 simp only [Option.bind_some] at h ⊢
 rw [hS.glob g hlt];exact h
theorem Zv3 {e:Env} {σ:St} {w:World} {k i:Nat} {u:Value} (hS:SRel (GG w0 nG) e σ w) (hk:k<nG) (h:w0.cell? ⟨k,i,none⟩=some u):w.cell? ⟨k,i,none⟩=some u:=by
 have:=hS.glob k hk
 simpa [World.cell?,this] using h
noncomputable def ZiA:ZA:=fun args σ K=>match args,σ with
 | [.d (.int .i64 n),.d (.int .i64 b)],⟨[],[],0⟩=>(b=10∧0≤n∧n<9223372036854775808)∧K (.ret (.d (.str (Zdz n)))) ⟨[],[],0⟩
 | _,_=>False
theorem ZeI:Zc ZiA:=fun args σ K K' hK h=>by
 unfold ZiA at h ⊢;split at h <;> first | exact ⟨h.1,hK _ _ h.2⟩ | exact h.elim
theorem Zpp (hN:NumOK w0 nG):PCalls (GG w0 nG) 78 ZiA:=Xa (Zh Tryz.func78 (by kernel_rfl) rfl) fun args σ K h e w vs hS ha=>by
 unfold ZiA at h
 split at h
 ·rename_i n b
  obtain ⟨⟨rfl,h0,h1⟩,h⟩:=h
  obtain ⟨u,v,rfl,hu,hv⟩:=ZhN ha
  cases hu.dint;cases hv.dint
  have ht:=ZrL hS hN.pow (g:=3) (by kernel_rfl) (by have:=hN.big;omega)
  have hc:=Tryz.strconv_FormatInt_10 n (by omega) (by omega) w ht
  rw [Zpo h0] at hc
  exact ⟨_,h,_,fun _ _=>.mkstr,hc.mono fun en w' ⟨h1,k,os,h2⟩=>⟨h1,ZC3 (by rw [h2];exact Lib.below_grow w.heap.size w (Tt _) k os)⟩⟩
 ·exact h.elim
noncomputable def ZsY:ZA:=fun args σ K=>match args,σ with
 | [.d (.int .u64 n)],⟨[],[],0⟩=>n=16∧K (.ret (.d (.int .i64 4))) ⟨[],[],0⟩
 | _,_=>False
theorem ZiB:Zc ZsY:=fun args σ K K' hK h=>by
 unfold ZsY at h ⊢;split at h <;> first | exact ⟨h.1,hK _ _ h.2⟩ | exact h.elim
theorem Zv4 (hN:NumOK w0 nG):PCalls (GG w0 nG) 306 ZsY:=Xa (Zh Tryz.func306 (by kernel_rfl) rfl) fun args σ K h e w vs hS ha=>by
 unfold ZsY at h
 split at h
 ·rename_i n
  obtain ⟨rfl,h⟩:=h
  obtain ⟨u,rfl,hu⟩:=ZhM ha
  cases hu.dint
  exact ⟨_,h,_,fun _ _=>.d _ _ (.int _ _),(Zv2 w (Zv3 hS (k:=5) (by have:=hN.big;omega) hN.bru)).mono fun en w' ⟨h1,h2⟩=>⟨h1,by rw [h2];exact Grows.refl _⟩⟩
 ·exact h.elim
noncomputable def ZBx:Tbl:=[(306,ZsY)]
theorem ZBy (hN:NumOK w0 nG):PCalls (GG w0 nG) 276 ZsY:=by
 refine pc (tbl:=ZBx) ⟨⟨Zv4 hN,ZiB⟩,trivial⟩ Tryz.func276 ?_
 intro args σ K h
 unfold ZsY at h
 split at h
 ·obtain ⟨rfl,h⟩:=h
  refine ⟨Za [],0,false,by simp,Tb rfl,?_⟩
  conv=>whnf
  refine ⟨rfl,?_⟩
  exact m35
 ·exact h.elim
noncomputable def Zpq:ZA:=fun args σ K=>match args,σ with
 | [.d (.int .i64 n)],⟨[],[],0⟩=>n=16∧K (.ret (.d (.bool true))) ⟨[],[],0⟩
 | _,_=>False
theorem Zm5:Zc Zpq:=fun args σ K K' hK h=>by
 unfold Zpq at h ⊢;split at h <;> first | exact ⟨h.1,hK _ _ h.2⟩ | exact h.elim
theorem Zv5:Zk .and .i64 16 15=0:=by rw [Y3];decide +kernel
theorem Zy0:PCalls (GG w0 nG) 275 Zpq:=by
 refine pc (tbl:=[]) trivial Tryz.func275 ?_
 intro args σ K h
 unfold Zpq at h
 split at h
 ·obtain ⟨rfl,h⟩:=h
  refine ⟨Za [],0,false,by simp,Tb rfl,?_⟩
  conv=>whnf
  refine oiO ?_
  conv=>whnf
  have e:(Zk .and .i64 16 (16 - 1))=0:=Zv5
  rw [e]
  exact h
 ·exact h.elim
theorem ZrM {n:Nat} (h:16≤n):YG 16 n=YG 16 (n / 16)++[Zi7 (n % 16)]:=by
 have key:∀(f g m:Nat),m<f→m<g→Za7 16 f m=Za7 16 g m:=by
  intro f
  induction f with
  | zero=>intro g m h;omega
  | succ f ih =>
   intro g m h1 h2
   obtain ⟨g,rfl⟩:∃k,g=k+1:=⟨g - 1,by omega⟩
   rw [Za7,Za7]
   split
   ·rfl
   ·rw [ih g (m / 16) (by omega) (by omega)]
 rw [YG,Za7,Tf (by omega),YG,key n (n / 16+1) (n / 16) (by omega) (by omega)]
theorem ZrN {n:Nat} (h:n<16):YG 16 n=[Zi7 n]:=by rw [YG,Za7,Th h]
def digs36:Bs:=[48,49,50,51,52,53,54,55,56,57,97,98,99,100,101,102,103,104,105,106,107,108,109,110,111,112,113,114,115,116,117,118,119,120,121,122]
theorem Zpr:∀d:Fin 16,digs36.getD d.val 0=Zi7 d.val:=by decide +kernel
theorem Zv6 {u:Nat} (h:u<18446744073709551616):Zk .and .u64 (u:Int) 15=((u % 16:Nat):Int):=by
 have e:Zk .and .u64 (u:Int) 15=bits .and .u64 (u:Int) ((15:Nat):Int):=by rw [Y3];rfl
 rw [e,bits_and_u64_nat u 15 h (by decide)]
 have:u &&& 15=u % 16:=Nat.and_two_pow_sub_one_eq_mod u 4
 rw [this]
def sh4 (n:Int):Int:=n.fdiv (2 ^ (min (Int.toNat 4) (IntKind.bits .u64)))
theorem Zv7 (u:Nat):sh4 (u:Int)=((u / 16:Nat):Int):=by
 show (u:Int).fdiv ((2:Int) ^ 4)=_
 rw [show ((2:Int) ^ 4)=((16:Nat):Int) by decide,Int.fdiv_eq_ediv_of_nonneg _ (by decide)]
 omega
theorem ZrO {u:Nat} (h:u<18446744073709551616):digs36.getD (Zk .and .u64 (u:Int) 15).toNat 0=Zi7 (u % 16):=by
 rw [Zv6 h,TS]
 exact Zpr ⟨u % 16,Nat.mod_lt _ (by decide)⟩
theorem ZrP {u:Nat} (h:u<16):digs36.getD (u:Int).toNat 0=Zi7 u:=by
 rw [TS]
 exact Zpr ⟨u,h⟩
theorem ZrQ {u:Nat} (h:u<18446744073709551616):0≤Zk .and .u64 (u:Int) 15:=by rw [Zv6 h];omega
theorem ZrR {u:Nat} (h:u<18446744073709551616):Zk .and .u64 (u:Int) 15<36:=by rw [Zv6 h];omega
def shN:Nat→Int→Int
 | 0,n=>n
 | j+1,n=>sh4 (shN j n)
noncomputable def Zy1:Nat→Int→Bs
 | 0,_=>[]
 | j+1,n=>digs36.getD (Zk .and .u64 (shN j n) 15).toNat 0::Zy1 j n
theorem Zcz (u:Nat):∀j,shN j (u:Int)=((u / 16 ^ j:Nat):Int)
 | 0=>by rw [shN,Nat.pow_zero,Nat.div_one]
 | j+1=>by rw [shN,Zcz u j,Zv7,Nat.div_div_eq_div_mul,Nat.pow_succ]
theorem Zps {u:Nat} (hu:u<18446744073709551616) (j:Nat):u / 16 ^ j<18446744073709551616:=Nat.lt_of_le_of_lt (Nat.div_le_self _ _) hu
theorem ZCi {u:Nat} (hu:u<18446744073709551616):∀j,(∀k,k<j→16≤u / 16 ^ k)→YG 16 u=YG 16 (u / 16 ^ j)++Zy1 j (u:Int)
 | 0,_=>by rw [Zy1,Nat.pow_zero,Nat.div_one,TC]
 | j+1,h=>by
  rw [ZCi hu j fun k hk=>h k (by omega),ZrM (h j (by omega)),Zy1,Zcz,ZrO (Zps hu j),Tg,Nat.div_div_eq_div_mul,Nat.pow_succ];rfl
theorem ZCj {u j:Nat} (G:∀k,k<j→16≤u / 16 ^ k) (g:(16:Int)≤shN j (u:Int)):∀k,k<j+1→16≤u / 16 ^ k:=fun k hk=>by
 rw [Zcz] at g
 by_cases c:k=j
 ·subst c;omega
 ·exact G k (by omega)
theorem ZCk {u j:Nat} (hu:u<18446744073709551616) (G:∀k,k<j→16≤u / 16 ^ k) (g:¬(16:Int)≤shN j (u:Int)):YG 16 u=digs36.getD (shN j (u:Int)).toNat 0::Zy1 j (u:Int):=by
 rw [Zcz] at g ⊢
 rw [ZCi hu j G,ZrN (by omega),ZrP (by omega)];rfl
theorem ZCC {u j:Nat} (hu:u<18446744073709551616) (G:∀k,k<j→16≤u / 16 ^ k):0≤Zk .and .u64 (shN j (u:Int)) 15∧Zk .and .u64 (shN j (u:Int)) 15<36:=by
 rw [Zcz];exact ⟨ZrQ (Zps hu j),ZrR (Zps hu j)⟩
theorem ZCl {u j:Nat} (G:∀k,k<j→16≤u / 16 ^ k) (g:¬(16:Int)≤shN j (u:Int)):0≤shN j (u:Int)∧shN j (u:Int)<36:=by
 rw [Zcz] at g ⊢
 generalize u / 16 ^ j=v at g ⊢
 omega
noncomputable def Zy2:ZA:=fun args σ K=>match args,σ with
 | [.sl 0 e [],.d (.int .u64 n),.d (.int .i64 b),.d (.bool ng),.d (.bool ap)],⟨[],[0],1⟩=>(b=16∧ng=false∧ap=false∧0≤n∧n<18446744073709551616)∧K (.ret (.tuple [.d (.sl []),.d (.str (YG 16 n.toNat))])) ⟨[],[],0⟩
 | _,_=>False
theorem Zpt:Zc Zy2:=fun args σ K K' hK h=>by
 unfold Zy2 at h ⊢;split at h <;> first | exact ⟨h.1,hK _ _ h.2⟩ | exact h.elim
noncomputable def ZBz:Tbl:=[(275,Zpq),(276,ZsY)]
theorem ZBA (hN:NumOK w0 nG):PCalls (GG w0 nG) 224 Zy2:=by
 refine ZjA ZrK mixed (tbl:=ZBz) ⟨⟨Zy0,Zm5⟩,⟨ZBy hN,ZiB⟩,trivial⟩ Tryz.func224 rfl (by kernel_rfl) (by kernel_rfl) ?_
 intro args σ K h
 unfold Zy2 at h
 split at h
 all_goals first | exact h.elim | skip
 all_goals
  obtain ⟨⟨rfl,rfl,rfl,h0,h1⟩,h⟩:=h
  rename_i e n
  obtain ⟨u0,rfl⟩:∃u:Nat,n=u:=⟨n.toNat,by omega⟩
  rw [TS] at h
  have hu0:u0<18446744073709551616:=by omega
  refine ⟨Za [],ZaS [(11,17)],Vh [],Vh [101],Vh [],0,false,by simp,Tb rfl,?_⟩
  conv=>whnf
  refine ⟨rfl,?_⟩
  conv=>whnf
  refine oiU ?_
  conv=>whnf
  refine ⟨rfl,?_⟩
  conv=>whnf
  refine oiU ?_
  conv=>whnf
  refine oiU ?_
  conv=>whnf
  refine oiU ?_
  conv=>whnf
  refine oiU ?_
  conv=>whnf
  have G:∀k,k<0→16≤u0 / 16 ^ k:=fun k hk=>by omega
  iterate 15
   refine ZCX (fun g=>?_) (fun g=>?_)
   rotate_left
   ·exact m167
   have B:=ZCC hu0 G
   have G:=ZCj G g
   conv=>whnf
   refine oiD ?_
   conv=>whnf
   refine ⟨B.1,B.2,?_⟩
   conv=>whnf
   refine ⟨by decide,by decide,?_⟩
   conv=>whnf
   refine ⟨by decide,?_⟩
   conv=>whnf
  refine ZCX (fun g=>?_) (fun g=>?_)
  ·exact absurd (ZCj G g 15 (by decide)) (by omega)
  ·exact m167
noncomputable def Zdc:ZA:=fun args σ K=>match args,σ with
 | [.d (.int .u64 n),.d (.int .i64 b)],⟨[],[],0⟩=>(b=16∧0≤n∧n<18446744073709551616)∧K (.ret (.d (.str (YG 16 n.toNat)))) ⟨[],[],0⟩
 | _,_=>False
theorem Za8:Zc Zdc:=fun args σ K K' hK h=>by
 unfold Zdc at h ⊢;split at h <;> first | exact ⟨h.1,hK _ _ h.2⟩ | exact h.elim
noncomputable def ZBB:Tbl:=[(224,Zy2)]
theorem ZBC (hN:NumOK w0 nG):PCalls (GG w0 nG) 158 Zdc:=by
 refine pc (tbl:=ZBB) ⟨⟨ZBA hN,Zpt⟩,trivial⟩ Tryz.func158 ?_
 intro args σ K h
 unfold Zdc at h
 split at h
 ·obtain ⟨⟨rfl,h0,h1⟩,h⟩:=h
  refine ⟨Za [],0,false,by simp,Tb rfl,?_⟩
  conv=>whnf
  refine ⟨⟨rfl,rfl,rfl,h0,h1⟩,?_⟩
  exact m35
 ·exact h.elim
noncomputable def Zv8:Tbl:=[(158,Zdc)]
theorem Zpu (hN:NumOK w0 nG):PCalls (GG w0 nG) 77 Zdc:=by
 refine pc (tbl:=Zv8) ⟨⟨ZBC hN,Za8⟩,trivial⟩ Tryz.func77 ?_
 intro args σ K h
 unfold Zdc at h
 split at h
 ·rename_i n b
  obtain ⟨⟨rfl,h0,h1⟩,h⟩:=h
  refine ⟨Za [],0,false,by simp,Tb rfl,?_⟩
  conv=>whnf
  refine ⟨⟨rfl,h0,h1⟩,?_⟩
  generalize YG 16 n.toNat=T at h ⊢
  exact m35
 ·exact h.elim
theorem Zlz {n:Int} (h:n<0) (h0:-9223372036854775808≤n):0≤IntKind.u64.wrap n∧IntKind.u64.wrap n<18446744073709551616∧Zdz n=[48,120]++YG 16 (IntKind.u64.wrap n).toNat:=by
 have e:IntKind.u64.wrap n=n+18446744073709551616:=by
  exact m146
 refine ⟨by omega,by omega,?_⟩
 rw [Zdz,Th h,e]
end Go.PM.Lex
end

section
namespace Go.PM.Lex
def ZAN (n:Int):Bool:=decide (-9223372036854775808≤n) && decide (n<9223372036854775808)
mutual
def ZdB:Ex→Bool
 | .mk _ _ n l _=>ZAN n && ZeJ l
def ZeJ:List Ex→Bool
 | []=>true
 | x::l=>ZdB x && ZeJ l
end
theorem VV (l:List Ex):ZeJ l=l.all ZdB:=by induction l with | nil=>rfl | cons x l ih=>simp [ZeJ,ih]
theorem ZcA {op:Nat} {t:Bs} {n:Int} {l:List Ex} {a:Nat} (h:ZdB (.mk op t n l a)=true):(-9223372036854775808≤n∧n<9223372036854775808)∧∀x∈l,ZdB x=true:=by
 simp only [ZdB,VV,ZAN,Tk,TT] at h
 exact ⟨h.1,Tl.1 h.2⟩
mutual
def ZgN:Li→Bool
 | .mk _ _ args body _=>ZeJ args && Zfq body
def Zfq:List Li→Bool
 | []=>true
 | x::l=>ZgN x && Zfq l
end
theorem U6 (l:List Li):Zfq l=l.all ZgN:=by induction l with | nil=>rfl | cons x l ih=>simp [Zfq,ih]
theorem Zkd {op:Nat} {rel:Bs} {args:List Ex} {body:List Li} {a:Nat} (h:ZgN (.mk op rel args body a)=true):(∀x∈args,ZdB x=true)∧∀x∈body,ZgN x=true:=by
 simp only [ZgN,VV,U6,Tk] at h
 exact ⟨Tl.1 h.1,Tl.1 h.2⟩
def ZbR (r:Ru):Bool:=r.args.all ZdB && r.body.all ZgN
mutual
def Zfa:Un→Bool
 | .mk _ _ rules comps _ _=>rules.all ZbR && ZaB comps
def ZbS:Co→Bool
 | .mk _ _ _ _ u _=>Zfa u
def ZaB:List Co→Bool
 | []=>true
 | c::l=>ZbS c && ZaB l
end
theorem Ux (l:List Co):ZaB l=l.all ZbS:=by induction l with | nil=>rfl | cons x l ih=>simp [ZaB,ih]
end Go.PM.Lex
end

section
namespace Go.PM.Lex
open Go.Proofs
variable {w0:World} {nG:Nat}
def Zja (e:Ex):Bool:=Z7 e && ZdB e
theorem Zv9 {op:Nat} {t:Bs} {n:Int} {l:List Ex} {a:Nat} (h:Zja (.mk op t n l a)=true):-2<Yq op∧(Yq op<0∨(l.length:Int)=Yq op)∧W6 op t=true∧(-9223372036854775808≤n∧n<9223372036854775808)∧l.all Zja=true:=by
 simp only [Zja,Tk] at h
 obtain ⟨h1,h2⟩:=h
 obtain ⟨r1,r2⟩:=ZcA h2
 simp only [Z7,Zz,Tk,Sr,TT] at h1
 obtain ⟨h1,h3,h4,h5,h6⟩:=h1
 refine ⟨h1,h3,h5,r1,?_⟩
 rw [Tl] at h6 ⊢
 exact fun x hx=>by rw [Zja,h6 x hx,r2 x hx];rfl
theorem ZrS {op:Nat} (h:-2<Yq op):op<26:=by
 by_cases hc:op<26
 ·exact hc
 ·unfold Yq at h
  (repeat rw [Tf (by omega)] at h)
  omega
theorem Zwa {op:Nat} (h:-2<Yq op):(Zm op<5→Yq op=2)∧(Zm op=5→Yq op=1)∧Zm op≤6∧(op=5→Yq op=0):=by
 have hk:∀o:Fin 26,-2<Yq o.val→(Zm o.val<5→Yq o.val=2)∧(Zm o.val=5→Yq o.val=1)∧Zm o.val≤6∧(o.val=5→Yq o.val=0):=by decide
 exact hk ⟨op,ZrS h⟩ h
noncomputable def ZqJ (n:Nat):ZA:=Zi9 (.tuple []) fun rest txt=>∃pl e want,rest=[Xk Yh pl e,.d (.int .i64 want)]∧(Zja e=true∧wE e≤n∧n≤1073741824∧0≤want∧want≤6)∧txt=exW want.toNat e
theorem Uy (n:Nat):Zc (ZqJ n):=Vw _ _
noncomputable def ZrT (n:Nat):ZA:=Zi9 (.tuple []) fun rest txt=>∃fr fin pl xs,rest=[.d (.str fr),.d (.sl (Yi pl xs)),.d (.str fin)]∧(xs.all Zja=true∧szS wE xs≤n∧n≤1073741824)∧txt=Wl fr fin xs
theorem JS (n:Nat):Zc (ZrT n):=Vw _ _
theorem VC (e:Ex):exW 0 e=exT e:=by rw [exW,Zpg,Tf (by simp)]
noncomputable def Zy3 (n:Nat):Tbl:=[(30,ZqJ n)]
theorem Zy4 {n:Nat} (ht:TblOK (GG w0 nG) (Zy3 n)):PCalls (GG w0 nG) 157 (ZeG (Xk Yh) Zja exT wE n):=by
 refine pc ht Tryz.func157 ?_
 intro args σ K h
 unfold ZeG at h
 split at h
 ·obtain ⟨l,pl,⟨op,tx,nn,xs,at'⟩,rfl,rfl,⟨rfl,rfl⟩,⟨hmay,hz,hn⟩,hlen,h⟩:=h
  refine ⟨Za [],2,true,by simp,Tb rfl,?_⟩
  conv=>whnf
  refine ⟨l,exT (.mk op tx nn xs at'),rfl,⟨.inr rfl,rfl,rfl⟩,⟨pl,.mk op tx nn xs at',0,rfl,⟨hmay,hz,hn,by omega,by omega⟩,(VC _).symm⟩,hlen,?_⟩
  exact m35
 ·exact h.elim
noncomputable def ZBD (n:Nat):Tbl:=[(75,Zfp),(156,Zm4 157 Yh Zja exT wE n)]
theorem ZBE {n:Nat} (ht:TblOK (GG w0 nG) (ZBD n)):PCalls (GG w0 nG) 76 (ZrT n):=by
 refine pc ht Tryz.func76 ?_
 intro args σ K h
 unfold ZrT Zi9 at h
 split at h
 ·rename_i rest t p e rows
  obtain ⟨l,txt,rfl,⟨hp,rfl,rfl⟩,⟨fr,fin,pl,xs,rfl,⟨hmay,hz,hn⟩,rfl⟩,hlen,h⟩:=h
  have key:l++Wl fr fin xs=l++fr++Zg cmm (xs.map exT)++fin:=by simp only [Wl,ZsW,Tg]
  rw [key] at h
  have hlen:l.length+(fr.length+((Zg cmm (xs.map exT)).length+fin.length))<70368744177664:=by have:=hlen;simp only [Wl,ZsW,Ta] at this;exact this
  refine ⟨Za [],1,true,by simp,Tb rfl,?_⟩
  rcases hp with rfl | rfl
  all_goals
   conv=>whnf
   refine ⟨l,fr,rfl,⟨(by first | exact .inl rfl | exact .inr rfl),rfl,rfl⟩,⟨[fr],rfl,by simp,by simp,by simp⟩,by omega,?_⟩
   conv=>whnf
   refine ⟨l++fr,pl,xs,rfl,Zf pl xs,⟨rfl,rfl,rfl⟩,⟨hmay,hz,hn⟩,by rw [Ta];show _+(Zg cmm (xs.map exT)).length<_;omega,?_⟩
   conv=>whnf
   refine ⟨l++fr++Zg cmm (xs.map exT),fin,rfl,⟨.inr rfl,rfl,rfl⟩,⟨[fin],rfl,by simp,by simp,by simp⟩,by simp only [Ta];omega,?_⟩
   conv=>whnf
   exact h
 ·exact h.elim
noncomputable def Zy5:List PV→St→(St→Prop)→Prop:=fun args σ K=>args.length≤Tryz.f75.ntmps∧W (Zmp ZjB Zpn WN (Za []) (ZaS [(1,3)]) (fun _=>false)) (VD Tryz.f75) (ZyW ZjB Tryz.f75 σ.bx.length K) (Ze7 0 args) σ
theorem ZCD:PDef (GG w0 nG) 75 Zy5 (fun _ _ _ _=>False) :=
 Zm2 XG mixed Ziz Tryz.func75 rfl (by kernel_rfl) (by kernel_rfl) fun args σ K h=>⟨Za [],ZaS [(1,3)],σ.bx.length,Tt _,h.1,h.2⟩
noncomputable def Zy6 (n:Nat):Tbl:=[(71,Zxl),(75,Zfp),(30,spB ZqJ n),(76,spB ZrT n),(78,ZiA),(77,Zdc),(73,Za6)]
end Go.PM.Lex
end
