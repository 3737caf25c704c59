/- A part of the proof: plain logic, contracts and laws over the given program. -/
import Derived.Test.YtlelokbefhefcaaGreatDoorMore
import Derived.Lib.AppendIntMem
import Derived.WalkKit
import Derived.Test.YtlelokbefhefcaaGreatDoorB06
set_option linter.unusedVariables false
set_option linter.unusedSimpArgs false
set_option linter.all false
set_option maxRecDepth 100000
set_option maxHeartbeats 16000000
noncomputable section
section
namespace Go.PM.Lex
open Go.Proofs
variable {w0:World} {nG:Nat}
mutual
def wE:Ex->Nat
 | .mk _ t _ args _=>1+t.length+wEs args
def wEs:List Ex->Nat
 | []=>0
 | x::l=>1+wE x+wEs l
end
def Zqn:∀(l:List Ex),wEs l=szS wE l
 | []=>by rw [wEs,szS]
 | x::l=>by rw [wEs,szS,Zqn l]
mutual
def wL:Li->Nat
 | .mk _ r a b _=>1+r.length+szS wE a+wLs b
def wLs:List Li->Nat
 | []=>0
 | x::l=>1+wL x+wLs l
end
def Zmc:∀(l:List Li),wLs l=szS wL l
 | []=>by rw [wLs,szS]
 | x::l=>by rw [wLs,szS,Zmc l]
def wRu (r:Ru):Nat:=1+r.head.length+szS wE r.args+szS wL r.body
def wFi (f:Fi):Nat:=1+f.name.length+f.typ.length
def wCa (c:Ca):Nat:=1+c.name.length+szS wFi c.fields
def wTy (t:Ty):Nat:=1+t.name.length+t.base.length+szS wFi t.fields+szS wCa t.cases
def wRe (d:Re):Nat:=1+d.name.length+szS wFi d.fields
def wBs (s:Bs):Nat:=1+s.length
def wIn (i:Ini):Nat:=1+i.name.length+i.comp.length+szS wBs i.types
def wOv (o:Ov):Nat:=1+o.rel.length
mutual
def wUn:Un->Nat
 | .mk a1 a2 a3 a4 a5 a6=>1+szS wTy a1+szS wRe a2+szS wRu a3+Zxc a4+szS wIn a5+szS wOv a6
def wCo:Co->Nat
 | .mk n p b t u _=>1+n.length+szS wBs p+b.length+szS wBs t+wUn u
def Zxc:List Co->Nat
 | []=>0
 | x::l=>1+wCo x+Zxc l
end
def Zqo:∀(l:List Co),Zxc l=szS wCo l
 | []=>by rw [Zxc,szS]
 | x::l=>by rw [Zxc,szS,Zqo l]
abbrev YH {α:Type} (enc:Pl->α->List D):Pl->α->PV:=fun pl x=>.agg ((enc pl x).map .d)
abbrev ZjG:Pl->Bs->PV:=fun _ s=>.d (.str s)
def YW {α:Type} (val:Pl->α->PV) (p:α->Bool) (w:α->Nat) (n:Nat):Zk:=fun args σ K=>match args,σ with
 | [v],⟨[],[],0⟩=>∃pl x,v=val pl x/\(w x<=n/\n<=1073741824)/\∀b,p x=b->K (.ret (.d (.bool b))) ⟨[],[],0⟩
 | _,_=>False
def U4 {α:Type} (h0:FuncId) (val:Pl->α->PV) (p:α->Bool) (w:α->Nat) (n:Nat):Zk:=fun args σ K=>match args,σ with
 | [v,.ptr 0 0],⟨[.cells t [.func h' [] []]],[],0⟩=>∃pl x,v=val pl x/\(h'=h0/\w x<=n/\n<=1073741824)/\∀b,(!p x)=b->K (.ret (.d (.bool b))) ⟨[.cells t [.func h' [] []]],[],0⟩
 | _,_=>False
def U5 {α:Type} (g0 h0:FuncId) (enc:Pl->α->List D) (p:α->Bool) (w:α->Nat) (n:Nat):Zk:=fun args σ K=>match args,σ with
 | [.d (.sl r),.func g' [] [.ptr 0 0]],⟨[.cells t [.func h' [] []]],[],0⟩=>∃pl l,r=l.map (enc pl)/\(g'=g0/\h'=h0/\szS w l<=n/\n<=1073741824)/\∀r:Int,(r<0↔l.all p=true)->K (.ret (.d (.int .i64 r))) ⟨[.cells t [.func h' [] []]],[],0⟩
 | _,_=>False
def U6 {α:Type} (g0 h0:FuncId) (enc:Pl->α->List D) (p:α->Bool) (w:α->Nat) (n:Nat):Zk:=fun args σ K=>match args,σ with
 | [.d (.sl r),.func g' [] [.ptr 0 0]],⟨[.cells t [.func h' [] []]],[],0⟩=>∃pl l,r=l.map (enc pl)/\(g'=g0/\h'=h0/\szS w l<=n/\n<=1073741824)/\∀b,(!l.all p)=b->K (.ret (.d (.bool b))) ⟨[.cells t [.func h' [] []]],[],0⟩
 | _,_=>False
def Xx {α:Type} (h0:FuncId) (enc:Pl->α->List D) (p:α->Bool) (w:α->Nat) (n:Nat):Zk:=fun args σ K=>match args,σ with
 | [.d (.sl r),.func h' [] []],⟨[],[],0⟩=>∃pl l,r=l.map (enc pl)/\(h'=h0/\szS w l<=n/\n<=1073741824)/\∀b,l.all p=b->K (.ret (.d (.bool b))) ⟨[],[],0⟩
 | _,_=>False
def Xl {α:Type} (p:α->Bool) {l:List α} {i:Nat} (h:i<l.length):(l.drop i).all p=(p l[i] && (l.drop (i+1)).all p):=by rw [Tk h,List.all_cons]
def Wt {α:Type} (p:α->Bool) {l:List α} {i:Nat} (h:l.length<=i):(l.drop i).all p=true:=by rw [Tp h];rfl
def ZBl {n:Nat}:OKw w0 nG [(171,YW (YH ZF) Yf wE n)] 224 (U4 171 (YH ZF) Yf wE n):=by
 refine pwo Tryz.func224 fun args σ K h=>?_
 exact mq86
def ZBn {n:Nat}:OKw w0 nG [(224,U4 171 (YH ZF) Yf wE n)] 40 (U5 224 171 ZF Yf wE n):=by
 refine pwo Tryz.func40 fun args σ K h=>?_
 unfold U5 at h
 split at h
 ·obtain ⟨pl,l,rfl,⟨rfl,rfl,hz,hn⟩,h⟩:=h
  rename_i t
  have hlen:(l.map (ZF pl)).length=l.length:=Td ..;have hsz:=Zu wE l;refine pwv [(2,⟨[8],[0,1,7],fun vs σ=>∃i:Nat,vs=[.d (.int .i64 i)]/\σ=⟨[.cells t [.func 171 [] []]],[],0⟩/\i<=l.length/\l.all Yf=(l.drop i).all Yf,mu1 l.length⟩)] 1 false ?_;refine ⟨⟨0,rfl,rfl,oM,rfl⟩,?_⟩;intro vs σ hI
  obtain ⟨i,rfl,rfl,hi,hs⟩:=hI;(conv=>whnf);refine ZGg (fun ab=>wN ?_) (fun ab=>wN ?_)
  ·have ab:i<l.length:=lzI hlen ab;have hg:=ZD wE l i ab;rw [Xl _ ab] at hs;obtain ⟨eA,hA⟩:∃e,l[i]=e:=⟨_,rfl⟩
   obtain ⟨a1,a2,a3,a4,a5⟩:=eA;have cf:(l.map (ZF pl))[((i:Nat):Int).toNat]?=some (ZF pl (.mk a1 a2 a3 a4 a5)):=by simp [ab,hA]
   rw [hA] at hs hg;refine ⟨_,oM,cf,wN ?_⟩;refine ⟨pl,(.mk a1 a2 a3 a4 a5),rfl,⟨rfl,oM,oM⟩,fun b hb=>?_⟩
   cases b with
   | true =>
    have hp:Yf (.mk a1 a2 a3 a4 a5)=false:=by simpa using hb
    exact mq42
   | false =>
   have hp:Yf (.mk a1 a2 a3 a4 a5)=true:=by simpa using hb
   exact mq23
  exact mq27
 exact h.elim
def ZBp {n:Nat}:OKw w0 nG [(40,U5 224 171 ZF Yf wE n)] 22 (U6 224 171 ZF Yf wE n):=by
 refine pwo Tryz.func22 fun args σ K h=>?_
 unfold U6 at h
 split at h
 ·obtain ⟨pl,l,rfl,⟨rfl,rfl,hz,hn⟩,h⟩:=h;refine pwv [] 1 false ?_;refine ⟨pl,l,rfl,⟨rfl,rfl,hz,hn⟩,fun r hr=>wN ?_⟩;refine h _ ?_
  cases hb:l.all Yf with
  | true=>rw [hb] at hr;have:=hr.2 rfl;simp;omega
  | false=>rw [hb] at hr;have:¬r<0:=fun g=>(by have:=hr.1 g;cases this);simp;omega
 exact h.elim
def ZBr {n:Nat}:OKw w0 nG [(22,U6 224 171 ZF Yf wE n)] 170 (Xx 171 ZF Yf wE n):=by
 refine pwo Tryz.func170 fun args σ K h=>?_
 exact mq7
def ZDh {n:Nat} (h:PC w0 nG 171 (YW (YH ZF) Yf wE n)):PC w0 nG 170 (Xx 171 ZF Yf wE n) :=
 ZBr ⟨ZBp ⟨ZBn ⟨ZBl ⟨h,trivial⟩,trivial⟩,trivial⟩,trivial⟩
def ZBt {n:Nat}:OKw w0 nG [(173,YW (YH YQ) YI wL n)] 228 (U4 173 (YH YQ) YI wL n):=by
 refine pwo Tryz.func228 fun args σ K h=>?_
 exact mq86
def ZBv {n:Nat}:OKw w0 nG [(228,U4 173 (YH YQ) YI wL n)] 264 (U5 228 173 YQ YI wL n):=by
 refine pwo Tryz.func264 fun args σ K h=>?_
 unfold U5 at h
 split at h
 ·obtain ⟨pl,l,rfl,⟨rfl,rfl,hz,hn⟩,h⟩:=h
  rename_i t
  have hlen:(l.map (YQ pl)).length=l.length:=Td ..;have hsz:=Zu wL l;refine pwv [(2,⟨[8],[0,1,7],fun vs σ=>∃i:Nat,vs=[.d (.int .i64 i)]/\σ=⟨[.cells t [.func 173 [] []]],[],0⟩/\i<=l.length/\l.all YI=(l.drop i).all YI,mu1 l.length⟩)] 1 false ?_;refine ⟨⟨0,rfl,rfl,oM,rfl⟩,?_⟩;intro vs σ hI
  obtain ⟨i,rfl,rfl,hi,hs⟩:=hI;(conv=>whnf);refine ZGg (fun ab=>wN ?_) (fun ab=>wN ?_)
  ·have ab:i<l.length:=lzI hlen ab;have hg:=ZD wL l i ab;rw [Xl _ ab] at hs;obtain ⟨eA,hA⟩:∃e,l[i]=e:=⟨_,rfl⟩
   obtain ⟨a1,a2,a3,a4,a5⟩:=eA;have cf:(l.map (YQ pl))[((i:Nat):Int).toNat]?=some (YQ pl (.mk a1 a2 a3 a4 a5)):=by simp [ab,hA]
   rw [hA] at hs hg;refine ⟨_,oM,cf,wN ?_⟩;refine ⟨pl,(.mk a1 a2 a3 a4 a5),rfl,⟨rfl,oM,oM⟩,fun b hb=>?_⟩
   cases b with
   | true =>
    have hp:YI (.mk a1 a2 a3 a4 a5)=false:=by simpa using hb
    exact mq42
   | false =>
   have hp:YI (.mk a1 a2 a3 a4 a5)=true:=by simpa using hb
   exact mq23
  exact mq27
 exact h.elim
def ZBx {n:Nat}:OKw w0 nG [(264,U5 228 173 YQ YI wL n)] 227 (U6 228 173 YQ YI wL n):=by
 refine pwo Tryz.func227 fun args σ K h=>?_
 unfold U6 at h
 split at h
 ·obtain ⟨pl,l,rfl,⟨rfl,rfl,hz,hn⟩,h⟩:=h;refine pwv [] 1 false ?_;refine ⟨pl,l,rfl,⟨rfl,rfl,hz,hn⟩,fun r hr=>wN ?_⟩;refine h _ ?_
  cases hb:l.all YI with
  | true=>rw [hb] at hr;have:=hr.2 rfl;simp;omega
  | false=>rw [hb] at hr;have:¬r<0:=fun g=>(by have:=hr.1 g;cases this);simp;omega
 exact h.elim
def ZBz {n:Nat}:OKw w0 nG [(227,U6 228 173 YQ YI wL n)] 172 (Xx 173 YQ YI wL n):=by
 refine pwo Tryz.func172 fun args σ K h=>?_
 exact mq7
def ZEY {n:Nat} (h:PC w0 nG 173 (YW (YH YQ) YI wL n)):PC w0 nG 172 (Xx 173 YQ YI wL n) :=
 ZBz ⟨ZBx ⟨ZBv ⟨ZBt ⟨h,trivial⟩,trivial⟩,trivial⟩,trivial⟩
def Zxe {n:Nat}:OKw w0 nG [(116,YW (YH ZQ) XL wRu n)] 169 (U4 116 (YH ZQ) XL wRu n):=by
 refine pwo Tryz.func169 fun args σ K h=>?_
 exact mq90
def Zxg {n:Nat}:OKw w0 nG [(169,U4 116 (YH ZQ) XL wRu n)] 223 (U5 169 116 ZQ XL wRu n):=by
 refine pwo Tryz.func223 fun args σ K h=>?_
 unfold U5 at h
 split at h
 ·obtain ⟨pl,l,rfl,⟨rfl,rfl,hz,hn⟩,h⟩:=h
  rename_i t
  have hlen:(l.map (ZQ pl)).length=l.length:=Td ..;have hsz:=Zu wRu l;refine pwv [(2,⟨[8],[0,1,7],fun vs σ=>∃i:Nat,vs=[.d (.int .i64 i)]/\σ=⟨[.cells t [.func 116 [] []]],[],0⟩/\i<=l.length/\l.all XL=(l.drop i).all XL,mu1 l.length⟩)] 1 false ?_;refine ⟨⟨0,rfl,rfl,oM,rfl⟩,?_⟩;intro vs σ hI
  obtain ⟨i,rfl,rfl,hi,hs⟩:=hI;(conv=>whnf);refine ZGg (fun ab=>wN ?_) (fun ab=>wN ?_)
  ·have ab:i<l.length:=lzI hlen ab;have hg:=ZD wRu l i ab;rw [Xl _ ab] at hs;obtain ⟨eA,hA⟩:∃e,l[i]=e:=⟨_,rfl⟩
   obtain ⟨a1,a2,a3,a4⟩:=eA;have cf:(l.map (ZQ pl))[((i:Nat):Int).toNat]?=some (ZQ pl ⟨a1,a2,a3,a4⟩):=by simp [ab,hA]
   rw [hA] at hs hg;refine ⟨_,oM,cf,wN ?_⟩;refine ⟨pl,⟨a1,a2,a3,a4⟩,rfl,⟨rfl,oM,oM⟩,fun b hb=>?_⟩
   cases b with
   | true =>
    have hp:XL ⟨a1,a2,a3,a4⟩=false:=by simpa using hb
    exact mq42
   | false =>
   have hp:XL ⟨a1,a2,a3,a4⟩=true:=by simpa using hb
   exact mq23
  exact mq27
 exact h.elim
def Zxi {n:Nat}:OKw w0 nG [(223,U5 169 116 ZQ XL wRu n)] 168 (U6 169 116 ZQ XL wRu n):=by
 refine pwo Tryz.func168 fun args σ K h=>?_
 unfold U6 at h
 split at h
 ·obtain ⟨pl,l,rfl,⟨rfl,rfl,hz,hn⟩,h⟩:=h;refine pwv [] 1 false ?_;refine ⟨pl,l,rfl,⟨rfl,rfl,hz,hn⟩,fun r hr=>wN ?_⟩;refine h _ ?_
  cases hb:l.all XL with
  | true=>rw [hb] at hr;have:=hr.2 rfl;simp;omega
  | false=>rw [hb] at hr;have:¬r<0:=fun g=>(by have:=hr.1 g;cases this);simp;omega
 exact h.elim
def Zxk {n:Nat}:OKw w0 nG [(168,U6 169 116 ZQ XL wRu n)] 115 (Xx 116 ZQ XL wRu n):=by
 refine pwo Tryz.func115 fun args σ K h=>?_
 exact mq7
def ZBA {n:Nat} (h:PC w0 nG 116 (YW (YH ZQ) XL wRu n)):PC w0 nG 115 (Xx 116 ZQ XL wRu n) :=
 Zxk ⟨Zxi ⟨Zxg ⟨Zxe ⟨h,trivial⟩,trivial⟩,trivial⟩,trivial⟩
def Zxm {n:Nat}:OKw w0 nG [(114,YW (YH (fun _=>Zn)) YR wFi n)] 167 (U4 114 (YH (fun _=>Zn)) YR wFi n):=by
 refine pwo Tryz.func167 fun args σ K h=>?_
 exact mq51
def Zxo {n:Nat}:OKw w0 nG [(167,U4 114 (YH (fun _=>Zn)) YR wFi n)] 202 (U5 167 114 (fun _=>Zn) YR wFi n):=by
 refine pwo Tryz.func202 fun args σ K h=>?_
 unfold U5 at h
 split at h
 ·obtain ⟨pl,l,rfl,⟨rfl,rfl,hz,hn⟩,h⟩:=h
  rename_i t
  have hlen:(l.map ((fun _=>Zn) pl)).length=l.length:=Td ..;have hsz:=Zu wFi l;refine pwv [(2,⟨[8],[0,1,7],fun vs σ=>∃i:Nat,vs=[.d (.int .i64 i)]/\σ=⟨[.cells t [.func 114 [] []]],[],0⟩/\i<=l.length/\l.all YR=(l.drop i).all YR,mu1 l.length⟩)] 1 false ?_;refine ⟨⟨0,rfl,rfl,oM,rfl⟩,?_⟩;intro vs σ hI
  obtain ⟨i,rfl,rfl,hi,hs⟩:=hI;(conv=>whnf);refine ZGg (fun ab=>wN ?_) (fun ab=>wN ?_)
  ·have ab:i<l.length:=lzI hlen ab;have hg:=ZD wFi l i ab;rw [Xl _ ab] at hs;obtain ⟨eA,hA⟩:∃e,l[i]=e:=⟨_,rfl⟩
   obtain ⟨a1,a2⟩:=eA;have cf:(l.map ((fun _=>Zn) pl))[((i:Nat):Int).toNat]?=some ((fun _=>Zn) pl ⟨a1,a2⟩):=by simp [ab,hA]
   rw [hA] at hs hg;refine ⟨_,oM,cf,wN ?_⟩;refine ⟨pl,⟨a1,a2⟩,rfl,⟨rfl,oM,oM⟩,fun b hb=>?_⟩
   cases b with
   | true =>
    have hp:YR ⟨a1,a2⟩=false:=by simpa using hb
    exact mq42
   | false =>
   have hp:YR ⟨a1,a2⟩=true:=by simpa using hb
   exact mq23
  exact mq27
 exact h.elim
def Zxq {n:Nat}:OKw w0 nG [(202,U5 167 114 (fun _=>Zn) YR wFi n)] 134 (U6 167 114 (fun _=>Zn) YR wFi n):=by
 refine pwo Tryz.func134 fun args σ K h=>?_
 unfold U6 at h
 split at h
 ·obtain ⟨pl,l,rfl,⟨rfl,rfl,hz,hn⟩,h⟩:=h;refine pwv [] 1 false ?_;refine ⟨pl,l,rfl,⟨rfl,rfl,hz,hn⟩,fun r hr=>wN ?_⟩;refine h _ ?_
  cases hb:l.all YR with
  | true=>rw [hb] at hr;have:=hr.2 rfl;simp;omega
  | false=>rw [hb] at hr;have:¬r<0:=fun g=>(by have:=hr.1 g;cases this);simp;omega
 exact h.elim
def Zxs {n:Nat}:OKw w0 nG [(134,U6 167 114 (fun _=>Zn) YR wFi n)] 113 (Xx 114 (fun _=>Zn) YR wFi n):=by
 refine pwo Tryz.func113 fun args σ K h=>?_
 exact mq7
def ZD6 {n:Nat} (h:PC w0 nG 114 (YW (YH (fun _=>Zn)) YR wFi n)):PC w0 nG 113 (Xx 114 (fun _=>Zn) YR wFi n) :=
 Zxs ⟨Zxq ⟨Zxo ⟨Zxm ⟨h,trivial⟩,trivial⟩,trivial⟩,trivial⟩
def Zxu {n:Nat}:OKw w0 nG [(162,YW (YH (fun _=>Zy)) Xo wCa n)] 217 (U4 162 (YH (fun _=>Zy)) Xo wCa n):=by
 refine pwo Tryz.func217 fun args σ K h=>?_
 exact mq51
def Zxw {n:Nat}:OKw w0 nG [(217,U4 162 (YH (fun _=>Zy)) Xo wCa n)] 133 (U5 217 162 (fun _=>Zy) Xo wCa n):=by
 refine pwo Tryz.func133 fun args σ K h=>?_
 unfold U5 at h
 split at h
 ·obtain ⟨pl,l,rfl,⟨rfl,rfl,hz,hn⟩,h⟩:=h
  rename_i t
  have hlen:(l.map ((fun _=>Zy) pl)).length=l.length:=Td ..;have hsz:=Zu wCa l;refine pwv [(2,⟨[8],[0,1,7],fun vs σ=>∃i:Nat,vs=[.d (.int .i64 i)]/\σ=⟨[.cells t [.func 162 [] []]],[],0⟩/\i<=l.length/\l.all Xo=(l.drop i).all Xo,mu1 l.length⟩)] 1 false ?_;refine ⟨⟨0,rfl,rfl,oM,rfl⟩,?_⟩;intro vs σ hI
  obtain ⟨i,rfl,rfl,hi,hs⟩:=hI;(conv=>whnf);refine ZGg (fun ab=>wN ?_) (fun ab=>wN ?_)
  ·have ab:i<l.length:=lzI hlen ab;have hg:=ZD wCa l i ab;rw [Xl _ ab] at hs;obtain ⟨eA,hA⟩:∃e,l[i]=e:=⟨_,rfl⟩
   obtain ⟨a1,a2⟩:=eA;have cf:(l.map ((fun _=>Zy) pl))[((i:Nat):Int).toNat]?=some ((fun _=>Zy) pl ⟨a1,a2⟩):=by simp [ab,hA]
   rw [hA] at hs hg;refine ⟨_,oM,cf,wN ?_⟩;refine ⟨pl,⟨a1,a2⟩,rfl,⟨rfl,oM,oM⟩,fun b hb=>?_⟩
   cases b with
   | true =>
    have hp:Xo ⟨a1,a2⟩=false:=by simpa using hb
    exact mq42
   | false =>
   have hp:Xo ⟨a1,a2⟩=true:=by simpa using hb
   exact mq23
  exact mq27
 exact h.elim
def Zxy {n:Nat}:OKw w0 nG [(133,U5 217 162 (fun _=>Zy) Xo wCa n)] 79 (U6 217 162 (fun _=>Zy) Xo wCa n):=by
 refine pwo Tryz.func79 fun args σ K h=>?_
 unfold U6 at h
 split at h
 ·obtain ⟨pl,l,rfl,⟨rfl,rfl,hz,hn⟩,h⟩:=h;refine pwv [] 1 false ?_;refine ⟨pl,l,rfl,⟨rfl,rfl,hz,hn⟩,fun r hr=>wN ?_⟩;refine h _ ?_
  cases hb:l.all Xo with
  | true=>rw [hb] at hr;have:=hr.2 rfl;simp;omega
  | false=>rw [hb] at hr;have:¬r<0:=fun g=>(by have:=hr.1 g;cases this);simp;omega
 exact h.elim
def ZxA {n:Nat}:OKw w0 nG [(79,U6 217 162 (fun _=>Zy) Xo wCa n)] 161 (Xx 162 (fun _=>Zy) Xo wCa n):=by
 refine pwo Tryz.func161 fun args σ K h=>?_
 exact mq7
def ZD7 {n:Nat} (h:PC w0 nG 162 (YW (YH (fun _=>Zy)) Xo wCa n)):PC w0 nG 161 (Xx 162 (fun _=>Zy) Xo wCa n) :=
 ZxA ⟨Zxy ⟨Zxw ⟨Zxu ⟨h,trivial⟩,trivial⟩,trivial⟩,trivial⟩
def ZxC {n:Nat}:OKw w0 nG [(109,YW (YH Zs) Yo wTy n)] 160 (U4 109 (YH Zs) Yo wTy n):=by
 refine pwo Tryz.func160 fun args σ K h=>?_
 exact mq83
def ZxE {n:Nat}:OKw w0 nG [(160,U4 109 (YH Zs) Yo wTy n)] 216 (U5 160 109 Zs Yo wTy n):=by
 refine pwo Tryz.func216 fun args σ K h=>?_
 unfold U5 at h
 split at h
 ·obtain ⟨pl,l,rfl,⟨rfl,rfl,hz,hn⟩,h⟩:=h
  rename_i t
  have hlen:(l.map (Zs pl)).length=l.length:=Td ..;have hsz:=Zu wTy l;refine pwv [(2,⟨[8],[0,1,7],fun vs σ=>∃i:Nat,vs=[.d (.int .i64 i)]/\σ=⟨[.cells t [.func 109 [] []]],[],0⟩/\i<=l.length/\l.all Yo=(l.drop i).all Yo,mu1 l.length⟩)] 1 false ?_;refine ⟨⟨0,rfl,rfl,oM,rfl⟩,?_⟩;intro vs σ hI
  obtain ⟨i,rfl,rfl,hi,hs⟩:=hI;(conv=>whnf);refine ZGg (fun ab=>wN ?_) (fun ab=>wN ?_)
  ·have ab:i<l.length:=lzI hlen ab;have hg:=ZD wTy l i ab;rw [Xl _ ab] at hs;obtain ⟨eA,hA⟩:∃e,l[i]=e:=⟨_,rfl⟩
   obtain ⟨a1,a2,a3,a4,a5,a6⟩:=eA;have cf:(l.map (Zs pl))[((i:Nat):Int).toNat]?=some (Zs pl ⟨a1,a2,a3,a4,a5,a6⟩):=by simp [ab,hA]
   rw [hA] at hs hg;refine ⟨_,oM,cf,wN ?_⟩;refine ⟨pl,⟨a1,a2,a3,a4,a5,a6⟩,rfl,⟨rfl,oM,oM⟩,fun b hb=>?_⟩
   cases b with
   | true =>
    have hp:Yo ⟨a1,a2,a3,a4,a5,a6⟩=false:=by simpa using hb
    exact mq42
   | false =>
   have hp:Yo ⟨a1,a2,a3,a4,a5,a6⟩=true:=by simpa using hb
   exact mq23
  exact mq27
 exact h.elim
def ZxG {n:Nat}:OKw w0 nG [(216,U5 160 109 Zs Yo wTy n)] 159 (U6 160 109 Zs Yo wTy n):=by
 refine pwo Tryz.func159 fun args σ K h=>?_
 unfold U6 at h
 split at h
 ·obtain ⟨pl,l,rfl,⟨rfl,rfl,hz,hn⟩,h⟩:=h;refine pwv [] 1 false ?_;refine ⟨pl,l,rfl,⟨rfl,rfl,hz,hn⟩,fun r hr=>wN ?_⟩;refine h _ ?_
  cases hb:l.all Yo with
  | true=>rw [hb] at hr;have:=hr.2 rfl;simp;omega
  | false=>rw [hb] at hr;have:¬r<0:=fun g=>(by have:=hr.1 g;cases this);simp;omega
 exact h.elim
def ZxI {n:Nat}:OKw w0 nG [(159,U6 160 109 Zs Yo wTy n)] 108 (Xx 109 Zs Yo wTy n):=by
 refine pwo Tryz.func108 fun args σ K h=>?_
 exact mq7
def ZBB {n:Nat} (h:PC w0 nG 109 (YW (YH Zs) Yo wTy n)):PC w0 nG 108 (Xx 109 Zs Yo wTy n) :=
 ZxI ⟨ZxG ⟨ZxE ⟨ZxC ⟨h,trivial⟩,trivial⟩,trivial⟩,trivial⟩
def ZxK {n:Nat}:OKw w0 nG [(111,YW (YH ZM) X3 wRe n)] 164 (U4 111 (YH ZM) X3 wRe n):=by
 refine pwo Tryz.func164 fun args σ K h=>?_
 exact mq83
def ZxM {n:Nat}:OKw w0 nG [(164,U4 111 (YH ZM) X3 wRe n)] 218 (U5 164 111 ZM X3 wRe n):=by
 refine pwo Tryz.func218 fun args σ K h=>?_
 unfold U5 at h
 split at h
 ·obtain ⟨pl,l,rfl,⟨rfl,rfl,hz,hn⟩,h⟩:=h
  rename_i t
  have hlen:(l.map (ZM pl)).length=l.length:=Td ..;have hsz:=Zu wRe l;refine pwv [(2,⟨[8],[0,1,7],fun vs σ=>∃i:Nat,vs=[.d (.int .i64 i)]/\σ=⟨[.cells t [.func 111 [] []]],[],0⟩/\i<=l.length/\l.all X3=(l.drop i).all X3,mu1 l.length⟩)] 1 false ?_;refine ⟨⟨0,rfl,rfl,oM,rfl⟩,?_⟩;intro vs σ hI
  obtain ⟨i,rfl,rfl,hi,hs⟩:=hI;(conv=>whnf);refine ZGg (fun ab=>wN ?_) (fun ab=>wN ?_)
  ·have ab:i<l.length:=lzI hlen ab;have hg:=ZD wRe l i ab;rw [Xl _ ab] at hs;obtain ⟨eA,hA⟩:∃e,l[i]=e:=⟨_,rfl⟩
   obtain ⟨a1,a2,a3,a4,a5,a6⟩:=eA;have cf:(l.map (ZM pl))[((i:Nat):Int).toNat]?=some (ZM pl ⟨a1,a2,a3,a4,a5,a6⟩):=by simp [ab,hA]
   rw [hA] at hs hg;refine ⟨_,oM,cf,wN ?_⟩;refine ⟨pl,⟨a1,a2,a3,a4,a5,a6⟩,rfl,⟨rfl,oM,oM⟩,fun b hb=>?_⟩
   cases b with
   | true =>
    have hp:X3 ⟨a1,a2,a3,a4,a5,a6⟩=false:=by simpa using hb
    exact mq42
   | false =>
   have hp:X3 ⟨a1,a2,a3,a4,a5,a6⟩=true:=by simpa using hb
   exact mq23
  exact mq27
 exact h.elim
def ZxO {n:Nat}:OKw w0 nG [(218,U5 164 111 ZM X3 wRe n)] 163 (U6 164 111 ZM X3 wRe n):=by
 refine pwo Tryz.func163 fun args σ K h=>?_
 unfold U6 at h
 split at h
 ·obtain ⟨pl,l,rfl,⟨rfl,rfl,hz,hn⟩,h⟩:=h;refine pwv [] 1 false ?_;refine ⟨pl,l,rfl,⟨rfl,rfl,hz,hn⟩,fun r hr=>wN ?_⟩;refine h _ ?_
  cases hb:l.all X3 with
  | true=>rw [hb] at hr;have:=hr.2 rfl;simp;omega
  | false=>rw [hb] at hr;have:¬r<0:=fun g=>(by have:=hr.1 g;cases this);simp;omega
 exact h.elim
def ZxQ {n:Nat}:OKw w0 nG [(163,U6 164 111 ZM X3 wRe n)] 110 (Xx 111 ZM X3 wRe n):=by
 refine pwo Tryz.func110 fun args σ K h=>?_
 exact mq7
def ZBC {n:Nat} (h:PC w0 nG 111 (YW (YH ZM) X3 wRe n)):PC w0 nG 110 (Xx 111 ZM X3 wRe n) :=
 ZxQ ⟨ZxO ⟨ZxM ⟨ZxK ⟨h,trivial⟩,trivial⟩,trivial⟩,trivial⟩
def ZxS {n:Nat}:OKw w0 nG [(118,YW (YH XK) Yi wCo n)] 175 (U4 118 (YH XK) Yi wCo n):=by
 refine pwo Tryz.func175 fun args σ K h=>?_
 unfold U4 at h
 split at h
 ·obtain ⟨pl,⟨a1,a2,a3,a4,⟨u1,u2,u3,u4,u5,u6⟩,a6⟩,rfl,⟨rfl,hz,hn⟩,h⟩:=h;refine pwv [] 1 false ?_;refine ⟨pl,(.mk a1 a2 a3 a4 (.mk u1 u2 u3 u4 u5 u6) a6),rfl,⟨hz,hn⟩,fun b hb=>wN ?_⟩;exact h _ (by rw [hb])
 exact h.elim
def ZxU {n:Nat}:OKw w0 nG [(175,U4 118 (YH XK) Yi wCo n)] 229 (U5 175 118 XK Yi wCo n):=by
 refine pwo Tryz.func229 fun args σ K h=>?_
 unfold U5 at h
 split at h
 ·obtain ⟨pl,l,rfl,⟨rfl,rfl,hz,hn⟩,h⟩:=h
  rename_i t
  have hlen:(l.map (XK pl)).length=l.length:=Td ..;have hsz:=Zu wCo l;refine pwv [(2,⟨[8],[0,1,7],fun vs σ=>∃i:Nat,vs=[.d (.int .i64 i)]/\σ=⟨[.cells t [.func 118 [] []]],[],0⟩/\i<=l.length/\l.all Yi=(l.drop i).all Yi,mu1 l.length⟩)] 1 false ?_;refine ⟨⟨0,rfl,rfl,oM,rfl⟩,?_⟩;intro vs σ hI
  obtain ⟨i,rfl,rfl,hi,hs⟩:=hI;(conv=>whnf);refine ZGg (fun ab=>?_) (fun ab=>wN ?_)
  ·have ab:i<l.length:=lzI hlen ab;have hg:=ZD wCo l i ab;rw [Xl _ ab] at hs;obtain ⟨eA,hA⟩:∃e,l[i]=e:=⟨_,rfl⟩
   obtain ⟨a1,a2,a3,a4,⟨u1,u2,u3,u4,u5,u6⟩,a6⟩:=eA;have cf:(l.map (XK pl))[((i:Nat):Int).toNat]?=some (XK pl (.mk a1 a2 a3 a4 (.mk u1 u2 u3 u4 u5 u6) a6)):=by simp [ab,hA]
   rw [hA] at hs hg;(conv=>whnf);refine ⟨_,oM,cf,wN ?_⟩;refine ⟨pl,(.mk a1 a2 a3 a4 (.mk u1 u2 u3 u4 u5 u6) a6),rfl,⟨rfl,oM,oM⟩,fun b hb=>?_⟩
   cases b with
   | true =>
    have hp:Yi (.mk a1 a2 a3 a4 (.mk u1 u2 u3 u4 u5 u6) a6)=false:=by simpa using hb
    exact mq42
   | false =>
   have hp:Yi (.mk a1 a2 a3 a4 (.mk u1 u2 u3 u4 u5 u6) a6)=true:=by simpa using hb
   exact mq23
  exact mq27
 exact h.elim
def ZxW {n:Nat}:OKw w0 nG [(229,U5 175 118 XK Yi wCo n)] 174 (U6 175 118 XK Yi wCo n):=by
 refine pwo Tryz.func174 fun args σ K h=>?_
 unfold U6 at h
 split at h
 ·obtain ⟨pl,l,rfl,⟨rfl,rfl,hz,hn⟩,h⟩:=h;refine pwv [] 1 false ?_;refine ⟨pl,l,rfl,⟨rfl,rfl,hz,hn⟩,fun r hr=>wN ?_⟩;refine h _ ?_
  cases hb:l.all Yi with
  | true=>rw [hb] at hr;have:=hr.2 rfl;simp;omega
  | false=>rw [hb] at hr;have:¬r<0:=fun g=>(by have:=hr.1 g;cases this);simp;omega
 exact h.elim
def ZxY {n:Nat}:OKw w0 nG [(174,U6 175 118 XK Yi wCo n)] 117 (Xx 118 XK Yi wCo n):=by
 refine pwo Tryz.func117 fun args σ K h=>?_
 exact mq7
def ZD8 {n:Nat} (h:PC w0 nG 118 (YW (YH XK) Yi wCo n)):PC w0 nG 117 (Xx 118 XK Yi wCo n) :=
 ZxY ⟨ZxW ⟨ZxU ⟨ZxS ⟨h,trivial⟩,trivial⟩,trivial⟩,trivial⟩
def Zx0 {n:Nat}:OKw w0 nG [(121,YW (YH X0) Wr wIn n)] 178 (U4 121 (YH X0) Wr wIn n):=by
 refine pwo Tryz.func178 fun args σ K h=>?_
 exact mq90
def Zx2 {n:Nat}:OKw w0 nG [(178,U4 121 (YH X0) Wr wIn n)] 230 (U5 178 121 X0 Wr wIn n):=by
 refine pwo Tryz.func230 fun args σ K h=>?_
 unfold U5 at h
 split at h
 ·obtain ⟨pl,l,rfl,⟨rfl,rfl,hz,hn⟩,h⟩:=h
  rename_i t
  have hlen:(l.map (X0 pl)).length=l.length:=Td ..;have hsz:=Zu wIn l;refine pwv [(2,⟨[8],[0,1,7],fun vs σ=>∃i:Nat,vs=[.d (.int .i64 i)]/\σ=⟨[.cells t [.func 121 [] []]],[],0⟩/\i<=l.length/\l.all Wr=(l.drop i).all Wr,mu1 l.length⟩)] 1 false ?_;refine ⟨⟨0,rfl,rfl,oM,rfl⟩,?_⟩;intro vs σ hI
  obtain ⟨i,rfl,rfl,hi,hs⟩:=hI;(conv=>whnf);refine ZGg (fun ab=>wN ?_) (fun ab=>wN ?_)
  ·have ab:i<l.length:=lzI hlen ab;have hg:=ZD wIn l i ab;rw [Xl _ ab] at hs;obtain ⟨eA,hA⟩:∃e,l[i]=e:=⟨_,rfl⟩
   obtain ⟨a1,a2,a3,a4⟩:=eA;have cf:(l.map (X0 pl))[((i:Nat):Int).toNat]?=some (X0 pl ⟨a1,a2,a3,a4⟩):=by simp [ab,hA]
   rw [hA] at hs hg;refine ⟨_,oM,cf,wN ?_⟩;refine ⟨pl,⟨a1,a2,a3,a4⟩,rfl,⟨rfl,oM,oM⟩,fun b hb=>?_⟩
   cases b with
   | true =>
    have hp:Wr ⟨a1,a2,a3,a4⟩=false:=by simpa using hb
    exact mq42
   | false =>
   have hp:Wr ⟨a1,a2,a3,a4⟩=true:=by simpa using hb
   exact mq23
  exact mq27
 exact h.elim
def Zx4 {n:Nat}:OKw w0 nG [(230,U5 178 121 X0 Wr wIn n)] 177 (U6 178 121 X0 Wr wIn n):=by
 refine pwo Tryz.func177 fun args σ K h=>?_
 unfold U6 at h
 split at h
 ·obtain ⟨pl,l,rfl,⟨rfl,rfl,hz,hn⟩,h⟩:=h;refine pwv [] 1 false ?_;refine ⟨pl,l,rfl,⟨rfl,rfl,hz,hn⟩,fun r hr=>wN ?_⟩;refine h _ ?_
  cases hb:l.all Wr with
  | true=>rw [hb] at hr;have:=hr.2 rfl;simp;omega
  | false=>rw [hb] at hr;have:¬r<0:=fun g=>(by have:=hr.1 g;cases this);simp;omega
 exact h.elim
def Zx6 {n:Nat}:OKw w0 nG [(177,U6 178 121 X0 Wr wIn n)] 120 (Xx 121 X0 Wr wIn n):=by
 refine pwo Tryz.func120 fun args σ K h=>?_
 exact mq7
def ZBD {n:Nat} (h:PC w0 nG 121 (YW (YH X0) Wr wIn n)):PC w0 nG 120 (Xx 121 X0 Wr wIn n) :=
 Zx6 ⟨Zx4 ⟨Zx2 ⟨Zx0 ⟨h,trivial⟩,trivial⟩,trivial⟩,trivial⟩
def Zx8 {n:Nat}:OKw w0 nG [(123,YW (YH X1) WS wOv n)] 180 (U4 123 (YH X1) WS wOv n):=by
 refine pwo Tryz.func180 fun args σ K h=>?_
 exact mq51
def Zya {n:Nat}:OKw w0 nG [(180,U4 123 (YH X1) WS wOv n)] 231 (U5 180 123 X1 WS wOv n):=by
 refine pwo Tryz.func231 fun args σ K h=>?_
 unfold U5 at h
 split at h
 ·obtain ⟨pl,l,rfl,⟨rfl,rfl,hz,hn⟩,h⟩:=h
  rename_i t
  have hlen:(l.map (X1 pl)).length=l.length:=Td ..;have hsz:=Zu wOv l;refine pwv [(2,⟨[8],[0,1,7],fun vs σ=>∃i:Nat,vs=[.d (.int .i64 i)]/\σ=⟨[.cells t [.func 123 [] []]],[],0⟩/\i<=l.length/\l.all WS=(l.drop i).all WS,mu1 l.length⟩)] 1 false ?_;refine ⟨⟨0,rfl,rfl,oM,rfl⟩,?_⟩;intro vs σ hI
  obtain ⟨i,rfl,rfl,hi,hs⟩:=hI;(conv=>whnf);refine ZGg (fun ab=>wN ?_) (fun ab=>wN ?_)
  ·have ab:i<l.length:=lzI hlen ab;have hg:=ZD wOv l i ab;rw [Xl _ ab] at hs;obtain ⟨eA,hA⟩:∃e,l[i]=e:=⟨_,rfl⟩
   obtain ⟨a1,a2⟩:=eA;have cf:(l.map (X1 pl))[((i:Nat):Int).toNat]?=some (X1 pl ⟨a1,a2⟩):=by simp [ab,hA]
   rw [hA] at hs hg;refine ⟨_,oM,cf,wN ?_⟩;refine ⟨pl,⟨a1,a2⟩,rfl,⟨rfl,oM,oM⟩,fun b hb=>?_⟩
   cases b with
   | true =>
    have hp:WS ⟨a1,a2⟩=false:=by simpa using hb
    exact mq42
   | false =>
   have hp:WS ⟨a1,a2⟩=true:=by simpa using hb
   exact mq23
  exact mq27
 exact h.elim
def Zyc {n:Nat}:OKw w0 nG [(231,U5 180 123 X1 WS wOv n)] 179 (U6 180 123 X1 WS wOv n):=by
 refine pwo Tryz.func179 fun args σ K h=>?_
 unfold U6 at h
 split at h
 ·obtain ⟨pl,l,rfl,⟨rfl,rfl,hz,hn⟩,h⟩:=h;refine pwv [] 1 false ?_;refine ⟨pl,l,rfl,⟨rfl,rfl,hz,hn⟩,fun r hr=>wN ?_⟩;refine h _ ?_
  cases hb:l.all WS with
  | true=>rw [hb] at hr;have:=hr.2 rfl;simp;omega
  | false=>rw [hb] at hr;have:¬r<0:=fun g=>(by have:=hr.1 g;cases this);simp;omega
 exact h.elim
def Zye {n:Nat}:OKw w0 nG [(179,U6 180 123 X1 WS wOv n)] 122 (Xx 123 X1 WS wOv n):=by
 refine pwo Tryz.func122 fun args σ K h=>?_
 exact mq7
def ZBE {n:Nat} (h:PC w0 nG 123 (YW (YH X1) WS wOv n)):PC w0 nG 122 (Xx 123 X1 WS wOv n) :=
 Zye ⟨Zyc ⟨Zya ⟨Zx8 ⟨h,trivial⟩,trivial⟩,trivial⟩,trivial⟩
def Zyg {n:Nat}:OKw w0 nG [(112,YW ZjG Xj wBs n)] 176 (U4 112 ZjG Xj wBs n):=by
 refine pwo Tryz.func176 fun args σ K h=>?_
 unfold U4 at h
 split at h
 ·obtain ⟨pl,x,rfl,⟨rfl,hz,hn⟩,h⟩:=h;refine pwv [] 1 false ?_;refine ⟨pl,x,rfl,⟨hz,hn⟩,fun b hb=>wN ?_⟩;exact h _ (by rw [hb])
 exact h.elim
def Zyi {n:Nat}:OKw w0 nG [(176,U4 112 ZjG Xj wBs n)] 206 (U5 176 112 (fun _=>Yh) Xj wBs n):=by
 refine pwo Tryz.func206 fun args σ K h=>?_
 unfold U5 at h
 split at h
 ·obtain ⟨pl,l,rfl,⟨rfl,rfl,hz,hn⟩,h⟩:=h
  rename_i t
  have hlen:(l.map ((fun _=>Yh) pl)).length=l.length:=Td ..;have hsz:=Zu wBs l;refine pwv [(2,⟨[8],[0,1,7],fun vs σ=>∃i:Nat,vs=[.d (.int .i64 i)]/\σ=⟨[.cells t [.func 112 [] []]],[],0⟩/\i<=l.length/\l.all Xj=(l.drop i).all Xj,mu1 l.length⟩)] 1 false ?_;refine ⟨⟨0,rfl,rfl,oM,rfl⟩,?_⟩;intro vs σ hI
  obtain ⟨i,rfl,rfl,hi,hs⟩:=hI;(conv=>whnf);refine ZGg (fun ab=>wN ?_) (fun ab=>wN ?_)
  ·have ab:i<l.length:=lzI hlen ab;have hg:=ZD wBs l i ab;rw [Xl _ ab] at hs;obtain ⟨eA,hA⟩:∃e,l[i]=e:=⟨_,rfl⟩
   have cf:(l.map ((fun _=>Yh) pl))[((i:Nat):Int).toNat]?=some ((fun _=>Yh) pl eA):=by simp [ab,hA]
   rw [hA] at hs hg;refine ⟨_,oM,cf,wN ?_⟩;refine ⟨pl,eA,rfl,⟨rfl,oM,oM⟩,fun b hb=>?_⟩
   cases b with
   | true =>
    have hp:Xj eA=false:=by simpa using hb
    exact mq42
   | false =>
   have hp:Xj eA=true:=by simpa using hb
   exact mq23
  exact mq27
 exact h.elim
def Zyk {n:Nat}:OKw w0 nG [(206,U5 176 112 (fun _=>Yh) Xj wBs n)] 144 (U6 176 112 (fun _=>Yh) Xj wBs n):=by
 refine pwo Tryz.func144 fun args σ K h=>?_
 unfold U6 at h
 split at h
 ·obtain ⟨pl,l,rfl,⟨rfl,rfl,hz,hn⟩,h⟩:=h;refine pwv [] 1 false ?_;refine ⟨pl,l,rfl,⟨rfl,rfl,hz,hn⟩,fun r hr=>wN ?_⟩;refine h _ ?_
  cases hb:l.all Xj with
  | true=>rw [hb] at hr;have:=hr.2 rfl;simp;omega
  | false=>rw [hb] at hr;have:¬r<0:=fun g=>(by have:=hr.1 g;cases this);simp;omega
 exact h.elim
def Zym {n:Nat}:OKw w0 nG [(144,U6 176 112 (fun _=>Yh) Xj wBs n)] 119 (Xx 112 (fun _=>Yh) Xj wBs n):=by
 refine pwo Tryz.func119 fun args σ K h=>?_
 exact mq7
def ZD9 {n:Nat} (h:PC w0 nG 112 (YW ZjG Xj wBs n)):PC w0 nG 119 (Xx 112 (fun _=>Yh) Xj wBs n) :=
 Zym ⟨Zyk ⟨Zyi ⟨Zyg ⟨h,trivial⟩,trivial⟩,trivial⟩,trivial⟩
def ZAz:Zk:=fun args σ K=>match args,σ with
 | [.d (.int .u8 op)],⟨[],[],0⟩=>∃o:Nat,op=o/\∀l w a,(ZV o:Int)=l->VH o=w->VZ o=a->K (.ret (.agg [.d (.int .i64 l),.d (.str w),.d (.int .i64 a)])) ⟨[],[],0⟩
 | _,_=>False
def Zqp:Zx ZAz:=fun args σ K K' hK h=>by
 unfold ZAz at h |-
 split at h
 ·obtain ⟨o,h1,h2⟩:=h;exact ⟨o,h1,fun l w a e1 e2 e3=>hK _ _ (h2 l w a e1 e2 e3)⟩
 exact h.elim
def Ztm:PC w0 nG 225 ZAz:=by
 refine pwe Tryz.func225 fun args σ K h=>?_
 unfold ZAz at h
 split at h
 ·obtain ⟨o,rfl,h⟩:=h;refine pwu [] 0 false ?_
  repeat' ((conv=>whnf);refine ZGg (fun hc=>?_) (fun hc=>?_))
  all_goals (conv=>whnf)
  all_goals first
  | (have e : o = 16 := by omega
     subst e;exact h _ _ _ rfl rfl rfl)
  | (have e : o = 17 := by omega
     subst e;exact h _ _ _ rfl rfl rfl)
  | (have e : o = 15 := by omega
     subst e;exact h _ _ _ rfl rfl rfl)
  | (have e : o = 18 := by omega
     subst e;exact h _ _ _ rfl rfl rfl)
  | (have e : o = 19 := by omega
     subst e;exact h _ _ _ rfl rfl rfl)
  | (have e : o = 10 := by omega
     subst e;exact h _ _ _ rfl rfl rfl)
  | (have e : o = 11 := by omega
     subst e;exact h _ _ _ rfl rfl rfl)
  | (have e : o = 12 := by omega
     subst e;exact h _ _ _ rfl rfl rfl)
  | (have e : o = 13 := by omega
     subst e;exact h _ _ _ rfl rfl rfl)
  | (have e : o = 14 := by omega
     subst e;exact h _ _ _ rfl rfl rfl)
  | (have e : o = 8 := by omega
     subst e;exact h _ _ _ rfl rfl rfl)
  | (have e : o = 9 := by omega
     subst e;exact h _ _ _ rfl rfl rfl)
  | (have e : o = 20 := by omega
     subst e;exact h _ _ _ rfl rfl rfl)
  | (have e : o = 21 := by omega
     subst e;exact h _ _ _ rfl rfl rfl)
  | (have e : o = 22 := by omega
     subst e;exact h _ _ _ rfl rfl rfl)
  | (have e : o = 23 := by omega
     subst e;exact h _ _ _ rfl rfl rfl)
  | (have e : o = 24 := by omega
     subst e;exact h _ _ _ rfl rfl rfl)
  | (have e : o = 25 := by omega
     subst e;exact h _ _ _ rfl rfl rfl)
  | (have e : o = 6 := by omega
     subst e;exact h _ _ _ rfl rfl rfl)
  | (have e : o = 7 := by omega
     subst e;exact h _ _ _ rfl rfl rfl)
  | (have e : o = 1 := by omega
     subst e;exact h _ _ _ rfl rfl rfl)
  | (have e : o = 2 := by omega
     subst e;exact h _ _ _ rfl rfl rfl)
  | (have e : o = 3 := by omega
     subst e;exact h _ _ _ rfl rfl rfl)
  | (have e : o = 4 := by omega
     subst e;exact h _ _ _ rfl rfl rfl)
  | (have e : o = 5 := by omega
     subst e;exact h _ _ _ rfl rfl rfl)
  | (refine h _ _ _ ?_ ?_ ?_
     ·unfold ZV;(repeat rw [Tf oM]);rfl
     ·unfold VH;(repeat rw [Tf oM])
     unfold VZ;(repeat rw [Tf oM]))
 exact h.elim
def ZBG {n:Nat}:OKw w0 nG [(165,Zhi),(166,ZiM)] 112 (YW ZjG Xj wBs n):=by
 refine pwo Tryz.func112 fun args σ K h=>?_
 unfold YW at h
 split at h
 ·obtain ⟨pl,s,rfl,⟨hz,hn⟩,h⟩:=h;unfold wBs at hz
  refine pwv [] 0 false ?_;refine ⟨oM,wN ?_⟩;refine ZGj (fun jg=>?_) (fun jg=>?_);rotate_left
  ·(conv=>whnf);exact h _ (by simp [Xj,jg])
  conv=>whnf
  refine ZGi (fun dv=>?_) (fun dv=>?_);rotate_left
  ·(conv=>whnf);exact h _ (by simp only [Xj,jg,dv];decide)
  conv=>whnf
  refine fun b hb=>wN ?_
  exact h _ (by rw [Xj,jg,hb,decide_eq_false dv];simp)
 exact h.elim
def ZBI {n:Nat}:OKw w0 nG [(112,YW ZjG Xj wBs n)] 114 (YW (YH (fun _=>Zn)) YR wFi n):=by
 refine pwo Tryz.func114 fun args σ K h=>?_
 unfold YW at h
 split at h
 ·obtain ⟨pl,⟨a1,a2⟩,rfl,⟨hz,hn⟩,h⟩:=h;simp only [wFi] at hz;refine pwv [] 0 false ?_;refine ⟨fun _=>0,a1,rfl,⟨by simp only [wBs];omega,oM⟩,fun b eh=>?_⟩
  cases b with
  | false =>
   conv=>whnf
   exact h _ (by simp [YR,eh])
  | true =>
  conv=>whnf
  refine ⟨fun _=>0,a2,rfl,⟨by simp only [wBs];omega,oM⟩,fun b jf=>wN ?_⟩;exact h _ (by simp [YR,eh,jf])
 exact h.elim
def ZBK {n:Nat}:OKw w0 nG [(112,YW ZjG Xj wBs n),(113,Xx 114 (fun _=>Zn) YR wFi n)] 162 (YW (YH (fun _=>Zy)) Xo wCa n):=by
 refine pwo Tryz.func162 fun args σ K h=>?_
 unfold YW at h
 split at h
 ·obtain ⟨pl,⟨a1,a2⟩,rfl,⟨hz,hn⟩,h⟩:=h;simp only [wCa] at hz;refine pwv [] 0 false ?_;refine ⟨fun _=>0,a1,rfl,⟨by simp only [wBs];omega,oM⟩,fun b eh=>?_⟩
  cases b with
  | false =>
   conv=>whnf
   exact h _ (by simp [Xo,eh])
  | true =>
  conv=>whnf
  refine ⟨pl,a2,rfl,⟨rfl,oM,oM⟩,fun b gx=>wN ?_⟩;exact h _ (by simp [Xo,eh,gx])
 exact h.elim
def ZBM {n:Nat}:OKw w0 nG [(112,YW ZjG Xj wBs n),(113,Xx 114 (fun _=>Zn) YR wFi n)] 111 (YW (YH ZM) X3 wRe n):=by
 refine pwo Tryz.func111 fun args σ K h=>?_
 unfold YW at h
 split at h
 ·obtain ⟨pl,⟨a1,a2,a3,a4,a5,a6⟩,rfl,⟨hz,hn⟩,h⟩:=h;simp only [wRe] at hz;refine pwv [] 0 false ?_;refine ⟨fun _=>0,a1,rfl,⟨by simp only [wBs];omega,oM⟩,fun b eh=>?_⟩
  cases b with
  | false =>
   conv=>whnf
   exact h _ (by simp [X3,eh])
  | true =>
  conv=>whnf
  refine ⟨pl,a2,rfl,⟨rfl,oM,oM⟩,fun b gx=>wN ?_⟩;exact h _ (by simp [X3,eh,gx])
 exact h.elim
def ZBO {n:Nat}:OKw w0 nG [(112,YW ZjG Xj wBs n),(119,Xx 112 (fun _=>Yh) Xj wBs n)] 121 (YW (YH X0) Wr wIn n):=by
 refine pwo Tryz.func121 fun args σ K h=>?_
 unfold YW at h
 split at h
 ·obtain ⟨pl,⟨a1,a2,a3,a4⟩,rfl,⟨hz,hn⟩,h⟩:=h;simp only [wIn] at hz;refine pwv [] 0 false ?_;refine ⟨fun _=>0,a1,rfl,⟨by simp only [wBs];omega,oM⟩,fun b eh=>?_⟩
  cases b with
  | false =>
   conv=>whnf
   exact h _ (by simp [Wr,eh])
  | true =>
  conv=>whnf
  refine ⟨fun _=>0,a2,rfl,⟨by simp only [wBs];omega,oM⟩,fun b jf=>?_⟩
  cases b with
  | false =>
   conv=>whnf
   exact h _ (by simp [Wr,eh,jf])
  | true =>
  conv=>whnf
  refine ⟨pl,a3,rfl,⟨rfl,oM,oM⟩,fun b ff=>wN ?_⟩;exact h _ (by simp [Wr,eh,jf,ff])
 exact h.elim
def ZBQ {n:Nat}:OKw w0 nG [(112,YW ZjG Xj wBs n)] 123 (YW (YH X1) WS wOv n):=by
 refine pwo Tryz.func123 fun args σ K h=>?_
 unfold YW at h
 split at h
 ·obtain ⟨pl,⟨a1,a2⟩,rfl,⟨hz,hn⟩,h⟩:=h;simp only [wOv] at hz;refine pwv [] 0 false ?_;refine ⟨fun _=>0,a1,rfl,⟨by simp only [wBs];omega,oM⟩,fun b eh=>wN ?_⟩;exact h _ (by simp [WS,eh])
 exact h.elim
def ZBS {n:Nat}:OKw w0 nG [(112,YW ZjG Xj wBs n),(170,Xx 171 ZF Yf wE n),(172,Xx 173 YQ YI wL n)] 116 (YW (YH ZQ) XL wRu n):=by
 refine pwo Tryz.func116 fun args σ K h=>?_
 unfold YW at h
 split at h
 ·obtain ⟨pl,⟨a1,a2,a3,a4⟩,rfl,⟨hz,hn⟩,h⟩:=h;simp only [wRu] at hz;refine pwv [] 0 false ?_;refine ⟨fun _=>0,a1,rfl,⟨by simp only [wBs];omega,oM⟩,fun b eh=>?_⟩
  cases b with
  | false =>
   conv=>whnf
   exact h _ (by simp [XL,eh])
  | true =>
  conv=>whnf
  refine ⟨pl,a2,Zc _ _,⟨rfl,oM,oM⟩,fun b gx=>?_⟩
  cases b with
  | false =>
   conv=>whnf
   exact h _ (by simp [XL,eh,gx])
  | true =>
  conv=>whnf
  refine ⟨pl,a3,Zq _ _,⟨rfl,oM,oM⟩,fun b ff=>wN ?_⟩;exact h _ (by simp [XL,eh,gx,ff])
 exact h.elim
def ZBT {n:Nat}:OKw w0 nG [(225,ZAz),(112,YW ZjG Xj wBs n),(226,JS),(170,spB (Xx 171 ZF Yf wE) n)] 171 (YW (YH ZF) Yf wE n):=by
 refine pwo Tryz.func171 fun args σ K h=>?_
 unfold YW at h
 split at h
 ·obtain ⟨pl,⟨a1,a2,a3,a4,a5⟩,rfl,⟨hz,hn⟩,h⟩:=h;simp only [wE,Zqn] at hz;refine pwv [] 0 false ?_;have ei:(Ze pl a4).length=a4.length:=by rw [Zc,Td]
  refine ⟨a1,rfl,fun l w a hl hw ha=>wN ?_⟩;refine ZGg (fun dx=>wN ?_) (fun dx=>wN ?_)
  ·have t8:=dx;have dx:a1=1:=oM;refine ZGg (fun _=>wN ?_) (fun hx=>absurd t8 hx);exact mq160
  refine ZGg (fun ua=>wN ?_) (fun ua=>wN ?_)
  ·have dx:a1=7:=by omega
   exact mq160
  have dx:¬a1=1:=oM;have ua:¬a1=7:=oM;refine ZGg (fun m8=>wN ?_) (fun m8=>wN ?_)
  ·have m8:a1=4:=by omega
   refine ⟨oM,fun hq=>wN ?_,fun q hq=>wN ?_⟩
   ·have l0:V0 a1 a2=false:=by simp [V0,m8,hq]
    exact mq6
   have l0:V0 a1 a2=true:=by simp [V0,m8,hq]
   exact mq4
  have m8:¬a1=4:=oM;have l0:V0 a1 a2=decide (a2=[]):=by simp [V0,dx,ua,m8]
  refine ZGg (fun h1=>?_) (fun h1=>?_);rotate_left
  ·exact mq190
  conv=>whnf
  refine ZGg (fun h2=>wN ?_) (fun h2=>wN ?_)
  ·refine ZGg (fun h3=>wN ?_) (fun h3=>wN ?_)
   ·refine ZGg (fun h4=>?_) (fun h4=>?_);rotate_left
    ·exact mq148
    rw [TX h4] at l0;(conv=>whnf);exact mq187
   refine ZGg (fun h5=>?_) (fun h5=>?_);rotate_left
   ·exact mq158
   have h5:a1=3:=oM;have jz:(decide (a3=0) || decide (a1=3))=true:=by simp [h5]
   conv=>whnf
   refine ZGg (fun h4=>?_) (fun h4=>?_);rotate_left
   ·exact mq148
   rw [TX h4] at l0;exact mq182
  refine ZGg (fun h6=>?_) (fun h6=>?_);rotate_left
  ·exact mq162
  have h6:(a4.length:Int)=a:=by rw [<- ei];exact h6
  conv=>whnf
  refine ZGg (fun h3=>wN ?_) (fun h3=>wN ?_)
  ·refine ZGg (fun h4=>?_) (fun h4=>?_);rotate_left
   ·exact mq148
   rw [TX h4] at l0;(conv=>whnf);exact mq186
  refine ZGg (fun h5=>?_) (fun h5=>?_);rotate_left
  ·exact mq158
  have h5:a1=3:=oM;have jz:(decide (a3=0) || decide (a1=3))=true:=by simp [h5]
  conv=>whnf
  refine ZGg (fun h4=>?_) (fun h4=>?_);rotate_left
  ·exact mq148
  rw [TX h4] at l0;exact mq181
 exact h.elim
def ZBU {n:Nat}:OKw w0 nG [(112,YW ZjG Xj wBs n),(170,Xx 171 ZF Yf wE n),(172,spB (Xx 173 YQ YI wL) n)] 173 (YW (YH YQ) YI wL n):=by
 refine pwo Tryz.func173 fun args σ K h=>?_
 unfold YW at h
 split at h
 ·obtain ⟨pl,⟨a1,a2,a3,a4,a5⟩,rfl,⟨hz,hn⟩,h⟩:=h;simp only [wL,Zmc] at hz;refine pwv [] 0 false ?_;have dc:(Ze pl a3).length=a3.length:=by rw [Zc,Td]
  have ei:(ZL pl a4).length=a4.length:=by rw [Zq,Td]
  have ru:((0:Int)<((ZL pl a4).length:Int))↔0<a4.length:=by rw [ei];omega
  refine ZGg (fun dx=>wN ?_) (fun dx=>wN ?_)
  ·have t8:=dx;have dx:a1=1:=oM;refine ZGg (fun _=>wN ?_) (fun hx=>absurd t8 hx);exact mq153
  refine ZGg (fun t7=>wN ?_) (fun t7=>wN ?_)
  ·have dx:a1=2:=by omega
   exact mq153
  have jx:¬(a1=1\/a1=2):=oM;refine ZGg (fun ac3=>wN ?_) (fun ac3=>wN ?_)
  ·refine ZGg (fun ac4=>wN ?_) (fun ac4=>wN ?_)
   ·have h38:3<=a1/\a1<=8:=by omega
    refine ZGg (fun hr=>?_) (fun hr=>?_);rotate_left
    ·have j5:YY a1 a2 a3.length a4.length=false:=by simp [YY,jx,h38,hr]
     conv=>whnf
     exact mq59
    conv=>whnf
    refine ZGg (fun hA=>?_) (fun hA=>?_);rotate_left
    ·have hA:¬a3.length=2:=fun g=>hA (by show ((Ze pl a3).length:Int)=2;rw [dc,g];rfl)
     have j5:YY a1 a2 a3.length a4.length=false:=by simp [YY,jx,h38,hA]
     conv=>whnf
     exact mq59
    have hA:a3.length=2:=by have hA:((Ze pl a3).length:Int)=2:=hA;rw [dc] at hA;omega
    conv=>whnf
    refine ZGi (fun hB=>wN ?_) (fun hB=>wN ?_)
    ·have hB:¬0<a4.length:=fun g=>hB (ru.2 g)
     have j5:YY a1 a2 a3.length a4.length=true:=by simp only [YY,jx,h38,hr,hA,decide_eq_false hB];simp
     exact mq8
    have hB:=ru.1 hB;have j5:YY a1 a2 a3.length a4.length=false:=by simp [YY,jx,h38,hr,hA,hB]
    exact mq59
   exact mq3
  exact mq3
 exact h.elim
end Go.PM.Lex
end

section
namespace Go.PM.Lex
open Go.Proofs
variable {w0:World} {nG:Nat}
def ZBW {n:Nat}:OKw w0 nG [(112,YW ZjG Xj wBs n),(113,Xx 114 (fun _=>Zn) YR wFi n),(161,Xx 162 (fun _=>Zy) Xo wCa n)] 109 (YW (YH Zs) Yo wTy n):=by
 refine pwo Tryz.func109 fun args σ K h=>?_
 unfold YW at h
 split at h
 ·obtain ⟨pl,⟨a1,a2,a3,a4,a5,a6⟩,rfl,⟨hz,hn⟩,h⟩:=h;simp only [wTy] at hz;refine pwv [] 0 false ?_;have ei:(a4.map Zn).length=a4.length:=Td ..;have iz:(a5.map Zy).length=a5.length:=Td ..;have ml:(((a4.map Zn).length:Int)=0)↔a4.length=0:=by rw [ei];omega
  have wh:(((a5.map Zy).length:Int)=0)↔a5.length=0:=by rw [iz];omega
  refine ZGg (fun hk=>?_) (fun hk=>wN ?_)
  ·(try dsimp only at hk)
   have hk:a1=1:=oM;(conv=>whnf);refine ⟨fun _=>0,a3,rfl,⟨by simp only [wBs];omega,oM⟩,fun b dr=>?_⟩
   cases b with
   | false =>
    conv=>whnf
    have l4:Zb5 (⟨a1,a2,a3,a4,a5,a6⟩:Ty)=false:=by simp [Zb5,hk,dr]
    conv=>whnf
    exact mq119
   | true =>
   conv=>whnf
   refine ZGg (fun h4=>wN ?_) (fun h4=>wN ?_)
   ·have h4:=ml.1 h4;refine ZGg (fun h5=>wN ?_) (fun h5=>wN ?_)
    ·have h5:=wh.1 h5;have l4:Zb5 (⟨a1,a2,a3,a4,a5,a6⟩:Ty)=true:=by simp [Zb5,hk,dr,h4,h5]
     exact mq22
    have h5:¬a5.length=0:=fun g=>h5 (wh.2 g)
    have l4:Zb5 (⟨a1,a2,a3,a4,a5,a6⟩:Ty)=false:=by simp [Zb5,hk,dr,h4,h5]
    exact mq119
   have h4:¬a4.length=0:=fun g=>h4 (ml.2 g)
   have l4:Zb5 (⟨a1,a2,a3,a4,a5,a6⟩:Ty)=false:=by simp [Zb5,hk,dr,h4]
   exact mq119
  refine ZGg (fun bw=>?_) (fun bw=>wN ?_)
  ·(try dsimp only at bw)
   have bw:a1=2:=oM;(conv=>whnf);refine ZGg (fun dr=>?_) (fun dr=>?_);rotate_left
   ·have l4:Zb5 (⟨a1,a2,a3,a4,a5,a6⟩:Ty)=false:=by simp [Zb5,bw,dr]
    conv=>whnf
    exact mq119
   (try dsimp only at dr)
   conv=>whnf
   refine ZGg (fun h5=>wN ?_) (fun h5=>wN ?_)
   ·have h5:=wh.1 h5;have l4:Zb5 (⟨a1,a2,a3,a4,a5,a6⟩:Ty)=true:=by simp [Zb5,bw,dr,h5]
    exact mq22
   have h5:¬a5.length=0:=fun g=>h5 (wh.2 g)
   have l4:Zb5 (⟨a1,a2,a3,a4,a5,a6⟩:Ty)=false:=by simp [Zb5,bw,dr,h5]
   exact mq119
  refine ZGg (fun l8=>?_) (fun l8=>?_)
  ·(try dsimp only at l8)
   have l8:a1=3:=oM;(conv=>whnf);refine ZGg (fun dr=>?_) (fun dr=>?_);rotate_left
   ·have l4:Zb5 (⟨a1,a2,a3,a4,a5,a6⟩:Ty)=false:=by simp [Zb5,l8,dr]
    conv=>whnf
    exact mq119
   (try dsimp only at dr)
   conv=>whnf
   refine ZGg (fun h4=>wN ?_) (fun h4=>wN ?_)
   ·have h4:=ml.1 h4;refine ZGi (fun h5=>wN ?_) (fun h5=>wN ?_)
    ·have h5:¬a5.length=0:=fun g=>h5 (wh.2 g)
     have l4:Zb5 (⟨a1,a2,a3,a4,a5,a6⟩:Ty)=true:=by simp [Zb5,l8,dr,h4,h5]
     exact mq22
    have h5:=wh.1 h5;have l4:Zb5 (⟨a1,a2,a3,a4,a5,a6⟩:Ty)=false:=by simp [Zb5,l8,dr,h4,h5]
    exact mq119
   have h4:¬a4.length=0:=fun g=>h4 (ml.2 g)
   have l4:Zb5 (⟨a1,a2,a3,a4,a5,a6⟩:Ty)=false:=by simp [Zb5,l8,dr,h4]
   exact mq119
  (try dsimp only at hk bw l8)
  have hk:¬a1=1:=oM;have bw:¬a1=2:=oM;have l8:¬a1=3:=oM;have l4:Zb5 (⟨a1,a2,a3,a4,a5,a6⟩:Ty)=false:=by simp [Zb5,hk,bw,l8]
  conv=>whnf
  exact mq119
 exact h.elim
def ZBY {n:Nat}:OKw w0 nG [(112,YW ZjG Xj wBs n),(119,Xx 112 (fun _=>Yh) Xj wBs n),(70,YW (YH X2) Ze0 wUn n)] 118 (YW (YH XK) Yi wCo n):=by
 refine pwo Tryz.func118 fun args σ K h=>?_
 unfold YW at h
 split at h
 ·obtain ⟨pl,⟨a1,a2,a3,a4,⟨u1,u2,u3,u4,u5,u6⟩,a6⟩,rfl,⟨hz,hn⟩,h⟩:=h;simp only [wCo] at hz;refine pwv [] 0 false ?_;have ei:(a4.map Yh).length=a4.length:=Td ..;have ml:(((a4.map Yh).length:Int)=0)↔a4.length=0:=by rw [ei];omega
  refine ZGg (fun hb=>wN ?_) (fun hb=>wN ?_)
  ·refine ZGg (fun h4=>wN ?_) (fun h4=>wN ?_)
   ·have h4:=ml.1 h4;have lg:((decide (a3=[]) && decide (a4.length=0)) || Xj a3)=true:=by simp [hb,h4]
    exact mq12
   have h4:¬a4.length=0:=fun g=>h4 (ml.2 g)
   refine ⟨fun _=>0,a3,rfl,⟨by simp only [wBs];omega,oM⟩,fun b dr=>?_⟩
   cases b with
   | false =>
    have lg:((decide (a3=[]) && decide (a4.length=0)) || Xj a3)=false:=by simp [h4,dr]
    exact mq39
   | true =>
   have lg:((decide (a3=[]) && decide (a4.length=0)) || Xj a3)=true:=by simp [h4,dr]
   conv=>whnf
   exact mq12
  refine ⟨fun _=>0,a3,rfl,⟨by simp only [wBs];omega,oM⟩,fun b dr=>?_⟩
  cases b with
  | false =>
   have lg:((decide (a3=[]) && decide (a4.length=0)) || Xj a3)=false:=by simp [hb,dr]
   exact mq39
  | true =>
  have lg:((decide (a3=[]) && decide (a4.length=0)) || Xj a3)=true:=by simp [hb,dr]
  conv=>whnf
  exact mq12
 exact h.elim
def Zvr {n:Nat}:OKw w0 nG [(108,Xx 109 Zs Yo wTy n),(110,Xx 111 ZM X3 wRe n),(115,Xx 116 ZQ XL wRu n),(117,spB (Xx 118 XK Yi wCo) n),(120,Xx 121 X0 Wr wIn n),(122,Xx 123 X1 WS wOv n)] 70 (YW (YH X2) Ze0 wUn n):=by
 refine pwo Tryz.func70 fun args σ K h=>?_
 unfold YW at h
 split at h
 ·obtain ⟨pl,⟨a1,a2,a3,a4,a5,a6⟩,rfl,⟨hz,hn⟩,h⟩:=h;simp only [wUn,Zqo] at hz;refine pwv [] 0 false ?_;refine ⟨pl,a1,rfl,⟨rfl,oM,oM⟩,fun b ld=>?_⟩
  cases b with
  | false =>
   conv=>whnf
   exact h _ (by simp [Ze0,Ws,ld])
  | true =>
  conv=>whnf
  refine ⟨pl,a2,rfl,⟨rfl,oM,oM⟩,fun b gx=>?_⟩
  cases b with
  | false =>
   conv=>whnf
   exact h _ (by simp [Ze0,Ws,ld,gx])
  | true =>
  conv=>whnf
  refine ⟨pl,a3,rfl,⟨rfl,oM,oM⟩,fun b ff=>?_⟩
  cases b with
  | false =>
   conv=>whnf
   exact h _ (by simp [Ze0,Ws,ld,gx,ff])
  | true =>
  conv=>whnf
  refine ⟨oM,pl,a4,ZdF _ _,⟨rfl,oM,oM⟩,fun b ha3=>?_⟩
  cases b with
  | false =>
   conv=>whnf
   exact h _ (by simp [Ze0,Ws,ld,gx,ff,ha3])
  | true =>
  conv=>whnf
  refine ⟨pl,a5,rfl,⟨rfl,oM,oM⟩,fun b ha4=>?_⟩
  cases b with
  | false =>
   conv=>whnf
   exact h _ (by simp [Ze0,Ws,ld,gx,ff,ha3,ha4])
  | true =>
  conv=>whnf
  refine ⟨pl,a6,rfl,⟨rfl,oM,oM⟩,fun b ha5=>wN ?_⟩;exact h _ (by simp [Ze0,Ws,ld,gx,ff,ha3,ha4,ha5])
 exact h.elim
structure LexC (w0:World) (nG:Nat):Prop where
 name:PC w0 nG 165 Zhi
 quote:PC w0 nG 226 JS
variable (hL:LexC w0 nG)
include hL
def ZnS (n:Nat):PC w0 nG 112 (YW ZjG Xj wBs n):=ZBG ⟨hL.name,Zkn,trivial⟩
def cHE:∀n,PC w0 nG 171 (YW (YH ZF) Yf wE n)
 | 0=>ZBT ⟨Ztm,ZnS hL _,hL.quote,ZA (Zf Tryz.func170 kR rfl),trivial⟩
 | n+1=>ZBT ⟨Ztm,ZnS hL _,hL.quote,ZB (sp:=Xx 171 ZF Yf wE) (ZDh (cHE n)),trivial⟩
def cHL:∀n,PC w0 nG 173 (YW (YH YQ) YI wL n)
 | 0=>ZBU ⟨ZnS hL _,ZDh (cHE hL 0),ZA (Zf Tryz.func172 kR rfl),trivial⟩
 | n+1=>ZBU ⟨ZnS hL _,ZDh (cHE hL _),ZB (sp:=Xx 173 YQ YI wL) (ZEY (cHL n)),trivial⟩
def ZEZ (n:Nat):PC w0 nG 116 (YW (YH ZQ) XL wRu n):=ZBS ⟨ZnS hL _,ZDh (cHE hL _),ZEY (cHL hL _),trivial⟩
def ZEc (n:Nat):PC w0 nG 113 (Xx 114 (fun _=>Zn) YR wFi n):=ZD6 (ZBI ⟨ZnS hL _,trivial⟩)
def ZE0 (n:Nat):PC w0 nG 109 (YW (YH Zs) Yo wTy n):=ZBW ⟨ZnS hL _,ZEc hL n,ZD7 (ZBK ⟨ZnS hL _,ZEc hL n,trivial⟩),trivial⟩
def ZE1 (n:Nat):PC w0 nG 111 (YW (YH ZM) X3 wRe n):=ZBM ⟨ZnS hL _,ZEc hL n,trivial⟩
def ZE2 (n:Nat):PC w0 nG 119 (Xx 112 (fun _=>Yh) Xj wBs n):=ZD9 (ZnS hL n)
def ZE3 (n:Nat):PC w0 nG 121 (YW (YH X0) Wr wIn n):=ZBO ⟨ZnS hL _,ZE2 hL n,trivial⟩
def ZE4 (n:Nat):PC w0 nG 123 (YW (YH X1) WS wOv n):=ZBQ ⟨ZnS hL _,trivial⟩
def ZE5:∀n,PC w0 nG 70 (YW (YH X2) Ze0 wUn n)
 | 0=>Zvr ⟨ZBB (ZE0 hL _),ZBC (ZE1 hL _),ZBA (ZEZ hL _),ZA (Zf Tryz.func117 kR rfl),ZBD (ZE3 hL _),ZBE (ZE4 hL _),trivial⟩
 | n+1=>Zvr ⟨ZBB (ZE0 hL _),ZBC (ZE1 hL _),ZBA (ZEZ hL _),ZB (sp:=Xx 118 XK Yi wCo) (ZD8 (ZBY ⟨ZnS hL _,ZE2 hL _,ZE5 n,trivial⟩)),ZBD (ZE3 hL _),ZBE (ZE4 hL _),trivial⟩
end Go.PM.Lex
end

section
namespace Go.PM.Lex
open Go.Proofs Go.Shelf Go.RowKit
variable {w0:World} {nG:Nat}
def ZEd:liesAt Tryz.prog Tryz.prog.depth 132 (2 / Tryz.prog.cellsOf 132) 0 130 1=true:=kR
def ZkA (b:Nat) (w:World) (h0:w.cell? ⟨b,0,none⟩=some (.pointer none)) (gf:w.shape? b=some (132,2)) (lb:w.frozen? ⟨b,0,none⟩=false) :
  Calls Tryz.prog 232 #[.pointer (some ⟨b,0,none⟩)] w fun e w'=>e=.returned (.tuple #[])/\w'=w.setCell ⟨b,0,none⟩ (.pointer (some ⟨b,0,none⟩)):=by
 obtain ⟨j,hj,sd⟩:=i53
 go_enter Tryz.func232,Tryz.ntmps232
 go_wp2
 rw [Go.Lib.run_to_unsafe w ⟨b,0,none⟩ u50 u95 hj (by rw [sd];decide) gf (Nat.zero_lt_succ 1)];simp only [Result.andThen];rw [Oper.upon_value]
 go_wp2
 rw [run_callFunc_extern Tryz.func265 kR kR kR (e:=Extern.AbiNoEscape.same) kR];rw [Go.Lib.run_noEscape];simp only [Result.andThen];rw [Oper.upon_value]
 go_wp2
 rw [Go.Lib.run_from_unsafe w ⟨b,0,none⟩ u95 u50 hj gf ZEd];simp only [Result.andThen];rw [Oper.upon_value]
 go_wp2
 go_end0
 exact ⟨rfl,rfl⟩
def Uw:Zk:=fun args σ K=>match args,σ with
 | [.ptr 0 0],⟨[.cells t [p,q]],tk,nx⟩=>((p=.d .nilp\/p=.ptr 0 0)/\t=132)/\K (.ret (.tuple [])) ⟨[.cells t [.ptr 0 0,q]],tk,nx⟩
 | _,_=>False
def Zhj:PC w0 nG 232 Uw:=VB (Zf Tryz.func232 kR rfl) fun args σ K h e w vs hS ha=>by
 unfold Uw at h
 split at h
 ·rename_i t p q tk nx
  obtain ⟨⟨hp,rfl⟩,hK⟩:=h;obtain ⟨u,rfl,hu⟩:=ZeU ha;obtain ⟨cv,dv,bj,d0⟩:=hS.box 0 _ rfl;have dw:cv.size=2:=bj;obtain ⟨x0,i7⟩:∃x,cv[0]?=some x:=⟨cv[0]'oM,by simp [dw]⟩
  have v7:=(d0 0 p x0 rfl i7).1
  cases hu with
  | ptr b off hb =>
  refine ⟨_,_,.tuple #[],hK,?_⟩;rcases hp with rfl | rfl
  ·cases v7 with
   | d _ _ hd =>
   cases hd
   refine Calls.mono (ZkA (e.β 0) w ?_ ?_ ?_) fun en w' ⟨h1,h2⟩=>?_
   ·simp [World.cell?,dv,i7]
   ·simp only [World.shape?,dv,dw]
   ·simp [World.frozen?,dv]
   have hst:=Zdt (G:=GG w0 nG) (T:=VU) Zr hS (t:=127) (b:=0) (off:=0) (x:=.ptr 0 0) (v:=.pointer (some ⟨e.β 0,0,none⟩)) (l:=[.ptr 0 0]) (cs:=[.d .nilp,q]) (ty:=132) rfl (.ptr 0 0 hb) rfl rfl sM (by intro h;cases h);rw [h2];exact ⟨h1,.tuple [] #[] rfl (fun i x u hx=>by simp at hx),hst.2,hst.1.toLater⟩
  exact mq92
 exact h.elim
def ZnT {ty:TypeId} {P:Program} {ρ:Ren} (L:Lays.n169 P ρ) (X:Builder.Extra P ρ) (b g cap:Nat) (p:Value) (cur:Array Value) (fz:Nat×Nat) (l:Bs) (w:World) (h0:l≠[])
  (qd:w.heap[b]?=some (.cells #[p,.slice (some ⟨g,0,none⟩) l.length cap] ty (0,0))) (hg:w.heap[g]?=some (.cells cur (ρ.t 5) fz)) (hn:l.length<=cur.size) (hcap:cap≠0) (dj:l.length<=9223372036854775807)
  (ax:∀j x,l[j]?=some x->w.cell? ⟨g,j,none⟩=some (.int .u8 x.toNat)) :
  Calls P (ρ.f 169) #[.pointer (some ⟨b,0,none⟩)] w fun e w'=>e=.returned (.string ⟨l.toArray⟩)/\w'=w.drew.freeze ⟨g,0,none⟩ l.length:=by
 have c1:w.drew.cell? ⟨b,1,none⟩=some (.slice (some ⟨g,0,none⟩) l.length cap):=by
  have:w.drew.heap[b]?=some (.cells #[p,.slice (some ⟨g,0,none⟩) l.length cap] ty (0,0)):=qd;rw [Go.Lib.cell_of_heap this];rfl
 have hSD:(Builtin.unsafeSliceData_ #[(ρ.t 37)] (ρ.t 127) #[.slice (some ⟨g,0,none⟩) l.length cap]).run P w.drew=.ok (.pointer (some ⟨g,0,none⟩)) w.drew :=
  Go.Lib.run_unsafeSliceData_row _ _ _ _ _ _ hcap
 have hUS:(Builtin.unsafeString_ #[(ρ.t 127),(ρ.t 3)] (ρ.t 9) #[.pointer (some ⟨g,0,none⟩),.int .i64 l.length]).run P w.drew=.ok (.string ⟨l.toArray⟩) (w.drew.freeze ⟨g,0,none⟩ l.length):=by
  exact mq73
 have mixed:=L.mixed;have t72:=L.t72;have a72:=L.a72;have z72:=L.z72;have v72:=L.v72;have u72:=run_underlying L.t72;have t70:=L.t70;have a70:=L.a70;have z70:=L.z70;have v70:=L.v70;have u70:=run_underlying L.t70;have t37:=L.t37;have a37:=L.a37;have z37:=L.z37;have v37:=L.v37;have u37:=run_underlying L.t37;have t127:=L.t127;have a127:=L.a127;have z127:=L.z127;have v127:=L.v127;have u127:=run_underlying L.t127;have t3:=L.t3;have a3:=L.a3;have z3:=L.z3;have v3:=L.v3;have u3:=run_underlying L.t3;have t9:=L.t9;have a9:=L.a9;have z9:=L.z9;have v9:=L.v9;have u9:=run_underlying L.t9;have t5:=X.t5;have a5:=X.a5;have z5:=X.z5;have v5:=X.v5;have u5:=run_underlying X.t5
 go_enter L.f169,Body.n169_ntmps ρ
 go_wp2
 go_region_o
 all_goals (go_wp2;go_ret;exact ⟨rfl,rfl⟩)
def Ztn {ty:TypeId} {P:Program} {ρ:Ren} (L:Lays.n169 P ρ) (X:Builder.Extra P ρ) (B b:Nat) (p:Value) (w:World) (qd:w.heap[b]?=some (.cells #[p,.slice none 0 0] ty (0,0))) :
  Calls P (ρ.f 169) #[.pointer (some ⟨b,0,none⟩)] w fun e w'=>e=.returned (.string ⟨#[]⟩)/\Below B w w':=by
 have hUS:=Any.unsafeString_none L X;have c1:w.drew.cell? ⟨b,1,none⟩=some (.slice none 0 0):=by
  have:w.drew.heap[b]?=some (.cells #[p,.slice none 0 0] ty (0,0)):=qd;rw [Lib.cell_of_heap this];rfl
 have hSD:(Builtin.unsafeSliceData_ #[(ρ.t 37)] (ρ.t 127) #[.slice none 0 0]).run P w.drew=.ok (.pointer none) w.drew:=rfl;have mixed:=L.mixed;have t72:=L.t72;have a72:=L.a72;have z72:=L.z72;have v72:=L.v72;have u72:=run_underlying L.t72;have t70:=L.t70;have a70:=L.a70;have z70:=L.z70;have v70:=L.v70;have u70:=run_underlying L.t70;have t37:=L.t37;have a37:=L.a37;have z37:=L.z37;have v37:=L.v37;have u37:=run_underlying L.t37;have t127:=L.t127;have a127:=L.a127;have z127:=L.z127;have v127:=L.v127;have u127:=run_underlying L.t127;have t3:=L.t3;have a3:=L.a3;have z3:=L.z3;have v3:=L.v3;have u3:=run_underlying L.t3;have t9:=L.t9;have a9:=L.a9;have z9:=L.z9;have v9:=L.v9;have u9:=run_underlying L.t9;have t5:=X.t5;have a5:=X.a5;have z5:=X.z5;have v5:=X.v5;have u5:=run_underlying X.t5
 go_enter L.f169,Body.n169_ntmps ρ
 go_wp2
 go_region_o
 all_goals (go_wp2;go_ret;exact ⟨rfl,Below.drew (Below.refl B w)⟩)
def Zqq {ty:TypeId} {P:Program} {ρ:Ren} (L:Lays.n169 P ρ) (X:Builder.Extra P ρ) (B b g cap:Nat) (p:Value) (w:World) (jg:cap≠0) (qd:w.heap[b]?=some (.cells #[p,.slice (some ⟨g,0,none⟩) 0 cap] ty (0,0))) :
  Calls P (ρ.f 169) #[.pointer (some ⟨b,0,none⟩)] w fun e w'=>e=.returned (.string ⟨#[]⟩)/\Below B w w':=by
 have hUS:=Any.unsafeString_none L X;have c1:w.drew.cell? ⟨b,1,none⟩=some (.slice (some ⟨g,0,none⟩) 0 cap):=by
  have:w.drew.heap[b]?=some (.cells #[p,.slice (some ⟨g,0,none⟩) 0 cap] ty (0,0)):=qd;rw [Lib.cell_of_heap this];rfl
 have hSD:(Builtin.unsafeSliceData_ #[(ρ.t 37)] (ρ.t 127) #[.slice (some ⟨g,0,none⟩) 0 cap]).run P w.drew=.ok (.pointer (some ⟨g,0,none⟩)) w.drew:=Go.Lib.run_unsafeSliceData_row _ _ _ _ _ _ jg
 clear jg
 have mixed:=L.mixed;have t72:=L.t72;have a72:=L.a72;have z72:=L.z72;have v72:=L.v72;have u72:=run_underlying L.t72;have t70:=L.t70;have a70:=L.a70;have z70:=L.z70;have v70:=L.v70;have u70:=run_underlying L.t70;have t37:=L.t37;have a37:=L.a37;have z37:=L.z37;have v37:=L.v37;have u37:=run_underlying L.t37;have t127:=L.t127;have a127:=L.a127;have z127:=L.z127;have v127:=L.v127;have u127:=run_underlying L.t127;have t3:=L.t3;have a3:=L.a3;have z3:=L.z3;have v3:=L.v3;have u3:=run_underlying L.t3;have t9:=L.t9;have a9:=L.a9;have z9:=L.z9;have v9:=L.v9;have u9:=run_underlying L.t9;have t5:=X.t5;have a5:=X.a5;have z5:=X.z5;have v5:=X.v5;have u5:=run_underlying X.t5
 go_enter L.f169,Body.n169_ntmps ρ
 go_wp2
 go_region_o
 all_goals (go_wp2;go_ret;exact ⟨rfl,Below.drew (Below.refl B w)⟩)
end Go.PM.Lex
end

section
namespace Go.PM.Lex
open Go.Proofs
variable {w0:World} {nG:Nat}
def wk {rows:List (List D)} {p:PV} {t t1 e e1:Nat} {B:Bs->Prop} {F:Bs->Bs->Prop} (l txt:Bs) (b:B txt) (k:F l txt) (h1:rows=Zl l:=by rfl) (h2:p=.d .nilp\/p=.ptr 0 0:=by first | exact .inl rfl | exact .inr rfl) (h3:t=t1:=by rfl) (h4:e=e1:=by rfl) (h5:l.length+txt.length<70368744177664:=by (try simp only [Ta,Te,Tg]);omega):∃l txt,rows=Zl l/\((p=.d .nilp\/p=.ptr 0 0)/\t=t1/\e=e1)/\B txt/\l.length+txt.length<70368744177664/\F l txt:=⟨l,txt,h1,⟨h2,h3,h4⟩,b,h5,k⟩
def ZjH (r:PV) (body:List PV->Bs->Prop):Zk:=fun args σ K=>match args,σ with
 | .ptr 0 0::rest,⟨[.cells t [p,.sl 0 e rows]],[0],1⟩=>∃l txt,rows=Zl l/\((p=.d .nilp\/p=.ptr 0 0)/\t=132/\e=5)/\body rest txt/\l.length+txt.length<70368744177664 /\
   K (.ret r) ⟨[.cells t [.ptr 0 0,.sl 0 e (Zl (l++txt))]],[0],1⟩
 | _,_=>False
def Zaw (r:PV) (body:List PV->Bs->Prop):Zx (ZjH r body):=fun args σ K K' hK h=>by
 unfold ZjH at h |-
 split at h
 ·obtain ⟨l,txt,h1,h2,h3,h4,h5⟩:=h;exact ⟨l,txt,h1,h2,h3,h4,hK _ _ h5⟩
 exact h.elim
def Zhk {α:Type} (val:Pl->α->PV) (may:α->Bool) (txt:α->Bs) (w:α->Nat) (n:Nat):Zk:=fun args σ K=>match args,σ with
 | [v,.ptr 0 0],⟨[.cells tp [.ptr 1 0],.cells t [.ptr 1 0,.sl 0 e rows]],[0],1⟩=>∃l pl x,rows=Zl l/\v=val pl x/\(t=132/\e=5)/\(may x=true/\w x<=n/\n<=1073741824)/\l.length+(txt x).length<70368744177664 /\
   K (.ret (.tuple [])) ⟨[.cells tp [.ptr 1 0],.cells t [.ptr 1 0,.sl 0 e (Zl (l++txt x))]],[0],1⟩
 | _,_=>False
def Zqr {α:Type} (g0:FuncId) (enc:Pl->α->List D) (may:α->Bool) (txt:α->Bs) (w:α->Nat) (n:Nat):Zk:=fun args σ K=>match args,σ with
 | [.ptr 0 0,.d (.sl r),.d (.str bt),.func g [] [.ptr 1 0]],⟨[.cells t [.ptr 0 0,.sl 0 e rows],.cells tp [.ptr 0 0]],[0],1⟩=>∃l pl xs,rows=Zl l/\r=xs.map (enc pl)/\(t=132/\e=5/\g=g0)/\(xs.all may=true/\szS w xs<=n/\n<=1073741824)/\l.length+(Zh bt (xs.map txt)).length<70368744177664 /\
   K (.ret (.tuple [])) ⟨[.cells t [.ptr 0 0,.sl 0 e (Zl (l++Zh bt (xs.map txt)))],.cells tp [.ptr 0 0]],[0],1⟩
 | _,_=>False
def ZE6 (s:Bs):Zk:=ZjH (.tuple [.d (.int .i64 s.length),.d .nili]) fun rest txt=>rest=[.d (.str s)]/\txt=s
def Zhl:Zk:=fun args σ K=>match args with
 | [.ptr 0 0,.d (.str s)]=>ZE6 s args σ K
 | _=>False
def ZnU:Zx Zhl:=fun args σ K K' hK h=>by
 unfold Zhl at h |-
 split at h
 ·exact Zaw _ _ _ _ _ _ hK h
 exact h.elim
def ZB0:Tbl:=[(232,Uw)]
def Zqs:PC w0 nG 181 Zhl:=by
 refine pwt (tbl:=ZB0) ⟨Zhj,trivial⟩ Tryz.func181 fun args σ K h=>?_
 unfold Zhl at h
 split at h
 ·rename_i s
  unfold ZE6 ZjH at h
  split at h
  ·rename_i rest t p e rows ac
   obtain ⟨l,txt,rfl,⟨hp,rfl,rfl⟩,⟨aw,rfl⟩,hlen,h⟩:=h;simp only [List.cons.injEq,true_and] at ac;have hb:∀x:Bs,(Zl x).length=x.length:=fun x=>by simp [Zl]
   rw [W9] at h;refine pwu [] 1 true ?_;rcases hp with rfl | rfl
   all_goals
    conv=>whnf
    first | refine ⟨⟨.inl rfl,rfl⟩,?_⟩ | refine ⟨⟨.inr rfl,rfl⟩,?_⟩
    conv=>whnf
    refine ⟨fun r hr=>?_,?_,?_,?_⟩
    ·obtain ⟨b,_,rfl⟩:=Su.1 hr;rfl
    ·show ((Zl l).length+(Zl txt).length) * 1<=2 ^ 47;rw [hb,hb];omega
    ·show (Zl l).length+(Zl txt).length<=2 ^ 47;rw [hb,hb];omega
    exact mq47
  exact h.elim
 exact h.elim
def Ze1:Zk:=ZjH (.tuple []) fun rest txt=>∃ps:List Bs,rest=[.d (.sl (ps.map Yh))]/\ps≠[]/\ps.length<=1073741824/\txt=ps.flatten
def ZnV:Zx Ze1:=Zaw _ _
def Zqt:Tbl:=[(181,Zhl)]
def Zi2:TO w0 nG Zqt:=⟨Zqs,trivial⟩
def Zax:PC w0 nG 124 Ze1:=by
 refine pwt (tbl:=Zqt) Zi2 Tryz.func124 fun args σ K h=>?_
 unfold Ze1 ZjH at h
 split at h
 ·rename_i rest t p e rows
  obtain ⟨l,txt,rfl,⟨hp,rfl,rfl⟩,⟨ps,rfl,ai,ec,rfl⟩,hlen,h⟩:=h;have ca:(ps.map Yh).length=ps.length:=Td ..;refine pwu [(1,⟨[8],[0,6,7],fun vs σ=>∃(i:Nat) (P:PV),vs=[.d (.int .i64 i)]/\σ=⟨[.cells 132 [P,.sl 0 5 (Zl (l++(ps.take i).flatten))]],[0],1⟩/\(P=.d .nilp\/P=.ptr 0 0)/\(0<i->P=.ptr 0 0)/\i<=ps.length,mu1 ps.length⟩)] 1 true ?_;rcases hp with rfl | rfl
  all_goals
   conv=>whnf
   refine ⟨⟨0,_,rfl,(by simp only [T6,List.flatten_nil,TW];rfl),iM,fun g=>absurd g oM,oM⟩,?_⟩;intro vs σ hI
   obtain ⟨i,P,rfl,rfl,hP,hP0,hi⟩:=hI;(conv=>whnf);refine ZGg (fun ab=>?_) (fun ab=>?_)
   ·have ab:i<ps.length:=lzI ca ab;obtain ⟨s,hs⟩:∃s,ps[i]=s:=⟨_,rfl⟩
    have cf:(ps.map Yh)[((i:Nat):Int).toNat]?=some (Yh s):=by simp [ab,hs]
    have cq:(ps.take (i+1)).flatten=(ps.take i).flatten++s:=by rw [List.take_succ_eq_append_getElem ab,List.flatten_append,hs];simp
    have am:(ps.take (i+1)).flatten.length<=ps.flatten.length:=by
     have e:ps.flatten=(ps.take (i+1)).flatten++(ps.drop (i+1)).flatten:=by rw [<- List.flatten_append,List.take_append_drop]
     rw [e,Ta];omega
    rw [cq,Ta] at am;rcases hP with rfl | rfl
    all_goals
     conv=>whnf
     refine ⟨_,oM,cf,wN ?_⟩;refine ⟨l++(ps.take i).flatten,s,rfl,⟨iM,rfl,rfl⟩,⟨rfl,rfl⟩,by rw [Ta];omega,?_⟩;(conv=>whnf);refine Zi ?_;refine ⟨⟨i+1,_,rfl,(by rw [cq,Tn];rfl),.inr rfl,fun _=>rfl,oM⟩,?_⟩;exact lzM oM
   have ab:i=ps.length:=lzE ca oM ab;subst ab;obtain rfl:=hP0 (List.length_pos_iff.2 ai);rw [T7];exact mq47
 exact h.elim
def ZdW (bt:Bs):∀(l:List Bs) (x:Bs),Zh bt (l++[x])=if l=[] then x else Zh bt l++(bt++x)
 | [],x=>rfl
 | [y],x=>by simp [Zh]
 | y::z::l,x=>by
  have ih:=ZdW bt (z::l) x;simp only [T9] at ih |-;rw [Zh,ih] <;> simp [Zh]
def VI {α:Type} (bt:Bs) (f:α->Bs) {xs:List α} {i:Nat} (h:i<xs.length):Zh bt ((xs.take (i+1)).map f)=if i=0 then f xs[i] else Zh bt ((xs.take i).map f)++(bt++f xs[i]):=by
 rw [List.take_succ_eq_append_getElem h,TS,Tz,TJ,ZdW];have e:((xs.take i).map f=[])↔i=0:=by
  rw [<- Sd,Td,List.length_take];omega
 by_cases h0:i=0
 ·rw [Tj (e.2 h0),Tj h0]
 rw [Tf (fun g=>h0 (e.1 g)),Tf h0]
def Zay (bt:Bs):∀(l m:List Bs),(Zh bt l).length<=(Zh bt (l++m)).length
 | [],m=>Sa _
 | [x],[]=>Tr _
 | [x],y::m=>by simp only [T9,Sg,Zh,Ta];omega
 | x::y::l,m=>by
  have ih:=Zay bt (y::l) m;simp only [T9,Zh,Ta] at ih |-;omega
def Zaz {α:Type} (bt:Bs) (f:α->Bs) (xs:List α) (i:Nat):(Zh bt ((xs.take i).map f)).length<=(Zh bt (xs.map f)).length:=by
 have h:=Zay bt ((xs.take i).map f) ((xs.drop i).map f)
 rwa [<- TS,List.take_append_drop] at h
def Zyo {n:Nat}:OKw w0 nG [(181,Zhl),(183,Zhk (YH (fun _=>Zn)) YR fiT wFi n)] 182 (Zqr 183 (fun _=>Zn) YR fiT wFi n):=by
 refine pwo Tryz.func182 fun args σ K h=>?_
 unfold Zqr at h
 split at h
 ·rename_i r bt g t e rows tp
  obtain ⟨l,pl,xs,rfl,rfl,⟨rfl,rfl,rfl⟩,⟨bm,hz,hn⟩,hlen,h⟩:=h;have ca:(xs.map ((fun _=>Zn) pl)).length=xs.length:=Td ..;have hsz:=Zu wFi xs;refine pwv [(1,⟨[12],[0,1,2,3,10,11],fun vs σ=>∃i:Nat,vs=[.d (.int .i64 i)]/\σ=⟨[.cells 132 [.ptr 0 0,.sl 0 5 (Zl (l++Zh bt ((xs.take i).map fiT)))],.cells tp [.ptr 0 0]],[0],1⟩/\i<=xs.length,mu1 xs.length⟩)] 2 true ?_;refine ⟨⟨0,rfl,(by simp only [T6,TJ,Zh,TW];rfl),oM⟩,?_⟩;intro vs σ hI
  obtain ⟨i,rfl,rfl,hi⟩:=hI;(conv=>whnf);refine ZGg (fun ab=>wN ?_) (fun ab=>?_)
  ·have ab:i<xs.length:=lzI ca ab;have hg:=ZD wFi xs i ab;have fg:YR xs[i]=true:=Tm.1 bm _ (TC ab);have cq:=VI bt fiT ab;have am:=Zaz bt fiT xs (i+1);obtain ⟨eA,hA⟩:∃x,xs[i]=x:=⟨_,rfl⟩
   obtain ⟨a1,a2⟩:=eA;rw [hA] at hg fg cq;have cf:(xs.map ((fun _=>Zn) pl))[((i:Nat):Int).toNat]?=some ((fun _=>Zn) pl ⟨a1,a2⟩):=by simp [ab,hA]
   refine ⟨_,oM,cf,wN ?_⟩;refine ZGg (fun h0=>wN ?_) (fun h0=>?_)
   ·have h0:0<i:=by omega
    rw [Tf oM] at cq;rw [cq] at am;simp only [Ta] at am;refine wk _ bt ⟨rfl,rfl⟩ (wN ?_);refine ⟨l++Zh bt ((xs.take i).map fiT)++bt,pl,⟨a1,a2⟩,rfl,rfl,⟨rfl,rfl⟩,⟨fg,oM,oM⟩,by simp only [Ta];omega,wN ?_⟩;exact mq76
   obtain rfl:i=0:=by omega
   rw [Tj rfl] at cq;rw [cq] at am;(conv=>whnf);refine ⟨l++Zh bt ((xs.take 0).map fiT),pl,⟨a1,a2⟩,rfl,rfl,⟨rfl,rfl⟩,⟨fg,oM,oM⟩,by simp only [T6,TJ,Zh,Ta,Tg];omega,wN ?_⟩;exact mq72
  exact mq170
 exact h.elim
def Zyq {n:Nat}:OKw w0 nG [(181,Zhl),(127,Zhk (YH (fun _=>Zy)) Xo caT wCa n)] 126 (Zqr 127 (fun _=>Zy) Xo caT wCa n):=by
 refine pwo Tryz.func126 fun args σ K h=>?_
 unfold Zqr at h
 split at h
 ·rename_i r bt g t e rows tp
  obtain ⟨l,pl,xs,rfl,rfl,⟨rfl,rfl,rfl⟩,⟨bm,hz,hn⟩,hlen,h⟩:=h;have ca:(xs.map ((fun _=>Zy) pl)).length=xs.length:=Td ..;have hsz:=Zu wCa xs;refine pwv [(1,⟨[12],[0,1,2,3,10,11],fun vs σ=>∃i:Nat,vs=[.d (.int .i64 i)]/\σ=⟨[.cells 132 [.ptr 0 0,.sl 0 5 (Zl (l++Zh bt ((xs.take i).map caT)))],.cells tp [.ptr 0 0]],[0],1⟩/\i<=xs.length,mu1 xs.length⟩)] 2 true ?_;refine ⟨⟨0,rfl,(by simp only [T6,TJ,Zh,TW];rfl),oM⟩,?_⟩;intro vs σ hI
  obtain ⟨i,rfl,rfl,hi⟩:=hI;(conv=>whnf);refine ZGg (fun ab=>wN ?_) (fun ab=>?_)
  ·have ab:i<xs.length:=lzI ca ab;have hg:=ZD wCa xs i ab;have fg:Xo xs[i]=true:=Tm.1 bm _ (TC ab);have cq:=VI bt caT ab;have am:=Zaz bt caT xs (i+1);obtain ⟨eA,hA⟩:∃x,xs[i]=x:=⟨_,rfl⟩
   obtain ⟨a1,a2⟩:=eA;rw [hA] at hg fg cq;have cf:(xs.map ((fun _=>Zy) pl))[((i:Nat):Int).toNat]?=some ((fun _=>Zy) pl ⟨a1,a2⟩):=by simp [ab,hA]
   refine ⟨_,oM,cf,wN ?_⟩;refine ZGg (fun h0=>wN ?_) (fun h0=>?_)
   ·have h0:0<i:=by omega
    rw [Tf oM] at cq;rw [cq] at am;simp only [Ta] at am;refine wk _ bt ⟨rfl,rfl⟩ (wN ?_);refine ⟨l++Zh bt ((xs.take i).map caT)++bt,pl,⟨a1,a2⟩,rfl,rfl,⟨rfl,rfl⟩,⟨fg,oM,oM⟩,by simp only [Ta];omega,wN ?_⟩;exact mq76
   obtain rfl:i=0:=by omega
   rw [Tj rfl] at cq;rw [cq] at am;(conv=>whnf);refine ⟨l++Zh bt ((xs.take 0).map caT),pl,⟨a1,a2⟩,rfl,rfl,⟨rfl,rfl⟩,⟨fg,oM,oM⟩,by simp only [T6,TJ,Zh,Ta,Tg];omega,wN ?_⟩;exact mq72
  exact mq170
 exact h.elim
def ZEe:Tab:=(.node (.node (.node (.node .leaf 3 ⟨1,8,.int .i64,[.d (.int .i64 (0))],true⟩ .leaf) 4 ⟨1,1,.bool,[.d (.bool false)],false⟩ .leaf) 5 ⟨1,1,.int .u8,[.d (.int .u8 (0))],true⟩ (.node .leaf 9 ⟨1,16,.string,[.d (.str [])],false⟩ .leaf)) 89 ⟨1,8,.int .u64,[.d (.int .u64 (0))],true⟩ (.node (.node .leaf 124 ⟨1,8,.int .u64,[.d (.int .u64 (0))],true⟩ .leaf) 128 ⟨1,24,.slice 5,[.nils 5],false⟩ (.node .leaf 361 ⟨65,65,.array 65 5,[.d (.int .u8 (0)),.d (.int .u8 (0)),.d (.int .u8 (0)),.d (.int .u8 (0)),.d (.int .u8 (0)),.d (.int .u8 (0)),.d (.int .u8 (0)),.d (.int .u8 (0)),.d (.int .u8 (0)),.d (.int .u8 (0)),.d (.int .u8 (0)),.d (.int .u8 (0)),.d (.int .u8 (0)),.d (.int .u8 (0)),.d (.int .u8 (0)),.d (.int .u8 (0)),.d (.int .u8 (0)),.d (.int .u8 (0)),.d (.int .u8 (0)),.d (.int .u8 (0)),.d (.int .u8 (0)),.d (.int .u8 (0)),.d (.int .u8 (0)),.d (.int .u8 (0)),.d (.int .u8 (0)),.d (.int .u8 (0)),.d (.int .u8 (0)),.d (.int .u8 (0)),.d (.int .u8 (0)),.d (.int .u8 (0)),.d (.int .u8 (0)),.d (.int .u8 (0)),.d (.int .u8 (0)),.d (.int .u8 (0)),.d (.int .u8 (0)),.d (.int .u8 (0)),.d (.int .u8 (0)),.d (.int .u8 (0)),.d (.int .u8 (0)),.d (.int .u8 (0)),.d (.int .u8 (0)),.d (.int .u8 (0)),.d (.int .u8 (0)),.d (.int .u8 (0)),.d (.int .u8 (0)),.d (.int .u8 (0)),.d (.int .u8 (0)),.d (.int .u8 (0)),.d (.int .u8 (0)),.d (.int .u8 (0)),.d (.int .u8 (0)),.d (.int .u8 (0)),.d (.int .u8 (0)),.d (.int .u8 (0)),.d (.int .u8 (0)),.d (.int .u8 (0)),.d (.int .u8 (0)),.d (.int .u8 (0)),.d (.int .u8 (0)),.d (.int .u8 (0)),.d (.int .u8 (0)),.d (.int .u8 (0)),.d (.int .u8 (0)),.d (.int .u8 (0)),.d (.int .u8 (0))],false⟩ .leaf)))
def Zto:TabOK ZEe Tryz.prog:=by unfold TabOK;kernel_rfl
end Go.PM.Lex
end

section
namespace Go.PM.Lex
open Go.Proofs Go.Shelf Go.RowKit
variable {w0:World} {nG:Nat}
structure NumOK (w0:World) (nG:Nat):Prop where
 big:7<nG
 pow : Lib.TabIs Tryz.prog w0 "internal/strconv.uint64pow10" .u64 Lib.pow10Tab
 bru:w0.cell? ⟨5,15,none⟩=some (.int .u8 4)
def ZB1:IntKind.u64.wrap (bits BinOp.and IntKind.u64 (16:Int) (IntKind.u64.wrap (-(16:Int))) * 285870213051353865) / 288230376151711744=(15:Int):=by decide +kernel
def Zyr (w:World) (ax:w.cell? ⟨5,15,none⟩=some (.int .u8 4)):Calls Tryz.prog 332 #[.int .u64 16] w fun e w'=>e=.returned (.int .i64 4)/\w'=w:=by
 go_enter Tryz.func332,Tryz.ntmps332
 go_wp2_with (simp only [ZB1])
 go_ret
 exact ⟨rfl,rfl⟩
def Zb6:∀(f n:Nat),n<f->Lib.decDigits n=JT 10 f n
 | 0,n,h=>oM
 | f+1,n,h=>by
  rw [Lib.decDigits,JT]
  by_cases c:n<10
  ·rw [dif_pos c,Tj c,ZjF,Tj c]
  rw [dif_neg c,Tf c,Zb6 f (n / 10) oM,ZjF,Tj oM]
def Zqu {n:Int} (h:0<=n):Lib.itoa n=ZfW n:=by
 rw [Lib.itoa,Tf oM,ZfW,Tf oM,Ve];exact Zb6 _ _ oM
def Ztp {e:Env} {σ:St} {w:World} {name:String} {k:IntKind} {zs:List Int} {g:Nat} (hS:SRel (GG w0 nG) e σ w) (h:Lib.TabIs Tryz.prog w0 name k zs) (hg:Tryz.prog.globalNamed name=some g) (aa:g<nG):Lib.TabIs Tryz.prog w name k zs:=by
 unfold Lib.TabIs World.var? at h |-
 rw [hg] at h |-;simp only [Option.bind_some] at h |-;rw [hS.glob g aa];exact h
def Zys {e:Env} {σ:St} {w:World} {k i:Nat} {u:Value} (hS:SRel (GG w0 nG) e σ w) (hk:k<nG) (h:w0.cell? ⟨k,i,none⟩=some u):w.cell? ⟨k,i,none⟩=some u:=by
 have:=hS.glob k hk;simpa [World.cell?,this] using h
def Zi3:Zk:=fun args σ K=>match args,σ with
 | [.d (.int .i64 n),.d (.int .i64 b)],⟨[],[],0⟩=>(b=10/\0<=n/\n<9223372036854775808)/\K (.ret (.d (.str (ZfW n)))) ⟨[],[],0⟩
 | _,_=>False
def ZkB:Zx Zi3:=fun args σ K K' hK h=>by
 unfold Zi3 at h |-;split at h <;> first | exact ⟨h.1,hK _ _ h.2⟩ | exact h.elim
def Zqv (hN:NumOK w0 nG):PC w0 nG 268 Zi3:=YN (Zf Tryz.func268 kR rfl) fun args σ K h e w vs hS ha=>by
 unfold Zi3 at h
 split at h
 ·rename_i n b
  obtain ⟨⟨rfl,h0,h1⟩,h⟩:=h;obtain ⟨u,v,rfl,hu,hv⟩:=ZgZ ha
  cases hu.dint;cases hv.dint
  have ht:=Ztp hS hN.pow (g:=3) kR (by have:=hN.big;omega);have hc:=Tryz.strconv_FormatInt_10 n oM oM w ht;rw [Zqu h0] at hc;exact ⟨_,h,_,fun _ _=>.mkstr,hc.mono fun en w' ⟨h1,k,os,h2⟩=>⟨h1,ZGm (by rw [h2];exact Lib.below_grow w.heap.size w (Tr _) k os)⟩⟩
 exact h.elim
def ZAA:Zk:=fun args σ K=>match args,σ with
 | [.d (.int .u64 n)],⟨[],[],0⟩=>n=16/\K (.ret (.d (.int .i64 4))) ⟨[],[],0⟩
 | _,_=>False
def Zyt (hN:NumOK w0 nG):PC w0 nG 332 ZAA:=YN (Zf Tryz.func332 kR rfl) fun args σ K h e w vs hS ha=>by
 unfold ZAA at h
 split at h
 ·rename_i n
  obtain ⟨rfl,h⟩:=h;obtain ⟨u,rfl,hu⟩:=ZeU ha
  cases hu.dint
  exact ⟨_,h,_,fun _ _=>.d _ _ (.int _ _),(Zyr w (Zys hS (k:=5) (by have:=hN.big;omega) hN.bru)).mono fun en w' ⟨h1,h2⟩=>⟨h1,by rw [h2];exact Grows.refl _⟩⟩
 exact h.elim
def ZEf:Tbl:=[(332,ZAA)]
def ZEg (hN:NumOK w0 nG):PC w0 nG 322 ZAA:=by
 refine pwt (tbl:=ZEf) ⟨Zyt hN,trivial⟩ Tryz.func322 fun args σ K h=>?_
 unfold ZAA at h
 split at h
 ·obtain ⟨rfl,h⟩:=h;refine pwv [] 0 false ?_;refine ⟨rfl,wN ?_⟩;exact h
 exact h.elim
def Zyu:Zk:=fun args σ K=>match args,σ with
 | [.d (.int .i64 n)],⟨[],[],0⟩=>n=16/\K (.ret (.d (.bool true))) ⟨[],[],0⟩
 | _,_=>False
def Zyv:Zj .and .i64 16 15=0:=by rw [Yw];decide +kernel
def ZB2:PC w0 nG 321 Zyu:=by
 refine pwe Tryz.func321 fun args σ K h=>?_
 unfold Zyu at h
 split at h
 ·obtain ⟨rfl,h⟩:=h;refine pwv [] 0 false ?_;refine Zi ?_;have e:(Zj .and .i64 16 (16 - 1))=0:=Zyv;rw [e];exact h
 exact h.elim
def Ztq {n:Nat} (h:16<=n):Ve 16 n=Ve 16 (n / 16)++[ZjF (n % 16)]:=by
 have key:∀(f g m:Nat),m<f->m<g->JT 16 f m=JT 16 g m:=by
  intro f
  induction f with
  | zero=>intro g m h;omega
  | succ f ih =>
  intro g m h1 h2
  obtain ⟨g,rfl⟩:∃k,g=k+1:=⟨g - 1,oM⟩
  rw [JT,JT];split
  ·rfl
  rw [ih g (m / 16) oM oM]
 rw [Ve,JT,Tf oM,Ve,key n (n / 16+1) (n / 16) oM oM]
def Ztr {n:Nat} (h:n<16):Ve 16 n=[ZjF n]:=by rw [Ve,JT,Tj h]
def digs36:Bs:=[48,49,50,51,52,53,54,55,56,57,97,98,99,100,101,102,103,104,105,106,107,108,109,110,111,112,113,114,115,116,117,118,119,120,121,122]
def Zqw:∀d:Fin 16,digs36.getD d.val 0=ZjF d.val:=by decide +kernel
def Zyw {u:Nat} (h:u<18446744073709551616):Zj .and .u64 (u:Int) 15=((u % 16:Nat):Int):=by
 have e:Zj .and .u64 (u:Int) 15=bits .and .u64 (u:Int) ((15:Nat):Int):=by rw [Yw];rfl
 rw [e,bits_and_u64_nat u 15 h dM];have:u &&& 15=u % 16:=Nat.and_two_pow_sub_one_eq_mod u 4;rw [this]
def sh4 (n:Int):Int:=n.fdiv (2 ^ (min (Int.toNat 4) (IntKind.bits .u64)))
def Zyx (u:Nat):sh4 (u:Int)=((u / 16:Nat):Int):=by
 show (u:Int).fdiv ((2:Int) ^ 4)=_;rw [show ((2:Int) ^ 4)=((16:Nat):Int) by decide,Int.fdiv_eq_ediv_of_nonneg _ dM];omega
def Zts {u:Nat} (h:u<18446744073709551616):digs36.getD (Zj .and .u64 (u:Int) 15).toNat 0=ZjF (u % 16):=by
 rw [Zyw h,Th];exact Zqw ⟨u % 16,Nat.mod_lt _ dM⟩
def Ztt {u:Nat} (h:u<16):digs36.getD (u:Int).toNat 0=ZjF u:=by
 rw [Th];exact Zqw ⟨u,h⟩
def Ztu {u:Nat} (h:u<18446744073709551616):0<=Zj .and .u64 (u:Int) 15:=by rw [Zyw h];omega
def Ztv {u:Nat} (h:u<18446744073709551616):Zj .and .u64 (u:Int) 15<36:=by rw [Zyw h];omega
def shN:Nat->Int->Int
 | 0,n=>n
 | j+1,n=>sh4 (shN j n)
def ZB3:Nat->Int->Bs
 | 0,_=>[]
 | j+1,n=>digs36.getD (Zj .and .u64 (shN j n) 15).toNat 0::ZB3 j n
def Zbt (u:Nat):∀j,shN j (u:Int)=((u / 16 ^ j:Nat):Int)
 | 0=>by rw [shN,Nat.pow_zero,Nat.div_one]
 | j+1=>by rw [shN,Zbt u j,Zyx,Nat.div_div_eq_div_mul,Nat.pow_succ]
def Zqx {u:Nat} (hu:u<18446744073709551616) (j:Nat):u / 16 ^ j<18446744073709551616:=Nat.lt_of_le_of_lt (Nat.div_le_self _ _) hu
def ZE7 {u:Nat} (hu:u<18446744073709551616):∀j,(∀k,k<j->16<=u / 16 ^ k)->Ve 16 u=Ve 16 (u / 16 ^ j)++ZB3 j (u:Int)
 | 0,_=>by rw [ZB3,Nat.pow_zero,Nat.div_one,TW]
 | j+1,h=>by
  rw [ZE7 hu j fun k hk=>h k oM,Ztq (h j oM),ZB3,Zbt,Zts (Zqx hu j),Tn,Nat.div_div_eq_div_mul,Nat.pow_succ];rfl
def ZE8 {u j:Nat} (G:∀k,k<j->16<=u / 16 ^ k) (g:(16:Int)<=shN j (u:Int)):∀k,k<j+1->16<=u / 16 ^ k:=fun k hk=>by
 rw [Zbt] at g
 by_cases c:k=j
 ·subst c;omega
 exact G k oM
def ZE9 {u j:Nat} (hu:u<18446744073709551616) (G:∀k,k<j->16<=u / 16 ^ k) (g:¬(16:Int)<=shN j (u:Int)):Ve 16 u=digs36.getD (shN j (u:Int)).toNat 0::ZB3 j (u:Int):=by
 rw [Zbt] at g |-;rw [ZE7 hu j G,Ztr oM,Ztt oM];rfl
def ZFC {u j:Nat} (hu:u<18446744073709551616) (G:∀k,k<j->16<=u / 16 ^ k):0<=Zj .and .u64 (shN j (u:Int)) 15/\Zj .and .u64 (shN j (u:Int)) 15<36:=by
 rw [Zbt];exact ⟨Ztu (Zqx hu j),Ztv (Zqx hu j)⟩
def ZFa {u j:Nat} (G:∀k,k<j->16<=u / 16 ^ k) (g:¬(16:Int)<=shN j (u:Int)):0<=shN j (u:Int)/\shN j (u:Int)<36:=by
 rw [Zbt] at g |-;generalize u / 16 ^ j=v at g |-;omega
def ZEh:Zk:=fun args σ K=>match args,σ with
 | [.sl 0 e [],.d (.int .u64 n),.d (.int .i64 b),.d (.bool ng),.d (.bool ap)],⟨[],[0],1⟩=>(b=16/\ng=false/\ap=false/\0<=n/\n<18446744073709551616)/\K (.ret (.tuple [.d (.sl []),.d (.str (Ve 16 n.toNat))])) ⟨[],[],0⟩
 | _,_=>False
def ZEi:Tbl:=[(321,Zyu),(322,ZAA)]
def ZEj (hN:NumOK w0 nG):PC w0 nG 309 ZEh:=by
 refine Zdp Zto mixed (tbl:=ZEi) ⟨ZB2,ZEg hN,trivial⟩ Tryz.func309 rfl kR kR ?_;intro args σ K h
 unfold ZEh at h
 split at h
 all_goals first | exact h.elim | skip
 all_goals
  obtain ⟨⟨rfl,rfl,rfl,h0,h1⟩,h⟩:=h
  rename_i e n
  obtain ⟨u0,rfl⟩:∃u:Nat,n=u:=⟨n.toNat,oM⟩
  rw [Th] at h;have xc:u0<18446744073709551616:=oM;refine ⟨Zg [],Ys [(11,17)],ZC [],ZC [101],ZC [],0,false,sM,Tc rfl,wN ?_⟩;refine ⟨rfl,wN ?_⟩;refine ZaV ?_;refine ⟨rfl,wN ?_⟩;refine ZaV ?_;refine ZaV ?_;refine ZaV ?_;refine ZaV ?_;have G:∀k,k<0->16<=u0 / 16 ^ k:=fun k hk=>oM
  iterate 15
   refine ZGg (fun g=>?_) (fun g=>?_);rotate_left
   ·have hb:=ZE9 xc G g;have B:=ZFa G g;rw [hb] at h;(conv=>whnf);exact mq173
   have B:=ZFC xc G;have G:=ZE8 G g;(conv=>whnf);refine XS ?_;refine ⟨B.1,B.2,wN ?_⟩;refine ⟨dM,dM,wN ?_⟩;refine ⟨dM,wN ?_⟩
  refine ZGg (fun g=>?_) (fun g=>wN ?_)
  ·exact absurd (ZE8 G g 15 dM) oM
  have hb:=ZE9 xc G g;have B:=ZFa G g;rw [hb] at h;exact mq173
def Zb7:Zk:=fun args σ K=>match args,σ with
 | [.d (.int .u64 n),.d (.int .i64 b)],⟨[],[],0⟩=>(b=16/\0<=n/\n<18446744073709551616)/\K (.ret (.d (.str (Ve 16 n.toNat)))) ⟨[],[],0⟩
 | _,_=>False
def ZkC:Zx Zb7:=fun args σ K K' hK h=>by
 unfold Zb7 at h |-;split at h <;> first | exact ⟨h.1,hK _ _ h.2⟩ | exact h.elim
def ZEk:Tbl:=[(309,ZEh)]
def ZEl (hN:NumOK w0 nG):PC w0 nG 292 Zb7:=by
 refine pwt (tbl:=ZEk) ⟨ZEj hN,trivial⟩ Tryz.func292 fun args σ K h=>?_
 unfold Zb7 at h
 split at h
 ·obtain ⟨⟨rfl,h0,h1⟩,h⟩:=h;refine pwv [] 0 false ?_;refine ⟨⟨rfl,rfl,rfl,h0,h1⟩,wN ?_⟩;exact h
 exact h.elim
def Zyy:Tbl:=[(292,Zb7)]
def Zqy (hN:NumOK w0 nG):PC w0 nG 267 Zb7:=by
 refine pwt (tbl:=Zyy) ⟨ZEl hN,trivial⟩ Tryz.func267 fun args σ K h=>?_
 unfold Zb7 at h
 split at h
 ·rename_i n b
  obtain ⟨⟨rfl,h0,h1⟩,h⟩:=h;refine pwv [] 0 false ?_;refine ⟨⟨rfl,h0,h1⟩,?_⟩;generalize Ve 16 n.toNat=T at h |-;exact mq47
 exact h.elim
def Zmd {n:Int} (h:n<0) (h0:-9223372036854775808<=n):0<=IntKind.u64.wrap n/\IntKind.u64.wrap n<18446744073709551616/\ZfW n=[48,120]++Ve 16 (IntKind.u64.wrap n).toNat:=by
 have e:IntKind.u64.wrap n=n+18446744073709551616:=by
  unfold IntKind.wrap
  simp [IntKind.signed,IntKind.bits];omega
 refine ⟨oM,oM,?_⟩;rw [ZfW,Tj h,e]
end Go.PM.Lex
end

section
namespace Go.PM.Lex
def ZFb (n:Int):Bool:=decide (-9223372036854775808<=n) && decide (n<9223372036854775808)
mutual
def Zqz:Ex->Bool
 | .mk _ _ n l _=>ZFb n && ZkD l
def ZkD:List Ex->Bool
 | []=>true
 | x::l=>Zqz x && ZkD l
end
def ZcG (l:List Ex):ZkD l=l.all Zqz:=by induction l with | nil=>rfl | cons x l ih=>simp [ZkD,ih]
def ZdX {op:Nat} {t:Bs} {n:Int} {l:List Ex} {a:Nat} (h:Zqz (.mk op t n l a)=true):(-9223372036854775808<=n/\n<9223372036854775808)/\∀x∈l,Zqz x=true:=by
 simp only [Zqz,ZcG,ZFb,Tl,TH] at h;exact ⟨h.1,Tm.1 h.2⟩
mutual
def Zvs:Li->Bool
 | .mk _ _ args body _=>ZkD args && ZnW body
def ZnW:List Li->Bool
 | []=>true
 | x::l=>Zvs x && ZnW l
end
def Zhm (l:List Li):ZnW l=l.all Zvs:=by induction l with | nil=>rfl | cons x l ih=>simp [ZnW,ih]
def ZqA {op:Nat} {rel:Bs} {args:List Ex} {body:List Li} {a:Nat} (h:Zvs (.mk op rel args body a)=true):(∀x∈args,Zqz x=true)/\∀x∈body,Zvs x=true:=by
 simp only [Zvs,ZcG,Zhm,Tl] at h;exact ⟨Tm.1 h.1,Tm.1 h.2⟩
def ZqB (r:Ru):Bool:=r.args.all Zqz && r.body.all Zvs
mutual
def Zvt:Un->Bool
 | .mk _ _ rules comps _ _=>rules.all ZqB && ZfX comps
def ZqC:Co->Bool
 | .mk _ _ _ _ u _=>Zvt u
def ZfX:List Co->Bool
 | []=>true
 | c::l=>ZqC c && ZfX l
end
def ZqD (l:List Co):ZfX l=l.all ZqC:=by induction l with | nil=>rfl | cons x l ih=>simp [ZfX,ih]
open Go.Proofs
variable {w0:World} {nG:Nat}
def ZkE (e:Ex):Bool:=Yf e && Zqz e
def Zyz {op:Nat} {t:Bs} {n:Int} {l:List Ex} {a:Nat} (h:ZkE (.mk op t n l a)=true):-2<VZ op/\(VZ op<0\/(l.length:Int)=VZ op)/\V0 op t=true/\(-9223372036854775808<=n/\n<9223372036854775808)/\l.all ZkE=true:=by
 simp only [ZkE,Tl] at h;obtain ⟨h1,h2⟩:=h;obtain ⟨r1,r2⟩:=ZdX h2;simp only [Yf,Zw,Tl,Sh,TH] at h1;obtain ⟨h1,h3,h4,h5,h6⟩:=h1;refine ⟨h1,h3,h5,r1,?_⟩;rw [Tm] at h6 |-;exact fun x hx=>by rw [ZkE,h6 x hx,r2 x hx];rfl
def Ztw {op:Nat} (h:-2<VZ op):op<26:=by
 by_cases hc:op<26
 ·exact hc
 unfold VZ at h
 (repeat rw [Tf oM] at h)
 omega
def ZyA {op:Nat} (h:-2<VZ op):(ZV op<5->VZ op=2)/\(ZV op=5->VZ op=1)/\ZV op<=6/\(op=5->VZ op=0):=by
 have hk:∀o:Fin 26,-2<VZ o.val->(ZV o.val<5->VZ o.val=2)/\(ZV o.val=5->VZ o.val=1)/\ZV o.val<=6/\(o.val=5->VZ o.val=0):=dM;exact hk ⟨op,Ztw h⟩ h
def Ztx (n:Nat):Zk:=ZjH (.tuple []) fun rest txt=>∃pl e want,rest=[YH ZF pl e,.d (.int .i64 want)]/\(ZkE e=true/\wE e<=n/\n<=1073741824/\0<=want/\want<=6)/\txt=exW want.toNat e
def ZqE (n:Nat):Zx (Ztx n):=Zaw _ _
def Zty (n:Nat):Zk:=ZjH (.tuple []) fun rest txt=>∃fr fin pl xs,rest=[.d (.str fr),.d (.sl (Ze pl xs)),.d (.str fin)]/\(xs.all ZkE=true/\szS wE xs<=n/\n<=1073741824)/\txt=X9 fr fin xs
def ZqF (n:Nat):Zx (Zty n):=Zaw _ _
def Vg (e:Ex):exW 0 e=exT e:=by rw [exW,Ztk,Tf sM]
def ZB5 {n:Nat}:OKw w0 nG [(236,Ztx n)] 235 (Zhk (YH ZF) ZkE exT wE n):=by
 refine pwo Tryz.func235 fun args σ K h=>?_
 unfold Zhk at h
 split at h
 ·obtain ⟨l,pl,⟨op,tx,nn,xs,at'⟩,rfl,rfl,⟨rfl,rfl⟩,⟨bm,hz,hn⟩,hlen,h⟩:=h;refine pwv [] 2 true ?_;refine ⟨l,exT (.mk op tx nn xs at'),rfl,⟨.inr rfl,rfl,rfl⟩,⟨pl,.mk op tx nn xs at',0,rfl,⟨bm,hz,hn,oM,oM⟩,(Vg _).symm⟩,hlen,wN ?_⟩;exact h
 exact h.elim
def ZEn {n:Nat}:OKw w0 nG [(124,Ze1),(234,Zqr 235 ZF ZkE exT wE n)] 185 (Zty n):=by
 refine pwo Tryz.func185 fun args σ K h=>?_
 unfold Zty ZjH at h
 split at h
 ·rename_i rest t p e rows
  obtain ⟨l,txt,rfl,⟨hp,rfl,rfl⟩,⟨fr,fin,pl,xs,rfl,⟨bm,hz,hn⟩,rfl⟩,hlen,h⟩:=h;have key:l++X9 fr fin xs=l++fr++Zh cmm (xs.map exT)++fin:=by simp only [X9,ZBi,Tn]
  rw [key] at h;have hlen:l.length+(fr.length+((Zh cmm (xs.map exT)).length+fin.length))<70368744177664:=by have:=hlen;simp only [X9,ZBi,Ta] at this;exact this
  refine pwu [] 1 true ?_;rcases hp with rfl | rfl
  all_goals
   conv=>whnf
   refine wk _ fr ⟨[fr],rfl,sM,sM,sM⟩ ?_;(conv=>whnf);refine ⟨l++fr,pl,xs,rfl,Zc pl xs,⟨rfl,rfl,rfl⟩,⟨bm,hz,hn⟩,by rw [Ta];show _+(Zh cmm (xs.map exT)).length<_;omega,wN ?_⟩;refine wk (l++fr++Zh cmm (xs.map exT)) fin ⟨[fin],rfl,sM,sM,sM⟩ (wN ?_);exact h
 exact h.elim
def ZB6:List PV->St->(St->Prop)->Prop:=fun args σ K=>args.length<=Tryz.f124.ntmps/\W (Zov VU Zqt (Zg []) (Ys [(1,3)]) (fun _=>false)) (Xd Tryz.f124) (ZA2 VU Tryz.f124 σ.bx.length K) (Zct 0 args) σ
def ZFD:PDef (GG w0 nG) 124 ZB6 (fun _ _ _ _=>False) :=
 Zny Zr mixed Tryz.func124 rfl kR kR fun args σ K h=>⟨_,σ.bx.length,CxG.of Zr Zi2 ⟨ZnU,trivial⟩ _ _ _,Tr _,h.1,h.2⟩
def ZB7 (n:Nat):Tbl:=[(225,ZAz),(124,Ze1),(236,spB Ztx n),(185,spB Zty n),(268,Zi3),(267,Zb7),(226,JS)]
def ZB8 {n:Nat} (ht:TO w0 nG (ZB7 n)):PC w0 nG 236 (Ztx n):=by
 refine ZcD Zr mixed Tryz.func236 rfl kR kR ZFD ?_;intro args σ K h
 unfold Ztx ZjH at h
 split at h
 ·rename_i rest t p e rows
  obtain ⟨l,txt,rfl,⟨hp,rfl,rfl⟩,⟨pl,⟨op,tx,nn,xs,at'⟩,want,rfl,⟨bm,hz,hn,hw0,hw6⟩,rfl⟩,hlen,h⟩:=h;obtain ⟨m1,m2,m3,m4,m5⟩:=Zyz bm;obtain ⟨k1,k2,k3,k5⟩:=ZyA m1;have dy:szS wE xs+tx.length+1<=n:=by rw [wE,Zqn] at hz;omega
  rw [Tm] at m5;refine ⟨Zov VU (ZB7 n) (Zg []) (Ys []) (ZC []),1,true,CxG.of Zr ht ⟨Zqp,ZnV,Zl8 ZqE _,Zl8 ZqF _,ZkB,ZkC,Zi1,trivial⟩ _ _ _,sM,Tc rfl,?_⟩;rcases hp with rfl | rfl
  all_goals
   conv=>whnf
   refine ⟨op,rfl,fun l1 w1 a1 e1 e2 e3=>?_⟩;subst e1;(conv=>whnf);refine ZGg (fun aa=>wN ?_) (fun aa=>wN ?_)
   ·have hW:exW want.toNat (.mk op tx nn xs at')=[40]++(exT (.mk op tx nn xs at')++[41]):=by rw [exW,Ztk,Tj (by show ZV op<_;omega)]
    rw [hW] at h hlen;have aez:l.length+1<70368744177664:=by simp only [Ta,Te,Tg] at hlen;omega
    refine wk _ [40] ⟨[[40]],rfl,sM,sM,sM⟩ ?_;(conv=>whnf);refine ZGg (fun c1=>?_) (fun c1=>wN ?_)
    ·have c1:ZV op<5:=by omega
     have cy:xs.length=2:=by have:=k1 c1;omega
     obtain ⟨x0,x1,rfl⟩:∃x0 x1,xs=[x0,x1]:=by match xs,cy with | [a,b],_=>exact ⟨a,b,rfl⟩
     simp only [szS] at dy;have g0:=m5 x0 sM;have g1:=m5 x1 sM;have z0:wE x0<=n - 1:=oM;have z1:wE x1<=n - 1:=oM;obtain ⟨o0,t0,n0,y0,q0⟩:=x0;obtain ⟨o1,t1,n1,y1,q1⟩:=x1;have hx:exT (.mk op tx nn [(.mk o0 t0 n0 y0 q0),(.mk o1 t1 n1 y1 q1)] at')=exW (ZV op) (.mk o0 t0 n0 y0 q0)++(([32]++(w1++[32]))++exW (ZV op+1) (.mk o1 t1 n1 y1 q1)):=by rw [exT,exN,Tj c1,e2];rfl
     rw [hx] at h hlen
     (try simp only [Ta,Te,Tg] at hlen)
     conv=>whnf
     refine ⟨_,dM,rfl,wN ?_⟩;refine ⟨oM,wk _ (exW (ZV op) (.mk o0 t0 n0 y0 q0)) ⟨pl,(.mk o0 t0 n0 y0 q0),(ZV op:Int),rfl,⟨g0,oM,oM,oM,oM⟩,rfl⟩ ?_⟩;(conv=>whnf);refine wk _ ([32]++(w1++[32])) ⟨[[32],w1,[32]],rfl,sM,sM,sM⟩ ?_;(conv=>whnf);refine ⟨_,dM,rfl,wN ?_⟩;refine Zi ?_;refine ⟨oM,wk _ (exW (ZV op+1) (.mk o1 t1 n1 y1 q1)) ⟨pl,(.mk o1 t1 n1 y1 q1),((ZV op:Int)+1),rfl,⟨g1,oM,oM,oM,oM⟩,rfl⟩ ?_⟩;(conv=>whnf);refine ⟨Tc rfl,wN ?_⟩;refine ⟨_,dM,rfl,wN ?_⟩;refine wk _ [41] ⟨rfl,rfl⟩ ?_;(conv=>whnf);refine Zi ?_;rw [show l++([40]++(exW (ZV op) (.mk o0 t0 n0 y0 q0)++(([32]++(w1++[32]))++exW (ZV op+1) (.mk o1 t1 n1 y1 q1))++[41]))=(l++[40])++exW (ZV op) (.mk o0 t0 n0 y0 q0)++([32]++(w1++[32]))++exW (ZV op+1) (.mk o1 t1 n1 y1 q1)++[41] by first | rfl | simp only [Tn]] at h;exact h
    have c1:¬ZV op<5:=oM;refine ZGg (fun c2=>?_) (fun c2=>wN ?_)
    ·have c2:ZV op=5:=by omega
     have cy:xs.length=1:=by have:=k2 c2;omega
     obtain ⟨x0,rfl⟩:∃x0,xs=[x0]:=by match xs,cy with | [a],_=>exact ⟨a,rfl⟩
     simp only [szS] at dy;have g0:=m5 x0 sM;have z0:wE x0<=n - 1:=oM;obtain ⟨o0,t0,n0,y0,q0⟩:=x0;have hx:exT (.mk op tx nn [(.mk o0 t0 n0 y0 q0)] at')=w1++exW 5 (.mk o0 t0 n0 y0 q0):=by rw [exT,exN,Tf c1,Tj c2,e2];rfl
     rw [hx] at h hlen
     (try simp only [Ta,Te,Tg] at hlen)
     conv=>whnf
     refine wk _ w1 ⟨[w1],rfl,sM,sM,sM⟩ ?_;(conv=>whnf);refine ⟨_,dM,rfl,wN ?_⟩;refine ⟨oM,wk _ (exW 5 (.mk o0 t0 n0 y0 q0)) ⟨pl,(.mk o0 t0 n0 y0 q0),5,rfl,⟨g0,oM,oM,oM,oM⟩,rfl⟩ ?_⟩;(conv=>whnf);refine ⟨Tc rfl,wN ?_⟩;refine ⟨_,dM,rfl,wN ?_⟩;refine wk _ [41] ⟨rfl,rfl⟩ ?_;(conv=>whnf);refine Zi ?_;rw [show l++([40]++(w1++exW 5 (.mk o0 t0 n0 y0 q0)++[41]))=(l++[40])++w1++exW 5 (.mk o0 t0 n0 y0 q0)++[41] by first | rfl | simp only [Tn]] at h;exact h
    have c2:¬ZV op=5:=oM;refine ZGi (fun c3=>?_) (fun c3=>wN ?_)
    ·have c3:VH op≠[]:=by rw [e2];exact c3
     have hx:exT (.mk op tx nn xs at')=w1++X9 [40] [41] xs:=by rw [exT,exN,Tf c1,Tf c2,Tj c3,e2,US];rfl
     rw [hx] at h hlen
     (try simp only [Ta,Te,Tg] at hlen)
     conv=>whnf
     refine wk _ w1 ⟨[w1],rfl,sM,sM,sM⟩ ?_;(conv=>whnf);refine ⟨oM,wk _ (X9 [40] [41] xs) ⟨[40],[41],pl,xs,rfl,⟨Tm.2 m5,oM,oM⟩,rfl⟩ ?_⟩;(conv=>whnf);refine ⟨Tc rfl,wN ?_⟩;refine ⟨_,dM,rfl,wN ?_⟩;refine wk _ [41] ⟨rfl,rfl⟩ ?_;(conv=>whnf);refine Zi ?_;rw [show l++([40]++(w1++X9 [40] [41] xs++[41]))=(l++[40])++w1++X9 [40] [41] xs++[41] by first | rfl | simp only [Tn]] at h;exact h
    have c3:¬VH op≠[]:=by rw [e2];exact fun g=>g c3
    refine ZGg (fun c4=>?_) (fun c4=>wN ?_)
    ·have c4:op=6:=by omega
     have hx:exT (.mk op tx nn xs at')=X9 [91] [93] xs:=by rw [exT,exN,Tf c1,Tf c2,Tf c3,Tj c4,US];rfl
     rw [hx] at h hlen
     (try simp only [Ta,Te,Tg] at hlen)
     conv=>whnf
     refine ⟨oM,wk _ (X9 [91] [93] xs) ⟨[91],[93],pl,xs,rfl,⟨Tm.2 m5,oM,oM⟩,rfl⟩ ?_⟩;(conv=>whnf);refine ⟨Tc rfl,wN ?_⟩;refine ⟨_,dM,rfl,wN ?_⟩;refine wk _ [41] ⟨rfl,rfl⟩ ?_;(conv=>whnf);refine Zi ?_;rw [show l++([40]++(X9 [91] [93] xs++[41]))=(l++[40])++X9 [91] [93] xs++[41] by first | rfl | simp only [Tn]] at h;exact h
    have c4:¬op=6:=oM;refine ZGg (fun c5=>?_) (fun c5=>wN ?_)
    ·have c5:op=7:=by omega
     have hxl:(Ze pl xs).length=xs.length:=by rw [Zc,Td]
     by_cases i7:xs.length=0
     ·have hx:exT (.mk op tx nn xs at')=[36]++tx:=by rw [exT,exN,Tf c1,Tf c2,Tf c3,Tf c4,Tj c5,ZcF,Tj i7,TW]
      rw [hx] at h hlen
      (try simp only [Ta,Te,Tg] at hlen)
      conv=>whnf
      refine wk _ ([36]++tx) ⟨[[36],tx],rfl,sM,sM,sM⟩ ?_;(conv=>whnf);refine ZGg (fun g=>?_) (fun g=>?_)
      case refine_1=>exact absurd (show ((Ze pl xs).length:Int)>0 from g) oM
      conv=>whnf
      refine ⟨Tc rfl,wN ?_⟩;refine ⟨_,dM,rfl,wN ?_⟩;refine wk _ [41] ⟨rfl,rfl⟩ ?_;(conv=>whnf);refine Zi ?_;rw [show l++([40]++([36]++tx++[41]))=(l++[40])++([36]++tx)++[41] by first | rfl | simp only [Tn]] at h;exact h
     have hx:exT (.mk op tx nn xs at')=([36]++tx)++X9 [40] [41] xs:=by rw [exT,exN,Tf c1,Tf c2,Tf c3,Tf c4,Tj c5,ZcF,Tf i7,US,Tn];rfl
     rw [hx] at h hlen
     (try simp only [Ta,Te,Tg] at hlen)
     conv=>whnf
     refine wk _ ([36]++tx) ⟨[[36],tx],rfl,sM,sM,sM⟩ ?_;(conv=>whnf);refine ZGg (fun g=>?_) (fun g=>?_)
     case refine_2=>exact absurd (show ((Ze pl xs).length:Int)>0 by omega) g
     conv=>whnf
     refine ⟨oM,wk _ (X9 [40] [41] xs) ⟨[40],[41],pl,xs,rfl,⟨Tm.2 m5,oM,oM⟩,rfl⟩ ?_⟩;(conv=>whnf);refine ⟨Tc rfl,wN ?_⟩;refine ⟨_,dM,rfl,wN ?_⟩;refine wk _ [41] ⟨rfl,rfl⟩ ?_;(conv=>whnf);refine Zi ?_;rw [show l++([40]++(([36]++tx)++X9 [40] [41] xs++[41]))=(l++[40])++([36]++tx)++X9 [40] [41] xs++[41] by first | rfl | simp only [Tn]] at h;exact h
    have c5:¬op=7:=oM;refine ZGg (fun c6=>wN ?_) (fun c6=>wN ?_)
    ·have c6':op=3:=by omega
     obtain ⟨i0,i1⟩:=m4;refine ZGg (fun gn=>wN ?_) (fun gn=>wN ?_)
     ·obtain ⟨j0,j1,j2⟩:=Zmd gn i0;obtain ⟨wn,y7⟩:∃wn,IntKind.u64.wrap nn=wn:=⟨_,rfl⟩
      rw [y7] at j0 j1 j2;refine Or.inr ?_;rw [y7];have hx:exT (.mk op tx nn xs at')=ZfW nn:=by rw [exT,exN,Tf c1,Tf c2,Tf c3,Tf c4,Tf c5,Tj c6']
      rw [hx] at h hlen
      (try simp only [Ta,Te,Tg] at hlen)
      conv=>whnf
      refine ⟨⟨rfl,j0,j1⟩,?_⟩;obtain ⟨T,hT⟩:∃T,Ve 16 wn.toNat=T:=⟨_,rfl⟩
      rw [hT] at j2 |-;rw [j2] at h hlen
      (try simp only [Ta,Te,Tg] at hlen)
      conv=>whnf
      refine wk _ ([48,120]++T) ⟨[[48,120],T],rfl,sM,sM,sM⟩ ?_;(conv=>whnf);refine ⟨Tc rfl,wN ?_⟩;refine ⟨_,dM,rfl,wN ?_⟩;refine wk _ [41] ⟨rfl,rfl⟩ ?_;(conv=>whnf);refine Zi ?_;rw [show l++([40]++(([48,120]++T)++[41]))=(l++[40])++([48,120]++T)++[41] by first | rfl | simp only [Tn]] at h;exact h
     refine ZGg (fun _=>?_) (fun g=>absurd c6 g);have hx:exT (.mk op tx nn xs at')=ZfW nn:=by rw [exT,exN,Tf c1,Tf c2,Tf c3,Tf c4,Tf c5,Tj c6']
     rw [hx] at h hlen
     (try simp only [Ta,Te,Tg] at hlen)
     conv=>whnf
     refine ⟨⟨rfl,oM,i1⟩,wN ?_⟩;refine wk _ (ZfW nn) ⟨[ZfW nn],rfl,sM,sM,sM⟩ ?_;(conv=>whnf);refine ⟨Tc rfl,wN ?_⟩;refine ⟨_,dM,rfl,wN ?_⟩;refine wk _ [41] ⟨rfl,rfl⟩ ?_;(conv=>whnf);refine Zi ?_;rw [show l++([40]++(ZfW nn++[41]))=(l++[40])++ZfW nn++[41] by first | rfl | simp only [Tn]] at h;exact h
    have c6':¬op=3:=oM;refine ZGg (fun g=>absurd g c6) (fun _=>wN ?_);refine ZGg (fun c7=>?_) (fun c7=>wN ?_)
    ·have c7':op=4:=by omega
     have hq:(Jo tx).isSome=true:=by unfold V0 at m3;rw [Tf oM,Tj c7'] at m3;exact m3
     obtain ⟨q,hq⟩:=Sq.1 hq;have hqT:Zxa tx=q:=by rw [Zxa,hq];rfl
     have hx:exT (.mk op tx nn xs at')=q:=by rw [exT,exN,Tf c1,Tf c2,Tf c3,Tf c4,Tf c5,Tf c6',Tj c7',hqT]
     rw [hx] at h hlen
     (try simp only [Ta,Te,Tg] at hlen)
     conv=>whnf
     refine ⟨oM,wN ?_⟩;refine ⟨fun g=>?_,fun q' ja=>?_⟩
     case refine_1=>exact absurd (hq.symm.trans g) sM
     obtain rfl:q=q':=by rw [hq] at ja;exact Option.some.inj ja
     conv=>whnf
     refine wk _ q ⟨[q],rfl,sM,sM,sM⟩ ?_;(conv=>whnf);refine ⟨Tc rfl,wN ?_⟩;refine ⟨_,dM,rfl,wN ?_⟩;refine wk _ [41] ⟨rfl,rfl⟩ ?_;(conv=>whnf);refine Zi ?_;rw [show l++([40]++(q++[41]))=(l++[40])++q++[41] by first | rfl | simp only [Tn]] at h;exact h
    have c7':¬op=4:=oM;refine ZGg (fun c8=>?_) (fun c8=>wN ?_)
    ·have c8':op=5:=by omega
     have hx:exT (.mk op tx nn xs at')=[110,105,108]:=by rw [exT,exN,Tf c1,Tf c2,Tf c3,Tf c4,Tf c5,Tf c6',Tf c7',Tj c8']
     rw [hx] at h hlen
     (try simp only [Ta,Te,Tg] at hlen)
     conv=>whnf
     refine wk _ [110,105,108] ⟨[[110,105,108]],rfl,sM,sM,sM⟩ ?_;(conv=>whnf);refine ⟨Tc rfl,wN ?_⟩;refine ⟨_,dM,rfl,wN ?_⟩;refine wk _ [41] ⟨rfl,rfl⟩ ?_;(conv=>whnf);refine Zi ?_;rw [show l++([40]++([110,105,108]++[41]))=(l++[40])++[110,105,108]++[41] by first | rfl | simp only [Tn]] at h;exact h
    have c8':¬op=5:=oM;refine ZGg (fun c9=>?_) (fun c9=>?_)
    ·have c9':op=2:=by omega
     have hx:exT (.mk op tx nn xs at')=[95]:=by rw [exT,exN,Tf c1,Tf c2,Tf c3,Tf c4,Tf c5,Tf c6',Tf c7',Tf c8',Tj c9']
     rw [hx] at h hlen
     (try simp only [Ta,Te,Tg] at hlen)
     conv=>whnf
     refine wk _ [95] ⟨[[95]],rfl,sM,sM,sM⟩ ?_;(conv=>whnf);refine ⟨Tc rfl,wN ?_⟩;refine ⟨_,dM,rfl,wN ?_⟩;refine wk _ [41] ⟨rfl,rfl⟩ ?_;(conv=>whnf);refine Zi ?_;rw [show l++([40]++([95]++[41]))=(l++[40])++[95]++[41] by first | rfl | simp only [Tn]] at h;exact h
    have c9':¬op=2:=oM;have hx:exT (.mk op tx nn xs at')=tx:=by rw [exT,exN,Tf c1,Tf c2,Tf c3,Tf c4,Tf c5,Tf c6',Tf c7',Tf c8',Tf c9']
    rw [hx] at h hlen
    (try simp only [Ta,Te,Tg] at hlen)
    conv=>whnf
    refine wk _ tx ⟨[tx],rfl,sM,sM,sM⟩ ?_;(conv=>whnf);refine ⟨Tc rfl,wN ?_⟩;refine ⟨_,dM,rfl,wN ?_⟩;refine wk _ [41] ⟨rfl,rfl⟩ ?_;(conv=>whnf);refine Zi ?_;rw [show l++([40]++(tx++[41]))=(l++[40])++tx++[41] by first | rfl | simp only [Tn]] at h;exact h
   have hW:exW want.toNat (.mk op tx nn xs at')=exT (.mk op tx nn xs at'):=by rw [exW,Ztk,Tf (by show ¬ZV op<_;omega)]
   rw [hW] at h hlen;refine ZGg (fun c1=>?_) (fun c1=>wN ?_)
   ·have c1:ZV op<5:=by omega
    have cy:xs.length=2:=by have:=k1 c1;omega
    obtain ⟨x0,x1,rfl⟩:∃x0 x1,xs=[x0,x1]:=by match xs,cy with | [a,b],_=>exact ⟨a,b,rfl⟩
    simp only [szS] at dy;have g0:=m5 x0 sM;have g1:=m5 x1 sM;have z0:wE x0<=n - 1:=oM;have z1:wE x1<=n - 1:=oM;obtain ⟨o0,t0,n0,y0,q0⟩:=x0;obtain ⟨o1,t1,n1,y1,q1⟩:=x1;have hx:exT (.mk op tx nn [(.mk o0 t0 n0 y0 q0),(.mk o1 t1 n1 y1 q1)] at')=exW (ZV op) (.mk o0 t0 n0 y0 q0)++(([32]++(w1++[32]))++exW (ZV op+1) (.mk o1 t1 n1 y1 q1)):=by rw [exT,exN,Tj c1,e2];rfl
    rw [hx] at h hlen
    (try simp only [Ta,Te,Tg] at hlen)
    conv=>whnf
    refine ⟨_,dM,rfl,wN ?_⟩;refine ⟨oM,wk _ (exW (ZV op) (.mk o0 t0 n0 y0 q0)) ⟨pl,(.mk o0 t0 n0 y0 q0),(ZV op:Int),rfl,⟨g0,oM,oM,oM,oM⟩,rfl⟩ ?_⟩;(conv=>whnf);refine wk _ ([32]++(w1++[32])) ⟨[[32],w1,[32]],rfl,sM,sM,sM⟩ ?_;(conv=>whnf);refine ⟨_,dM,rfl,wN ?_⟩;refine Zi ?_;refine ⟨oM,wk _ (exW (ZV op+1) (.mk o1 t1 n1 y1 q1)) ⟨pl,(.mk o1 t1 n1 y1 q1),((ZV op:Int)+1),rfl,⟨g1,oM,oM,oM,oM⟩,rfl⟩ ?_⟩;rw [show l++(exW (ZV op) (.mk o0 t0 n0 y0 q0)++(([32]++(w1++[32]))++exW (ZV op+1) (.mk o1 t1 n1 y1 q1)))=l++exW (ZV op) (.mk o0 t0 n0 y0 q0)++([32]++(w1++[32]))++exW (ZV op+1) (.mk o1 t1 n1 y1 q1) by first | rfl | simp only [Tn]] at h;exact mq47
   have c1:¬ZV op<5:=oM;refine ZGg (fun c2=>?_) (fun c2=>wN ?_)
   ·have c2:ZV op=5:=by omega
    have cy:xs.length=1:=by have:=k2 c2;omega
    obtain ⟨x0,rfl⟩:∃x0,xs=[x0]:=by match xs,cy with | [a],_=>exact ⟨a,rfl⟩
    simp only [szS] at dy;have g0:=m5 x0 sM;have z0:wE x0<=n - 1:=oM;obtain ⟨o0,t0,n0,y0,q0⟩:=x0;have hx:exT (.mk op tx nn [(.mk o0 t0 n0 y0 q0)] at')=w1++exW 5 (.mk o0 t0 n0 y0 q0):=by rw [exT,exN,Tf c1,Tj c2,e2];rfl
    rw [hx] at h hlen
    (try simp only [Ta,Te,Tg] at hlen)
    conv=>whnf
    refine wk _ w1 ⟨[w1],rfl,sM,sM,sM⟩ ?_;(conv=>whnf);refine ⟨_,dM,rfl,wN ?_⟩;refine ⟨oM,wk _ (exW 5 (.mk o0 t0 n0 y0 q0)) ⟨pl,(.mk o0 t0 n0 y0 q0),5,rfl,⟨g0,oM,oM,oM,oM⟩,rfl⟩ ?_⟩;rw [show l++(w1++exW 5 (.mk o0 t0 n0 y0 q0))=l++w1++exW 5 (.mk o0 t0 n0 y0 q0) by first | rfl | simp only [Tn]] at h;exact mq47
   have c2:¬ZV op=5:=oM;refine ZGi (fun c3=>?_) (fun c3=>wN ?_)
   ·have c3:VH op≠[]:=by rw [e2];exact c3
    have hx:exT (.mk op tx nn xs at')=w1++X9 [40] [41] xs:=by rw [exT,exN,Tf c1,Tf c2,Tj c3,e2,US];rfl
    rw [hx] at h hlen
    (try simp only [Ta,Te,Tg] at hlen)
    conv=>whnf
    refine wk _ w1 ⟨[w1],rfl,sM,sM,sM⟩ ?_;(conv=>whnf);refine ⟨oM,wk _ (X9 [40] [41] xs) ⟨[40],[41],pl,xs,rfl,⟨Tm.2 m5,oM,oM⟩,rfl⟩ ?_⟩;rw [show l++(w1++X9 [40] [41] xs)=l++w1++X9 [40] [41] xs by first | rfl | simp only [Tn]] at h;exact mq47
   have c3:¬VH op≠[]:=by rw [e2];exact fun g=>g c3
   refine ZGg (fun c4=>?_) (fun c4=>wN ?_)
   ·have c4:op=6:=by omega
    have hx:exT (.mk op tx nn xs at')=X9 [91] [93] xs:=by rw [exT,exN,Tf c1,Tf c2,Tf c3,Tj c4,US];rfl
    rw [hx] at h hlen
    (try simp only [Ta,Te,Tg] at hlen)
    conv=>whnf
    refine ⟨oM,wk _ (X9 [91] [93] xs) ⟨[91],[93],pl,xs,rfl,⟨Tm.2 m5,oM,oM⟩,rfl⟩ ?_⟩;rw [show l++(X9 [91] [93] xs)=l++X9 [91] [93] xs by first | rfl | simp only [Tn]] at h;exact mq47
   have c4:¬op=6:=oM;refine ZGg (fun c5=>?_) (fun c5=>wN ?_)
   ·have c5:op=7:=by omega
    have hxl:(Ze pl xs).length=xs.length:=by rw [Zc,Td]
    by_cases i7:xs.length=0
    ·have hx:exT (.mk op tx nn xs at')=[36]++tx:=by rw [exT,exN,Tf c1,Tf c2,Tf c3,Tf c4,Tj c5,ZcF,Tj i7,TW]
     rw [hx] at h hlen
     (try simp only [Ta,Te,Tg] at hlen)
     conv=>whnf
     refine wk _ ([36]++tx) ⟨[[36],tx],rfl,sM,sM,sM⟩ ?_;(conv=>whnf);refine ZGg (fun g=>?_) (fun g=>?_)
     case refine_1=>exact absurd (show ((Ze pl xs).length:Int)>0 from g) oM
     rw [show l++([36]++tx)=l++([36]++tx) by first | rfl | simp only [Tn]] at h;exact mq47
    have hx:exT (.mk op tx nn xs at')=([36]++tx)++X9 [40] [41] xs:=by rw [exT,exN,Tf c1,Tf c2,Tf c3,Tf c4,Tj c5,ZcF,Tf i7,US,Tn];rfl
    rw [hx] at h hlen
    (try simp only [Ta,Te,Tg] at hlen)
    conv=>whnf
    refine wk _ ([36]++tx) ⟨[[36],tx],rfl,sM,sM,sM⟩ ?_;(conv=>whnf);refine ZGg (fun g=>?_) (fun g=>?_)
    case refine_2=>exact absurd (show ((Ze pl xs).length:Int)>0 by omega) g
    conv=>whnf
    refine ⟨oM,wk _ (X9 [40] [41] xs) ⟨[40],[41],pl,xs,rfl,⟨Tm.2 m5,oM,oM⟩,rfl⟩ ?_⟩;rw [show l++(([36]++tx)++X9 [40] [41] xs)=l++([36]++tx)++X9 [40] [41] xs by first | rfl | simp only [Tn]] at h;exact mq47
   have c5:¬op=7:=oM;refine ZGg (fun c6=>wN ?_) (fun c6=>wN ?_)
   ·have c6':op=3:=by omega
    obtain ⟨i0,i1⟩:=m4;refine ZGg (fun gn=>wN ?_) (fun gn=>wN ?_)
    ·obtain ⟨j0,j1,j2⟩:=Zmd gn i0;obtain ⟨wn,y7⟩:∃wn,IntKind.u64.wrap nn=wn:=⟨_,rfl⟩
     rw [y7] at j0 j1 j2;refine Or.inr ?_;rw [y7];have hx:exT (.mk op tx nn xs at')=ZfW nn:=by rw [exT,exN,Tf c1,Tf c2,Tf c3,Tf c4,Tf c5,Tj c6']
     rw [hx] at h hlen
     (try simp only [Ta,Te,Tg] at hlen)
     conv=>whnf
     refine ⟨⟨rfl,j0,j1⟩,?_⟩;obtain ⟨T,hT⟩:∃T,Ve 16 wn.toNat=T:=⟨_,rfl⟩
     rw [hT] at j2 |-;rw [j2] at h hlen
     (try simp only [Ta,Te,Tg] at hlen)
     conv=>whnf
     refine wk _ ([48,120]++T) ⟨[[48,120],T],rfl,sM,sM,sM⟩ ?_;rw [show l++(([48,120]++T))=l++([48,120]++T) by first | rfl | simp only [Tn]] at h;exact mq47
    refine ZGg (fun _=>?_) (fun g=>absurd c6 g);have hx:exT (.mk op tx nn xs at')=ZfW nn:=by rw [exT,exN,Tf c1,Tf c2,Tf c3,Tf c4,Tf c5,Tj c6']
    rw [hx] at h hlen
    (try simp only [Ta,Te,Tg] at hlen)
    conv=>whnf
    refine ⟨⟨rfl,oM,i1⟩,wN ?_⟩;refine wk _ (ZfW nn) ⟨[ZfW nn],rfl,sM,sM,sM⟩ ?_;rw [show l++(ZfW nn)=l++ZfW nn by first | rfl | simp only [Tn]] at h;exact mq47
   have c6':¬op=3:=oM;refine ZGg (fun g=>absurd g c6) (fun _=>wN ?_);refine ZGg (fun c7=>?_) (fun c7=>wN ?_)
   ·have c7':op=4:=by omega
    have hq:(Jo tx).isSome=true:=by unfold V0 at m3;rw [Tf oM,Tj c7'] at m3;exact m3
    obtain ⟨q,hq⟩:=Sq.1 hq;have hqT:Zxa tx=q:=by rw [Zxa,hq];rfl
    have hx:exT (.mk op tx nn xs at')=q:=by rw [exT,exN,Tf c1,Tf c2,Tf c3,Tf c4,Tf c5,Tf c6',Tj c7',hqT]
    rw [hx] at h hlen
    (try simp only [Ta,Te,Tg] at hlen)
    conv=>whnf
    refine ⟨oM,wN ?_⟩;refine ⟨fun g=>?_,fun q' ja=>?_⟩
    case refine_1=>exact absurd (hq.symm.trans g) sM
    obtain rfl:q=q':=by rw [hq] at ja;exact Option.some.inj ja
    conv=>whnf
    refine wk _ q ⟨[q],rfl,sM,sM,sM⟩ ?_;rw [show l++(q)=l++q by first | rfl | simp only [Tn]] at h;exact mq47
   have c7':¬op=4:=oM;refine ZGg (fun c8=>?_) (fun c8=>wN ?_)
   ·have c8':op=5:=by omega
    have hx:exT (.mk op tx nn xs at')=[110,105,108]:=by rw [exT,exN,Tf c1,Tf c2,Tf c3,Tf c4,Tf c5,Tf c6',Tf c7',Tj c8']
    rw [hx] at h hlen
    (try simp only [Ta,Te,Tg] at hlen)
    conv=>whnf
    refine wk _ [110,105,108] ⟨[[110,105,108]],rfl,sM,sM,sM⟩ ?_;rw [show l++([110,105,108])=l++[110,105,108] by first | rfl | simp only [Tn]] at h;exact mq47
   have c8':¬op=5:=oM;refine ZGg (fun c9=>?_) (fun c9=>?_)
   ·have c9':op=2:=by omega
    have hx:exT (.mk op tx nn xs at')=[95]:=by rw [exT,exN,Tf c1,Tf c2,Tf c3,Tf c4,Tf c5,Tf c6',Tf c7',Tf c8',Tj c9']
    rw [hx] at h hlen
    (try simp only [Ta,Te,Tg] at hlen)
    conv=>whnf
    refine wk _ [95] ⟨[[95]],rfl,sM,sM,sM⟩ ?_;rw [show l++([95])=l++[95] by first | rfl | simp only [Tn]] at h;exact mq47
   have c9':¬op=2:=oM;have hx:exT (.mk op tx nn xs at')=tx:=by rw [exT,exN,Tf c1,Tf c2,Tf c3,Tf c4,Tf c5,Tf c6',Tf c7',Tf c8',Tf c9']
   rw [hx] at h hlen
   (try simp only [Ta,Te,Tg] at hlen)
   conv=>whnf
   refine wk _ tx ⟨[tx],rfl,sM,sM,sM⟩ ?_;rw [show l++(tx)=l++tx by first | rfl | simp only [Tn]] at h;exact mq47
 exact h.elim
end Go.PM.Lex
end

section
namespace Go.PM.Lex
open Go.Proofs Go.Shelf Go.RowKit
variable {w0:World} {nG:Nat}
def ZnX (w:World) (g n:Nat) {cs:Array Value} {ty:TypeId} {fz:Nat×Nat} (h:w.heap[g]?=some (.cells cs ty fz)) (h1:fz.1<=fz.2) (h2:∀o,n<=o->fz.1<=o->fz.2<=o) :
  ∃fz',(w.drew.freeze ⟨g,0,none⟩ n).heap[g]?=some (.cells cs ty fz')/\fz'.1<=fz'.2/\∀o,n<=o->fz'.1<=o->fz'.2<=o:=by
 have h':w.drew.heap[g]?=some (.cells cs ty fz):=h;obtain ⟨lo,hi⟩:=fz;unfold World.freeze
 split
 ·exact ⟨_,h',h1,h2⟩
 simp only [Array.getElem?_modify,if_true,h',TY];refine ⟨_,rfl,?_,?_⟩
 ·split
  ·exact Sa _
  simp only at h1 |-;omega
 intro o ho af
 split
 ·simp only;omega
 rename_i ai
 have ai:lo≠hi:=by simpa using ai
 simp only at h1 |-;have k:=h2 (max lo n) oM (by simp only;omega);simp only at k;omega
def _root_.Go.PM.Owned.grow {G:GE} {e:Env} {w w':World} {t el:Nat} {rows:List (List D)} {v:Value} (h:Owned G e w t el rows v) (g:Grows w w'):Owned G e w' t el rows v:=by
 rcases h with h | ⟨sz,a1,a2,a3,b,off,cap,cs,ty,fz,a4,a5,a6,a7,a8,a9,a10⟩
 ·exact .inl h
 exact .inr ⟨sz,a1,a2,a3,b,off,cap,cs,ty,fz,a4,a5,a6,(g.old _ (Tw.1 a7).1).trans a7,a8,a9,a10⟩
def _root_.Go.PM.Owned.refreeze {G:GE} {e:Env} {w w':World} {t:Nat} {rows:List (List D)} {v:Value} {g n:Nat} {cs:Array Value} {ty:TypeId} {fz fz':Nat×Nat} (h:Owned G e w t 5 rows v) (hM:e.M t=some (g,n))
  (h':w'.heap[g]?=some (.cells cs ty fz')) (h0:w.heap[g]?=some (.cells cs ty fz)) (h1:fz'.1<=fz'.2) (h2:∀o,n<=o->fz'.1<=o->fz'.2<=o):Owned G e w' t 5 rows v:=by
 rcases h with ⟨_,_,h⟩ | ⟨sz,a1,a2,a3,b,off,cap,cs2,ty2,fz2,a4,a5,a6,a7,a8,a9,a10⟩
 ·rw [hM] at h;cases h
 rw [hM] at a10;simp only [Option.some.injEq,Prod.mk.injEq] at a10;obtain ⟨rfl,rfl⟩:=a10;rw [h0] at a7
 cases a7
 exact .inr ⟨sz,a1,a2,a3,g,off,cap,cs,ty,fz',a4,a5,a6,h',a8,⟨h1,h2⟩,hM⟩
def ZyB {G:GE} {e:Env} {w w':World} {t:TypeId} {p:PV} {rows:List (List D)} (hp:p=.d .nilp\/p=.ptr 0 0) (hS:SRel G e ⟨[.cells t [p,.sl 0 5 rows]],[0],1⟩ w)
  (hsz:w.heap.size<=w'.heap.size) (oc:w'.os=w.os) (htp:w'.tape=w.tape) (jl:w'.output=w.output)
  (ax:∀b off u,w.cell? ⟨b,off,none⟩=some u->w'.cell? ⟨b,off,none⟩=some u)
  (fq:∀b,b<w.heap.size->(∀q,e.M 0=some q->q.1≠b)->w'.heap[b]?=w.heap[b]?)
  (jn:∀v,Owned G e w 0 5 rows v->Owned G e w' 0 5 rows v) (ac8:∀q,e.M 0=some q->∃cs ty fz,w'.heap[q.1]?=some (.cells cs ty fz)) :
  SRel G e ⟨[.cells t [p,.sl 0 5 rows]],[0],1⟩ w'/\Later e ⟨[.cells t [p,.sl 0 5 rows]],[0],1⟩ w e ⟨[.cells t [p,.sl 0 5 rows]],[0],1⟩ w':=by
 have hL:Later e ⟨[.cells t [p,.sl 0 5 rows]],[0],1⟩ w e ⟨[.cells t [p,.sl 0 5 rows]],[0],1⟩ w':={
  len:=Tr _
  beta:=fun _ _=>rfl
  X:=fun _ _ h=>h
  pres:=fun b off u hu ho=>⟨ho,ax b off u hu⟩
  fhid:=fun b h=>.inr (.inr h)
  blocks:=fun b hb h1 h2 _=>fq b hb fun q hq=>h2 0 sM q hq
  size:=hsz
  os:=oc
  tape:=htp
  output:=jl
  fresh:=fun i h1 h2=>by simp at h1 h2;omega
  ftok:=fun x hx q hq=>.inr (.inl ⟨x,hx,q,hq,rfl⟩) }
 have aa:=hS.lt (i:=0) sM;have ow:w'.heap[e.β 0]?=w.heap[e.β 0]?:=fq _ aa fun q hq=>fun h=>(hS.own 0 sM q hq).2.1 0 sM h.symm
 refine ⟨?_,hL⟩;exact {
  inj:=hS.inj
  box:=fun i x hx=>by
   match i,hx with
   | 0,hx =>
    cases hx
    obtain ⟨cv,h1,h2,h3⟩:=hS.box 0 _ rfl;refine ⟨cv,ow.trans h1,h2,fun j y u hy hu=>?_⟩
    match j,hy with
    | 0,hy =>
     exact mq94
    | 1,hy =>
     cases hy
     obtain ⟨q1,q2⟩:=h3 1 (.sl 0 5 rows) u rfl hu;refine ⟨?_,q2⟩
     cases q1 with
     | sl _ _ _ _ hn hd ht=>exact .sl _ _ _ _ hn (hd.later hL) (fun h=>jn _ (ht h))
    | j+2,hy=>simp at hy
   | i+1,hx=>simp at hx
  low:=hS.low
  tkn:=hS.tkn
  own:=fun x hx q hq=>by
   obtain ⟨a,b,_⟩:=hS.own x hx q hq;obtain rfl:x=0:=by simpa using hx
   exact ⟨a,b,ac8 q hq⟩
  dis:=hS.dis
  xlt:=fun b off hx=>TA (hS.xlt b off hx) hsz
  xown:=hS.xown
  hid:=fun b q hq=>let ⟨k1,k2,k3,k4,k5⟩:=hS.hid b q hq;⟨k1,TA k2 hsz,k3,k4,k5⟩
  glob:=fun b hb=>by
   rw [fq b (TA hb hS.big) fun q hq=>fun h=>by have:=(hS.own 0 sM q hq).1;omega];exact hS.glob b hb
  big:=TN hS.big hsz }
def ZaA:Zk:=fun args σ K=>match args,σ with
 | [.ptr 0 0],⟨[.cells t [p,.sl 0 e rows]],[0],1⟩=>∃l:Bs,(rows=Zl l/\t=132/\e=5/\(p=.d .nilp\/p=.ptr 0 0)/\l.length<70368744177664)/\K (.ret (.d (.str l))) ⟨[.cells t [p,.sl 0 e rows]],[0],1⟩
 | _,_=>False
def ZfY:PC w0 nG 73 ZaA:=VB (Zf Tryz.func73 kR rfl) fun args σ K h e w vs hS ha=>by
 unfold ZaA at h
 split at h
 ·rename_i t p el rows
  obtain ⟨l,⟨rfl,rfl,rfl,hp,dj⟩,hK⟩:=h;obtain ⟨u,rfl,hu⟩:=ZeU ha;obtain ⟨cv,dv,bj,d0⟩:=hS.box 0 _ rfl;have dw:cv.size=2:=bj;obtain ⟨v0,v1,rfl⟩:∃v0 v1,cv=#[v0,v1]:=by
   obtain ⟨lst⟩:=cv
   match lst,dw with
   | [a,b],_=>exact ⟨a,b,rfl⟩
  have cf:=(d0 1 (.sl 0 5 (Zl l)) v1 rfl rfl).1
  cases hu with
  | ptr b off hb =>
  refine ⟨_,_,.string ⟨l.toArray⟩,hK,?_⟩;have fin:∀w',w.heap.size<=w'.heap.size->w'.os=w.os->w'.tape=w.tape->w'.output=w.output ->
    (∀b off u,w.cell? ⟨b,off,none⟩=some u->w'.cell? ⟨b,off,none⟩=some u) ->
    (∀b,b<w.heap.size->(∀q,e.M 0=some q->q.1≠b)->w'.heap[b]?=w.heap[b]?)->(∀v,Owned (GG w0 nG) e w 0 5 (Zl l) v->Owned (GG w0 nG) e w' 0 5 (Zl l) v)->(∀q,e.M 0=some q->∃cs ty fz,w'.heap[q.1]?=some (.cells cs ty fz)) ->
    VRel (GG w0 nG) e ⟨[.cells 132 [p,.sl 0 5 (Zl l)]],[0],1⟩ w' (.d (.str l)) (.string ⟨l.toArray⟩)/\SRel (GG w0 nG) e ⟨[.cells 132 [p,.sl 0 5 (Zl l)]],[0],1⟩ w'/\Later e ⟨[.cells 132 [p,.sl 0 5 (Zl l)]],[0],1⟩ w e ⟨[.cells 132 [p,.sl 0 5 (Zl l)]],[0],1⟩ w':=fun w' h1 h2 h3 h4 h5 h6 h7 h8 =>
   ⟨.mkstr,ZyB hp hS h1 h2 h3 h4 h5 h6 h7 h8⟩
  have grown:∀w',Grows w w'->_:=fun w' g=>fin w' g.size g.os g.tape g.output (fun b off u hu=>(g.cell (Vr hu)).trans hu) (fun b hb _=>g.old b hb) (fun v hv=>hv.grow g) (fun q hq=>by obtain ⟨_,_,cs,ty,fz,hh⟩:=hS.own 0 sM q hq;exact ⟨cs,ty,fz,(g.old _ (Tw.1 hh).1).trans hh⟩)
  cases cf with
  | sl _ _ _ _ hn hd ht =>
  rcases ht sM with ⟨rfl,bu,hM⟩ | ⟨sz,g1,g2,g3,g,off,cap,cs,ty,fz,rfl,g4,g5,g6,⟨g7,rfl,rfl,g8⟩,g9,hM⟩
  ·have hl:l=[]:=by simpa [Zl] using bu
   subst hl;refine (Ztn Tryz.lays169 Tryz.Builder_Extra_169 w.heap.size (e.β 0) v0 w dv).mono fun en w' ⟨h1,h2⟩=>?_
   exact ⟨h1,grown w' (ZGm h2)⟩
  have lj:sz=1:=by
   have:(Tryz.prog.info? 5).map (·.size)=some sz:=g1
   rw [ZAQ] at this;cases this;rfl
  subst lj;rw [Y6] at g5 dv g9 hM hd
  by_cases hl:l=[]
  ·subst hl;refine (Zqq Tryz.lays169 Tryz.Builder_Extra_169 w.heap.size (e.β 0) g cap v0 w oM dv).mono fun en w' ⟨h1,h2⟩=>?_
   exact ⟨h1,grown w' (ZGm h2)⟩
  have ax:∀j x,l[j]?=some x->w.cell? ⟨g,j,none⟩=some (.int .u8 x.toNat):=by
   exact mq30
  obtain ⟨fz',qf,hfa,hfb⟩:=ZnX w g l.length g6 g9.1 (fun o ho=>g9.2 o oM);refine (ZnT Tryz.lays169 Tryz.Builder_Extra_169 (e.β 0) g cap v0 cs fz l w hl dv g6 oM oM oM ax).mono fun en w' ⟨h1,h2⟩=>?_
  rw [h2];refine ⟨h1,fin _ ?_ ?_ ?_ ?_ ?_ ?_ ?_ ?_⟩
  ·unfold World.freeze;split <;> first | exact Tr _ | (simp only [Array.size_modify];exact Tr _)
  ·exact mq149
  ·exact mq149
  ·exact mq149
  ·exact mq116
  ·intro b hb hq
   exact VD w g l.length b fun h=>hq _ hM h.symm
  ·intro v hv
   exact hv.refreeze hM qf g6 hfa (by simpa [Y6] using hfb)
  intro q hq
  rw [hM] at hq;cases hq;exact ⟨_,_,_,qf⟩
 exact h.elim
end Go.PM.Lex
end

section
namespace Go.PM.Lex
open Go.Proofs
variable {w0:World} {nG:Nat}
def ZyD {n:Nat}:OKw w0 nG [(181,Zhl),(235,Zhk (YH ZF) ZkE exT wE n)] 234 (Zqr 235 ZF ZkE exT wE n):=by
 refine pwo Tryz.func234 fun args σ K h=>?_
 unfold Zqr at h
 split at h
 ·rename_i r bt g t e rows tp
  obtain ⟨l,pl,xs,rfl,rfl,⟨rfl,rfl,rfl⟩,⟨bm,hz,hn⟩,hlen,h⟩:=h;have ca:(xs.map (ZF pl)).length=xs.length:=Td ..;have hsz:=Zu wE xs;refine pwv [(1,⟨[12],[0,1,2,3,10,11],fun vs σ=>∃i:Nat,vs=[.d (.int .i64 i)]/\σ=⟨[.cells 132 [.ptr 0 0,.sl 0 5 (Zl (l++Zh bt ((xs.take i).map exT)))],.cells tp [.ptr 0 0]],[0],1⟩/\i<=xs.length,mu1 xs.length⟩)] 2 true ?_;refine ⟨⟨0,rfl,(by simp only [T6,TJ,Zh,TW];rfl),oM⟩,?_⟩;intro vs σ hI
  obtain ⟨i,rfl,rfl,hi⟩:=hI;(conv=>whnf);refine ZGg (fun ab=>wN ?_) (fun ab=>?_)
  ·have ab:i<xs.length:=lzI ca ab;have hg:=ZD wE xs i ab;have fg:ZkE xs[i]=true:=Tm.1 bm _ (TC ab);have cq:=VI bt exT ab;have am:=Zaz bt exT xs (i+1);obtain ⟨eA,hA⟩:∃x,xs[i]=x:=⟨_,rfl⟩
   obtain ⟨a1,a2,a3,a4,a5⟩:=eA;rw [hA] at hg fg cq;have cf:(xs.map (ZF pl))[((i:Nat):Int).toNat]?=some (ZF pl (.mk a1 a2 a3 a4 a5)):=by simp [ab,hA]
   refine ⟨_,oM,cf,wN ?_⟩;refine ZGg (fun h0=>wN ?_) (fun h0=>?_)
   ·have h0:0<i:=by omega
    rw [Tf oM] at cq;rw [cq] at am;simp only [Ta] at am;refine wk _ bt ⟨rfl,rfl⟩ (wN ?_);refine ⟨l++Zh bt ((xs.take i).map exT)++bt,pl,(.mk a1 a2 a3 a4 a5),rfl,rfl,⟨rfl,rfl⟩,⟨fg,oM,oM⟩,by simp only [Ta];omega,wN ?_⟩;exact mq76
   obtain rfl:i=0:=by omega
   rw [Tj rfl] at cq;rw [cq] at am;(conv=>whnf);refine ⟨l++Zh bt ((xs.take 0).map exT),pl,(.mk a1 a2 a3 a4 a5),rfl,rfl,⟨rfl,rfl⟩,⟨fg,oM,oM⟩,by simp only [T6,TJ,Zh,Ta,Tg];omega,wN ?_⟩;exact mq72
  exact mq170
 exact h.elim
def Zvu {n:Nat} (h:PC w0 nG 236 (Ztx n)):PC w0 nG 185 (Zty n) :=
 ZEn ⟨Zax,ZyD ⟨Zqs,ZB5 ⟨h,trivial⟩,trivial⟩,trivial⟩
def cWE (hN:NumOK w0 nG) (hL:LexC w0 nG):∀n,PC w0 nG 236 (Ztx n)
 | 0=>ZB8 ⟨Ztm,Zax,ZA (Zf Tryz.func236 kR rfl),ZA (Zf Tryz.func185 kR rfl),Zqv hN,Zqy hN,hL.quote,trivial⟩
 | n+1=>ZB8 ⟨Ztm,Zax,ZB (sp:=Ztx) (cWE hN hL n),ZB (sp:=Zty) (Zvu (cWE hN hL n)),Zqv hN,Zqy hN,hL.quote,trivial⟩
def ZqG:Zk:=fun args σ K=>match args,σ with
 | [.ptr 0 0,.d (.int .i64 c)],⟨[.cells t [p,.sl 0 e rows]],[0],1⟩=>∃l:Bs,(rows=Zl l/\t=132/\e=5/\(p=.d .nilp\/p=.ptr 0 0)/\l.length<70368744177664) /\
   ((c=3\/c=151->K (.ret (.tuple [.d (.str []),.d (.int .i64 3)])) ⟨[.cells t [p,.sl 0 e rows]],[0],1⟩)/\(c≠3/\c≠151->K (.ret (.tuple [.d (.str l),.d (.int .i64 0)])) ⟨[.cells t [p,.sl 0 e rows]],[0],1⟩))
 | _,_=>False
def ZyE:Tbl:=[(73,ZaA)]
def ZyF:PC w0 nG 74 ZqG:=by
 refine pwt (tbl:=ZyE) ⟨ZfY,trivial⟩ Tryz.func74 fun args σ K h=>?_
 unfold ZqG at h
 split at h
 ·rename_i c t p e rows
  obtain ⟨l,⟨rfl,rfl,rfl,hp,hlen⟩,ha,hb⟩:=h;refine pwu [] 1 true ?_;rcases hp with rfl | rfl
  all_goals
   conv=>whnf
   refine ZGg (fun c1=>wN ?_) (fun c1=>wN ?_)
   ·exact ha (.inl c1)
   refine ZGg (fun c2=>wN ?_) (fun c2=>wN ?_)
   ·exact ha (.inr c2)
   refine ⟨l,⟨rfl,rfl,rfl,iM,hlen⟩,?_⟩;(conv=>whnf);exact hb ⟨c1,c2⟩
 exact h.elim
def ZdY (txt:Bs) {α:Type}:Top α->Bs×Nat
 | .ok _ _=>(txt,0)
 | .err _ e=>if e=3\/e=151 then ([],3) else (txt,0)
def nmT (s:Bs):T0:=⟨1,s,0⟩
def sgT (s:Bs):T0:=⟨4,s,0⟩
def Zvv (sep:Bs):List Ts->Ts
 | []=>[]
 | x::l=>sgT sep::(x++Zvv sep l)
def ZyG (sep:Bs):List Ts->Ts
 | []=>[]
 | x::l=>x++Zvv sep l
def ZDi (want:Nat) (p:Nat×Ts):Ts:=if p.1<want then sgT [40]::(p.2++[sgT [41]]) else p.2
def opT (op:Nat):T0:=if 15<=op/\op<=19 then nmT (VH op) else sgT (VH op)
def ZFc (w1 w2:Nat) (mid:Ts):List (Nat×Ts)->Ts
 | []=>[]
 | [a]=>ZDi w1 a
 | a::b::_=>ZDi w1 a++(mid++ZDi w2 b)
def brK (fr fin:Bs) (ps:List Ts):Ts:=sgT fr::(ZyG [44] ps++[sgT fin])
def ZFE (op:Nat) (text:Bs) (n:Int) (ps:List (Nat×Ts)):Ts :=
 if ZV op<5 then ZFc (ZV op) (ZV op+1) [opT op] ps
 else if ZV op=5 then sgT (VH op)::ZFc 5 5 [] ps
 else if VH op≠[] then nmT (VH op)::brK [40] [41] (ps.map Prod.snd)
 else if op=6 then brK [91] [93] (ps.map Prod.snd)
 else if op=7 then sgT [36]::nmT text::(if ps.length=0 then [] else brK [40] [41] (ps.map Prod.snd))
 else if op=3 then [⟨2,[],n⟩]
 else if op=4 then [⟨3,text,0⟩]
 else if op=5 then [nmT [110,105,108]]
 else if op=2 then [nmT [95]]
 else [nmT text]
mutual
def exK:Ex->Ts
 | .mk op text n args _=>ZFE op text n (ZFd args)
def ZFd:List Ex->List (Nat×Ts)
 | []=>[]
 | e::l=>(ZV (opE e),exK e)::ZFd l
end
def ZFe (want:Nat) (e:Ex):Ts:=ZDi want (ZV (opE e),exK e)
def Lim {α:Type} (x:R α):Prop:=∃p,x=.err p 3\/x=.err p 151
def Rd {α β:Type} (er:α->β) (v:α) (r:Ts) (x:R α):Prop:=(∃v',er v'=er v/\x=.ok v' r)\/Lim x
def Lim.bind {α β:Type} {x:R α} {f:α->Ts->R β} (h:Lim x):Lim (x.bind f):=by
 obtain ⟨p,rfl | rfl⟩:=h
 ·exact ⟨p,.inl rfl⟩
 exact ⟨p,.inr rfl⟩
def Rd.bind {α β γ δ:Type} {er:α->β} {er2:γ->δ} {v:α} {u:γ} {r s:Ts} {x:R α} {f:α->Ts->R γ} (h:Rd er v r x) (hf:∀v',er v'=er v->Rd er2 u s (f v' r)):Rd er2 u s (x.bind f):=by
 rcases h with ⟨v',e,rfl⟩ | h
 ·exact hf v' e
 exact .inr h.bind
def Rd.ok {α β:Type} {er:α->β} {v v':α} {r:Ts} (h:er v'=er v):Rd er v r (.ok v' r):=.inl ⟨v',h,rfl⟩
def Rd.id {α:Type} {v:α} {r:Ts}:Rd (fun x:α=>x) v r (.ok v r):=.inl ⟨v,rfl,rfl⟩
def Rd.binds {α γ δ:Type} {er2:γ->δ} {v:α} {u:γ} {r s:Ts} {x:R α} {f:α->Ts->R γ} (h:Rd (fun x:α=>x) v r x) (hf:Rd er2 u s (f v r)):Rd er2 u s (x.bind f):=h.bind fun v' e=>by cases (show v'=v from e);exact hf
structure Nx (r:Ts):Prop where
 par:isW r [[40]]=false
 bin:(Zci r).1=0
def Zvw {l:List Ex} (h:l.length=2):∃a b,l=[a,b]:=by match l,h with | [a,b],_=>exact ⟨a,b,rfl⟩
def ZB9 {l:List Ex} (h:l.length=1):∃a,l=[a]:=by match l,h with | [a],_=>exact ⟨a,rfl⟩
def Ln (e:Ex) (r:Ts) (sub:Nat->Ts->R Ex) (least:Nat) (x:R Ex):Prop:=(∃f e',r.length<f/\erE e'=erE e/\x=Zao sub least f e' r)\/Lim x
structure ExR (e:Ex):Prop where
 sg:∀d r,isW r [[40]]=false->Rd erE e r (Xv d (ZFe 5 e++r))
 ln:∀d k w l r,w<=l->l<=5->6<=k+w->isW r [[40]]=false->(Zci r).1<l+2->Ln e r (JK (Xv d) (k - 1)) (w+1) (JK (Xv d) k (w+1) (ZFe l e++r))
def ZyH {op:Nat} {rel:Bs} {args:List Ex} {body:List Li} {a:Nat} (h:YI (.mk op rel args body a)=true):YY op rel args.length body.length=true/\(∀x∈args,Yf x=true)/\∀x∈body,YI x=true:=by
 simp only [YI,Zw,Xk,Tl] at h;exact ⟨h.1,Tm.1 h.2.1,Tm.1 h.2.2⟩
def ZyI {op:Nat} {rel:Bs} {na nb:Nat} (h:YY op rel na nb=true):((op=1\/op=2)/\Xj rel=true/\nb=0)\/(3<=op/\op<=8/\rel=[]/\na=2/\nb=0)\/(op=9/\rel=[]/\na=1/\0<nb)\/(9<op/\op<=12/\rel=[]/\na=2/\0<nb):=by
 unfold YY at h
 split at h
 ·rename_i c
  simp only [Tl,TZ,decide_eq_false_iff_not] at h;exact .inl ⟨c,h.1,oM⟩
 split at h
 ·rename_i c
  simp only [Tl,TZ,decide_eq_false_iff_not,TH] at h;exact .inr (.inl ⟨c.1,c.2,h.1,h.2.1,oM⟩)
 split at h
 ·rename_i c
  simp only [Tl,TH] at h;exact .inr (.inr (.inl ⟨c,h.1,h.2.1,h.2.2⟩))
 split at h
 ·rename_i c
  simp only [Tl,TH] at h;exact .inr (.inr (.inr ⟨c.1,c.2,h.1,h.2.1,h.2.2⟩))
 cases h
end Go.PM.Lex
end
