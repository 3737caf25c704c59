/- A part of the proof: plain logic, contracts and laws over the given program. -/
import Derived.Test.YtafpcgfiedfldaaGreatDoorMore
import Derived.Lib.AppendIntMem
import Derived.WalkKit
import Derived.Test.YtafpcgfiedfldaaGreatDoorB07
set_option linter.unusedVariables false
set_option linter.unusedSimpArgs false
set_option linter.all false
set_option maxRecDepth 100000
set_option maxHeartbeats 16000000
noncomputable section
section
namespace Go.PM.Lex
open Go.Proofs
variable {w0:World} {nG:Nat}
mutual
def wE:Ex->Nat
 | .mk _ t _ args _=>1+t.length+wEs args
def wEs:List Ex->Nat
 | []=>0
 | x::l=>1+wE x+wEs l
end
def Jc:∀(l:List Ex),wEs l=szS wE l
 | []=>by rw [wEs,szS]
 | x::l=>by rw [wEs,szS,Jc l]
mutual
def wL:Li->Nat
 | .mk _ r a b _=>1+r.length+szS wE a+wLs b
def wLs:List Li->Nat
 | []=>0
 | x::l=>1+wL x+wLs l
end
def Ux:∀(l:List Li),wLs l=szS wL l
 | []=>by rw [wLs,szS]
 | x::l=>by rw [wLs,szS,Ux l]
def wRu (r:Ru):Nat:=1+r.head.length+szS wE r.args+szS wL r.body
def wFi (f:Fi):Nat:=1+f.name.length+f.typ.length
def wCa (c:Ca):Nat:=1+c.name.length+szS wFi c.fields
def wTy (t:Ty):Nat:=1+t.name.length+t.base.length+szS wFi t.fields+szS wCa t.cases
def wRe (d:Re):Nat:=1+d.name.length+szS wFi d.fields
def wBs (s:Bs):Nat:=1+s.length
def wIn (i:Ini):Nat:=1+i.name.length+i.comp.length+szS wBs i.types
def wOv (o:Ov):Nat:=1+o.rel.length
mutual
def wUn:Un->Nat
 | .mk a1 a2 a3 a4 a5 a6=>1+szS wTy a1+szS wRe a2+szS wRu a3+ZsM a4+szS wIn a5+szS wOv a6
def wCo:Co->Nat
 | .mk n p b t u _=>1+n.length+szS wBs p+b.length+szS wBs t+wUn u
def ZsM:List Co->Nat
 | []=>0
 | x::l=>1+wCo x+ZsM l
end
def VL:∀(l:List Co),ZsM l=szS wCo l
 | []=>by rw [ZsM,szS]
 | x::l=>by rw [ZsM,szS,VL l]
abbrev YH {α:Type} (enc:Pl->α->List D):Pl->α->PV:=fun pl x=>.agg ((enc pl x).map .d)
abbrev Zjl:Pl->Bs->PV:=fun _ s=>.d (.str s)
def YW {α:Type} (val:Pl->α->PV) (p:α->Bool) (w:α->Nat) (n:Nat):Zo:=fun args σ K=>match args,σ with
 | [v],⟨[],[],0⟩=>∃pl x,v=val pl x/\(w x<=n/\n<=1073741824)/\∀b,p x=b->K (.ret (.d (.bool b))) ⟨[],[],0⟩
 | _,_=>False
def UX {α:Type} (h0:FuncId) (val:Pl->α->PV) (p:α->Bool) (w:α->Nat) (n:Nat):Zo:=fun args σ K=>match args,σ with
 | [v,.ptr 0 0],⟨[.cells t [.func h' [] []]],[],0⟩=>∃pl x,v=val pl x/\(h'=h0/\w x<=n/\n<=1073741824)/\∀b,(!p x)=b->K (.ret (.d (.bool b))) ⟨[.cells t [.func h' [] []]],[],0⟩
 | _,_=>False
def UY {α:Type} (g0 h0:FuncId) (enc:Pl->α->List D) (p:α->Bool) (w:α->Nat) (n:Nat):Zo:=fun args σ K=>match args,σ with
 | [.d (.sl r),.func g' [] [.ptr 0 0]],⟨[.cells t [.func h' [] []]],[],0⟩=>∃pl l,r=l.map (enc pl)/\(g'=g0/\h'=h0/\szS w l<=n/\n<=1073741824)/\∀r:Int,(r<0↔l.all p=true)->K (.ret (.d (.int .i64 r))) ⟨[.cells t [.func h' [] []]],[],0⟩
 | _,_=>False
def UZ {α:Type} (g0 h0:FuncId) (enc:Pl->α->List D) (p:α->Bool) (w:α->Nat) (n:Nat):Zo:=fun args σ K=>match args,σ with
 | [.d (.sl r),.func g' [] [.ptr 0 0]],⟨[.cells t [.func h' [] []]],[],0⟩=>∃pl l,r=l.map (enc pl)/\(g'=g0/\h'=h0/\szS w l<=n/\n<=1073741824)/\∀b,(!l.all p)=b->K (.ret (.d (.bool b))) ⟨[.cells t [.func h' [] []]],[],0⟩
 | _,_=>False
def Xy {α:Type} (h0:FuncId) (enc:Pl->α->List D) (p:α->Bool) (w:α->Nat) (n:Nat):Zo:=fun args σ K=>match args,σ with
 | [.d (.sl r),.func h' [] []],⟨[],[],0⟩=>∃pl l,r=l.map (enc pl)/\(h'=h0/\szS w l<=n/\n<=1073741824)/\∀b,l.all p=b->K (.ret (.d (.bool b))) ⟨[],[],0⟩
 | _,_=>False
def Xm {α:Type} (p:α->Bool) {l:List α} {i:Nat} (h:i<l.length):(l.drop i).all p=(p l[i] && (l.drop (i+1)).all p):=by rw [Tm h,List.all_cons]
def Ww {α:Type} (p:α->Bool) {l:List α} {i:Nat} (h:l.length<=i):(l.drop i).all p=true:=by rw [Tr h];rfl
def ZzY {n:Nat}:OKw w0 nG [(137,YW (YH ZE) Yf wE n)] 192 (UX 137 (YH ZE) Yf wE n):=by
 refine pwo Tryz.func192 fun args σ K h=>?_
 exact mq88
def Zz0 {n:Nat}:OKw w0 nG [(192,UX 137 (YH ZE) Yf wE n)] 110 (UY 192 137 ZE Yf wE n):=by
 refine pwo Tryz.func110 fun args σ K h=>?_
 unfold UY at h
 split at h
 ·obtain ⟨pl,l,rfl,⟨rfl,rfl,hz,hn⟩,h⟩:=h
  rename_i t
  have hlen:(l.map (ZE pl)).length=l.length:=Td ..;have hsz:=Zp wE l;refine pwv [(2,⟨[8],[0,1,7],fun vs σ=>∃i:Nat,vs=[.d (.int .i64 i)]/\σ=⟨[.cells t [.func 137 [] []]],[],0⟩/\i<=l.length/\l.all Yf=(l.drop i).all Yf,mu1 l.length⟩)] 1 false ?_;refine ⟨⟨0,rfl,rfl,oM,rfl⟩,?_⟩;intro vs σ hI
  obtain ⟨i,rfl,rfl,hi,hs⟩:=hI;(conv=>whnf);refine ZFs (fun ab=>wN ?_) (fun ab=>wN ?_)
  ·have ab:i<l.length:=lzI hlen ab;have hg:=Zs wE l i ab;rw [Xm _ ab] at hs;obtain ⟨eA,hA⟩:∃e,l[i]=e:=⟨_,rfl⟩
   obtain ⟨a1,a2,a3,a4,a5⟩:=eA;have bi:(l.map (ZE pl))[((i:Nat):Int).toNat]?=some (ZE pl (.mk a1 a2 a3 a4 a5)):=by simp [ab,hA]
   rw [hA] at hs hg;refine ⟨_,oM,bi,wN ?_⟩;refine ⟨pl,(.mk a1 a2 a3 a4 a5),rfl,⟨rfl,oM,oM⟩,fun b hb=>?_⟩
   cases b with
   | true =>
    have hp:Yf (.mk a1 a2 a3 a4 a5)=false:=by simpa using hb
    exact mq45
   | false =>
   have hp:Yf (.mk a1 a2 a3 a4 a5)=true:=by simpa using hb
   exact mq26
  exact mq31
 exact h.elim
def Zz2 {n:Nat}:OKw w0 nG [(110,UY 192 137 ZE Yf wE n)] 54 (UZ 192 137 ZE Yf wE n):=by
 refine pwo Tryz.func54 fun args σ K h=>?_
 unfold UZ at h
 split at h
 ·obtain ⟨pl,l,rfl,⟨rfl,rfl,hz,hn⟩,h⟩:=h;refine pwv [] 1 false ?_;refine ⟨pl,l,rfl,⟨rfl,rfl,hz,hn⟩,fun r hr=>wN ?_⟩;refine h _ ?_
  cases hb:l.all Yf with
  | true=>rw [hb] at hr;have:=hr.2 rfl;simp;omega
  | false=>rw [hb] at hr;have:¬r<0:=fun g=>(by have:=hr.1 g;cases this);simp;omega
 exact h.elim
def Zz4 {n:Nat}:OKw w0 nG [(54,UZ 192 137 ZE Yf wE n)] 136 (Xy 137 ZE Yf wE n):=by
 refine pwo Tryz.func136 fun args σ K h=>?_
 exact mq7
def ZCd {n:Nat} (h:PC w0 nG 137 (YW (YH ZE) Yf wE n)):PC w0 nG 136 (Xy 137 ZE Yf wE n) :=
 Zz4 ⟨Zz2 ⟨Zz0 ⟨ZzY ⟨h,trivial⟩,trivial⟩,trivial⟩,trivial⟩
def Zz6 {n:Nat}:OKw w0 nG [(139,YW (YH YT) YI wL n)] 196 (UX 139 (YH YT) YI wL n):=by
 refine pwo Tryz.func196 fun args σ K h=>?_
 exact mq88
def Zz8 {n:Nat}:OKw w0 nG [(196,UX 139 (YH YT) YI wL n)] 233 (UY 196 139 YT YI wL n):=by
 refine pwo Tryz.func233 fun args σ K h=>?_
 unfold UY at h
 split at h
 ·obtain ⟨pl,l,rfl,⟨rfl,rfl,hz,hn⟩,h⟩:=h
  rename_i t
  have hlen:(l.map (YT pl)).length=l.length:=Td ..;have hsz:=Zp wL l;refine pwv [(2,⟨[8],[0,1,7],fun vs σ=>∃i:Nat,vs=[.d (.int .i64 i)]/\σ=⟨[.cells t [.func 139 [] []]],[],0⟩/\i<=l.length/\l.all YI=(l.drop i).all YI,mu1 l.length⟩)] 1 false ?_;refine ⟨⟨0,rfl,rfl,oM,rfl⟩,?_⟩;intro vs σ hI
  obtain ⟨i,rfl,rfl,hi,hs⟩:=hI;(conv=>whnf);refine ZFs (fun ab=>wN ?_) (fun ab=>wN ?_)
  ·have ab:i<l.length:=lzI hlen ab;have hg:=Zs wL l i ab;rw [Xm _ ab] at hs;obtain ⟨eA,hA⟩:∃e,l[i]=e:=⟨_,rfl⟩
   obtain ⟨a1,a2,a3,a4,a5⟩:=eA;have bi:(l.map (YT pl))[((i:Nat):Int).toNat]?=some (YT pl (.mk a1 a2 a3 a4 a5)):=by simp [ab,hA]
   rw [hA] at hs hg;refine ⟨_,oM,bi,wN ?_⟩;refine ⟨pl,(.mk a1 a2 a3 a4 a5),rfl,⟨rfl,oM,oM⟩,fun b hb=>?_⟩
   cases b with
   | true =>
    have hp:YI (.mk a1 a2 a3 a4 a5)=false:=by simpa using hb
    exact mq45
   | false =>
   have hp:YI (.mk a1 a2 a3 a4 a5)=true:=by simpa using hb
   exact mq26
  exact mq31
 exact h.elim
def ZAa {n:Nat}:OKw w0 nG [(233,UY 196 139 YT YI wL n)] 195 (UZ 196 139 YT YI wL n):=by
 refine pwo Tryz.func195 fun args σ K h=>?_
 unfold UZ at h
 split at h
 ·obtain ⟨pl,l,rfl,⟨rfl,rfl,hz,hn⟩,h⟩:=h;refine pwv [] 1 false ?_;refine ⟨pl,l,rfl,⟨rfl,rfl,hz,hn⟩,fun r hr=>wN ?_⟩;refine h _ ?_
  cases hb:l.all YI with
  | true=>rw [hb] at hr;have:=hr.2 rfl;simp;omega
  | false=>rw [hb] at hr;have:¬r<0:=fun g=>(by have:=hr.1 g;cases this);simp;omega
 exact h.elim
def ZAc {n:Nat}:OKw w0 nG [(195,UZ 196 139 YT YI wL n)] 138 (Xy 139 YT YI wL n):=by
 refine pwo Tryz.func138 fun args σ K h=>?_
 exact mq7
def ZEf {n:Nat} (h:PC w0 nG 139 (YW (YH YT) YI wL n)):PC w0 nG 138 (Xy 139 YT YI wL n) :=
 ZAc ⟨ZAa ⟨Zz8 ⟨Zz6 ⟨h,trivial⟩,trivial⟩,trivial⟩,trivial⟩
def Zwd {n:Nat}:OKw w0 nG [(76,YW (YH ZC) XO wRu n)] 135 (UX 76 (YH ZC) XO wRu n):=by
 refine pwo Tryz.func135 fun args σ K h=>?_
 exact mq92
def Zwf {n:Nat}:OKw w0 nG [(135,UX 76 (YH ZC) XO wRu n)] 191 (UY 135 76 ZC XO wRu n):=by
 refine pwo Tryz.func191 fun args σ K h=>?_
 unfold UY at h
 split at h
 ·obtain ⟨pl,l,rfl,⟨rfl,rfl,hz,hn⟩,h⟩:=h
  rename_i t
  have hlen:(l.map (ZC pl)).length=l.length:=Td ..;have hsz:=Zp wRu l;refine pwv [(2,⟨[8],[0,1,7],fun vs σ=>∃i:Nat,vs=[.d (.int .i64 i)]/\σ=⟨[.cells t [.func 76 [] []]],[],0⟩/\i<=l.length/\l.all XO=(l.drop i).all XO,mu1 l.length⟩)] 1 false ?_;refine ⟨⟨0,rfl,rfl,oM,rfl⟩,?_⟩;intro vs σ hI
  obtain ⟨i,rfl,rfl,hi,hs⟩:=hI;(conv=>whnf);refine ZFs (fun ab=>wN ?_) (fun ab=>wN ?_)
  ·have ab:i<l.length:=lzI hlen ab;have hg:=Zs wRu l i ab;rw [Xm _ ab] at hs;obtain ⟨eA,hA⟩:∃e,l[i]=e:=⟨_,rfl⟩
   obtain ⟨a1,a2,a3,a4⟩:=eA;have bi:(l.map (ZC pl))[((i:Nat):Int).toNat]?=some (ZC pl ⟨a1,a2,a3,a4⟩):=by simp [ab,hA]
   rw [hA] at hs hg;refine ⟨_,oM,bi,wN ?_⟩;refine ⟨pl,⟨a1,a2,a3,a4⟩,rfl,⟨rfl,oM,oM⟩,fun b hb=>?_⟩
   cases b with
   | true =>
    have hp:XO ⟨a1,a2,a3,a4⟩=false:=by simpa using hb
    exact mq45
   | false =>
   have hp:XO ⟨a1,a2,a3,a4⟩=true:=by simpa using hb
   exact mq26
  exact mq31
 exact h.elim
def Zwh {n:Nat}:OKw w0 nG [(191,UY 135 76 ZC XO wRu n)] 134 (UZ 135 76 ZC XO wRu n):=by
 refine pwo Tryz.func134 fun args σ K h=>?_
 unfold UZ at h
 split at h
 ·obtain ⟨pl,l,rfl,⟨rfl,rfl,hz,hn⟩,h⟩:=h;refine pwv [] 1 false ?_;refine ⟨pl,l,rfl,⟨rfl,rfl,hz,hn⟩,fun r hr=>wN ?_⟩;refine h _ ?_
  cases hb:l.all XO with
  | true=>rw [hb] at hr;have:=hr.2 rfl;simp;omega
  | false=>rw [hb] at hr;have:¬r<0:=fun g=>(by have:=hr.1 g;cases this);simp;omega
 exact h.elim
def Zwj {n:Nat}:OKw w0 nG [(134,UZ 135 76 ZC XO wRu n)] 75 (Xy 76 ZC XO wRu n):=by
 refine pwo Tryz.func75 fun args σ K h=>?_
 exact mq7
def ZAd {n:Nat} (h:PC w0 nG 76 (YW (YH ZC) XO wRu n)):PC w0 nG 75 (Xy 76 ZC XO wRu n) :=
 Zwj ⟨Zwh ⟨Zwf ⟨Zwd ⟨h,trivial⟩,trivial⟩,trivial⟩,trivial⟩
def Zwl {n:Nat}:OKw w0 nG [(74,YW (YH (fun _=>Zn)) YQ wFi n)] 133 (UX 74 (YH (fun _=>Zn)) YQ wFi n):=by
 refine pwo Tryz.func133 fun args σ K h=>?_
 exact mq55
def Zwn {n:Nat}:OKw w0 nG [(133,UX 74 (YH (fun _=>Zn)) YQ wFi n)] 168 (UY 133 74 (fun _=>Zn) YQ wFi n):=by
 refine pwo Tryz.func168 fun args σ K h=>?_
 unfold UY at h
 split at h
 ·obtain ⟨pl,l,rfl,⟨rfl,rfl,hz,hn⟩,h⟩:=h
  rename_i t
  have hlen:(l.map ((fun _=>Zn) pl)).length=l.length:=Td ..;have hsz:=Zp wFi l;refine pwv [(2,⟨[8],[0,1,7],fun vs σ=>∃i:Nat,vs=[.d (.int .i64 i)]/\σ=⟨[.cells t [.func 74 [] []]],[],0⟩/\i<=l.length/\l.all YQ=(l.drop i).all YQ,mu1 l.length⟩)] 1 false ?_;refine ⟨⟨0,rfl,rfl,oM,rfl⟩,?_⟩;intro vs σ hI
  obtain ⟨i,rfl,rfl,hi,hs⟩:=hI;(conv=>whnf);refine ZFs (fun ab=>wN ?_) (fun ab=>wN ?_)
  ·have ab:i<l.length:=lzI hlen ab;have hg:=Zs wFi l i ab;rw [Xm _ ab] at hs;obtain ⟨eA,hA⟩:∃e,l[i]=e:=⟨_,rfl⟩
   obtain ⟨a1,a2⟩:=eA;have bi:(l.map ((fun _=>Zn) pl))[((i:Nat):Int).toNat]?=some ((fun _=>Zn) pl ⟨a1,a2⟩):=by simp [ab,hA]
   rw [hA] at hs hg;refine ⟨_,oM,bi,wN ?_⟩;refine ⟨pl,⟨a1,a2⟩,rfl,⟨rfl,oM,oM⟩,fun b hb=>?_⟩
   cases b with
   | true =>
    have hp:YQ ⟨a1,a2⟩=false:=by simpa using hb
    exact mq45
   | false =>
   have hp:YQ ⟨a1,a2⟩=true:=by simpa using hb
   exact mq26
  exact mq31
 exact h.elim
def Zwp {n:Nat}:OKw w0 nG [(168,UY 133 74 (fun _=>Zn) YQ wFi n)] 94 (UZ 133 74 (fun _=>Zn) YQ wFi n):=by
 refine pwo Tryz.func94 fun args σ K h=>?_
 unfold UZ at h
 split at h
 ·obtain ⟨pl,l,rfl,⟨rfl,rfl,hz,hn⟩,h⟩:=h;refine pwv [] 1 false ?_;refine ⟨pl,l,rfl,⟨rfl,rfl,hz,hn⟩,fun r hr=>wN ?_⟩;refine h _ ?_
  cases hb:l.all YQ with
  | true=>rw [hb] at hr;have:=hr.2 rfl;simp;omega
  | false=>rw [hb] at hr;have:¬r<0:=fun g=>(by have:=hr.1 g;cases this);simp;omega
 exact h.elim
def Zwr {n:Nat}:OKw w0 nG [(94,UZ 133 74 (fun _=>Zn) YQ wFi n)] 73 (Xy 74 (fun _=>Zn) YQ wFi n):=by
 refine pwo Tryz.func73 fun args σ K h=>?_
 exact mq7
def ZC2 {n:Nat} (h:PC w0 nG 74 (YW (YH (fun _=>Zn)) YQ wFi n)):PC w0 nG 73 (Xy 74 (fun _=>Zn) YQ wFi n) :=
 Zwr ⟨Zwp ⟨Zwn ⟨Zwl ⟨h,trivial⟩,trivial⟩,trivial⟩,trivial⟩
def Zwt {n:Nat}:OKw w0 nG [(128,YW (YH (fun _=>Zt)) Xq wCa n)] 185 (UX 128 (YH (fun _=>Zt)) Xq wCa n):=by
 refine pwo Tryz.func185 fun args σ K h=>?_
 exact mq55
def Zwv {n:Nat}:OKw w0 nG [(185,UX 128 (YH (fun _=>Zt)) Xq wCa n)] 93 (UY 185 128 (fun _=>Zt) Xq wCa n):=by
 refine pwo Tryz.func93 fun args σ K h=>?_
 unfold UY at h
 split at h
 ·obtain ⟨pl,l,rfl,⟨rfl,rfl,hz,hn⟩,h⟩:=h
  rename_i t
  have hlen:(l.map ((fun _=>Zt) pl)).length=l.length:=Td ..;have hsz:=Zp wCa l;refine pwv [(2,⟨[8],[0,1,7],fun vs σ=>∃i:Nat,vs=[.d (.int .i64 i)]/\σ=⟨[.cells t [.func 128 [] []]],[],0⟩/\i<=l.length/\l.all Xq=(l.drop i).all Xq,mu1 l.length⟩)] 1 false ?_;refine ⟨⟨0,rfl,rfl,oM,rfl⟩,?_⟩;intro vs σ hI
  obtain ⟨i,rfl,rfl,hi,hs⟩:=hI;(conv=>whnf);refine ZFs (fun ab=>wN ?_) (fun ab=>wN ?_)
  ·have ab:i<l.length:=lzI hlen ab;have hg:=Zs wCa l i ab;rw [Xm _ ab] at hs;obtain ⟨eA,hA⟩:∃e,l[i]=e:=⟨_,rfl⟩
   obtain ⟨a1,a2⟩:=eA;have bi:(l.map ((fun _=>Zt) pl))[((i:Nat):Int).toNat]?=some ((fun _=>Zt) pl ⟨a1,a2⟩):=by simp [ab,hA]
   rw [hA] at hs hg;refine ⟨_,oM,bi,wN ?_⟩;refine ⟨pl,⟨a1,a2⟩,rfl,⟨rfl,oM,oM⟩,fun b hb=>?_⟩
   cases b with
   | true =>
    have hp:Xq ⟨a1,a2⟩=false:=by simpa using hb
    exact mq45
   | false =>
   have hp:Xq ⟨a1,a2⟩=true:=by simpa using hb
   exact mq26
  exact mq31
 exact h.elim
def Zwx {n:Nat}:OKw w0 nG [(93,UY 185 128 (fun _=>Zt) Xq wCa n)] 40 (UZ 185 128 (fun _=>Zt) Xq wCa n):=by
 refine pwo Tryz.func40 fun args σ K h=>?_
 unfold UZ at h
 split at h
 ·obtain ⟨pl,l,rfl,⟨rfl,rfl,hz,hn⟩,h⟩:=h;refine pwv [] 1 false ?_;refine ⟨pl,l,rfl,⟨rfl,rfl,hz,hn⟩,fun r hr=>wN ?_⟩;refine h _ ?_
  cases hb:l.all Xq with
  | true=>rw [hb] at hr;have:=hr.2 rfl;simp;omega
  | false=>rw [hb] at hr;have:¬r<0:=fun g=>(by have:=hr.1 g;cases this);simp;omega
 exact h.elim
def Zwz {n:Nat}:OKw w0 nG [(40,UZ 185 128 (fun _=>Zt) Xq wCa n)] 127 (Xy 128 (fun _=>Zt) Xq wCa n):=by
 refine pwo Tryz.func127 fun args σ K h=>?_
 exact mq7
def ZC3 {n:Nat} (h:PC w0 nG 128 (YW (YH (fun _=>Zt)) Xq wCa n)):PC w0 nG 127 (Xy 128 (fun _=>Zt) Xq wCa n) :=
 Zwz ⟨Zwx ⟨Zwv ⟨Zwt ⟨h,trivial⟩,trivial⟩,trivial⟩,trivial⟩
def ZwB {n:Nat}:OKw w0 nG [(69,YW (YH Zr) Yn wTy n)] 126 (UX 69 (YH Zr) Yn wTy n):=by
 refine pwo Tryz.func126 fun args σ K h=>?_
 exact mq85
def ZwD {n:Nat}:OKw w0 nG [(126,UX 69 (YH Zr) Yn wTy n)] 184 (UY 126 69 Zr Yn wTy n):=by
 refine pwo Tryz.func184 fun args σ K h=>?_
 unfold UY at h
 split at h
 ·obtain ⟨pl,l,rfl,⟨rfl,rfl,hz,hn⟩,h⟩:=h
  rename_i t
  have hlen:(l.map (Zr pl)).length=l.length:=Td ..;have hsz:=Zp wTy l;refine pwv [(2,⟨[8],[0,1,7],fun vs σ=>∃i:Nat,vs=[.d (.int .i64 i)]/\σ=⟨[.cells t [.func 69 [] []]],[],0⟩/\i<=l.length/\l.all Yn=(l.drop i).all Yn,mu1 l.length⟩)] 1 false ?_;refine ⟨⟨0,rfl,rfl,oM,rfl⟩,?_⟩;intro vs σ hI
  obtain ⟨i,rfl,rfl,hi,hs⟩:=hI;(conv=>whnf);refine ZFs (fun ab=>wN ?_) (fun ab=>wN ?_)
  ·have ab:i<l.length:=lzI hlen ab;have hg:=Zs wTy l i ab;rw [Xm _ ab] at hs;obtain ⟨eA,hA⟩:∃e,l[i]=e:=⟨_,rfl⟩
   obtain ⟨a1,a2,a3,a4,a5,a6⟩:=eA;have bi:(l.map (Zr pl))[((i:Nat):Int).toNat]?=some (Zr pl ⟨a1,a2,a3,a4,a5,a6⟩):=by simp [ab,hA]
   rw [hA] at hs hg;refine ⟨_,oM,bi,wN ?_⟩;refine ⟨pl,⟨a1,a2,a3,a4,a5,a6⟩,rfl,⟨rfl,oM,oM⟩,fun b hb=>?_⟩
   cases b with
   | true =>
    have hp:Yn ⟨a1,a2,a3,a4,a5,a6⟩=false:=by simpa using hb
    exact mq45
   | false =>
   have hp:Yn ⟨a1,a2,a3,a4,a5,a6⟩=true:=by simpa using hb
   exact mq26
  exact mq31
 exact h.elim
def ZwF {n:Nat}:OKw w0 nG [(184,UY 126 69 Zr Yn wTy n)] 125 (UZ 126 69 Zr Yn wTy n):=by
 refine pwo Tryz.func125 fun args σ K h=>?_
 unfold UZ at h
 split at h
 ·obtain ⟨pl,l,rfl,⟨rfl,rfl,hz,hn⟩,h⟩:=h;refine pwv [] 1 false ?_;refine ⟨pl,l,rfl,⟨rfl,rfl,hz,hn⟩,fun r hr=>wN ?_⟩;refine h _ ?_
  cases hb:l.all Yn with
  | true=>rw [hb] at hr;have:=hr.2 rfl;simp;omega
  | false=>rw [hb] at hr;have:¬r<0:=fun g=>(by have:=hr.1 g;cases this);simp;omega
 exact h.elim
def ZwH {n:Nat}:OKw w0 nG [(125,UZ 126 69 Zr Yn wTy n)] 68 (Xy 69 Zr Yn wTy n):=by
 refine pwo Tryz.func68 fun args σ K h=>?_
 exact mq7
def ZAe {n:Nat} (h:PC w0 nG 69 (YW (YH Zr) Yn wTy n)):PC w0 nG 68 (Xy 69 Zr Yn wTy n) :=
 ZwH ⟨ZwF ⟨ZwD ⟨ZwB ⟨h,trivial⟩,trivial⟩,trivial⟩,trivial⟩
def ZwJ {n:Nat}:OKw w0 nG [(71,YW (YH ZH) Wa wRe n)] 130 (UX 71 (YH ZH) Wa wRe n):=by
 refine pwo Tryz.func130 fun args σ K h=>?_
 exact mq85
def ZwL {n:Nat}:OKw w0 nG [(130,UX 71 (YH ZH) Wa wRe n)] 186 (UY 130 71 ZH Wa wRe n):=by
 refine pwo Tryz.func186 fun args σ K h=>?_
 unfold UY at h
 split at h
 ·obtain ⟨pl,l,rfl,⟨rfl,rfl,hz,hn⟩,h⟩:=h
  rename_i t
  have hlen:(l.map (ZH pl)).length=l.length:=Td ..;have hsz:=Zp wRe l;refine pwv [(2,⟨[8],[0,1,7],fun vs σ=>∃i:Nat,vs=[.d (.int .i64 i)]/\σ=⟨[.cells t [.func 71 [] []]],[],0⟩/\i<=l.length/\l.all Wa=(l.drop i).all Wa,mu1 l.length⟩)] 1 false ?_;refine ⟨⟨0,rfl,rfl,oM,rfl⟩,?_⟩;intro vs σ hI
  obtain ⟨i,rfl,rfl,hi,hs⟩:=hI;(conv=>whnf);refine ZFs (fun ab=>wN ?_) (fun ab=>wN ?_)
  ·have ab:i<l.length:=lzI hlen ab;have hg:=Zs wRe l i ab;rw [Xm _ ab] at hs;obtain ⟨eA,hA⟩:∃e,l[i]=e:=⟨_,rfl⟩
   obtain ⟨a1,a2,a3,a4,a5,a6⟩:=eA;have bi:(l.map (ZH pl))[((i:Nat):Int).toNat]?=some (ZH pl ⟨a1,a2,a3,a4,a5,a6⟩):=by simp [ab,hA]
   rw [hA] at hs hg;refine ⟨_,oM,bi,wN ?_⟩;refine ⟨pl,⟨a1,a2,a3,a4,a5,a6⟩,rfl,⟨rfl,oM,oM⟩,fun b hb=>?_⟩
   cases b with
   | true =>
    have hp:Wa ⟨a1,a2,a3,a4,a5,a6⟩=false:=by simpa using hb
    exact mq45
   | false =>
   have hp:Wa ⟨a1,a2,a3,a4,a5,a6⟩=true:=by simpa using hb
   exact mq26
  exact mq31
 exact h.elim
def ZwN {n:Nat}:OKw w0 nG [(186,UY 130 71 ZH Wa wRe n)] 129 (UZ 130 71 ZH Wa wRe n):=by
 refine pwo Tryz.func129 fun args σ K h=>?_
 unfold UZ at h
 split at h
 ·obtain ⟨pl,l,rfl,⟨rfl,rfl,hz,hn⟩,h⟩:=h;refine pwv [] 1 false ?_;refine ⟨pl,l,rfl,⟨rfl,rfl,hz,hn⟩,fun r hr=>wN ?_⟩;refine h _ ?_
  cases hb:l.all Wa with
  | true=>rw [hb] at hr;have:=hr.2 rfl;simp;omega
  | false=>rw [hb] at hr;have:¬r<0:=fun g=>(by have:=hr.1 g;cases this);simp;omega
 exact h.elim
def ZwP {n:Nat}:OKw w0 nG [(129,UZ 130 71 ZH Wa wRe n)] 70 (Xy 71 ZH Wa wRe n):=by
 refine pwo Tryz.func70 fun args σ K h=>?_
 exact mq7
def ZAf {n:Nat} (h:PC w0 nG 71 (YW (YH ZH) Wa wRe n)):PC w0 nG 70 (Xy 71 ZH Wa wRe n) :=
 ZwP ⟨ZwN ⟨ZwL ⟨ZwJ ⟨h,trivial⟩,trivial⟩,trivial⟩,trivial⟩
def ZwR {n:Nat}:OKw w0 nG [(78,YW (YH XN) Yg wCo n)] 141 (UX 78 (YH XN) Yg wCo n):=by
 refine pwo Tryz.func141 fun args σ K h=>?_
 unfold UX at h
 split at h
 ·obtain ⟨pl,⟨a1,a2,a3,a4,⟨u1,u2,u3,u4,u5,u6⟩,a6⟩,rfl,⟨rfl,hz,hn⟩,h⟩:=h;refine pwv [] 1 false ?_;refine ⟨pl,(.mk a1 a2 a3 a4 (.mk u1 u2 u3 u4 u5 u6) a6),rfl,⟨hz,hn⟩,fun b hb=>wN ?_⟩;exact h _ (by rw [hb])
 exact h.elim
def ZwT {n:Nat}:OKw w0 nG [(141,UX 78 (YH XN) Yg wCo n)] 197 (UY 141 78 XN Yg wCo n):=by
 refine pwo Tryz.func197 fun args σ K h=>?_
 unfold UY at h
 split at h
 ·obtain ⟨pl,l,rfl,⟨rfl,rfl,hz,hn⟩,h⟩:=h
  rename_i t
  have hlen:(l.map (XN pl)).length=l.length:=Td ..;have hsz:=Zp wCo l;refine pwv [(2,⟨[8],[0,1,7],fun vs σ=>∃i:Nat,vs=[.d (.int .i64 i)]/\σ=⟨[.cells t [.func 78 [] []]],[],0⟩/\i<=l.length/\l.all Yg=(l.drop i).all Yg,mu1 l.length⟩)] 1 false ?_;refine ⟨⟨0,rfl,rfl,oM,rfl⟩,?_⟩;intro vs σ hI
  obtain ⟨i,rfl,rfl,hi,hs⟩:=hI;(conv=>whnf);refine ZFs (fun ab=>?_) (fun ab=>wN ?_)
  ·have ab:i<l.length:=lzI hlen ab;have hg:=Zs wCo l i ab;rw [Xm _ ab] at hs;obtain ⟨eA,hA⟩:∃e,l[i]=e:=⟨_,rfl⟩
   obtain ⟨a1,a2,a3,a4,⟨u1,u2,u3,u4,u5,u6⟩,a6⟩:=eA;have bi:(l.map (XN pl))[((i:Nat):Int).toNat]?=some (XN pl (.mk a1 a2 a3 a4 (.mk u1 u2 u3 u4 u5 u6) a6)):=by simp [ab,hA]
   rw [hA] at hs hg;(conv=>whnf);refine ⟨_,oM,bi,wN ?_⟩;refine ⟨pl,(.mk a1 a2 a3 a4 (.mk u1 u2 u3 u4 u5 u6) a6),rfl,⟨rfl,oM,oM⟩,fun b hb=>?_⟩
   cases b with
   | true =>
    have hp:Yg (.mk a1 a2 a3 a4 (.mk u1 u2 u3 u4 u5 u6) a6)=false:=by simpa using hb
    exact mq45
   | false =>
   have hp:Yg (.mk a1 a2 a3 a4 (.mk u1 u2 u3 u4 u5 u6) a6)=true:=by simpa using hb
   exact mq26
  exact mq31
 exact h.elim
def ZwV {n:Nat}:OKw w0 nG [(197,UY 141 78 XN Yg wCo n)] 140 (UZ 141 78 XN Yg wCo n):=by
 refine pwo Tryz.func140 fun args σ K h=>?_
 unfold UZ at h
 split at h
 ·obtain ⟨pl,l,rfl,⟨rfl,rfl,hz,hn⟩,h⟩:=h;refine pwv [] 1 false ?_;refine ⟨pl,l,rfl,⟨rfl,rfl,hz,hn⟩,fun r hr=>wN ?_⟩;refine h _ ?_
  cases hb:l.all Yg with
  | true=>rw [hb] at hr;have:=hr.2 rfl;simp;omega
  | false=>rw [hb] at hr;have:¬r<0:=fun g=>(by have:=hr.1 g;cases this);simp;omega
 exact h.elim
def ZwX {n:Nat}:OKw w0 nG [(140,UZ 141 78 XN Yg wCo n)] 77 (Xy 78 XN Yg wCo n):=by
 refine pwo Tryz.func77 fun args σ K h=>?_
 exact mq7
def ZC4 {n:Nat} (h:PC w0 nG 78 (YW (YH XN) Yg wCo n)):PC w0 nG 77 (Xy 78 XN Yg wCo n) :=
 ZwX ⟨ZwV ⟨ZwT ⟨ZwR ⟨h,trivial⟩,trivial⟩,trivial⟩,trivial⟩
def ZwZ {n:Nat}:OKw w0 nG [(81,YW (YH X8) Wu wIn n)] 144 (UX 81 (YH X8) Wu wIn n):=by
 refine pwo Tryz.func144 fun args σ K h=>?_
 exact mq92
def Zw1 {n:Nat}:OKw w0 nG [(144,UX 81 (YH X8) Wu wIn n)] 198 (UY 144 81 X8 Wu wIn n):=by
 refine pwo Tryz.func198 fun args σ K h=>?_
 unfold UY at h
 split at h
 ·obtain ⟨pl,l,rfl,⟨rfl,rfl,hz,hn⟩,h⟩:=h
  rename_i t
  have hlen:(l.map (X8 pl)).length=l.length:=Td ..;have hsz:=Zp wIn l;refine pwv [(2,⟨[8],[0,1,7],fun vs σ=>∃i:Nat,vs=[.d (.int .i64 i)]/\σ=⟨[.cells t [.func 81 [] []]],[],0⟩/\i<=l.length/\l.all Wu=(l.drop i).all Wu,mu1 l.length⟩)] 1 false ?_;refine ⟨⟨0,rfl,rfl,oM,rfl⟩,?_⟩;intro vs σ hI
  obtain ⟨i,rfl,rfl,hi,hs⟩:=hI;(conv=>whnf);refine ZFs (fun ab=>wN ?_) (fun ab=>wN ?_)
  ·have ab:i<l.length:=lzI hlen ab;have hg:=Zs wIn l i ab;rw [Xm _ ab] at hs;obtain ⟨eA,hA⟩:∃e,l[i]=e:=⟨_,rfl⟩
   obtain ⟨a1,a2,a3,a4⟩:=eA;have bi:(l.map (X8 pl))[((i:Nat):Int).toNat]?=some (X8 pl ⟨a1,a2,a3,a4⟩):=by simp [ab,hA]
   rw [hA] at hs hg;refine ⟨_,oM,bi,wN ?_⟩;refine ⟨pl,⟨a1,a2,a3,a4⟩,rfl,⟨rfl,oM,oM⟩,fun b hb=>?_⟩
   cases b with
   | true =>
    have hp:Wu ⟨a1,a2,a3,a4⟩=false:=by simpa using hb
    exact mq45
   | false =>
   have hp:Wu ⟨a1,a2,a3,a4⟩=true:=by simpa using hb
   exact mq26
  exact mq31
 exact h.elim
def Zw3 {n:Nat}:OKw w0 nG [(198,UY 144 81 X8 Wu wIn n)] 143 (UZ 144 81 X8 Wu wIn n):=by
 refine pwo Tryz.func143 fun args σ K h=>?_
 unfold UZ at h
 split at h
 ·obtain ⟨pl,l,rfl,⟨rfl,rfl,hz,hn⟩,h⟩:=h;refine pwv [] 1 false ?_;refine ⟨pl,l,rfl,⟨rfl,rfl,hz,hn⟩,fun r hr=>wN ?_⟩;refine h _ ?_
  cases hb:l.all Wu with
  | true=>rw [hb] at hr;have:=hr.2 rfl;simp;omega
  | false=>rw [hb] at hr;have:¬r<0:=fun g=>(by have:=hr.1 g;cases this);simp;omega
 exact h.elim
def Zw5 {n:Nat}:OKw w0 nG [(143,UZ 144 81 X8 Wu wIn n)] 80 (Xy 81 X8 Wu wIn n):=by
 refine pwo Tryz.func80 fun args σ K h=>?_
 exact mq7
def ZAg {n:Nat} (h:PC w0 nG 81 (YW (YH X8) Wu wIn n)):PC w0 nG 80 (Xy 81 X8 Wu wIn n) :=
 Zw5 ⟨Zw3 ⟨Zw1 ⟨ZwZ ⟨h,trivial⟩,trivial⟩,trivial⟩,trivial⟩
def Zw7 {n:Nat}:OKw w0 nG [(83,YW (YH X9) WX wOv n)] 146 (UX 83 (YH X9) WX wOv n):=by
 refine pwo Tryz.func146 fun args σ K h=>?_
 exact mq55
def Zw9 {n:Nat}:OKw w0 nG [(146,UX 83 (YH X9) WX wOv n)] 199 (UY 146 83 X9 WX wOv n):=by
 refine pwo Tryz.func199 fun args σ K h=>?_
 unfold UY at h
 split at h
 ·obtain ⟨pl,l,rfl,⟨rfl,rfl,hz,hn⟩,h⟩:=h
  rename_i t
  have hlen:(l.map (X9 pl)).length=l.length:=Td ..;have hsz:=Zp wOv l;refine pwv [(2,⟨[8],[0,1,7],fun vs σ=>∃i:Nat,vs=[.d (.int .i64 i)]/\σ=⟨[.cells t [.func 83 [] []]],[],0⟩/\i<=l.length/\l.all WX=(l.drop i).all WX,mu1 l.length⟩)] 1 false ?_;refine ⟨⟨0,rfl,rfl,oM,rfl⟩,?_⟩;intro vs σ hI
  obtain ⟨i,rfl,rfl,hi,hs⟩:=hI;(conv=>whnf);refine ZFs (fun ab=>wN ?_) (fun ab=>wN ?_)
  ·have ab:i<l.length:=lzI hlen ab;have hg:=Zs wOv l i ab;rw [Xm _ ab] at hs;obtain ⟨eA,hA⟩:∃e,l[i]=e:=⟨_,rfl⟩
   obtain ⟨a1,a2⟩:=eA;have bi:(l.map (X9 pl))[((i:Nat):Int).toNat]?=some (X9 pl ⟨a1,a2⟩):=by simp [ab,hA]
   rw [hA] at hs hg;refine ⟨_,oM,bi,wN ?_⟩;refine ⟨pl,⟨a1,a2⟩,rfl,⟨rfl,oM,oM⟩,fun b hb=>?_⟩
   cases b with
   | true =>
    have hp:WX ⟨a1,a2⟩=false:=by simpa using hb
    exact mq45
   | false =>
   have hp:WX ⟨a1,a2⟩=true:=by simpa using hb
   exact mq26
  exact mq31
 exact h.elim
def Zxb {n:Nat}:OKw w0 nG [(199,UY 146 83 X9 WX wOv n)] 145 (UZ 146 83 X9 WX wOv n):=by
 refine pwo Tryz.func145 fun args σ K h=>?_
 unfold UZ at h
 split at h
 ·obtain ⟨pl,l,rfl,⟨rfl,rfl,hz,hn⟩,h⟩:=h;refine pwv [] 1 false ?_;refine ⟨pl,l,rfl,⟨rfl,rfl,hz,hn⟩,fun r hr=>wN ?_⟩;refine h _ ?_
  cases hb:l.all WX with
  | true=>rw [hb] at hr;have:=hr.2 rfl;simp;omega
  | false=>rw [hb] at hr;have:¬r<0:=fun g=>(by have:=hr.1 g;cases this);simp;omega
 exact h.elim
def Zxd {n:Nat}:OKw w0 nG [(145,UZ 146 83 X9 WX wOv n)] 82 (Xy 83 X9 WX wOv n):=by
 refine pwo Tryz.func82 fun args σ K h=>?_
 exact mq7
def ZAh {n:Nat} (h:PC w0 nG 83 (YW (YH X9) WX wOv n)):PC w0 nG 82 (Xy 83 X9 WX wOv n) :=
 Zxd ⟨Zxb ⟨Zw9 ⟨Zw7 ⟨h,trivial⟩,trivial⟩,trivial⟩,trivial⟩
def Zxf {n:Nat}:OKw w0 nG [(72,YW Zjl Xk wBs n)] 142 (UX 72 Zjl Xk wBs n):=by
 refine pwo Tryz.func142 fun args σ K h=>?_
 unfold UX at h
 split at h
 ·obtain ⟨pl,x,rfl,⟨rfl,hz,hn⟩,h⟩:=h;refine pwv [] 1 false ?_;refine ⟨pl,x,rfl,⟨hz,hn⟩,fun b hb=>wN ?_⟩;exact h _ (by rw [hb])
 exact h.elim
def Zxh {n:Nat}:OKw w0 nG [(142,UX 72 Zjl Xk wBs n)] 172 (UY 142 72 (fun _=>Ym) Xk wBs n):=by
 refine pwo Tryz.func172 fun args σ K h=>?_
 unfold UY at h
 split at h
 ·obtain ⟨pl,l,rfl,⟨rfl,rfl,hz,hn⟩,h⟩:=h
  rename_i t
  have hlen:(l.map ((fun _=>Ym) pl)).length=l.length:=Td ..;have hsz:=Zp wBs l;refine pwv [(2,⟨[8],[0,1,7],fun vs σ=>∃i:Nat,vs=[.d (.int .i64 i)]/\σ=⟨[.cells t [.func 72 [] []]],[],0⟩/\i<=l.length/\l.all Xk=(l.drop i).all Xk,mu1 l.length⟩)] 1 false ?_;refine ⟨⟨0,rfl,rfl,oM,rfl⟩,?_⟩;intro vs σ hI
  obtain ⟨i,rfl,rfl,hi,hs⟩:=hI;(conv=>whnf);refine ZFs (fun ab=>wN ?_) (fun ab=>wN ?_)
  ·have ab:i<l.length:=lzI hlen ab;have hg:=Zs wBs l i ab;rw [Xm _ ab] at hs;obtain ⟨eA,hA⟩:∃e,l[i]=e:=⟨_,rfl⟩
   have bi:(l.map ((fun _=>Ym) pl))[((i:Nat):Int).toNat]?=some ((fun _=>Ym) pl eA):=by simp [ab,hA]
   rw [hA] at hs hg;refine ⟨_,oM,bi,wN ?_⟩;refine ⟨pl,eA,rfl,⟨rfl,oM,oM⟩,fun b hb=>?_⟩
   cases b with
   | true =>
    have hp:Xk eA=false:=by simpa using hb
    exact mq45
   | false =>
   have hp:Xk eA=true:=by simpa using hb
   exact mq26
  exact mq31
 exact h.elim
def Zxj {n:Nat}:OKw w0 nG [(172,UY 142 72 (fun _=>Ym) Xk wBs n)] 104 (UZ 142 72 (fun _=>Ym) Xk wBs n):=by
 refine pwo Tryz.func104 fun args σ K h=>?_
 unfold UZ at h
 split at h
 ·obtain ⟨pl,l,rfl,⟨rfl,rfl,hz,hn⟩,h⟩:=h;refine pwv [] 1 false ?_;refine ⟨pl,l,rfl,⟨rfl,rfl,hz,hn⟩,fun r hr=>wN ?_⟩;refine h _ ?_
  cases hb:l.all Xk with
  | true=>rw [hb] at hr;have:=hr.2 rfl;simp;omega
  | false=>rw [hb] at hr;have:¬r<0:=fun g=>(by have:=hr.1 g;cases this);simp;omega
 exact h.elim
def Zxl {n:Nat}:OKw w0 nG [(104,UZ 142 72 (fun _=>Ym) Xk wBs n)] 79 (Xy 72 (fun _=>Ym) Xk wBs n):=by
 refine pwo Tryz.func79 fun args σ K h=>?_
 exact mq7
def ZC5 {n:Nat} (h:PC w0 nG 72 (YW Zjl Xk wBs n)):PC w0 nG 79 (Xy 72 (fun _=>Ym) Xk wBs n) :=
 Zxl ⟨Zxj ⟨Zxh ⟨Zxf ⟨h,trivial⟩,trivial⟩,trivial⟩,trivial⟩
def Zy8:Zo:=fun args σ K=>match args,σ with
 | [.d (.int .u8 op)],⟨[],[],0⟩=>∃o:Nat,op=o/\∀l w a,(ZT o:Int)=l->VK o=w->V3 o=a->K (.ret (.agg [.d (.int .i64 l),.d (.str w),.d (.int .i64 a)])) ⟨[],[],0⟩
 | _,_=>False
def Zp4:Zz Zy8:=fun args σ K K' hK h=>by
 unfold Zy8 at h |-
 split at h
 ·obtain ⟨o,h1,h2⟩:=h;exact ⟨o,h1,fun l w a e1 e2 e3=>hK _ _ (h2 l w a e1 e2 e3)⟩
 exact h.elim
def ZsN:PC w0 nG 193 Zy8:=by
 refine pwe Tryz.func193 fun args σ K h=>?_
 unfold Zy8 at h
 split at h
 ·obtain ⟨o,rfl,h⟩:=h;refine pwu [] 0 false ?_
  repeat' ((conv=>whnf);refine ZFs (fun hc=>?_) (fun hc=>?_))
  all_goals (conv=>whnf)
  all_goals first
  | (have e : o = 16 := by omega
     subst e;exact h _ _ _ rfl rfl rfl)
  | (have e : o = 17 := by omega
     subst e;exact h _ _ _ rfl rfl rfl)
  | (have e : o = 15 := by omega
     subst e;exact h _ _ _ rfl rfl rfl)
  | (have e : o = 18 := by omega
     subst e;exact h _ _ _ rfl rfl rfl)
  | (have e : o = 19 := by omega
     subst e;exact h _ _ _ rfl rfl rfl)
  | (have e : o = 10 := by omega
     subst e;exact h _ _ _ rfl rfl rfl)
  | (have e : o = 11 := by omega
     subst e;exact h _ _ _ rfl rfl rfl)
  | (have e : o = 12 := by omega
     subst e;exact h _ _ _ rfl rfl rfl)
  | (have e : o = 13 := by omega
     subst e;exact h _ _ _ rfl rfl rfl)
  | (have e : o = 14 := by omega
     subst e;exact h _ _ _ rfl rfl rfl)
  | (have e : o = 8 := by omega
     subst e;exact h _ _ _ rfl rfl rfl)
  | (have e : o = 9 := by omega
     subst e;exact h _ _ _ rfl rfl rfl)
  | (have e : o = 20 := by omega
     subst e;exact h _ _ _ rfl rfl rfl)
  | (have e : o = 21 := by omega
     subst e;exact h _ _ _ rfl rfl rfl)
  | (have e : o = 22 := by omega
     subst e;exact h _ _ _ rfl rfl rfl)
  | (have e : o = 23 := by omega
     subst e;exact h _ _ _ rfl rfl rfl)
  | (have e : o = 24 := by omega
     subst e;exact h _ _ _ rfl rfl rfl)
  | (have e : o = 25 := by omega
     subst e;exact h _ _ _ rfl rfl rfl)
  | (have e : o = 6 := by omega
     subst e;exact h _ _ _ rfl rfl rfl)
  | (have e : o = 7 := by omega
     subst e;exact h _ _ _ rfl rfl rfl)
  | (have e : o = 1 := by omega
     subst e;exact h _ _ _ rfl rfl rfl)
  | (have e : o = 2 := by omega
     subst e;exact h _ _ _ rfl rfl rfl)
  | (have e : o = 3 := by omega
     subst e;exact h _ _ _ rfl rfl rfl)
  | (have e : o = 4 := by omega
     subst e;exact h _ _ _ rfl rfl rfl)
  | (have e : o = 5 := by omega
     subst e;exact h _ _ _ rfl rfl rfl)
  | (refine h _ _ _ ?_ ?_ ?_
     ·unfold ZT;(repeat rw [Tf oM]);rfl
     ·unfold VK;(repeat rw [Tf oM])
     unfold V3;(repeat rw [Tf oM]))
 exact h.elim
def ZAj {n:Nat}:OKw w0 nG [(131,ZgV),(132,Zij)] 72 (YW Zjl Xk wBs n):=by
 refine pwo Tryz.func72 fun args σ K h=>?_
 unfold YW at h
 split at h
 ·obtain ⟨pl,s,rfl,⟨hz,hn⟩,h⟩:=h;unfold wBs at hz
  refine pwv [] 0 false ?_;refine ⟨oM,wN ?_⟩;refine ZFw (fun je=>?_) (fun je=>?_);rotate_left
  ·(conv=>whnf);exact h _ (by simp [Xk,je])
  conv=>whnf
  refine ZFv (fun cz=>?_) (fun cz=>?_);rotate_left
  ·(conv=>whnf);exact h _ (by simp only [Xk,je,cz];decide)
  conv=>whnf
  refine fun b hb=>wN ?_
  exact h _ (by rw [Xk,je,hb,decide_eq_false cz];simp)
 exact h.elim
def ZAl {n:Nat}:OKw w0 nG [(72,YW Zjl Xk wBs n)] 74 (YW (YH (fun _=>Zn)) YQ wFi n):=by
 refine pwo Tryz.func74 fun args σ K h=>?_
 unfold YW at h
 split at h
 ·obtain ⟨pl,⟨a1,a2⟩,rfl,⟨hz,hn⟩,h⟩:=h;simp only [wFi] at hz;refine pwv [] 0 false ?_;refine ⟨fun _=>0,a1,rfl,⟨by simp only [wBs];omega,oM⟩,fun b dj=>?_⟩
  cases b with
  | false =>
   conv=>whnf
   exact h _ (by simp [YQ,dj])
  | true =>
  conv=>whnf
  refine ⟨fun _=>0,a2,rfl,⟨by simp only [wBs];omega,oM⟩,fun b fd=>wN ?_⟩;exact h _ (by simp [YQ,dj,fd])
 exact h.elim
def ZAn {n:Nat}:OKw w0 nG [(72,YW Zjl Xk wBs n),(73,Xy 74 (fun _=>Zn) YQ wFi n)] 128 (YW (YH (fun _=>Zt)) Xq wCa n):=by
 refine pwo Tryz.func128 fun args σ K h=>?_
 unfold YW at h
 split at h
 ·obtain ⟨pl,⟨a1,a2⟩,rfl,⟨hz,hn⟩,h⟩:=h;simp only [wCa] at hz;refine pwv [] 0 false ?_;refine ⟨fun _=>0,a1,rfl,⟨by simp only [wBs];omega,oM⟩,fun b dj=>?_⟩
  cases b with
  | false =>
   conv=>whnf
   exact h _ (by simp [Xq,dj])
  | true =>
  conv=>whnf
  refine ⟨pl,a2,rfl,⟨rfl,oM,oM⟩,fun b gz=>wN ?_⟩;exact h _ (by simp [Xq,dj,gz])
 exact h.elim
def ZAp {n:Nat}:OKw w0 nG [(72,YW Zjl Xk wBs n),(73,Xy 74 (fun _=>Zn) YQ wFi n)] 71 (YW (YH ZH) Wa wRe n):=by
 refine pwo Tryz.func71 fun args σ K h=>?_
 unfold YW at h
 split at h
 ·obtain ⟨pl,⟨a1,a2,a3,a4,a5,a6⟩,rfl,⟨hz,hn⟩,h⟩:=h;simp only [wRe] at hz;refine pwv [] 0 false ?_;refine ⟨fun _=>0,a1,rfl,⟨by simp only [wBs];omega,oM⟩,fun b dj=>?_⟩
  cases b with
  | false =>
   conv=>whnf
   exact h _ (by simp [Wa,dj])
  | true =>
  conv=>whnf
  refine ⟨pl,a2,rfl,⟨rfl,oM,oM⟩,fun b gz=>wN ?_⟩;exact h _ (by simp [Wa,dj,gz])
 exact h.elim
def ZAr {n:Nat}:OKw w0 nG [(72,YW Zjl Xk wBs n),(79,Xy 72 (fun _=>Ym) Xk wBs n)] 81 (YW (YH X8) Wu wIn n):=by
 refine pwo Tryz.func81 fun args σ K h=>?_
 unfold YW at h
 split at h
 ·obtain ⟨pl,⟨a1,a2,a3,a4⟩,rfl,⟨hz,hn⟩,h⟩:=h;simp only [wIn] at hz;refine pwv [] 0 false ?_;refine ⟨fun _=>0,a1,rfl,⟨by simp only [wBs];omega,oM⟩,fun b dj=>?_⟩
  cases b with
  | false =>
   conv=>whnf
   exact h _ (by simp [Wu,dj])
  | true =>
  conv=>whnf
  refine ⟨fun _=>0,a2,rfl,⟨by simp only [wBs];omega,oM⟩,fun b fd=>?_⟩
  cases b with
  | false =>
   conv=>whnf
   exact h _ (by simp [Wu,dj,fd])
  | true =>
  conv=>whnf
  refine ⟨pl,a3,rfl,⟨rfl,oM,oM⟩,fun b et=>wN ?_⟩;exact h _ (by simp [Wu,dj,fd,et])
 exact h.elim
def ZAt {n:Nat}:OKw w0 nG [(72,YW Zjl Xk wBs n)] 83 (YW (YH X9) WX wOv n):=by
 refine pwo Tryz.func83 fun args σ K h=>?_
 unfold YW at h
 split at h
 ·obtain ⟨pl,⟨a1,a2⟩,rfl,⟨hz,hn⟩,h⟩:=h;simp only [wOv] at hz;refine pwv [] 0 false ?_;refine ⟨fun _=>0,a1,rfl,⟨by simp only [wBs];omega,oM⟩,fun b dj=>wN ?_⟩;exact h _ (by simp [WX,dj])
 exact h.elim
def ZAv {n:Nat}:OKw w0 nG [(72,YW Zjl Xk wBs n),(136,Xy 137 ZE Yf wE n),(138,Xy 139 YT YI wL n)] 76 (YW (YH ZC) XO wRu n):=by
 refine pwo Tryz.func76 fun args σ K h=>?_
 unfold YW at h
 split at h
 ·obtain ⟨pl,⟨a1,a2,a3,a4⟩,rfl,⟨hz,hn⟩,h⟩:=h;simp only [wRu] at hz;refine pwv [] 0 false ?_;refine ⟨fun _=>0,a1,rfl,⟨by simp only [wBs];omega,oM⟩,fun b dj=>?_⟩
  cases b with
  | false =>
   conv=>whnf
   exact h _ (by simp [XO,dj])
  | true =>
  conv=>whnf
  refine ⟨pl,a2,Zb _ _,⟨rfl,oM,oM⟩,fun b gz=>?_⟩
  cases b with
  | false =>
   conv=>whnf
   exact h _ (by simp [XO,dj,gz])
  | true =>
  conv=>whnf
  refine ⟨pl,a3,Zm _ _,⟨rfl,oM,oM⟩,fun b et=>wN ?_⟩;exact h _ (by simp [XO,dj,gz,et])
 exact h.elim
def ZAw {n:Nat}:OKw w0 nG [(193,Zy8),(72,YW Zjl Xk wBs n),(194,JH),(136,spB (Xy 137 ZE Yf wE) n)] 137 (YW (YH ZE) Yf wE n):=by
 refine pwo Tryz.func137 fun args σ K h=>?_
 unfold YW at h
 split at h
 ·obtain ⟨pl,⟨a1,a2,a3,a4,a5⟩,rfl,⟨hz,hn⟩,h⟩:=h;simp only [wE,Jc] at hz;refine pwv [] 0 false ?_;have ir:(Ze pl a4).length=a4.length:=by rw [Zb,Td]
  refine ⟨a1,rfl,fun l w a hl hw ha=>wN ?_⟩;refine ZFs (fun eg=>wN ?_) (fun eg=>wN ?_)
  ·have um:=eg;have eg:a1=1:=oM;refine ZFs (fun _=>wN ?_) (fun hx=>absurd um hx);exact mq176
  refine ZFs (fun uo=>wN ?_) (fun uo=>wN ?_)
  ·have eg:a1=7:=by omega
   exact mq176
  have eg:¬a1=1:=oM;have uo:¬a1=7:=oM;refine ZFs (fun m9=>wN ?_) (fun m9=>wN ?_)
  ·have m9:a1=4:=by omega
   refine ⟨oM,fun hq=>wN ?_,fun q hq=>wN ?_⟩
   ·have l5:V4 a1 a2=false:=by simp [V4,m9,hq]
    exact mq6
   have l5:V4 a1 a2=true:=by simp [V4,m9,hq]
   exact mq4
  have m9:¬a1=4:=oM;have l5:V4 a1 a2=decide (a2=[]):=by simp [V4,eg,uo,m9]
  refine ZFs (fun h1=>?_) (fun h1=>?_);rotate_left
  ·exact mq207
  conv=>whnf
  refine ZFs (fun h2=>wN ?_) (fun h2=>wN ?_)
  ·refine ZFs (fun h3=>wN ?_) (fun h3=>wN ?_)
   ·refine ZFs (fun h4=>?_) (fun h4=>?_);rotate_left
    ·exact mq160
    rw [Sa h4] at l5;(conv=>whnf);exact mq204
   refine ZFs (fun h5=>?_) (fun h5=>?_);rotate_left
   ·exact mq174
   have h5:a1=3:=oM;have iz:(decide (a3=0) || decide (a1=3))=true:=by simp [h5]
   conv=>whnf
   refine ZFs (fun h4=>?_) (fun h4=>?_);rotate_left
   ·exact mq160
   rw [Sa h4] at l5;exact mq198
  refine ZFs (fun h6=>?_) (fun h6=>?_);rotate_left
  ·exact mq178
  have h6:(a4.length:Int)=a:=by rw [<- ir];exact h6
  conv=>whnf
  refine ZFs (fun h3=>wN ?_) (fun h3=>wN ?_)
  ·refine ZFs (fun h4=>?_) (fun h4=>?_);rotate_left
   ·exact mq160
   rw [Sa h4] at l5;(conv=>whnf);exact mq203
  refine ZFs (fun h5=>?_) (fun h5=>?_);rotate_left
  ·exact mq174
  have h5:a1=3:=oM;have iz:(decide (a3=0) || decide (a1=3))=true:=by simp [h5]
  conv=>whnf
  refine ZFs (fun h4=>?_) (fun h4=>?_);rotate_left
  ·exact mq160
  rw [Sa h4] at l5;exact mq197
 exact h.elim
def ZAx {n:Nat}:OKw w0 nG [(72,YW Zjl Xk wBs n),(136,Xy 137 ZE Yf wE n),(138,spB (Xy 139 YT YI wL) n)] 139 (YW (YH YT) YI wL n):=by
 refine pwo Tryz.func139 fun args σ K h=>?_
 unfold YW at h
 split at h
 ·obtain ⟨pl,⟨a1,a2,a3,a4,a5⟩,rfl,⟨hz,hn⟩,h⟩:=h;simp only [wL,Ux] at hz;refine pwv [] 0 false ?_;have ia:(Ze pl a3).length=a3.length:=by rw [Zb,Td]
  have ir:(ZQ pl a4).length=a4.length:=by rw [Zm,Td]
  have si:((0:Int)<((ZQ pl a4).length:Int))↔0<a4.length:=by rw [ir];omega
  refine ZFs (fun eg=>wN ?_) (fun eg=>wN ?_)
  ·have um:=eg;have eg:a1=1:=oM;refine ZFs (fun _=>wN ?_) (fun hx=>absurd um hx);exact mq166
  refine ZFs (fun ul=>wN ?_) (fun ul=>wN ?_)
  ·have eg:a1=2:=by omega
   exact mq166
  have j5:¬(a1=1\/a1=2):=oM;refine ZFs (fun ab8=>wN ?_) (fun ab8=>wN ?_)
  ·refine ZFs (fun ab9=>wN ?_) (fun ab9=>wN ?_)
   ·have zx:3<=a1/\a1<=8:=by omega
    refine ZFs (fun hr=>?_) (fun hr=>?_);rotate_left
    ·have kg:YY a1 a2 a3.length a4.length=false:=by simp [YY,j5,zx,hr]
     conv=>whnf
     exact mq61
    conv=>whnf
    refine ZFs (fun hA=>?_) (fun hA=>?_);rotate_left
    ·have hA:¬a3.length=2:=fun g=>hA (by show ((Ze pl a3).length:Int)=2;rw [ia,g];rfl)
     have kg:YY a1 a2 a3.length a4.length=false:=by simp [YY,j5,zx,hA]
     conv=>whnf
     exact mq61
    have hA:a3.length=2:=by have hA:((Ze pl a3).length:Int)=2:=hA;rw [ia] at hA;omega
    conv=>whnf
    refine ZFv (fun hB=>wN ?_) (fun hB=>wN ?_)
    ·have hB:¬0<a4.length:=fun g=>hB (si.2 g)
     have kg:YY a1 a2 a3.length a4.length=true:=by simp only [YY,j5,zx,hr,hA,decide_eq_false hB];simp
     exact mq8
    have hB:=si.1 hB;have kg:YY a1 a2 a3.length a4.length=false:=by simp [YY,j5,zx,hr,hA,hB]
    exact mq61
   exact mq3
  exact mq3
 exact h.elim
end Go.PM.Lex
end

section
namespace Go.PM.Lex
open Go.Proofs
variable {w0:World} {nG:Nat}
def ZAz {n:Nat}:OKw w0 nG [(72,YW Zjl Xk wBs n),(73,Xy 74 (fun _=>Zn) YQ wFi n),(127,Xy 128 (fun _=>Zt) Xq wCa n)] 69 (YW (YH Zr) Yn wTy n):=by
 refine pwo Tryz.func69 fun args σ K h=>?_
 unfold YW at h
 split at h
 ·obtain ⟨pl,⟨a1,a2,a3,a4,a5,a6⟩,rfl,⟨hz,hn⟩,h⟩:=h;simp only [wTy] at hz;refine pwv [] 0 false ?_;have ir:(a4.map Zn).length=a4.length:=Td ..;have uq:(a5.map Zt).length=a5.length:=Td ..;have mr:(((a4.map Zn).length:Int)=0)↔a4.length=0:=by rw [ir];omega
  have wc:(((a5.map Zt).length:Int)=0)↔a5.length=0:=by rw [uq];omega
  refine ZFs (fun hk=>?_) (fun hk=>wN ?_)
  ·(try dsimp only at hk)
   have hk:a1=1:=oM;(conv=>whnf);refine ⟨fun _=>0,a3,rfl,⟨by simp only [wBs];omega,oM⟩,fun b eo=>?_⟩
   cases b with
   | false =>
    conv=>whnf
    have l6:ZbW (⟨a1,a2,a3,a4,a5,a6⟩:Ty)=false:=by simp [ZbW,hk,eo]
    conv=>whnf
    exact mq129
   | true =>
   conv=>whnf
   refine ZFs (fun h4=>wN ?_) (fun h4=>wN ?_)
   ·have h4:=mr.1 h4;refine ZFs (fun h5=>wN ?_) (fun h5=>wN ?_)
    ·have h5:=wc.1 h5;have l6:ZbW (⟨a1,a2,a3,a4,a5,a6⟩:Ty)=true:=by simp [ZbW,hk,eo,h4,h5]
     exact mq24
    have h5:¬a5.length=0:=fun g=>h5 (wc.2 g)
    have l6:ZbW (⟨a1,a2,a3,a4,a5,a6⟩:Ty)=false:=by simp [ZbW,hk,eo,h4,h5]
    exact mq129
   have h4:¬a4.length=0:=fun g=>h4 (mr.2 g)
   have l6:ZbW (⟨a1,a2,a3,a4,a5,a6⟩:Ty)=false:=by simp [ZbW,hk,eo,h4]
   exact mq129
  refine ZFs (fun bl=>?_) (fun bl=>wN ?_)
  ·(try dsimp only at bl)
   have bl:a1=2:=oM;(conv=>whnf);refine ZFs (fun eo=>?_) (fun eo=>?_);rotate_left
   ·have l6:ZbW (⟨a1,a2,a3,a4,a5,a6⟩:Ty)=false:=by simp [ZbW,bl,eo]
    conv=>whnf
    exact mq129
   (try dsimp only at eo)
   conv=>whnf
   refine ZFs (fun h5=>wN ?_) (fun h5=>wN ?_)
   ·have h5:=wc.1 h5;have l6:ZbW (⟨a1,a2,a3,a4,a5,a6⟩:Ty)=true:=by simp [ZbW,bl,eo,h5]
    exact mq24
   have h5:¬a5.length=0:=fun g=>h5 (wc.2 g)
   have l6:ZbW (⟨a1,a2,a3,a4,a5,a6⟩:Ty)=false:=by simp [ZbW,bl,eo,h5]
   exact mq129
  refine ZFs (fun f8=>?_) (fun f8=>?_)
  ·(try dsimp only at f8)
   have f8:a1=3:=oM;(conv=>whnf);refine ZFs (fun eo=>?_) (fun eo=>?_);rotate_left
   ·have l6:ZbW (⟨a1,a2,a3,a4,a5,a6⟩:Ty)=false:=by simp [ZbW,f8,eo]
    conv=>whnf
    exact mq129
   (try dsimp only at eo)
   conv=>whnf
   refine ZFs (fun h4=>wN ?_) (fun h4=>wN ?_)
   ·have h4:=mr.1 h4;refine ZFv (fun h5=>wN ?_) (fun h5=>wN ?_)
    ·have h5:¬a5.length=0:=fun g=>h5 (wc.2 g)
     have l6:ZbW (⟨a1,a2,a3,a4,a5,a6⟩:Ty)=true:=by simp [ZbW,f8,eo,h4,h5]
     exact mq24
    have h5:=wc.1 h5;have l6:ZbW (⟨a1,a2,a3,a4,a5,a6⟩:Ty)=false:=by simp [ZbW,f8,eo,h4,h5]
    exact mq129
   have h4:¬a4.length=0:=fun g=>h4 (mr.2 g)
   have l6:ZbW (⟨a1,a2,a3,a4,a5,a6⟩:Ty)=false:=by simp [ZbW,f8,eo,h4]
   exact mq129
  (try dsimp only at hk bl f8)
  have hk:¬a1=1:=oM;have bl:¬a1=2:=oM;have f8:¬a1=3:=oM;have l6:ZbW (⟨a1,a2,a3,a4,a5,a6⟩:Ty)=false:=by simp [ZbW,hk,bl,f8]
  conv=>whnf
  exact mq129
 exact h.elim
def ZAB {n:Nat}:OKw w0 nG [(72,YW Zjl Xk wBs n),(79,Xy 72 (fun _=>Ym) Xk wBs n),(31,YW (YH XT) ZeO wUn n)] 78 (YW (YH XN) Yg wCo n):=by
 refine pwo Tryz.func78 fun args σ K h=>?_
 unfold YW at h
 split at h
 ·obtain ⟨pl,⟨a1,a2,a3,a4,⟨u1,u2,u3,u4,u5,u6⟩,a6⟩,rfl,⟨hz,hn⟩,h⟩:=h;simp only [wCo] at hz;refine pwv [] 0 false ?_;have ir:(a4.map Ym).length=a4.length:=Td ..;have mr:(((a4.map Ym).length:Int)=0)↔a4.length=0:=by rw [ir];omega
  refine ZFs (fun hb=>wN ?_) (fun hb=>wN ?_)
  ·refine ZFs (fun h4=>wN ?_) (fun h4=>wN ?_)
   ·have h4:=mr.1 h4;have ll:((decide (a3=[]) && decide (a4.length=0)) || Xk a3)=true:=by simp [hb,h4]
    exact mq14
   have h4:¬a4.length=0:=fun g=>h4 (mr.2 g)
   refine ⟨fun _=>0,a3,rfl,⟨by simp only [wBs];omega,oM⟩,fun b eo=>?_⟩
   cases b with
   | false =>
    have ll:((decide (a3=[]) && decide (a4.length=0)) || Xk a3)=false:=by simp [h4,eo]
    exact mq42
   | true =>
   have ll:((decide (a3=[]) && decide (a4.length=0)) || Xk a3)=true:=by simp [h4,eo]
   conv=>whnf
   exact mq14
  refine ⟨fun _=>0,a3,rfl,⟨by simp only [wBs];omega,oM⟩,fun b eo=>?_⟩
  cases b with
  | false =>
   have ll:((decide (a3=[]) && decide (a4.length=0)) || Xk a3)=false:=by simp [hb,eo]
   exact mq42
  | true =>
  have ll:((decide (a3=[]) && decide (a4.length=0)) || Xk a3)=true:=by simp [hb,eo]
  conv=>whnf
  exact mq14
 exact h.elim
def Zut {n:Nat}:OKw w0 nG [(68,Xy 69 Zr Yn wTy n),(70,Xy 71 ZH Wa wRe n),(75,Xy 76 ZC XO wRu n),(77,spB (Xy 78 XN Yg wCo) n),(80,Xy 81 X8 Wu wIn n),(82,Xy 83 X9 WX wOv n)] 31 (YW (YH XT) ZeO wUn n):=by
 refine pwo Tryz.func31 fun args σ K h=>?_
 unfold YW at h
 split at h
 ·obtain ⟨pl,⟨a1,a2,a3,a4,a5,a6⟩,rfl,⟨hz,hn⟩,h⟩:=h;simp only [wUn,VL] at hz;refine pwv [] 0 false ?_;refine ⟨pl,a1,rfl,⟨rfl,oM,oM⟩,fun b lj=>?_⟩
  cases b with
  | false =>
   conv=>whnf
   exact h _ (by simp [ZeO,Wv,lj])
  | true =>
  conv=>whnf
  refine ⟨pl,a2,rfl,⟨rfl,oM,oM⟩,fun b gz=>?_⟩
  cases b with
  | false =>
   conv=>whnf
   exact h _ (by simp [ZeO,Wv,lj,gz])
  | true =>
  conv=>whnf
  refine ⟨pl,a3,rfl,⟨rfl,oM,oM⟩,fun b et=>?_⟩
  cases b with
  | false =>
   conv=>whnf
   exact h _ (by simp [ZeO,Wv,lj,gz,et])
  | true =>
  conv=>whnf
  refine ⟨oM,pl,a4,Y2 _ _,⟨rfl,oM,oM⟩,fun b ha3=>?_⟩
  cases b with
  | false =>
   conv=>whnf
   exact h _ (by simp [ZeO,Wv,lj,gz,et,ha3])
  | true =>
  conv=>whnf
  refine ⟨pl,a5,rfl,⟨rfl,oM,oM⟩,fun b wd=>?_⟩
  cases b with
  | false =>
   conv=>whnf
   exact h _ (by simp [ZeO,Wv,lj,gz,et,ha3,wd])
  | true =>
  conv=>whnf
  refine ⟨pl,a6,rfl,⟨rfl,oM,oM⟩,fun b ha5=>wN ?_⟩;exact h _ (by simp [ZeO,Wv,lj,gz,et,ha3,wd,ha5])
 exact h.elim
structure LexC (w0:World) (nG:Nat):Prop where
 name:PC w0 nG 131 ZgV
 quote:PC w0 nG 194 JH
variable (hL:LexC w0 nG)
include hL
def Znz (n:Nat):PC w0 nG 72 (YW Zjl Xk wBs n):=ZAj ⟨hL.name,Zj4,trivial⟩
def cHE:∀n,PC w0 nG 137 (YW (YH ZE) Yf wE n)
 | 0=>ZAw ⟨ZsN,Znz hL _,hL.quote,ZA (Zf Tryz.func136 kR rfl),trivial⟩
 | n+1=>ZAw ⟨ZsN,Znz hL _,hL.quote,ZB (sp:=Xy 137 ZE Yf wE) (ZCd (cHE n)),trivial⟩
def cHL:∀n,PC w0 nG 139 (YW (YH YT) YI wL n)
 | 0=>ZAx ⟨Znz hL _,ZCd (cHE hL 0),ZA (Zf Tryz.func138 kR rfl),trivial⟩
 | n+1=>ZAx ⟨Znz hL _,ZCd (cHE hL _),ZB (sp:=Xy 139 YT YI wL) (ZEf (cHL n)),trivial⟩
def ZEg (n:Nat):PC w0 nG 76 (YW (YH ZC) XO wRu n):=ZAv ⟨Znz hL _,ZCd (cHE hL _),ZEf (cHL hL _),trivial⟩
def ZC8 (n:Nat):PC w0 nG 73 (Xy 74 (fun _=>Zn) YQ wFi n):=ZC2 (ZAl ⟨Znz hL _,trivial⟩)
def ZEh (n:Nat):PC w0 nG 69 (YW (YH Zr) Yn wTy n):=ZAz ⟨Znz hL _,ZC8 hL n,ZC3 (ZAn ⟨Znz hL _,ZC8 hL n,trivial⟩),trivial⟩
def ZEi (n:Nat):PC w0 nG 71 (YW (YH ZH) Wa wRe n):=ZAp ⟨Znz hL _,ZC8 hL n,trivial⟩
def ZEj (n:Nat):PC w0 nG 79 (Xy 72 (fun _=>Ym) Xk wBs n):=ZC5 (Znz hL n)
def ZEk (n:Nat):PC w0 nG 81 (YW (YH X8) Wu wIn n):=ZAr ⟨Znz hL _,ZEj hL n,trivial⟩
def ZEl (n:Nat):PC w0 nG 83 (YW (YH X9) WX wOv n):=ZAt ⟨Znz hL _,trivial⟩
def ZEm:∀n,PC w0 nG 31 (YW (YH XT) ZeO wUn n)
 | 0=>Zut ⟨ZAe (ZEh hL _),ZAf (ZEi hL _),ZAd (ZEg hL _),ZA (Zf Tryz.func77 kR rfl),ZAg (ZEk hL _),ZAh (ZEl hL _),trivial⟩
 | n+1=>Zut ⟨ZAe (ZEh hL _),ZAf (ZEi hL _),ZAd (ZEg hL _),ZB (sp:=Xy 78 XN Yg wCo) (ZC4 (ZAB ⟨Znz hL _,ZEj hL _,ZEm n,trivial⟩)),ZAg (ZEk hL _),ZAh (ZEl hL _),trivial⟩
end Go.PM.Lex
end

section
namespace Go.PM.Lex
open Go.Proofs Go.Shelf Go.RowKit
variable {w0:World} {nG:Nat}
def ZC9:liesAt Tryz.prog Tryz.prog.depth 97 (2 / Tryz.prog.cellsOf 97) 0 95 1=true:=kR
def Zki (b:Nat) (w:World) (h0:w.cell? ⟨b,0,none⟩=some (.pointer none)) (kc:w.shape? b=some (97,2)) (j6:w.frozen? ⟨b,0,none⟩=false) :
  Calls Tryz.prog 200 #[.pointer (some ⟨b,0,none⟩)] w fun e w'=>e=.returned (.tuple #[])/\w'=w.setCell ⟨b,0,none⟩ (.pointer (some ⟨b,0,none⟩)):=by
 obtain ⟨j,hj,sw⟩:=i53
 go_enter Tryz.func200,Tryz.ntmps200
 go_wp2
 rw [Go.Lib.run_to_unsafe w ⟨b,0,none⟩ u50 u95 hj (by rw [sw];decide) kc (Nat.zero_lt_succ 1)];simp only [Result.andThen];rw [Oper.upon_value]
 go_wp2
 rw [run_callFunc_extern Tryz.func234 kR kR kR (e:=Extern.AbiNoEscape.same) kR];rw [Go.Lib.run_noEscape];simp only [Result.andThen];rw [Oper.upon_value]
 go_wp2
 rw [Go.Lib.run_from_unsafe w ⟨b,0,none⟩ u95 u50 hj kc ZC9];simp only [Result.andThen];rw [Oper.upon_value]
 go_wp2
 go_end0
 exact ⟨rfl,rfl⟩
def Uy:Zo:=fun args σ K=>match args,σ with
 | [.ptr 0 0],⟨[.cells t [p,q]],tk,nx⟩=>((p=.d .nilp\/p=.ptr 0 0)/\t=97)/\K (.ret (.tuple [])) ⟨[.cells t [.ptr 0 0,q]],tk,nx⟩
 | _,_=>False
def ZgW:PC w0 nG 200 Uy:=VE (Zf Tryz.func200 kR rfl) fun args σ K h e w vs hS ha=>by
 unfold Uy at h
 split at h
 ·rename_i t p q tk nx
  obtain ⟨⟨hp,rfl⟩,hK⟩:=h;obtain ⟨u,rfl,hu⟩:=ZgC ha;obtain ⟨cv,cz,bm,ek⟩:=hS.box 0 _ rfl;have dh:cv.size=2:=bm;obtain ⟨x0,ge⟩:∃x,cv[0]?=some x:=⟨cv[0]'oM,by simp [dh]⟩
  have lq:=(ek 0 p x0 rfl ge).1
  cases hu with
  | ptr b off hb =>
  refine ⟨_,_,.tuple #[],hK,?_⟩;rcases hp with rfl | rfl
  ·cases lq with
   | d _ _ hd =>
   cases hd
   refine Calls.mono (Zki (e.β 0) w ?_ ?_ ?_) fun en w' ⟨h1,h2⟩=>?_
   ·simp [World.cell?,cz,ge]
   ·simp only [World.shape?,cz,dh]
   ·simp [World.frozen?,cz]
   have hst:=Zdi (G:=GG w0 nG) (T:=Vr) Zy hS (t:=92) (b:=0) (off:=0) (x:=.ptr 0 0) (v:=.pointer (some ⟨e.β 0,0,none⟩)) (l:=[.ptr 0 0]) (cs:=[.d .nilp,q]) (ty:=97) rfl (.ptr 0 0 hb) rfl rfl sM (by intro h;cases h);rw [h2];exact ⟨h1,.tuple [] #[] rfl (fun i x u hx=>by simp at hx),hst.2,hst.1.toLater⟩
  exact mq94
 exact h.elim
def ZnA {ty:TypeId} {P:Program} {ρ:Ren} (L:Lays.n169 P ρ) (X:Builder.Extra P ρ) (b g cap:Nat) (p:Value) (cur:Array Value) (fz:Nat×Nat) (l:Bs) (w:World) (h0:l≠[])
  (po:w.heap[b]?=some (.cells #[p,.slice (some ⟨g,0,none⟩) l.length cap] ty (0,0))) (hg:w.heap[g]?=some (.cells cur (ρ.t 5) fz)) (hn:l.length<=cur.size) (hcap:cap≠0) (cu:l.length<=9223372036854775807)
  (bc:∀j x,l[j]?=some x->w.cell? ⟨g,j,none⟩=some (.int .u8 x.toNat)) :
  Calls P (ρ.f 169) #[.pointer (some ⟨b,0,none⟩)] w fun e w'=>e=.returned (.string ⟨l.toArray⟩)/\w'=w.drew.freeze ⟨g,0,none⟩ l.length:=by
 have c1:w.drew.cell? ⟨b,1,none⟩=some (.slice (some ⟨g,0,none⟩) l.length cap):=by
  have:w.drew.heap[b]?=some (.cells #[p,.slice (some ⟨g,0,none⟩) l.length cap] ty (0,0)):=po;rw [Go.Lib.cell_of_heap this];rfl
 have hSD:(Builtin.unsafeSliceData_ #[(ρ.t 37)] (ρ.t 127) #[.slice (some ⟨g,0,none⟩) l.length cap]).run P w.drew=.ok (.pointer (some ⟨g,0,none⟩)) w.drew :=
  Go.Lib.run_unsafeSliceData_row _ _ _ _ _ _ hcap
 have hUS:(Builtin.unsafeString_ #[(ρ.t 127),(ρ.t 3)] (ρ.t 9) #[.pointer (some ⟨g,0,none⟩),.int .i64 l.length]).run P w.drew=.ok (.string ⟨l.toArray⟩) (w.drew.freeze ⟨g,0,none⟩ l.length):=by
  exact mq75
 have mixed:=L.mixed;have t72:=L.t72;have a72:=L.a72;have z72:=L.z72;have v72:=L.v72;have u72:=run_underlying L.t72;have t70:=L.t70;have a70:=L.a70;have z70:=L.z70;have v70:=L.v70;have u70:=run_underlying L.t70;have t37:=L.t37;have a37:=L.a37;have z37:=L.z37;have v37:=L.v37;have u37:=run_underlying L.t37;have t127:=L.t127;have a127:=L.a127;have z127:=L.z127;have v127:=L.v127;have u127:=run_underlying L.t127;have t3:=L.t3;have a3:=L.a3;have z3:=L.z3;have v3:=L.v3;have u3:=run_underlying L.t3;have t9:=L.t9;have a9:=L.a9;have z9:=L.z9;have v9:=L.v9;have u9:=run_underlying L.t9;have t5:=X.t5;have a5:=X.a5;have z5:=X.z5;have v5:=X.v5;have u5:=run_underlying X.t5
 go_enter L.f169,Body.n169_ntmps ρ
 go_wp2
 go_region_o
 all_goals (go_wp2;go_ret;exact ⟨rfl,rfl⟩)
def ZsO {ty:TypeId} {P:Program} {ρ:Ren} (L:Lays.n169 P ρ) (X:Builder.Extra P ρ) (B b:Nat) (p:Value) (w:World) (po:w.heap[b]?=some (.cells #[p,.slice none 0 0] ty (0,0))) :
  Calls P (ρ.f 169) #[.pointer (some ⟨b,0,none⟩)] w fun e w'=>e=.returned (.string ⟨#[]⟩)/\Below B w w':=by
 have hUS:=Any.unsafeString_none L X;have c1:w.drew.cell? ⟨b,1,none⟩=some (.slice none 0 0):=by
  have:w.drew.heap[b]?=some (.cells #[p,.slice none 0 0] ty (0,0)):=po;rw [Lib.cell_of_heap this];rfl
 have hSD:(Builtin.unsafeSliceData_ #[(ρ.t 37)] (ρ.t 127) #[.slice none 0 0]).run P w.drew=.ok (.pointer none) w.drew:=rfl;have mixed:=L.mixed;have t72:=L.t72;have a72:=L.a72;have z72:=L.z72;have v72:=L.v72;have u72:=run_underlying L.t72;have t70:=L.t70;have a70:=L.a70;have z70:=L.z70;have v70:=L.v70;have u70:=run_underlying L.t70;have t37:=L.t37;have a37:=L.a37;have z37:=L.z37;have v37:=L.v37;have u37:=run_underlying L.t37;have t127:=L.t127;have a127:=L.a127;have z127:=L.z127;have v127:=L.v127;have u127:=run_underlying L.t127;have t3:=L.t3;have a3:=L.a3;have z3:=L.z3;have v3:=L.v3;have u3:=run_underlying L.t3;have t9:=L.t9;have a9:=L.a9;have z9:=L.z9;have v9:=L.v9;have u9:=run_underlying L.t9;have t5:=X.t5;have a5:=X.a5;have z5:=X.z5;have v5:=X.v5;have u5:=run_underlying X.t5
 go_enter L.f169,Body.n169_ntmps ρ
 go_wp2
 go_region_o
 all_goals (go_wp2;go_ret;exact ⟨rfl,Below.drew (Below.refl B w)⟩)
def Zp5 {ty:TypeId} {P:Program} {ρ:Ren} (L:Lays.n169 P ρ) (X:Builder.Extra P ρ) (B b g cap:Nat) (p:Value) (w:World) (je:cap≠0) (po:w.heap[b]?=some (.cells #[p,.slice (some ⟨g,0,none⟩) 0 cap] ty (0,0))) :
  Calls P (ρ.f 169) #[.pointer (some ⟨b,0,none⟩)] w fun e w'=>e=.returned (.string ⟨#[]⟩)/\Below B w w':=by
 have hUS:=Any.unsafeString_none L X;have c1:w.drew.cell? ⟨b,1,none⟩=some (.slice (some ⟨g,0,none⟩) 0 cap):=by
  have:w.drew.heap[b]?=some (.cells #[p,.slice (some ⟨g,0,none⟩) 0 cap] ty (0,0)):=po;rw [Lib.cell_of_heap this];rfl
 have hSD:(Builtin.unsafeSliceData_ #[(ρ.t 37)] (ρ.t 127) #[.slice (some ⟨g,0,none⟩) 0 cap]).run P w.drew=.ok (.pointer (some ⟨g,0,none⟩)) w.drew:=Go.Lib.run_unsafeSliceData_row _ _ _ _ _ _ je
 clear je
 have mixed:=L.mixed;have t72:=L.t72;have a72:=L.a72;have z72:=L.z72;have v72:=L.v72;have u72:=run_underlying L.t72;have t70:=L.t70;have a70:=L.a70;have z70:=L.z70;have v70:=L.v70;have u70:=run_underlying L.t70;have t37:=L.t37;have a37:=L.a37;have z37:=L.z37;have v37:=L.v37;have u37:=run_underlying L.t37;have t127:=L.t127;have a127:=L.a127;have z127:=L.z127;have v127:=L.v127;have u127:=run_underlying L.t127;have t3:=L.t3;have a3:=L.a3;have z3:=L.z3;have v3:=L.v3;have u3:=run_underlying L.t3;have t9:=L.t9;have a9:=L.a9;have z9:=L.z9;have v9:=L.v9;have u9:=run_underlying L.t9;have t5:=X.t5;have a5:=X.a5;have z5:=X.z5;have v5:=X.v5;have u5:=run_underlying X.t5
 go_enter L.f169,Body.n169_ntmps ρ
 go_wp2
 go_region_o
 all_goals (go_wp2;go_ret;exact ⟨rfl,Below.drew (Below.refl B w)⟩)
end Go.PM.Lex
end

section
namespace Go.PM.Lex
open Go.Proofs
variable {w0:World} {nG:Nat}
def wk {rows:List (List D)} {p:PV} {t t1 e e1:Nat} {B:Bs->Prop} {F:Bs->Bs->Prop} (l txt:Bs) (b:B txt) (k:F l txt) (h1:rows=Zk l:=by rfl) (h2:p=.d .nilp\/p=.ptr 0 0:=by first | exact .inl rfl | exact .inr rfl) (h3:t=t1:=by rfl) (h4:e=e1:=by rfl) (h5:l.length+txt.length<70368744177664:=by (try simp only [Tb,Te,Tg]);omega):∃l txt,rows=Zk l/\((p=.d .nilp\/p=.ptr 0 0)/\t=t1/\e=e1)/\B txt/\l.length+txt.length<70368744177664/\F l txt:=⟨l,txt,h1,⟨h2,h3,h4⟩,b,h5,k⟩
def Zjm (r:PV) (body:List PV->Bs->Prop):Zo:=fun args σ K=>match args,σ with
 | .ptr 0 0::rest,⟨[.cells t [p,.sl 0 e rows]],[0],1⟩=>∃l txt,rows=Zk l/\((p=.d .nilp\/p=.ptr 0 0)/\t=97/\e=5)/\body rest txt/\l.length+txt.length<70368744177664 /\
   K (.ret r) ⟨[.cells t [.ptr 0 0,.sl 0 e (Zk (l++txt))]],[0],1⟩
 | _,_=>False
def Zak (r:PV) (body:List PV->Bs->Prop):Zz (Zjm r body):=fun args σ K K' hK h=>by
 unfold Zjm at h |-
 split at h
 ·obtain ⟨l,txt,h1,h2,h3,h4,h5⟩:=h;exact ⟨l,txt,h1,h2,h3,h4,hK _ _ h5⟩
 exact h.elim
def ZgX {α:Type} (val:Pl->α->PV) (may:α->Bool) (txt:α->Bs) (w:α->Nat) (n:Nat):Zo:=fun args σ K=>match args,σ with
 | [v,.ptr 0 0],⟨[.cells tp [.ptr 1 0],.cells t [.ptr 1 0,.sl 0 e rows]],[0],1⟩=>∃l pl x,rows=Zk l/\v=val pl x/\(t=97/\e=5)/\(may x=true/\w x<=n/\n<=1073741824)/\l.length+(txt x).length<70368744177664 /\
   K (.ret (.tuple [])) ⟨[.cells tp [.ptr 1 0],.cells t [.ptr 1 0,.sl 0 e (Zk (l++txt x))]],[0],1⟩
 | _,_=>False
def Zp6 {α:Type} (g0:FuncId) (enc:Pl->α->List D) (may:α->Bool) (txt:α->Bs) (w:α->Nat) (n:Nat):Zo:=fun args σ K=>match args,σ with
 | [.ptr 0 0,.d (.sl r),.d (.str bt),.func g [] [.ptr 1 0]],⟨[.cells t [.ptr 0 0,.sl 0 e rows],.cells tp [.ptr 0 0]],[0],1⟩=>∃l pl xs,rows=Zk l/\r=xs.map (enc pl)/\(t=97/\e=5/\g=g0)/\(xs.all may=true/\szS w xs<=n/\n<=1073741824)/\l.length+(Zg bt (xs.map txt)).length<70368744177664 /\
   K (.ret (.tuple [])) ⟨[.cells t [.ptr 0 0,.sl 0 e (Zk (l++Zg bt (xs.map txt)))],.cells tp [.ptr 0 0]],[0],1⟩
 | _,_=>False
def ZEn (s:Bs):Zo:=Zjm (.tuple [.d (.int .i64 s.length),.d .nili]) fun rest txt=>rest=[.d (.str s)]/\txt=s
def ZgY:Zo:=fun args σ K=>match args with
 | [.ptr 0 0,.d (.str s)]=>ZEn s args σ K
 | _=>False
def ZnB:Zz ZgY:=fun args σ K K' hK h=>by
 unfold ZgY at h |-
 split at h
 ·exact Zak _ _ _ _ _ _ hK h
 exact h.elim
def ZAD:Tbl:=[(200,Uy)]
def Zp7:PC w0 nG 147 ZgY:=by
 refine pwt (tbl:=ZAD) ⟨ZgW,trivial⟩ Tryz.func147 fun args σ K h=>?_
 unfold ZgY at h
 split at h
 ·rename_i s
  unfold ZEn Zjm at h
  split at h
  ·rename_i rest t p e rows ac
   obtain ⟨l,txt,rfl,⟨hp,rfl,rfl⟩,⟨am,rfl⟩,hlen,h⟩:=h;simp only [List.cons.injEq,true_and] at ac;have hb:∀x:Bs,(Zk x).length=x.length:=fun x=>by simp [Zk]
   rw [Vd] at h;refine pwu [] 1 true ?_;rcases hp with rfl | rfl
   all_goals
    conv=>whnf
    first | refine ⟨⟨.inl rfl,rfl⟩,?_⟩ | refine ⟨⟨.inr rfl,rfl⟩,?_⟩
    conv=>whnf
    refine ⟨fun r hr=>?_,?_,?_,?_⟩
    ·obtain ⟨b,_,rfl⟩:=Sw.1 hr;rfl
    ·show ((Zk l).length+(Zk txt).length) * 1<=2 ^ 47;rw [hb,hb];omega
    ·show (Zk l).length+(Zk txt).length<=2 ^ 47;rw [hb,hb];omega
    exact mq51
  exact h.elim
 exact h.elim
def ZeP:Zo:=Zjm (.tuple []) fun rest txt=>∃ps:List Bs,rest=[.d (.sl (ps.map Ym))]/\ps≠[]/\ps.length<=1073741824/\txt=ps.flatten
def ZnC:Zz ZeP:=Zak _ _
def Zp8:Tbl:=[(147,ZgY)]
def Ziy:TO w0 nG Zp8:=⟨Zp7,trivial⟩
def Zal:PC w0 nG 84 ZeP:=by
 refine pwt (tbl:=Zp8) Ziy Tryz.func84 fun args σ K h=>?_
 unfold ZeP Zjm at h
 split at h
 ·rename_i rest t p e rows
  obtain ⟨l,txt,rfl,⟨hp,rfl,rfl⟩,⟨ps,rfl,ah,ey,rfl⟩,hlen,h⟩:=h;have dt:(ps.map Ym).length=ps.length:=Td ..;refine pwu [(1,⟨[8],[0,6,7],fun vs σ=>∃(i:Nat) (P:PV),vs=[.d (.int .i64 i)]/\σ=⟨[.cells 97 [P,.sl 0 5 (Zk (l++(ps.take i).flatten))]],[0],1⟩/\(P=.d .nilp\/P=.ptr 0 0)/\(0<i->P=.ptr 0 0)/\i<=ps.length,mu1 ps.length⟩)] 1 true ?_;rcases hp with rfl | rfl
  all_goals
   conv=>whnf
   refine ⟨⟨0,_,rfl,(by simp only [Sg,List.flatten_nil,T1];rfl),iM,fun g=>absurd g oM,oM⟩,?_⟩;intro vs σ hI
   obtain ⟨i,P,rfl,rfl,hP,hP0,hi⟩:=hI;(conv=>whnf);refine ZFs (fun ab=>?_) (fun ab=>?_)
   ·have ab:i<ps.length:=lzI dt ab;obtain ⟨s,hs⟩:∃s,ps[i]=s:=⟨_,rfl⟩
    have bi:(ps.map Ym)[((i:Nat):Int).toNat]?=some (Ym s):=by simp [ab,hs]
    have cn:(ps.take (i+1)).flatten=(ps.take i).flatten++s:=by rw [List.take_succ_eq_append_getElem ab,List.flatten_append,hs];simp
    have aj:(ps.take (i+1)).flatten.length<=ps.flatten.length:=by
     have e:ps.flatten=(ps.take (i+1)).flatten++(ps.drop (i+1)).flatten:=by rw [<- List.flatten_append,List.take_append_drop]
     rw [e,Tb];omega
    rw [cn,Tb] at aj;rcases hP with rfl | rfl
    all_goals
     conv=>whnf
     refine ⟨_,oM,bi,wN ?_⟩;refine ⟨l++(ps.take i).flatten,s,rfl,⟨iM,rfl,rfl⟩,⟨rfl,rfl⟩,by rw [Tb];omega,?_⟩;(conv=>whnf);refine Zi ?_;refine ⟨⟨i+1,_,rfl,(by rw [cn,To];rfl),.inr rfl,fun _=>rfl,oM⟩,?_⟩;exact lzM oM
   have ab:i=ps.length:=lzE dt oM ab;subst ab;obtain rfl:=hP0 (List.length_pos_iff.2 ah);rw [Sf];exact mq51
 exact h.elim
def ZdJ (bt:Bs):∀(l:List Bs) (x:Bs),Zg bt (l++[x])=if l=[] then x else Zg bt l++(bt++x)
 | [],x=>rfl
 | [y],x=>by simp [Zg]
 | y::z::l,x=>by
  have ih:=ZdJ bt (z::l) x;simp only [T7] at ih |-;rw [Zg,ih] <;> simp [Zg]
def VM {α:Type} (bt:Bs) (f:α->Bs) {xs:List α} {i:Nat} (h:i<xs.length):Zg bt ((xs.take (i+1)).map f)=if i=0 then f xs[i] else Zg bt ((xs.take i).map f)++(bt++f xs[i]):=by
 rw [List.take_succ_eq_append_getElem h,So,TE,TN,ZdJ];have e:((xs.take i).map f=[])↔i=0:=by
  rw [<- List.length_eq_zero_iff,Td,List.length_take];omega
 by_cases h0:i=0
 ·rw [Tk (e.2 h0),Tk h0]
 rw [Tf (fun g=>h0 (e.1 g)),Tf h0]
def Zam (bt:Bs):∀(l m:List Bs),(Zg bt l).length<=(Zg bt (l++m)).length
 | [],m=>T6 _
 | [x],[]=>Tt _
 | [x],y::m=>by simp only [T7,Si,Zg,Tb];omega
 | x::y::l,m=>by
  have ih:=Zam bt (y::l) m;simp only [T7,Zg,Tb] at ih |-;omega
def Zan {α:Type} (bt:Bs) (f:α->Bs) (xs:List α) (i:Nat):(Zg bt ((xs.take i).map f)).length<=(Zg bt (xs.map f)).length:=by
 have h:=Zam bt ((xs.take i).map f) ((xs.drop i).map f)
 rwa [<- So,List.take_append_drop] at h
def Zxn {n:Nat}:OKw w0 nG [(147,ZgY),(149,ZgX (YH (fun _=>Zn)) YQ fiT wFi n)] 148 (Zp6 149 (fun _=>Zn) YQ fiT wFi n):=by
 refine pwo Tryz.func148 fun args σ K h=>?_
 unfold Zp6 at h
 split at h
 ·rename_i r bt g t e rows tp
  obtain ⟨l,pl,xs,rfl,rfl,⟨rfl,rfl,rfl⟩,⟨bw,hz,hn⟩,hlen,h⟩:=h;have dt:(xs.map ((fun _=>Zn) pl)).length=xs.length:=Td ..;have hsz:=Zp wFi xs;refine pwv [(1,⟨[12],[0,1,2,3,10,11],fun vs σ=>∃i:Nat,vs=[.d (.int .i64 i)]/\σ=⟨[.cells 97 [.ptr 0 0,.sl 0 5 (Zk (l++Zg bt ((xs.take i).map fiT)))],.cells tp [.ptr 0 0]],[0],1⟩/\i<=xs.length,mu1 xs.length⟩)] 2 true ?_;refine ⟨⟨0,rfl,(by simp only [Sg,TN,Zg,T1];rfl),oM⟩,?_⟩;intro vs σ hI
  obtain ⟨i,rfl,rfl,hi⟩:=hI;(conv=>whnf);refine ZFs (fun ab=>wN ?_) (fun ab=>?_)
  ·have ab:i<xs.length:=lzI dt ab;have hg:=Zs wFi xs i ab;have eu:YQ xs[i]=true:=Tq.1 bw _ (TC ab);have cn:=VM bt fiT ab;have aj:=Zan bt fiT xs (i+1);obtain ⟨eA,hA⟩:∃x,xs[i]=x:=⟨_,rfl⟩
   obtain ⟨a1,a2⟩:=eA;rw [hA] at hg eu cn;have bi:(xs.map ((fun _=>Zn) pl))[((i:Nat):Int).toNat]?=some ((fun _=>Zn) pl ⟨a1,a2⟩):=by simp [ab,hA]
   refine ⟨_,oM,bi,wN ?_⟩;refine ZFs (fun h0=>wN ?_) (fun h0=>?_)
   ·have h0:0<i:=by omega
    rw [Tf oM] at cn;rw [cn] at aj;simp only [Tb] at aj;refine wk _ bt ⟨rfl,rfl⟩ (wN ?_);refine ⟨l++Zg bt ((xs.take i).map fiT)++bt,pl,⟨a1,a2⟩,rfl,rfl,⟨rfl,rfl⟩,⟨eu,oM,oM⟩,by simp only [Tb];omega,wN ?_⟩;exact mq78
   obtain rfl:i=0:=by omega
   rw [Tk rfl] at cn;rw [cn] at aj;(conv=>whnf);refine ⟨l++Zg bt ((xs.take 0).map fiT),pl,⟨a1,a2⟩,rfl,rfl,⟨rfl,rfl⟩,⟨eu,oM,oM⟩,by simp only [Sg,TN,Zg,Tb,Tg];omega,wN ?_⟩;exact mq73
  exact mq185
 exact h.elim
def Zxp {n:Nat}:OKw w0 nG [(147,ZgY),(87,ZgX (YH (fun _=>Zt)) Xq caT wCa n)] 86 (Zp6 87 (fun _=>Zt) Xq caT wCa n):=by
 refine pwo Tryz.func86 fun args σ K h=>?_
 unfold Zp6 at h
 split at h
 ·rename_i r bt g t e rows tp
  obtain ⟨l,pl,xs,rfl,rfl,⟨rfl,rfl,rfl⟩,⟨bw,hz,hn⟩,hlen,h⟩:=h;have dt:(xs.map ((fun _=>Zt) pl)).length=xs.length:=Td ..;have hsz:=Zp wCa xs;refine pwv [(1,⟨[12],[0,1,2,3,10,11],fun vs σ=>∃i:Nat,vs=[.d (.int .i64 i)]/\σ=⟨[.cells 97 [.ptr 0 0,.sl 0 5 (Zk (l++Zg bt ((xs.take i).map caT)))],.cells tp [.ptr 0 0]],[0],1⟩/\i<=xs.length,mu1 xs.length⟩)] 2 true ?_;refine ⟨⟨0,rfl,(by simp only [Sg,TN,Zg,T1];rfl),oM⟩,?_⟩;intro vs σ hI
  obtain ⟨i,rfl,rfl,hi⟩:=hI;(conv=>whnf);refine ZFs (fun ab=>wN ?_) (fun ab=>?_)
  ·have ab:i<xs.length:=lzI dt ab;have hg:=Zs wCa xs i ab;have eu:Xq xs[i]=true:=Tq.1 bw _ (TC ab);have cn:=VM bt caT ab;have aj:=Zan bt caT xs (i+1);obtain ⟨eA,hA⟩:∃x,xs[i]=x:=⟨_,rfl⟩
   obtain ⟨a1,a2⟩:=eA;rw [hA] at hg eu cn;have bi:(xs.map ((fun _=>Zt) pl))[((i:Nat):Int).toNat]?=some ((fun _=>Zt) pl ⟨a1,a2⟩):=by simp [ab,hA]
   refine ⟨_,oM,bi,wN ?_⟩;refine ZFs (fun h0=>wN ?_) (fun h0=>?_)
   ·have h0:0<i:=by omega
    rw [Tf oM] at cn;rw [cn] at aj;simp only [Tb] at aj;refine wk _ bt ⟨rfl,rfl⟩ (wN ?_);refine ⟨l++Zg bt ((xs.take i).map caT)++bt,pl,⟨a1,a2⟩,rfl,rfl,⟨rfl,rfl⟩,⟨eu,oM,oM⟩,by simp only [Tb];omega,wN ?_⟩;exact mq78
   obtain rfl:i=0:=by omega
   rw [Tk rfl] at cn;rw [cn] at aj;(conv=>whnf);refine ⟨l++Zg bt ((xs.take 0).map caT),pl,⟨a1,a2⟩,rfl,rfl,⟨rfl,rfl⟩,⟨eu,oM,oM⟩,by simp only [Sg,TN,Zg,Tb,Tg];omega,wN ?_⟩;exact mq73
  exact mq185
 exact h.elim
def ZDa:Tab:=(.node (.node (.node (.node .leaf 3 ⟨1,8,.int .i64,[.d (.int .i64 (0))],true⟩ .leaf) 4 ⟨1,1,.bool,[.d (.bool false)],false⟩ .leaf) 5 ⟨1,1,.int .u8,[.d (.int .u8 (0))],true⟩ (.node .leaf 9 ⟨1,16,.string,[.d (.str [])],false⟩ .leaf)) 93 ⟨1,24,.slice 5,[.nils 5],false⟩ (.node (.node .leaf 289 ⟨1,8,.int .u64,[.d (.int .u64 (0))],true⟩ .leaf) 302 ⟨1,8,.int .u64,[.d (.int .u64 (0))],true⟩ (.node .leaf 342 ⟨65,65,.array 65 5,[.d (.int .u8 (0)),.d (.int .u8 (0)),.d (.int .u8 (0)),.d (.int .u8 (0)),.d (.int .u8 (0)),.d (.int .u8 (0)),.d (.int .u8 (0)),.d (.int .u8 (0)),.d (.int .u8 (0)),.d (.int .u8 (0)),.d (.int .u8 (0)),.d (.int .u8 (0)),.d (.int .u8 (0)),.d (.int .u8 (0)),.d (.int .u8 (0)),.d (.int .u8 (0)),.d (.int .u8 (0)),.d (.int .u8 (0)),.d (.int .u8 (0)),.d (.int .u8 (0)),.d (.int .u8 (0)),.d (.int .u8 (0)),.d (.int .u8 (0)),.d (.int .u8 (0)),.d (.int .u8 (0)),.d (.int .u8 (0)),.d (.int .u8 (0)),.d (.int .u8 (0)),.d (.int .u8 (0)),.d (.int .u8 (0)),.d (.int .u8 (0)),.d (.int .u8 (0)),.d (.int .u8 (0)),.d (.int .u8 (0)),.d (.int .u8 (0)),.d (.int .u8 (0)),.d (.int .u8 (0)),.d (.int .u8 (0)),.d (.int .u8 (0)),.d (.int .u8 (0)),.d (.int .u8 (0)),.d (.int .u8 (0)),.d (.int .u8 (0)),.d (.int .u8 (0)),.d (.int .u8 (0)),.d (.int .u8 (0)),.d (.int .u8 (0)),.d (.int .u8 (0)),.d (.int .u8 (0)),.d (.int .u8 (0)),.d (.int .u8 (0)),.d (.int .u8 (0)),.d (.int .u8 (0)),.d (.int .u8 (0)),.d (.int .u8 (0)),.d (.int .u8 (0)),.d (.int .u8 (0)),.d (.int .u8 (0)),.d (.int .u8 (0)),.d (.int .u8 (0)),.d (.int .u8 (0)),.d (.int .u8 (0)),.d (.int .u8 (0)),.d (.int .u8 (0)),.d (.int .u8 (0))],false⟩ .leaf)))
def ZsP:TabOK ZDa Tryz.prog:=by unfold TabOK;kernel_rfl
end Go.PM.Lex
end

section
namespace Go.PM.Lex
open Go.Proofs Go.Shelf Go.RowKit
variable {w0:World} {nG:Nat}
structure NumOK (w0:World) (nG:Nat):Prop where
 big:7<nG
 pow : Lib.TabIs Tryz.prog w0 "internal/strconv.uint64pow10" .u64 Lib.pow10Tab
 bru:w0.cell? ⟨5,15,none⟩=some (.int .u8 4)
def ZAE:IntKind.u64.wrap (bits BinOp.and IntKind.u64 (16:Int) (IntKind.u64.wrap (-(16:Int))) * 285870213051353865) / 288230376151711744=(15:Int):=by decide +kernel
def Zxq (w:World) (bc:w.cell? ⟨5,15,none⟩=some (.int .u8 4)):Calls Tryz.prog 310 #[.int .u64 16] w fun e w'=>e=.returned (.int .i64 4)/\w'=w:=by
 go_enter Tryz.func310,Tryz.ntmps310
 go_wp2_with (simp only [ZAE])
 go_ret
 exact ⟨rfl,rfl⟩
def ZbX:∀(f n:Nat),n<f->Lib.decDigits n=JI 10 f n
 | 0,n,h=>oM
 | f+1,n,h=>by
  rw [Lib.decDigits,JI]
  by_cases c:n<10
  ·rw [dif_pos c,Tk c,Zjk,Tk c]
  rw [dif_neg c,Tf c,ZbX f (n / 10) oM,Zjk,Tk oM]
def Zp9 {n:Int} (h:0<=n):Lib.itoa n=ZfD n:=by
 rw [Lib.itoa,Tf oM,ZfD,Tf oM,Vh];exact ZbX _ _ oM
def ZsQ {e:Env} {σ:St} {w:World} {name:String} {k:IntKind} {zs:List Int} {g:Nat} (hS:SRel (GG w0 nG) e σ w) (h:Lib.TabIs Tryz.prog w0 name k zs) (hg:Tryz.prog.globalNamed name=some g) (aa:g<nG):Lib.TabIs Tryz.prog w name k zs:=by
 unfold Lib.TabIs World.var? at h |-
 rw [hg] at h |-;simp only [Option.bind_some] at h |-;rw [hS.glob g aa];exact h
def Zxr {e:Env} {σ:St} {w:World} {k i:Nat} {u:Value} (hS:SRel (GG w0 nG) e σ w) (hk:k<nG) (h:w0.cell? ⟨k,i,none⟩=some u):w.cell? ⟨k,i,none⟩=some u:=by
 have:=hS.glob k hk;simpa [World.cell?,this] using h
def Ziz:Zo:=fun args σ K=>match args,σ with
 | [.d (.int .i64 n),.d (.int .i64 b)],⟨[],[],0⟩=>(b=10/\0<=n/\n<9223372036854775808)/\K (.ret (.d (.str (ZfD n)))) ⟨[],[],0⟩
 | _,_=>False
def Zkj:Zz Ziz:=fun args σ K K' hK h=>by
 unfold Ziz at h |-;split at h <;> first | exact ⟨h.1,hK _ _ h.2⟩ | exact h.elim
def Zqa (hN:NumOK w0 nG):PC w0 nG 237 Ziz:=YM (Zf Tryz.func237 kR rfl) fun args σ K h e w vs hS ha=>by
 unfold Ziz at h
 split at h
 ·rename_i n b
  obtain ⟨⟨rfl,h0,h1⟩,h⟩:=h;obtain ⟨u,v,rfl,hu,hv⟩:=ZjV ha
  cases hu.dint;cases hv.dint
  have ht:=ZsQ hS hN.pow (g:=3) kR (by have:=hN.big;omega);have hc:=Tryz.strconv_FormatInt_10 n oM oM w ht;rw [Zp9 h0] at hc;exact ⟨_,h,_,fun _ _=>.mkstr,hc.mono fun en w' ⟨h1,k,os,h2⟩=>⟨h1,ZFy (by rw [h2];exact Lib.below_grow w.heap.size w (Tt _) k os)⟩⟩
 exact h.elim
def Zy9:Zo:=fun args σ K=>match args,σ with
 | [.d (.int .u64 n)],⟨[],[],0⟩=>n=16/\K (.ret (.d (.int .i64 4))) ⟨[],[],0⟩
 | _,_=>False
def Zxs (hN:NumOK w0 nG):PC w0 nG 310 Zy9:=YM (Zf Tryz.func310 kR rfl) fun args σ K h e w vs hS ha=>by
 unfold Zy9 at h
 split at h
 ·rename_i n
  obtain ⟨rfl,h⟩:=h;obtain ⟨u,rfl,hu⟩:=ZgC ha
  cases hu.dint
  exact ⟨_,h,_,fun _ _=>.d _ _ (.int _ _),(Zxq w (Zxr hS (k:=5) (by have:=hN.big;omega) hN.bru)).mono fun en w' ⟨h1,h2⟩=>⟨h1,by rw [h2];exact Grows.refl _⟩⟩
 exact h.elim
def ZDb:Tbl:=[(310,Zy9)]
def ZDc (hN:NumOK w0 nG):PC w0 nG 300 Zy9:=by
 refine pwt (tbl:=ZDb) ⟨Zxs hN,trivial⟩ Tryz.func300 fun args σ K h=>?_
 unfold Zy9 at h
 split at h
 ·obtain ⟨rfl,h⟩:=h;refine pwv [] 0 false ?_;refine ⟨rfl,wN ?_⟩;exact h
 exact h.elim
def Zxt:Zo:=fun args σ K=>match args,σ with
 | [.d (.int .i64 n)],⟨[],[],0⟩=>n=16/\K (.ret (.d (.bool true))) ⟨[],[],0⟩
 | _,_=>False
def Zxu:Zh .and .i64 16 15=0:=by rw [Yj];decide +kernel
def ZAF:PC w0 nG 299 Zxt:=by
 refine pwe Tryz.func299 fun args σ K h=>?_
 unfold Zxt at h
 split at h
 ·obtain ⟨rfl,h⟩:=h;refine pwv [] 0 false ?_;refine Zi ?_;have e:(Zh .and .i64 16 (16 - 1))=0:=Zxu;rw [e];exact h
 exact h.elim
def ZsR {n:Nat} (h:16<=n):Vh 16 n=Vh 16 (n / 16)++[Zjk (n % 16)]:=by
 have key:∀(f g m:Nat),m<f->m<g->JI 16 f m=JI 16 g m:=by
  intro f
  induction f with
  | zero=>intro g m h;omega
  | succ f ih =>
  intro g m h1 h2
  obtain ⟨g,rfl⟩:∃k,g=k+1:=⟨g - 1,oM⟩
  rw [JI,JI];split
  ·rfl
  rw [ih g (m / 16) oM oM]
 rw [Vh,JI,Tf oM,Vh,key n (n / 16+1) (n / 16) oM oM]
def ZsS {n:Nat} (h:n<16):Vh 16 n=[Zjk n]:=by rw [Vh,JI,Tk h]
def digs36:Bs:=[48,49,50,51,52,53,54,55,56,57,97,98,99,100,101,102,103,104,105,106,107,108,109,110,111,112,113,114,115,116,117,118,119,120,121,122]
def Zqb:∀d:Fin 16,digs36.getD d.val 0=Zjk d.val:=by decide +kernel
def Zxv {u:Nat} (h:u<18446744073709551616):Zh .and .u64 (u:Int) 15=((u % 16:Nat):Int):=by
 have e:Zh .and .u64 (u:Int) 15=bits .and .u64 (u:Int) ((15:Nat):Int):=by rw [Yj];rfl
 rw [e,bits_and_u64_nat u 15 h dM];have:u &&& 15=u % 16:=Nat.and_two_pow_sub_one_eq_mod u 4;rw [this]
def sh4 (n:Int):Int:=n.fdiv (2 ^ (min (Int.toNat 4) (IntKind.bits .u64)))
def Zxw (u:Nat):sh4 (u:Int)=((u / 16:Nat):Int):=by
 show (u:Int).fdiv ((2:Int) ^ 4)=_;rw [show ((2:Int) ^ 4)=((16:Nat):Int) by decide,Int.fdiv_eq_ediv_of_nonneg _ dM];omega
def ZsT {u:Nat} (h:u<18446744073709551616):digs36.getD (Zh .and .u64 (u:Int) 15).toNat 0=Zjk (u % 16):=by
 rw [Zxv h,Tj];exact Zqb ⟨u % 16,Nat.mod_lt _ dM⟩
def ZsU {u:Nat} (h:u<16):digs36.getD (u:Int).toNat 0=Zjk u:=by
 rw [Tj];exact Zqb ⟨u,h⟩
def ZsV {u:Nat} (h:u<18446744073709551616):0<=Zh .and .u64 (u:Int) 15:=by rw [Zxv h];omega
def ZsW {u:Nat} (h:u<18446744073709551616):Zh .and .u64 (u:Int) 15<36:=by rw [Zxv h];omega
def shN:Nat->Int->Int
 | 0,n=>n
 | j+1,n=>sh4 (shN j n)
def ZAG:Nat->Int->Bs
 | 0,_=>[]
 | j+1,n=>digs36.getD (Zh .and .u64 (shN j n) 15).toNat 0::ZAG j n
def Zbe (u:Nat):∀j,shN j (u:Int)=((u / 16 ^ j:Nat):Int)
 | 0=>by rw [shN,Nat.pow_zero,Nat.div_one]
 | j+1=>by rw [shN,Zbe u j,Zxw,Nat.div_div_eq_div_mul,Nat.pow_succ]
def Zqc {u:Nat} (hu:u<18446744073709551616) (j:Nat):u / 16 ^ j<18446744073709551616:=Nat.lt_of_le_of_lt (Nat.div_le_self _ _) hu
def ZEo {u:Nat} (hu:u<18446744073709551616):∀j,(∀k,k<j->16<=u / 16 ^ k)->Vh 16 u=Vh 16 (u / 16 ^ j)++ZAG j (u:Int)
 | 0,_=>by rw [ZAG,Nat.pow_zero,Nat.div_one,T1]
 | j+1,h=>by
  rw [ZEo hu j fun k hk=>h k oM,ZsR (h j oM),ZAG,Zbe,ZsT (Zqc hu j),To,Nat.div_div_eq_div_mul,Nat.pow_succ];rfl
def ZEp {u j:Nat} (G:∀k,k<j->16<=u / 16 ^ k) (g:(16:Int)<=shN j (u:Int)):∀k,k<j+1->16<=u / 16 ^ k:=fun k hk=>by
 rw [Zbe] at g
 by_cases c:k=j
 ·subst c;omega
 exact G k oM
def ZEq {u j:Nat} (hu:u<18446744073709551616) (G:∀k,k<j->16<=u / 16 ^ k) (g:¬(16:Int)<=shN j (u:Int)):Vh 16 u=digs36.getD (shN j (u:Int)).toNat 0::ZAG j (u:Int):=by
 rw [Zbe] at g |-;rw [ZEo hu j G,ZsS oM,ZsU oM];rfl
def ZE4 {u j:Nat} (hu:u<18446744073709551616) (G:∀k,k<j->16<=u / 16 ^ k):0<=Zh .and .u64 (shN j (u:Int)) 15/\Zh .and .u64 (shN j (u:Int)) 15<36:=by
 rw [Zbe];exact ⟨ZsV (Zqc hu j),ZsW (Zqc hu j)⟩
def ZEr {u j:Nat} (G:∀k,k<j->16<=u / 16 ^ k) (g:¬(16:Int)<=shN j (u:Int)):0<=shN j (u:Int)/\shN j (u:Int)<36:=by
 rw [Zbe] at g |-;generalize u / 16 ^ j=v at g |-;omega
def ZDd:Zo:=fun args σ K=>match args,σ with
 | [.sl 0 e [],.d (.int .u64 n),.d (.int .i64 b),.d (.bool ng),.d (.bool ap)],⟨[],[0],1⟩=>(b=16/\ng=false/\ap=false/\0<=n/\n<18446744073709551616)/\K (.ret (.tuple [.d (.sl []),.d (.str (Vh 16 n.toNat))])) ⟨[],[],0⟩
 | _,_=>False
def ZDe:Tbl:=[(299,Zxt),(300,Zy9)]
def ZDf (hN:NumOK w0 nG):PC w0 nG 285 ZDd:=by
 refine ZjT ZsP mixed (tbl:=ZDe) ⟨ZAF,ZDc hN,trivial⟩ Tryz.func285 rfl kR kR ?_;intro args σ K h
 unfold ZDd at h
 split at h
 all_goals first | exact h.elim | skip
 all_goals
  obtain ⟨⟨rfl,rfl,rfl,h0,h1⟩,h⟩:=h
  rename_i e n
  obtain ⟨u0,rfl⟩:∃u:Nat,n=u:=⟨n.toNat,oM⟩
  rw [Tj] at h;have ww:u0<18446744073709551616:=oM;refine ⟨Zj [],Xo [(11,17)],Ye [],Ye [101],Ye [],0,false,sM,Tc rfl,wN ?_⟩;refine ⟨rfl,wN ?_⟩;refine Zde ?_;refine ⟨rfl,wN ?_⟩;refine Zde ?_;refine Zde ?_;refine Zde ?_;refine Zde ?_;have G:∀k,k<0->16<=u0 / 16 ^ k:=fun k hk=>oM
  iterate 15
   refine ZFs (fun g=>?_) (fun g=>?_);rotate_left
   ·have hb:=ZEq ww G g;have B:=ZEr G g;rw [hb] at h;(conv=>whnf);exact mq188
   have B:=ZE4 ww G;have G:=ZEp G g;(conv=>whnf);refine X6 ?_;refine ⟨B.1,B.2,wN ?_⟩;refine ⟨dM,dM,wN ?_⟩;refine ⟨dM,wN ?_⟩
  refine ZFs (fun g=>?_) (fun g=>wN ?_)
  ·exact absurd (ZEp G g 15 dM) oM
  have hb:=ZEq ww G g;have B:=ZEr G g;rw [hb] at h;exact mq188
def ZbY:Zo:=fun args σ K=>match args,σ with
 | [.d (.int .u64 n),.d (.int .i64 b)],⟨[],[],0⟩=>(b=16/\0<=n/\n<18446744073709551616)/\K (.ret (.d (.str (Vh 16 n.toNat)))) ⟨[],[],0⟩
 | _,_=>False
def Zkk:Zz ZbY:=fun args σ K K' hK h=>by
 unfold ZbY at h |-;split at h <;> first | exact ⟨h.1,hK _ _ h.2⟩ | exact h.elim
def ZDg:Tbl:=[(285,ZDd)]
def ZDh (hN:NumOK w0 nG):PC w0 nG 267 ZbY:=by
 refine pwt (tbl:=ZDg) ⟨ZDf hN,trivial⟩ Tryz.func267 fun args σ K h=>?_
 unfold ZbY at h
 split at h
 ·obtain ⟨⟨rfl,h0,h1⟩,h⟩:=h;refine pwv [] 0 false ?_;refine ⟨⟨rfl,rfl,rfl,h0,h1⟩,wN ?_⟩;exact h
 exact h.elim
def Zxx:Tbl:=[(267,ZbY)]
def Zqd (hN:NumOK w0 nG):PC w0 nG 236 ZbY:=by
 refine pwt (tbl:=Zxx) ⟨ZDh hN,trivial⟩ Tryz.func236 fun args σ K h=>?_
 unfold ZbY at h
 split at h
 ·rename_i n b
  obtain ⟨⟨rfl,h0,h1⟩,h⟩:=h;refine pwv [] 0 false ?_;refine ⟨⟨rfl,h0,h1⟩,?_⟩;generalize Vh 16 n.toNat=T at h |-;exact mq51
 exact h.elim
def ZlS {n:Int} (h:n<0) (h0:-9223372036854775808<=n):0<=IntKind.u64.wrap n/\IntKind.u64.wrap n<18446744073709551616/\ZfD n=[48,120]++Vh 16 (IntKind.u64.wrap n).toNat:=by
 have e:IntKind.u64.wrap n=n+18446744073709551616:=by
  unfold IntKind.wrap
  simp [IntKind.signed,IntKind.bits];omega
 refine ⟨oM,oM,?_⟩;rw [ZfD,Tk h,e]
end Go.PM.Lex
end

section
namespace Go.PM.Lex
def ZCe (n:Int):Bool:=decide (-9223372036854775808<=n) && decide (n<9223372036854775808)
mutual
def ZiA:Ex->Bool
 | .mk _ _ n l _=>ZCe n && Zkl l
def Zkl:List Ex->Bool
 | []=>true
 | x::l=>ZiA x && Zkl l
end
def VN (l:List Ex):Zkl l=l.all ZiA:=by induction l with | nil=>rfl | cons x l ih=>simp [Zkl,ih]
def ZdK {op:Nat} {t:Bs} {n:Int} {l:List Ex} {a:Nat} (h:ZiA (.mk op t n l a)=true):(-9223372036854775808<=n/\n<9223372036854775808)/\∀x∈l,ZiA x=true:=by
 simp only [ZiA,VN,ZCe,Tn,TQ] at h;exact ⟨h.1,Tq.1 h.2⟩
mutual
def ZnD:Li->Bool
 | .mk _ _ args body _=>Zkl args && ZnE body
def ZnE:List Li->Bool
 | []=>true
 | x::l=>ZnD x && ZnE l
end
def UR (l:List Li):ZnE l=l.all ZnD:=by induction l with | nil=>rfl | cons x l ih=>simp [ZnE,ih]
def Zqe {op:Nat} {rel:Bs} {args:List Ex} {body:List Li} {a:Nat} (h:ZnD (.mk op rel args body a)=true):(∀x∈args,ZiA x=true)/\∀x∈body,ZnD x=true:=by
 simp only [ZnD,VN,UR,Tn] at h;exact ⟨Tq.1 h.1,Tq.1 h.2⟩
def ZdL (r:Ru):Bool:=r.args.all ZiA && r.body.all ZnD
mutual
def ZlT:Un->Bool
 | .mk _ _ rules comps _ _=>rules.all ZdL && ZdM comps
def Zqf:Co->Bool
 | .mk _ _ _ _ u _=>ZlT u
def ZdM:List Co->Bool
 | []=>true
 | c::l=>Zqf c && ZdM l
end
def Zao (l:List Co):ZdM l=l.all Zqf:=by induction l with | nil=>rfl | cons x l ih=>simp [ZdM,ih]
open Go.Proofs
variable {w0:World} {nG:Nat}
def Zkm (e:Ex):Bool:=Yf e && ZiA e
def Zxy {op:Nat} {t:Bs} {n:Int} {l:List Ex} {a:Nat} (h:Zkm (.mk op t n l a)=true):-2<V3 op/\(V3 op<0\/(l.length:Int)=V3 op)/\V4 op t=true/\(-9223372036854775808<=n/\n<9223372036854775808)/\l.all Zkm=true:=by
 simp only [Zkm,Tn] at h;obtain ⟨h1,h2⟩:=h;obtain ⟨r1,r2⟩:=ZdK h2;simp only [Yf,Zw,Tn,Sv,TQ] at h1;obtain ⟨h1,h3,h4,h5,h6⟩:=h1;refine ⟨h1,h3,h5,r1,?_⟩;rw [Tq] at h6 |-;exact fun x hx=>by rw [Zkm,h6 x hx,r2 x hx];rfl
def ZsX {op:Nat} (h:-2<V3 op):op<26:=by
 by_cases hc:op<26
 ·exact hc
 unfold V3 at h
 (repeat rw [Tf oM] at h)
 omega
def Zxz {op:Nat} (h:-2<V3 op):(ZT op<5->V3 op=2)/\(ZT op=5->V3 op=1)/\ZT op<=6/\(op=5->V3 op=0):=by
 have hk:∀o:Fin 26,-2<V3 o.val->(ZT o.val<5->V3 o.val=2)/\(ZT o.val=5->V3 o.val=1)/\ZT o.val<=6/\(o.val=5->V3 o.val=0):=dM;exact hk ⟨op,ZsX h⟩ h
def ZsY (n:Nat):Zo:=Zjm (.tuple []) fun rest txt=>∃pl e want,rest=[YH ZE pl e,.d (.int .i64 want)]/\(Zkm e=true/\wE e<=n/\n<=1073741824/\0<=want/\want<=6)/\txt=exW want.toNat e
def Zqg (n:Nat):Zz (ZsY n):=Zak _ _
def ZsZ (n:Nat):Zo:=Zjm (.tuple []) fun rest txt=>∃fr fin pl xs,rest=[.d (.str fr),.d (.sl (Ze pl xs)),.d (.str fin)]/\(xs.all Zkm=true/\szS wE xs<=n/\n<=1073741824)/\txt=argT fr fin xs
def Zqh (n:Nat):Zz (ZsZ n):=Zak _ _
def Vj (e:Ex):exW 0 e=exT e:=by rw [exW,ZsK,Tf sM]
def ZAI {n:Nat}:OKw w0 nG [(204,ZsY n)] 203 (ZgX (YH ZE) Zkm exT wE n):=by
 refine pwo Tryz.func203 fun args σ K h=>?_
 unfold ZgX at h
 split at h
 ·obtain ⟨l,pl,⟨op,tx,nn,xs,at'⟩,rfl,rfl,⟨rfl,rfl⟩,⟨bw,hz,hn⟩,hlen,h⟩:=h;refine pwv [] 2 true ?_;refine ⟨l,exT (.mk op tx nn xs at'),rfl,⟨.inr rfl,rfl,rfl⟩,⟨pl,.mk op tx nn xs at',0,rfl,⟨bw,hz,hn,oM,oM⟩,(Vj _).symm⟩,hlen,wN ?_⟩;exact h
 exact h.elim
def ZDj {n:Nat}:OKw w0 nG [(84,ZeP),(202,Zp6 203 ZE Zkm exT wE n)] 151 (ZsZ n):=by
 refine pwo Tryz.func151 fun args σ K h=>?_
 unfold ZsZ Zjm at h
 split at h
 ·rename_i rest t p e rows
  obtain ⟨l,txt,rfl,⟨hp,rfl,rfl⟩,⟨fr,fin,pl,xs,rfl,⟨bw,hz,hn⟩,rfl⟩,hlen,h⟩:=h;have key:l++argT fr fin xs=l++fr++Zg cmm (xs.map exT)++fin:=by simp only [argT,ZzV,To]
  rw [key] at h;have hlen:l.length+(fr.length+((Zg cmm (xs.map exT)).length+fin.length))<70368744177664:=by have:=hlen;simp only [argT,ZzV,Tb] at this;exact this
  refine pwu [] 1 true ?_;rcases hp with rfl | rfl
  all_goals
   conv=>whnf
   refine wk _ fr ⟨[fr],rfl,sM,sM,sM⟩ ?_;(conv=>whnf);refine ⟨l++fr,pl,xs,rfl,Zb pl xs,⟨rfl,rfl,rfl⟩,⟨bw,hz,hn⟩,by rw [Tb];show _+(Zg cmm (xs.map exT)).length<_;omega,wN ?_⟩;refine wk (l++fr++Zg cmm (xs.map exT)) fin ⟨[fin],rfl,sM,sM,sM⟩ (wN ?_);exact h
 exact h.elim
def ZAJ:List PV->St->(St->Prop)->Prop:=fun args σ K=>args.length<=Tryz.f84.ntmps/\W (Zn6 Vr Zp8 (Zj []) (Xo [(1,3)]) (fun _=>false)) (YR Tryz.f84) (ZzG Vr Tryz.f84 σ.bx.length K) (Zb7 0 args) σ
def ZE5:PDef (GG w0 nG) 84 ZAJ (fun _ _ _ _=>False) :=
 Zne Zy mixed Tryz.func84 rfl kR kR fun args σ K h=>⟨_,σ.bx.length,CxG.of Zy Ziy ⟨ZnB,trivial⟩ _ _ _,Tt _,h.1,h.2⟩
def ZAK (n:Nat):Tbl:=[(193,Zy8),(84,ZeP),(204,spB ZsY n),(151,spB ZsZ n),(237,Ziz),(236,ZbY),(194,JH)]
def ZAL {n:Nat} (ht:TO w0 nG (ZAK n)):PC w0 nG 204 (ZsY n):=by
 refine Zcr Zy mixed Tryz.func204 rfl kR kR ZE5 ?_;intro args σ K h
 unfold ZsY Zjm at h
 split at h
 ·rename_i rest t p e rows
  obtain ⟨l,txt,rfl,⟨hp,rfl,rfl⟩,⟨pl,⟨op,tx,nn,xs,at'⟩,want,rfl,⟨bw,hz,hn,zw,hw6⟩,rfl⟩,hlen,h⟩:=h;obtain ⟨m1,m2,m3,m4,m5⟩:=Zxy bw;obtain ⟨k1,k2,k3,k5⟩:=Zxz m1;have dw:szS wE xs+tx.length+1<=n:=by rw [wE,Jc] at hz;omega
  rw [Tq] at m5;refine ⟨Zn6 Vr (ZAK n) (Zj []) (Xo []) (Ye []),1,true,CxG.of Zy ht ⟨Zp4,ZnC,ZlP Zqg _,ZlP Zqh _,Zkj,Zkk,Zix,trivial⟩ _ _ _,sM,Tc rfl,?_⟩;rcases hp with rfl | rfl
  all_goals
   conv=>whnf
   refine ⟨op,rfl,fun l1 w1 a1 e1 e2 e3=>?_⟩;subst e1;(conv=>whnf);refine ZFs (fun aa=>wN ?_) (fun aa=>wN ?_)
   ·have hW:exW want.toNat (.mk op tx nn xs at')=[40]++(exT (.mk op tx nn xs at')++[41]):=by rw [exW,ZsK,Tk (by show ZT op<_;omega)]
    rw [hW] at h hlen;have adu:l.length+1<70368744177664:=by simp only [Tb,Te,Tg] at hlen;omega
    refine wk _ [40] ⟨[[40]],rfl,sM,sM,sM⟩ ?_;(conv=>whnf);refine ZFs (fun c1=>?_) (fun c1=>wN ?_)
    ·have c1:ZT op<5:=by omega
     have gu:xs.length=2:=by have:=k1 c1;omega
     obtain ⟨x0,x1,rfl⟩:∃x0 x1,xs=[x0,x1]:=by match xs,gu with | [a,b],_=>exact ⟨a,b,rfl⟩
     simp only [szS] at dw;have g0:=m5 x0 sM;have g1:=m5 x1 sM;have z0:wE x0<=n - 1:=oM;have z1:wE x1<=n - 1:=oM;obtain ⟨o0,t0,n0,y0,q0⟩:=x0;obtain ⟨o1,t1,n1,y1,q1⟩:=x1;have hx:exT (.mk op tx nn [(.mk o0 t0 n0 y0 q0),(.mk o1 t1 n1 y1 q1)] at')=exW (ZT op) (.mk o0 t0 n0 y0 q0)++(([32]++(w1++[32]))++exW (ZT op+1) (.mk o1 t1 n1 y1 q1)):=by rw [exT,exN,Tk c1,e2];rfl
     rw [hx] at h hlen
     (try simp only [Tb,Te,Tg] at hlen)
     conv=>whnf
     refine ⟨_,dM,rfl,wN ?_⟩;refine ⟨oM,wk _ (exW (ZT op) (.mk o0 t0 n0 y0 q0)) ⟨pl,(.mk o0 t0 n0 y0 q0),(ZT op:Int),rfl,⟨g0,oM,oM,oM,oM⟩,rfl⟩ ?_⟩;(conv=>whnf);refine wk _ ([32]++(w1++[32])) ⟨[[32],w1,[32]],rfl,sM,sM,sM⟩ ?_;(conv=>whnf);refine ⟨_,dM,rfl,wN ?_⟩;refine Zi ?_;refine ⟨oM,wk _ (exW (ZT op+1) (.mk o1 t1 n1 y1 q1)) ⟨pl,(.mk o1 t1 n1 y1 q1),((ZT op:Int)+1),rfl,⟨g1,oM,oM,oM,oM⟩,rfl⟩ ?_⟩;(conv=>whnf);refine ⟨Tc rfl,wN ?_⟩;refine ⟨_,dM,rfl,wN ?_⟩;refine wk _ [41] ⟨rfl,rfl⟩ ?_;(conv=>whnf);refine Zi ?_;rw [show l++([40]++(exW (ZT op) (.mk o0 t0 n0 y0 q0)++(([32]++(w1++[32]))++exW (ZT op+1) (.mk o1 t1 n1 y1 q1))++[41]))=(l++[40])++exW (ZT op) (.mk o0 t0 n0 y0 q0)++([32]++(w1++[32]))++exW (ZT op+1) (.mk o1 t1 n1 y1 q1)++[41] by first | rfl | simp only [To]] at h;exact h
    have c1:¬ZT op<5:=oM;refine ZFs (fun c2=>?_) (fun c2=>wN ?_)
    ·have c2:ZT op=5:=by omega
     have gu:xs.length=1:=by have:=k2 c2;omega
     obtain ⟨x0,rfl⟩:∃x0,xs=[x0]:=by match xs,gu with | [a],_=>exact ⟨a,rfl⟩
     simp only [szS] at dw;have g0:=m5 x0 sM;have z0:wE x0<=n - 1:=oM;obtain ⟨o0,t0,n0,y0,q0⟩:=x0;have hx:exT (.mk op tx nn [(.mk o0 t0 n0 y0 q0)] at')=w1++exW 5 (.mk o0 t0 n0 y0 q0):=by rw [exT,exN,Tf c1,Tk c2,e2];rfl
     rw [hx] at h hlen
     (try simp only [Tb,Te,Tg] at hlen)
     conv=>whnf
     refine wk _ w1 ⟨[w1],rfl,sM,sM,sM⟩ ?_;(conv=>whnf);refine ⟨_,dM,rfl,wN ?_⟩;refine ⟨oM,wk _ (exW 5 (.mk o0 t0 n0 y0 q0)) ⟨pl,(.mk o0 t0 n0 y0 q0),5,rfl,⟨g0,oM,oM,oM,oM⟩,rfl⟩ ?_⟩;(conv=>whnf);refine ⟨Tc rfl,wN ?_⟩;refine ⟨_,dM,rfl,wN ?_⟩;refine wk _ [41] ⟨rfl,rfl⟩ ?_;(conv=>whnf);refine Zi ?_;rw [show l++([40]++(w1++exW 5 (.mk o0 t0 n0 y0 q0)++[41]))=(l++[40])++w1++exW 5 (.mk o0 t0 n0 y0 q0)++[41] by first | rfl | simp only [To]] at h;exact h
    have c2:¬ZT op=5:=oM;refine ZFv (fun c3=>?_) (fun c3=>wN ?_)
    ·have c3:VK op≠[]:=by rw [e2];exact c3
     have hx:exT (.mk op tx nn xs at')=w1++argT [40] [41] xs:=by rw [exT,exN,Tf c1,Tf c2,Tk c3,e2,UQ];rfl
     rw [hx] at h hlen
     (try simp only [Tb,Te,Tg] at hlen)
     conv=>whnf
     refine wk _ w1 ⟨[w1],rfl,sM,sM,sM⟩ ?_;(conv=>whnf);refine ⟨oM,wk _ (argT [40] [41] xs) ⟨[40],[41],pl,xs,rfl,⟨Tq.2 m5,oM,oM⟩,rfl⟩ ?_⟩;(conv=>whnf);refine ⟨Tc rfl,wN ?_⟩;refine ⟨_,dM,rfl,wN ?_⟩;refine wk _ [41] ⟨rfl,rfl⟩ ?_;(conv=>whnf);refine Zi ?_;rw [show l++([40]++(w1++argT [40] [41] xs++[41]))=(l++[40])++w1++argT [40] [41] xs++[41] by first | rfl | simp only [To]] at h;exact h
    have c3:¬VK op≠[]:=by rw [e2];exact fun g=>g c3
    refine ZFs (fun c4=>?_) (fun c4=>wN ?_)
    ·have c4:op=6:=by omega
     have hx:exT (.mk op tx nn xs at')=argT [91] [93] xs:=by rw [exT,exN,Tf c1,Tf c2,Tf c3,Tk c4,UQ];rfl
     rw [hx] at h hlen
     (try simp only [Tb,Te,Tg] at hlen)
     conv=>whnf
     refine ⟨oM,wk _ (argT [91] [93] xs) ⟨[91],[93],pl,xs,rfl,⟨Tq.2 m5,oM,oM⟩,rfl⟩ ?_⟩;(conv=>whnf);refine ⟨Tc rfl,wN ?_⟩;refine ⟨_,dM,rfl,wN ?_⟩;refine wk _ [41] ⟨rfl,rfl⟩ ?_;(conv=>whnf);refine Zi ?_;rw [show l++([40]++(argT [91] [93] xs++[41]))=(l++[40])++argT [91] [93] xs++[41] by first | rfl | simp only [To]] at h;exact h
    have c4:¬op=6:=oM;refine ZFs (fun c5=>?_) (fun c5=>wN ?_)
    ·have c5:op=7:=by omega
     have hxl:(Ze pl xs).length=xs.length:=by rw [Zb,Td]
     by_cases ge:xs.length=0
     ·have hx:exT (.mk op tx nn xs at')=[36]++tx:=by rw [exT,exN,Tf c1,Tf c2,Tf c3,Tf c4,Tk c5,Zcu,Tk ge,T1]
      rw [hx] at h hlen
      (try simp only [Tb,Te,Tg] at hlen)
      conv=>whnf
      refine wk _ ([36]++tx) ⟨[[36],tx],rfl,sM,sM,sM⟩ ?_;(conv=>whnf);refine ZFs (fun g=>?_) (fun g=>?_)
      case refine_1=>exact absurd (show ((Ze pl xs).length:Int)>0 from g) oM
      conv=>whnf
      refine ⟨Tc rfl,wN ?_⟩;refine ⟨_,dM,rfl,wN ?_⟩;refine wk _ [41] ⟨rfl,rfl⟩ ?_;(conv=>whnf);refine Zi ?_;rw [show l++([40]++([36]++tx++[41]))=(l++[40])++([36]++tx)++[41] by first | rfl | simp only [To]] at h;exact h
     have hx:exT (.mk op tx nn xs at')=([36]++tx)++argT [40] [41] xs:=by rw [exT,exN,Tf c1,Tf c2,Tf c3,Tf c4,Tk c5,Zcu,Tf ge,UQ,To];rfl
     rw [hx] at h hlen
     (try simp only [Tb,Te,Tg] at hlen)
     conv=>whnf
     refine wk _ ([36]++tx) ⟨[[36],tx],rfl,sM,sM,sM⟩ ?_;(conv=>whnf);refine ZFs (fun g=>?_) (fun g=>?_)
     case refine_2=>exact absurd (show ((Ze pl xs).length:Int)>0 by omega) g
     conv=>whnf
     refine ⟨oM,wk _ (argT [40] [41] xs) ⟨[40],[41],pl,xs,rfl,⟨Tq.2 m5,oM,oM⟩,rfl⟩ ?_⟩;(conv=>whnf);refine ⟨Tc rfl,wN ?_⟩;refine ⟨_,dM,rfl,wN ?_⟩;refine wk _ [41] ⟨rfl,rfl⟩ ?_;(conv=>whnf);refine Zi ?_;rw [show l++([40]++(([36]++tx)++argT [40] [41] xs++[41]))=(l++[40])++([36]++tx)++argT [40] [41] xs++[41] by first | rfl | simp only [To]] at h;exact h
    have c5:¬op=7:=oM;refine ZFs (fun c6=>wN ?_) (fun c6=>wN ?_)
    ·have c6':op=3:=by omega
     obtain ⟨i0,i1⟩:=m4;refine ZFs (fun gn=>wN ?_) (fun gn=>wN ?_)
     ·obtain ⟨j0,j1,j2⟩:=ZlS gn i0;obtain ⟨wn,yd⟩:∃wn,IntKind.u64.wrap nn=wn:=⟨_,rfl⟩
      rw [yd] at j0 j1 j2;refine Or.inr ?_;rw [yd];have hx:exT (.mk op tx nn xs at')=ZfD nn:=by rw [exT,exN,Tf c1,Tf c2,Tf c3,Tf c4,Tf c5,Tk c6']
      rw [hx] at h hlen
      (try simp only [Tb,Te,Tg] at hlen)
      conv=>whnf
      refine ⟨⟨rfl,j0,j1⟩,?_⟩;obtain ⟨T,hT⟩:∃T,Vh 16 wn.toNat=T:=⟨_,rfl⟩
      rw [hT] at j2 |-;rw [j2] at h hlen
      (try simp only [Tb,Te,Tg] at hlen)
      conv=>whnf
      refine wk _ ([48,120]++T) ⟨[[48,120],T],rfl,sM,sM,sM⟩ ?_;(conv=>whnf);refine ⟨Tc rfl,wN ?_⟩;refine ⟨_,dM,rfl,wN ?_⟩;refine wk _ [41] ⟨rfl,rfl⟩ ?_;(conv=>whnf);refine Zi ?_;rw [show l++([40]++(([48,120]++T)++[41]))=(l++[40])++([48,120]++T)++[41] by first | rfl | simp only [To]] at h;exact h
     refine ZFs (fun _=>?_) (fun g=>absurd c6 g);have hx:exT (.mk op tx nn xs at')=ZfD nn:=by rw [exT,exN,Tf c1,Tf c2,Tf c3,Tf c4,Tf c5,Tk c6']
     rw [hx] at h hlen
     (try simp only [Tb,Te,Tg] at hlen)
     conv=>whnf
     refine ⟨⟨rfl,oM,i1⟩,wN ?_⟩;refine wk _ (ZfD nn) ⟨[ZfD nn],rfl,sM,sM,sM⟩ ?_;(conv=>whnf);refine ⟨Tc rfl,wN ?_⟩;refine ⟨_,dM,rfl,wN ?_⟩;refine wk _ [41] ⟨rfl,rfl⟩ ?_;(conv=>whnf);refine Zi ?_;rw [show l++([40]++(ZfD nn++[41]))=(l++[40])++ZfD nn++[41] by first | rfl | simp only [To]] at h;exact h
    have c6':¬op=3:=oM;refine ZFs (fun g=>absurd g c6) (fun _=>wN ?_);refine ZFs (fun c7=>?_) (fun c7=>wN ?_)
    ·have c7':op=4:=by omega
     have hq:(Jb tx).isSome=true:=by unfold V4 at m3;rw [Tf oM,Tk c7'] at m3;exact m3
     obtain ⟨q,hq⟩:=Su.1 hq;have hqT:Zwa tx=q:=by rw [Zwa,hq];rfl
     have hx:exT (.mk op tx nn xs at')=q:=by rw [exT,exN,Tf c1,Tf c2,Tf c3,Tf c4,Tf c5,Tf c6',Tk c7',hqT]
     rw [hx] at h hlen
     (try simp only [Tb,Te,Tg] at hlen)
     conv=>whnf
     refine ⟨oM,wN ?_⟩;refine ⟨fun g=>?_,fun q' iq=>?_⟩
     case refine_1=>exact absurd (hq.symm.trans g) sM
     obtain rfl:q=q':=by rw [hq] at iq;exact Option.some.inj iq
     conv=>whnf
     refine wk _ q ⟨[q],rfl,sM,sM,sM⟩ ?_;(conv=>whnf);refine ⟨Tc rfl,wN ?_⟩;refine ⟨_,dM,rfl,wN ?_⟩;refine wk _ [41] ⟨rfl,rfl⟩ ?_;(conv=>whnf);refine Zi ?_;rw [show l++([40]++(q++[41]))=(l++[40])++q++[41] by first | rfl | simp only [To]] at h;exact h
    have c7':¬op=4:=oM;refine ZFs (fun c8=>?_) (fun c8=>wN ?_)
    ·have c8':op=5:=by omega
     have hx:exT (.mk op tx nn xs at')=[110,105,108]:=by rw [exT,exN,Tf c1,Tf c2,Tf c3,Tf c4,Tf c5,Tf c6',Tf c7',Tk c8']
     rw [hx] at h hlen
     (try simp only [Tb,Te,Tg] at hlen)
     conv=>whnf
     refine wk _ [110,105,108] ⟨[[110,105,108]],rfl,sM,sM,sM⟩ ?_;(conv=>whnf);refine ⟨Tc rfl,wN ?_⟩;refine ⟨_,dM,rfl,wN ?_⟩;refine wk _ [41] ⟨rfl,rfl⟩ ?_;(conv=>whnf);refine Zi ?_;rw [show l++([40]++([110,105,108]++[41]))=(l++[40])++[110,105,108]++[41] by first | rfl | simp only [To]] at h;exact h
    have c8':¬op=5:=oM;refine ZFs (fun c9=>?_) (fun c9=>?_)
    ·have c9':op=2:=by omega
     have hx:exT (.mk op tx nn xs at')=[95]:=by rw [exT,exN,Tf c1,Tf c2,Tf c3,Tf c4,Tf c5,Tf c6',Tf c7',Tf c8',Tk c9']
     rw [hx] at h hlen
     (try simp only [Tb,Te,Tg] at hlen)
     conv=>whnf
     refine wk _ [95] ⟨[[95]],rfl,sM,sM,sM⟩ ?_;(conv=>whnf);refine ⟨Tc rfl,wN ?_⟩;refine ⟨_,dM,rfl,wN ?_⟩;refine wk _ [41] ⟨rfl,rfl⟩ ?_;(conv=>whnf);refine Zi ?_;rw [show l++([40]++([95]++[41]))=(l++[40])++[95]++[41] by first | rfl | simp only [To]] at h;exact h
    have c9':¬op=2:=oM;have hx:exT (.mk op tx nn xs at')=tx:=by rw [exT,exN,Tf c1,Tf c2,Tf c3,Tf c4,Tf c5,Tf c6',Tf c7',Tf c8',Tf c9']
    rw [hx] at h hlen
    (try simp only [Tb,Te,Tg] at hlen)
    conv=>whnf
    refine wk _ tx ⟨[tx],rfl,sM,sM,sM⟩ ?_;(conv=>whnf);refine ⟨Tc rfl,wN ?_⟩;refine ⟨_,dM,rfl,wN ?_⟩;refine wk _ [41] ⟨rfl,rfl⟩ ?_;(conv=>whnf);refine Zi ?_;rw [show l++([40]++(tx++[41]))=(l++[40])++tx++[41] by first | rfl | simp only [To]] at h;exact h
   have hW:exW want.toNat (.mk op tx nn xs at')=exT (.mk op tx nn xs at'):=by rw [exW,ZsK,Tf (by show ¬ZT op<_;omega)]
   rw [hW] at h hlen;refine ZFs (fun c1=>?_) (fun c1=>wN ?_)
   ·have c1:ZT op<5:=by omega
    have gu:xs.length=2:=by have:=k1 c1;omega
    obtain ⟨x0,x1,rfl⟩:∃x0 x1,xs=[x0,x1]:=by match xs,gu with | [a,b],_=>exact ⟨a,b,rfl⟩
    simp only [szS] at dw;have g0:=m5 x0 sM;have g1:=m5 x1 sM;have z0:wE x0<=n - 1:=oM;have z1:wE x1<=n - 1:=oM;obtain ⟨o0,t0,n0,y0,q0⟩:=x0;obtain ⟨o1,t1,n1,y1,q1⟩:=x1;have hx:exT (.mk op tx nn [(.mk o0 t0 n0 y0 q0),(.mk o1 t1 n1 y1 q1)] at')=exW (ZT op) (.mk o0 t0 n0 y0 q0)++(([32]++(w1++[32]))++exW (ZT op+1) (.mk o1 t1 n1 y1 q1)):=by rw [exT,exN,Tk c1,e2];rfl
    rw [hx] at h hlen
    (try simp only [Tb,Te,Tg] at hlen)
    conv=>whnf
    refine ⟨_,dM,rfl,wN ?_⟩;refine ⟨oM,wk _ (exW (ZT op) (.mk o0 t0 n0 y0 q0)) ⟨pl,(.mk o0 t0 n0 y0 q0),(ZT op:Int),rfl,⟨g0,oM,oM,oM,oM⟩,rfl⟩ ?_⟩;(conv=>whnf);refine wk _ ([32]++(w1++[32])) ⟨[[32],w1,[32]],rfl,sM,sM,sM⟩ ?_;(conv=>whnf);refine ⟨_,dM,rfl,wN ?_⟩;refine Zi ?_;refine ⟨oM,wk _ (exW (ZT op+1) (.mk o1 t1 n1 y1 q1)) ⟨pl,(.mk o1 t1 n1 y1 q1),((ZT op:Int)+1),rfl,⟨g1,oM,oM,oM,oM⟩,rfl⟩ ?_⟩;rw [show l++(exW (ZT op) (.mk o0 t0 n0 y0 q0)++(([32]++(w1++[32]))++exW (ZT op+1) (.mk o1 t1 n1 y1 q1)))=l++exW (ZT op) (.mk o0 t0 n0 y0 q0)++([32]++(w1++[32]))++exW (ZT op+1) (.mk o1 t1 n1 y1 q1) by first | rfl | simp only [To]] at h;exact mq51
   have c1:¬ZT op<5:=oM;refine ZFs (fun c2=>?_) (fun c2=>wN ?_)
   ·have c2:ZT op=5:=by omega
    have gu:xs.length=1:=by have:=k2 c2;omega
    obtain ⟨x0,rfl⟩:∃x0,xs=[x0]:=by match xs,gu with | [a],_=>exact ⟨a,rfl⟩
    simp only [szS] at dw;have g0:=m5 x0 sM;have z0:wE x0<=n - 1:=oM;obtain ⟨o0,t0,n0,y0,q0⟩:=x0;have hx:exT (.mk op tx nn [(.mk o0 t0 n0 y0 q0)] at')=w1++exW 5 (.mk o0 t0 n0 y0 q0):=by rw [exT,exN,Tf c1,Tk c2,e2];rfl
    rw [hx] at h hlen
    (try simp only [Tb,Te,Tg] at hlen)
    conv=>whnf
    refine wk _ w1 ⟨[w1],rfl,sM,sM,sM⟩ ?_;(conv=>whnf);refine ⟨_,dM,rfl,wN ?_⟩;refine ⟨oM,wk _ (exW 5 (.mk o0 t0 n0 y0 q0)) ⟨pl,(.mk o0 t0 n0 y0 q0),5,rfl,⟨g0,oM,oM,oM,oM⟩,rfl⟩ ?_⟩;rw [show l++(w1++exW 5 (.mk o0 t0 n0 y0 q0))=l++w1++exW 5 (.mk o0 t0 n0 y0 q0) by first | rfl | simp only [To]] at h;exact mq51
   have c2:¬ZT op=5:=oM;refine ZFv (fun c3=>?_) (fun c3=>wN ?_)
   ·have c3:VK op≠[]:=by rw [e2];exact c3
    have hx:exT (.mk op tx nn xs at')=w1++argT [40] [41] xs:=by rw [exT,exN,Tf c1,Tf c2,Tk c3,e2,UQ];rfl
    rw [hx] at h hlen
    (try simp only [Tb,Te,Tg] at hlen)
    conv=>whnf
    refine wk _ w1 ⟨[w1],rfl,sM,sM,sM⟩ ?_;(conv=>whnf);refine ⟨oM,wk _ (argT [40] [41] xs) ⟨[40],[41],pl,xs,rfl,⟨Tq.2 m5,oM,oM⟩,rfl⟩ ?_⟩;rw [show l++(w1++argT [40] [41] xs)=l++w1++argT [40] [41] xs by first | rfl | simp only [To]] at h;exact mq51
   have c3:¬VK op≠[]:=by rw [e2];exact fun g=>g c3
   refine ZFs (fun c4=>?_) (fun c4=>wN ?_)
   ·have c4:op=6:=by omega
    have hx:exT (.mk op tx nn xs at')=argT [91] [93] xs:=by rw [exT,exN,Tf c1,Tf c2,Tf c3,Tk c4,UQ];rfl
    rw [hx] at h hlen
    (try simp only [Tb,Te,Tg] at hlen)
    conv=>whnf
    refine ⟨oM,wk _ (argT [91] [93] xs) ⟨[91],[93],pl,xs,rfl,⟨Tq.2 m5,oM,oM⟩,rfl⟩ ?_⟩;rw [show l++(argT [91] [93] xs)=l++argT [91] [93] xs by first | rfl | simp only [To]] at h;exact mq51
   have c4:¬op=6:=oM;refine ZFs (fun c5=>?_) (fun c5=>wN ?_)
   ·have c5:op=7:=by omega
    have hxl:(Ze pl xs).length=xs.length:=by rw [Zb,Td]
    by_cases ge:xs.length=0
    ·have hx:exT (.mk op tx nn xs at')=[36]++tx:=by rw [exT,exN,Tf c1,Tf c2,Tf c3,Tf c4,Tk c5,Zcu,Tk ge,T1]
     rw [hx] at h hlen
     (try simp only [Tb,Te,Tg] at hlen)
     conv=>whnf
     refine wk _ ([36]++tx) ⟨[[36],tx],rfl,sM,sM,sM⟩ ?_;(conv=>whnf);refine ZFs (fun g=>?_) (fun g=>?_)
     case refine_1=>exact absurd (show ((Ze pl xs).length:Int)>0 from g) oM
     rw [show l++([36]++tx)=l++([36]++tx) by first | rfl | simp only [To]] at h;exact mq51
    have hx:exT (.mk op tx nn xs at')=([36]++tx)++argT [40] [41] xs:=by rw [exT,exN,Tf c1,Tf c2,Tf c3,Tf c4,Tk c5,Zcu,Tf ge,UQ,To];rfl
    rw [hx] at h hlen
    (try simp only [Tb,Te,Tg] at hlen)
    conv=>whnf
    refine wk _ ([36]++tx) ⟨[[36],tx],rfl,sM,sM,sM⟩ ?_;(conv=>whnf);refine ZFs (fun g=>?_) (fun g=>?_)
    case refine_2=>exact absurd (show ((Ze pl xs).length:Int)>0 by omega) g
    conv=>whnf
    refine ⟨oM,wk _ (argT [40] [41] xs) ⟨[40],[41],pl,xs,rfl,⟨Tq.2 m5,oM,oM⟩,rfl⟩ ?_⟩;rw [show l++(([36]++tx)++argT [40] [41] xs)=l++([36]++tx)++argT [40] [41] xs by first | rfl | simp only [To]] at h;exact mq51
   have c5:¬op=7:=oM;refine ZFs (fun c6=>wN ?_) (fun c6=>wN ?_)
   ·have c6':op=3:=by omega
    obtain ⟨i0,i1⟩:=m4;refine ZFs (fun gn=>wN ?_) (fun gn=>wN ?_)
    ·obtain ⟨j0,j1,j2⟩:=ZlS gn i0;obtain ⟨wn,yd⟩:∃wn,IntKind.u64.wrap nn=wn:=⟨_,rfl⟩
     rw [yd] at j0 j1 j2;refine Or.inr ?_;rw [yd];have hx:exT (.mk op tx nn xs at')=ZfD nn:=by rw [exT,exN,Tf c1,Tf c2,Tf c3,Tf c4,Tf c5,Tk c6']
     rw [hx] at h hlen
     (try simp only [Tb,Te,Tg] at hlen)
     conv=>whnf
     refine ⟨⟨rfl,j0,j1⟩,?_⟩;obtain ⟨T,hT⟩:∃T,Vh 16 wn.toNat=T:=⟨_,rfl⟩
     rw [hT] at j2 |-;rw [j2] at h hlen
     (try simp only [Tb,Te,Tg] at hlen)
     conv=>whnf
     refine wk _ ([48,120]++T) ⟨[[48,120],T],rfl,sM,sM,sM⟩ ?_;rw [show l++(([48,120]++T))=l++([48,120]++T) by first | rfl | simp only [To]] at h;exact mq51
    refine ZFs (fun _=>?_) (fun g=>absurd c6 g);have hx:exT (.mk op tx nn xs at')=ZfD nn:=by rw [exT,exN,Tf c1,Tf c2,Tf c3,Tf c4,Tf c5,Tk c6']
    rw [hx] at h hlen
    (try simp only [Tb,Te,Tg] at hlen)
    conv=>whnf
    refine ⟨⟨rfl,oM,i1⟩,wN ?_⟩;refine wk _ (ZfD nn) ⟨[ZfD nn],rfl,sM,sM,sM⟩ ?_;rw [show l++(ZfD nn)=l++ZfD nn by first | rfl | simp only [To]] at h;exact mq51
   have c6':¬op=3:=oM;refine ZFs (fun g=>absurd g c6) (fun _=>wN ?_);refine ZFs (fun c7=>?_) (fun c7=>wN ?_)
   ·have c7':op=4:=by omega
    have hq:(Jb tx).isSome=true:=by unfold V4 at m3;rw [Tf oM,Tk c7'] at m3;exact m3
    obtain ⟨q,hq⟩:=Su.1 hq;have hqT:Zwa tx=q:=by rw [Zwa,hq];rfl
    have hx:exT (.mk op tx nn xs at')=q:=by rw [exT,exN,Tf c1,Tf c2,Tf c3,Tf c4,Tf c5,Tf c6',Tk c7',hqT]
    rw [hx] at h hlen
    (try simp only [Tb,Te,Tg] at hlen)
    conv=>whnf
    refine ⟨oM,wN ?_⟩;refine ⟨fun g=>?_,fun q' iq=>?_⟩
    case refine_1=>exact absurd (hq.symm.trans g) sM
    obtain rfl:q=q':=by rw [hq] at iq;exact Option.some.inj iq
    conv=>whnf
    refine wk _ q ⟨[q],rfl,sM,sM,sM⟩ ?_;rw [show l++(q)=l++q by first | rfl | simp only [To]] at h;exact mq51
   have c7':¬op=4:=oM;refine ZFs (fun c8=>?_) (fun c8=>wN ?_)
   ·have c8':op=5:=by omega
    have hx:exT (.mk op tx nn xs at')=[110,105,108]:=by rw [exT,exN,Tf c1,Tf c2,Tf c3,Tf c4,Tf c5,Tf c6',Tf c7',Tk c8']
    rw [hx] at h hlen
    (try simp only [Tb,Te,Tg] at hlen)
    conv=>whnf
    refine wk _ [110,105,108] ⟨[[110,105,108]],rfl,sM,sM,sM⟩ ?_;rw [show l++([110,105,108])=l++[110,105,108] by first | rfl | simp only [To]] at h;exact mq51
   have c8':¬op=5:=oM;refine ZFs (fun c9=>?_) (fun c9=>?_)
   ·have c9':op=2:=by omega
    have hx:exT (.mk op tx nn xs at')=[95]:=by rw [exT,exN,Tf c1,Tf c2,Tf c3,Tf c4,Tf c5,Tf c6',Tf c7',Tf c8',Tk c9']
    rw [hx] at h hlen
    (try simp only [Tb,Te,Tg] at hlen)
    conv=>whnf
    refine wk _ [95] ⟨[[95]],rfl,sM,sM,sM⟩ ?_;rw [show l++([95])=l++[95] by first | rfl | simp only [To]] at h;exact mq51
   have c9':¬op=2:=oM;have hx:exT (.mk op tx nn xs at')=tx:=by rw [exT,exN,Tf c1,Tf c2,Tf c3,Tf c4,Tf c5,Tf c6',Tf c7',Tf c8',Tf c9']
   rw [hx] at h hlen
   (try simp only [Tb,Te,Tg] at hlen)
   conv=>whnf
   refine wk _ tx ⟨[tx],rfl,sM,sM,sM⟩ ?_;rw [show l++(tx)=l++tx by first | rfl | simp only [To]] at h;exact mq51
 exact h.elim
end Go.PM.Lex
end

section
namespace Go.PM.Lex
open Go.Proofs Go.Shelf Go.RowKit
variable {w0:World} {nG:Nat}
def ZnF (w:World) (g n:Nat) {cs:Array Value} {ty:TypeId} {fz:Nat×Nat} (h:w.heap[g]?=some (.cells cs ty fz)) (h1:fz.1<=fz.2) (h2:∀o,n<=o->fz.1<=o->fz.2<=o) :
  ∃fz',(w.drew.freeze ⟨g,0,none⟩ n).heap[g]?=some (.cells cs ty fz')/\fz'.1<=fz'.2/\∀o,n<=o->fz'.1<=o->fz'.2<=o:=by
 have h':w.drew.heap[g]?=some (.cells cs ty fz):=h;obtain ⟨lo,hi⟩:=fz;unfold World.freeze
 split
 ·exact ⟨_,h',h1,h2⟩
 simp only [SC,if_true,h',Se];refine ⟨_,rfl,?_,?_⟩
 ·split
  ·exact T6 _
  simp only at h1 |-;omega
 intro o ho ai
 split
 ·simp only;omega
 rename_i ah
 have ah:lo≠hi:=by simpa using ah
 simp only at h1 |-;have k:=h2 (max lo n) oM (by simp only;omega);simp only at k;omega
def _root_.Go.PM.Owned.grow {G:GE} {e:Env} {w w':World} {t el:Nat} {rows:List (List D)} {v:Value} (h:Owned G e w t el rows v) (g:Grows w w'):Owned G e w' t el rows v:=by
 rcases h with h | ⟨sz,a1,a2,a3,b,off,cap,cs,ty,fz,a4,a5,a6,a7,a8,a9,a10⟩
 ·exact .inl h
 exact .inr ⟨sz,a1,a2,a3,b,off,cap,cs,ty,fz,a4,a5,a6,(g.old _ (Tp.1 a7).1).trans a7,a8,a9,a10⟩
def _root_.Go.PM.Owned.refreeze {G:GE} {e:Env} {w w':World} {t:Nat} {rows:List (List D)} {v:Value} {g n:Nat} {cs:Array Value} {ty:TypeId} {fz fz':Nat×Nat} (h:Owned G e w t 5 rows v) (hM:e.M t=some (g,n))
  (h':w'.heap[g]?=some (.cells cs ty fz')) (h0:w.heap[g]?=some (.cells cs ty fz)) (h1:fz'.1<=fz'.2) (h2:∀o,n<=o->fz'.1<=o->fz'.2<=o):Owned G e w' t 5 rows v:=by
 rcases h with ⟨_,_,h⟩ | ⟨sz,a1,a2,a3,b,off,cap,cs2,ty2,fz2,a4,a5,a6,a7,a8,a9,a10⟩
 ·rw [hM] at h;cases h
 rw [hM] at a10;simp only [Option.some.injEq,Prod.mk.injEq] at a10;obtain ⟨rfl,rfl⟩:=a10;rw [h0] at a7
 cases a7
 exact .inr ⟨sz,a1,a2,a3,g,off,cap,cs,ty,fz',a4,a5,a6,h',a8,⟨h1,h2⟩,hM⟩
def ZxA {G:GE} {e:Env} {w w':World} {t:TypeId} {p:PV} {rows:List (List D)} (hp:p=.d .nilp\/p=.ptr 0 0) (hS:SRel G e ⟨[.cells t [p,.sl 0 5 rows]],[0],1⟩ w)
  (hsz:w.heap.size<=w'.heap.size) (qf:w'.os=w.os) (htp:w'.tape=w.tape) (jo:w'.output=w.output)
  (bc:∀b off u,w.cell? ⟨b,off,none⟩=some u->w'.cell? ⟨b,off,none⟩=some u)
  (gf:∀b,b<w.heap.size->(∀q,e.M 0=some q->q.1≠b)->w'.heap[b]?=w.heap[b]?)
  (jq:∀v,Owned G e w 0 5 rows v->Owned G e w' 0 5 rows v) (acd:∀q,e.M 0=some q->∃cs ty fz,w'.heap[q.1]?=some (.cells cs ty fz)) :
  SRel G e ⟨[.cells t [p,.sl 0 5 rows]],[0],1⟩ w'/\Later e ⟨[.cells t [p,.sl 0 5 rows]],[0],1⟩ w e ⟨[.cells t [p,.sl 0 5 rows]],[0],1⟩ w':=by
 have hL:Later e ⟨[.cells t [p,.sl 0 5 rows]],[0],1⟩ w e ⟨[.cells t [p,.sl 0 5 rows]],[0],1⟩ w':={
  len:=Tt _
  beta:=fun _ _=>rfl
  X:=fun _ _ h=>h
  pres:=fun b off u hu ho=>⟨ho,bc b off u hu⟩
  fhid:=fun b h=>.inr (.inr h)
  blocks:=fun b hb h1 h2 _=>gf b hb fun q hq=>h2 0 sM q hq
  size:=hsz
  os:=qf
  tape:=htp
  output:=jo
  fresh:=fun i h1 h2=>by simp at h1 h2;omega
  ftok:=fun x hx q hq=>.inr (.inl ⟨x,hx,q,hq,rfl⟩) }
 have aa:=hS.lt (i:=0) sM;have ov:w'.heap[e.β 0]?=w.heap[e.β 0]?:=gf _ aa fun q hq=>fun h=>(hS.own 0 sM q hq).2.1 0 sM h.symm
 refine ⟨?_,hL⟩;exact {
  inj:=hS.inj
  box:=fun i x hx=>by
   match i,hx with
   | 0,hx =>
    cases hx
    obtain ⟨cv,h1,h2,h3⟩:=hS.box 0 _ rfl;refine ⟨cv,ov.trans h1,h2,fun j y u hy hu=>?_⟩
    match j,hy with
    | 0,hy =>
     exact mq97
    | 1,hy =>
     cases hy
     obtain ⟨q1,q2⟩:=h3 1 (.sl 0 5 rows) u rfl hu;refine ⟨?_,q2⟩
     cases q1 with
     | sl _ _ _ _ hn hd ht=>exact .sl _ _ _ _ hn (hd.later hL) (fun h=>jq _ (ht h))
    | j+2,hy=>simp at hy
   | i+1,hx=>simp at hx
  low:=hS.low
  tkn:=hS.tkn
  own:=fun x hx q hq=>by
   obtain ⟨a,b,_⟩:=hS.own x hx q hq;obtain rfl:x=0:=by simpa using hx
   exact ⟨a,b,acd q hq⟩
  dis:=hS.dis
  xlt:=fun b off hx=>TA (hS.xlt b off hx) hsz
  xown:=hS.xown
  hid:=fun b q hq=>let ⟨k1,k2,k3,k4,k5⟩:=hS.hid b q hq;⟨k1,TA k2 hsz,k3,k4,k5⟩
  glob:=fun b hb=>by
   rw [gf b (TA hb hS.big) fun q hq=>fun h=>by have:=(hS.own 0 sM q hq).1;omega];exact hS.glob b hb
  big:=TZ hS.big hsz }
def Zap:Zo:=fun args σ K=>match args,σ with
 | [.ptr 0 0],⟨[.cells t [p,.sl 0 e rows]],[0],1⟩=>∃l:Bs,(rows=Zk l/\t=97/\e=5/\(p=.d .nilp\/p=.ptr 0 0)/\l.length<70368744177664)/\K (.ret (.d (.str l))) ⟨[.cells t [p,.sl 0 e rows]],[0],1⟩
 | _,_=>False
def ZfE:PC w0 nG 34 Zap:=VE (Zf Tryz.func34 kR rfl) fun args σ K h e w vs hS ha=>by
 unfold Zap at h
 split at h
 ·rename_i t p el rows
  obtain ⟨l,⟨rfl,rfl,rfl,hp,cu⟩,hK⟩:=h;obtain ⟨u,rfl,hu⟩:=ZgC ha;obtain ⟨cv,cz,bm,ek⟩:=hS.box 0 _ rfl;have dh:cv.size=2:=bm;obtain ⟨v0,v1,rfl⟩:∃v0 v1,cv=#[v0,v1]:=by
   obtain ⟨lst⟩:=cv
   match lst,dh with
   | [a,b],_=>exact ⟨a,b,rfl⟩
  have bi:=(ek 1 (.sl 0 5 (Zk l)) v1 rfl rfl).1
  cases hu with
  | ptr b off hb =>
  refine ⟨_,_,.string ⟨l.toArray⟩,hK,?_⟩;have fin:∀w',w.heap.size<=w'.heap.size->w'.os=w.os->w'.tape=w.tape->w'.output=w.output ->
    (∀b off u,w.cell? ⟨b,off,none⟩=some u->w'.cell? ⟨b,off,none⟩=some u) ->
    (∀b,b<w.heap.size->(∀q,e.M 0=some q->q.1≠b)->w'.heap[b]?=w.heap[b]?)->(∀v,Owned (GG w0 nG) e w 0 5 (Zk l) v->Owned (GG w0 nG) e w' 0 5 (Zk l) v)->(∀q,e.M 0=some q->∃cs ty fz,w'.heap[q.1]?=some (.cells cs ty fz)) ->
    VRel (GG w0 nG) e ⟨[.cells 97 [p,.sl 0 5 (Zk l)]],[0],1⟩ w' (.d (.str l)) (.string ⟨l.toArray⟩)/\SRel (GG w0 nG) e ⟨[.cells 97 [p,.sl 0 5 (Zk l)]],[0],1⟩ w'/\Later e ⟨[.cells 97 [p,.sl 0 5 (Zk l)]],[0],1⟩ w e ⟨[.cells 97 [p,.sl 0 5 (Zk l)]],[0],1⟩ w':=fun w' h1 h2 h3 h4 h5 h6 h7 h8 =>
   ⟨.mkstr,ZxA hp hS h1 h2 h3 h4 h5 h6 h7 h8⟩
  have grown:∀w',Grows w w'->_:=fun w' g=>fin w' g.size g.os g.tape g.output (fun b off u hu=>(g.cell (Vv hu)).trans hu) (fun b hb _=>g.old b hb) (fun v hv=>hv.grow g) (fun q hq=>by obtain ⟨_,_,cs,ty,fz,hh⟩:=hS.own 0 sM q hq;exact ⟨cs,ty,fz,(g.old _ (Tp.1 hh).1).trans hh⟩)
  cases bi with
  | sl _ _ _ _ hn hd ht =>
  rcases ht sM with ⟨rfl,bz,hM⟩ | ⟨sz,g1,g2,g3,g,off,cap,cs,ty,fz,rfl,g4,g5,g6,⟨g7,rfl,rfl,g8⟩,g9,hM⟩
  ·have hl:l=[]:=by simpa [Zk] using bz
   subst hl;refine (ZsO Tryz.lays169 Tryz.Builder_Extra_169 w.heap.size (e.β 0) v0 w cz).mono fun en w' ⟨h1,h2⟩=>?_
   exact ⟨h1,grown w' (ZFy h2)⟩
  have ki:sz=1:=by
   have:(Tryz.prog.info? 5).map (·.size)=some sz:=g1
   rw [Zzt] at this;cases this;rfl
  subst ki;rw [Y5] at g5 cz g9 hM hd
  by_cases hl:l=[]
  ·subst hl;refine (Zp5 Tryz.lays169 Tryz.Builder_Extra_169 w.heap.size (e.β 0) g cap v0 w oM cz).mono fun en w' ⟨h1,h2⟩=>?_
   exact ⟨h1,grown w' (ZFy h2)⟩
  have bc:∀j x,l[j]?=some x->w.cell? ⟨g,j,none⟩=some (.int .u8 x.toNat):=by
   exact mq34
  obtain ⟨fz',qq,hfa,hfb⟩:=ZnF w g l.length g6 g9.1 (fun o ho=>g9.2 o oM);refine (ZnA Tryz.lays169 Tryz.Builder_Extra_169 (e.β 0) g cap v0 cs fz l w hl cz g6 oM oM oM bc).mono fun en w' ⟨h1,h2⟩=>?_
  rw [h2];refine ⟨h1,fin _ ?_ ?_ ?_ ?_ ?_ ?_ ?_ ?_⟩
  ·unfold World.freeze;split <;> first | exact Tt _ | (simp only [Array.size_modify];exact Tt _)
  ·exact mq161
  ·exact mq161
  ·exact mq161
  ·exact mq120
  ·intro b hb hq
   exact VG w g l.length b fun h=>hq _ hM h.symm
  ·intro v hv
   exact hv.refreeze hM qq g6 hfa (by simpa [Y5] using hfb)
  intro q hq
  rw [hM] at hq;cases hq;exact ⟨_,_,_,qq⟩
 exact h.elim
end Go.PM.Lex
end

section
namespace Go.PM.Lex
open Go.Proofs
variable {w0:World} {nG:Nat}
def ZxC {n:Nat}:OKw w0 nG [(147,ZgY),(203,ZgX (YH ZE) Zkm exT wE n)] 202 (Zp6 203 ZE Zkm exT wE n):=by
 refine pwo Tryz.func202 fun args σ K h=>?_
 unfold Zp6 at h
 split at h
 ·rename_i r bt g t e rows tp
  obtain ⟨l,pl,xs,rfl,rfl,⟨rfl,rfl,rfl⟩,⟨bw,hz,hn⟩,hlen,h⟩:=h;have dt:(xs.map (ZE pl)).length=xs.length:=Td ..;have hsz:=Zp wE xs;refine pwv [(1,⟨[12],[0,1,2,3,10,11],fun vs σ=>∃i:Nat,vs=[.d (.int .i64 i)]/\σ=⟨[.cells 97 [.ptr 0 0,.sl 0 5 (Zk (l++Zg bt ((xs.take i).map exT)))],.cells tp [.ptr 0 0]],[0],1⟩/\i<=xs.length,mu1 xs.length⟩)] 2 true ?_;refine ⟨⟨0,rfl,(by simp only [Sg,TN,Zg,T1];rfl),oM⟩,?_⟩;intro vs σ hI
  obtain ⟨i,rfl,rfl,hi⟩:=hI;(conv=>whnf);refine ZFs (fun ab=>wN ?_) (fun ab=>?_)
  ·have ab:i<xs.length:=lzI dt ab;have hg:=Zs wE xs i ab;have eu:Zkm xs[i]=true:=Tq.1 bw _ (TC ab);have cn:=VM bt exT ab;have aj:=Zan bt exT xs (i+1);obtain ⟨eA,hA⟩:∃x,xs[i]=x:=⟨_,rfl⟩
   obtain ⟨a1,a2,a3,a4,a5⟩:=eA;rw [hA] at hg eu cn;have bi:(xs.map (ZE pl))[((i:Nat):Int).toNat]?=some (ZE pl (.mk a1 a2 a3 a4 a5)):=by simp [ab,hA]
   refine ⟨_,oM,bi,wN ?_⟩;refine ZFs (fun h0=>wN ?_) (fun h0=>?_)
   ·have h0:0<i:=by omega
    rw [Tf oM] at cn;rw [cn] at aj;simp only [Tb] at aj;refine wk _ bt ⟨rfl,rfl⟩ (wN ?_);refine ⟨l++Zg bt ((xs.take i).map exT)++bt,pl,(.mk a1 a2 a3 a4 a5),rfl,rfl,⟨rfl,rfl⟩,⟨eu,oM,oM⟩,by simp only [Tb];omega,wN ?_⟩;exact mq78
   obtain rfl:i=0:=by omega
   rw [Tk rfl] at cn;rw [cn] at aj;(conv=>whnf);refine ⟨l++Zg bt ((xs.take 0).map exT),pl,(.mk a1 a2 a3 a4 a5),rfl,rfl,⟨rfl,rfl⟩,⟨eu,oM,oM⟩,by simp only [Sg,TN,Zg,Tb,Tg];omega,wN ?_⟩;exact mq73
  exact mq185
 exact h.elim
def Zuu {n:Nat} (h:PC w0 nG 204 (ZsY n)):PC w0 nG 151 (ZsZ n) :=
 ZDj ⟨Zal,ZxC ⟨Zp7,ZAI ⟨h,trivial⟩,trivial⟩,trivial⟩
def cWE (hN:NumOK w0 nG) (hL:LexC w0 nG):∀n,PC w0 nG 204 (ZsY n)
 | 0=>ZAL ⟨ZsN,Zal,ZA (Zf Tryz.func204 kR rfl),ZA (Zf Tryz.func151 kR rfl),Zqa hN,Zqd hN,hL.quote,trivial⟩
 | n+1=>ZAL ⟨ZsN,Zal,ZB (sp:=ZsY) (cWE hN hL n),ZB (sp:=ZsZ) (Zuu (cWE hN hL n)),Zqa hN,Zqd hN,hL.quote,trivial⟩
def Zqi:Zo:=fun args σ K=>match args,σ with
 | [.ptr 0 0,.d (.int .i64 c)],⟨[.cells t [p,.sl 0 e rows]],[0],1⟩=>∃l:Bs,(rows=Zk l/\t=97/\e=5/\(p=.d .nilp\/p=.ptr 0 0)/\l.length<70368744177664) /\
   ((c=3\/c=151->K (.ret (.tuple [.d (.str []),.d (.int .i64 3)])) ⟨[.cells t [p,.sl 0 e rows]],[0],1⟩)/\(c≠3/\c≠151->K (.ret (.tuple [.d (.str l),.d (.int .i64 0)])) ⟨[.cells t [p,.sl 0 e rows]],[0],1⟩))
 | _,_=>False
def ZxD:Tbl:=[(34,Zap)]
def ZxE:PC w0 nG 35 Zqi:=by
 refine pwt (tbl:=ZxD) ⟨ZfE,trivial⟩ Tryz.func35 fun args σ K h=>?_
 unfold Zqi at h
 split at h
 ·rename_i c t p e rows
  obtain ⟨l,⟨rfl,rfl,rfl,hp,hlen⟩,ha,hb⟩:=h;refine pwu [] 1 true ?_;rcases hp with rfl | rfl
  all_goals
   conv=>whnf
   refine ZFs (fun c1=>wN ?_) (fun c1=>wN ?_)
   ·exact ha (.inl c1)
   refine ZFs (fun c2=>wN ?_) (fun c2=>wN ?_)
   ·exact ha (.inr c2)
   refine ⟨l,⟨rfl,rfl,rfl,iM,hlen⟩,?_⟩;(conv=>whnf);exact hb ⟨c1,c2⟩
 exact h.elim
def ZdN (txt:Bs) {α:Type}:Top α->Bs×Nat
 | .ok _ _=>(txt,0)
 | .err _ e=>if e=3\/e=151 then ([],3) else (txt,0)
def nmT (s:Bs):T0:=⟨1,s,0⟩
def sgT (s:Bs):T0:=⟨4,s,0⟩
def Zuv (sep:Bs):List Ts->Ts
 | []=>[]
 | x::l=>sgT sep::(x++Zuv sep l)
def ZxF (sep:Bs):List Ts->Ts
 | []=>[]
 | x::l=>x++Zuv sep l
def ZAM (want:Nat) (p:Nat×Ts):Ts:=if p.1<want then sgT [40]::(p.2++[sgT [41]]) else p.2
def opT (op:Nat):T0:=if 15<=op/\op<=19 then nmT (VK op) else sgT (VK op)
def ZEs (w1 w2:Nat) (mid:Ts):List (Nat×Ts)->Ts
 | []=>[]
 | [a]=>ZAM w1 a
 | a::b::_=>ZAM w1 a++(mid++ZAM w2 b)
def brK (fr fin:Bs) (ps:List Ts):Ts:=sgT fr::(ZxF [44] ps++[sgT fin])
def ZE6 (op:Nat) (text:Bs) (n:Int) (ps:List (Nat×Ts)):Ts :=
 if ZT op<5 then ZEs (ZT op) (ZT op+1) [opT op] ps
 else if ZT op=5 then sgT (VK op)::ZEs 5 5 [] ps
 else if VK op≠[] then nmT (VK op)::brK [40] [41] (ps.map Prod.snd)
 else if op=6 then brK [91] [93] (ps.map Prod.snd)
 else if op=7 then sgT [36]::nmT text::(if ps.length=0 then [] else brK [40] [41] (ps.map Prod.snd))
 else if op=3 then [⟨2,[],n⟩]
 else if op=4 then [⟨3,text,0⟩]
 else if op=5 then [nmT [110,105,108]]
 else if op=2 then [nmT [95]]
 else [nmT text]
mutual
def exK:Ex->Ts
 | .mk op text n args _=>ZE6 op text n (ZEt args)
def ZEt:List Ex->List (Nat×Ts)
 | []=>[]
 | e::l=>(ZT (opE e),exK e)::ZEt l
end
def ZCf (want:Nat) (e:Ex):Ts:=ZAM want (ZT (opE e),exK e)
def Lim {α:Type} (x:R α):Prop:=∃p,x=.err p 3\/x=.err p 151
def Rd {α β:Type} (er:α->β) (v:α) (r:Ts) (x:R α):Prop:=(∃v',er v'=er v/\x=.ok v' r)\/Lim x
def Lim.bind {α β:Type} {x:R α} {f:α->Ts->R β} (h:Lim x):Lim (x.bind f):=by
 obtain ⟨p,rfl | rfl⟩:=h
 ·exact ⟨p,.inl rfl⟩
 exact ⟨p,.inr rfl⟩
def Rd.bind {α β γ δ:Type} {er:α->β} {er2:γ->δ} {v:α} {u:γ} {r s:Ts} {x:R α} {f:α->Ts->R γ} (h:Rd er v r x) (hf:∀v',er v'=er v->Rd er2 u s (f v' r)):Rd er2 u s (x.bind f):=by
 rcases h with ⟨v',e,rfl⟩ | h
 ·exact hf v' e
 exact .inr h.bind
def Rd.ok {α β:Type} {er:α->β} {v v':α} {r:Ts} (h:er v'=er v):Rd er v r (.ok v' r):=.inl ⟨v',h,rfl⟩
def Rd.id {α:Type} {v:α} {r:Ts}:Rd (fun x:α=>x) v r (.ok v r):=.inl ⟨v,rfl,rfl⟩
def Rd.lim {α β:Type} {er:α->β} {v:α} {r:Ts} {x:R α} (h:Lim x):Rd er v r x:=.inr h
def Rd.binds {α γ δ:Type} {er2:γ->δ} {v:α} {u:γ} {r s:Ts} {x:R α} {f:α->Ts->R γ} (h:Rd (fun x:α=>x) v r x) (hf:Rd er2 u s (f v r)):Rd er2 u s (x.bind f):=h.bind fun v' e=>by cases (show v'=v from e);exact hf
structure Nx (r:Ts):Prop where
 par:isW r [[40]]=false
 bin:(Za2 r).1=0
def Zuw {l:List Ex} (h:l.length=2):∃a b,l=[a,b]:=by match l,h with | [a,b],_=>exact ⟨a,b,rfl⟩
def ZAN {l:List Ex} (h:l.length=1):∃a,l=[a]:=by match l,h with | [a],_=>exact ⟨a,rfl⟩
def Ln (e:Ex) (r:Ts) (sub:Nat->Ts->R Ex) (least:Nat) (x:R Ex):Prop:=(∃f e',r.length<f/\erE e'=erE e/\x=U8 sub least f e' r)\/Lim x
def ZxG {e:Ex} {r:Ts} {sub:Nat->Ts->R Ex} {least:Nat} {x:R Ex} (h:Ln e r sub least x) (hb:(Za2 r).1<least\/(Za2 r).1=0):Rd erE e r x:=by
 rcases h with ⟨f,e',h1,h2,rfl⟩ | h
 ·obtain ⟨f,rfl⟩:∃k,f=k+1:=⟨f - 1,oM⟩
  rw [U8,Tk hb];exact Rd.ok h2
 exact .lim h
structure ExR (e:Ex):Prop where
 sg:∀d r,isW r [[40]]=false->Rd erE e r (Xw d (ZCf 5 e++r))
 ln:∀d k w l r,w<=l->l<=5->6<=k+w->isW r [[40]]=false->(Za2 r).1<l+2->Ln e r (Jz (Xw d) (k - 1)) (w+1) (Jz (Xw d) k (w+1) (ZCf l e++r))
def ZAO (e:Ex):ZCf 0 e=exK e:=by rw [ZCf,ZAM,Tf sM]
def ExR.full {e:Ex} (h:ExR e) (d:Nat) {r:Ts} (hr:Nx r):Rd erE e r (Zad d (exK e++r)):=by
 have:=h.ln d 6 0 0 r oM oM oM hr.par (by have:=hr.bin;omega);rw [ZAO] at this;exact ZxG this (.inr hr.bin)
def ZxH {op:Nat} {rel:Bs} {args:List Ex} {body:List Li} {a:Nat} (h:YI (.mk op rel args body a)=true):YY op rel args.length body.length=true/\(∀x∈args,Yf x=true)/\∀x∈body,YI x=true:=by
 simp only [YI,Zw,Xl,Tn] at h;exact ⟨h.1,Tq.1 h.2.1,Tq.1 h.2.2⟩
def ZxI {op:Nat} {rel:Bs} {na nb:Nat} (h:YY op rel na nb=true):((op=1\/op=2)/\Xk rel=true/\nb=0)\/(3<=op/\op<=8/\rel=[]/\na=2/\nb=0)\/(op=9/\rel=[]/\na=1/\0<nb)\/(9<op/\op<=12/\rel=[]/\na=2/\0<nb):=by
 unfold YY at h
 split at h
 ·rename_i c
  simp only [Tn,T4,decide_eq_false_iff_not] at h;exact .inl ⟨c,h.1,oM⟩
 split at h
 ·rename_i c
  simp only [Tn,T4,decide_eq_false_iff_not,TQ] at h;exact .inr (.inl ⟨c.1,c.2,h.1,h.2.1,oM⟩)
 split at h
 ·rename_i c
  simp only [Tn,TQ] at h;exact .inr (.inr (.inl ⟨c,h.1,h.2.1,h.2.2⟩))
 split at h
 ·rename_i c
  simp only [Tn,TQ] at h;exact .inr (.inr (.inr ⟨c.1,c.2,h.1,h.2.1,h.2.2⟩))
 cases h
end Go.PM.Lex
end
