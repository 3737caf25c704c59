/- A part of the proof: plain logic, contracts and laws over the given program. -/
import Derived.Test.YtbdleclcgopcdaaGreatDoorMore
import Derived.Lib.AppendIntMem
import Derived.WalkKit
import Derived.Test.YtbdleclcgopcdaaGreatDoorB07
set_option linter.unusedVariables false
set_option linter.unusedSimpArgs false
set_option linter.all false
set_option maxRecDepth 100000
set_option maxHeartbeats 16000000
noncomputable section
section
namespace Go.PM.Lex
open Go.Proofs
variable {w0:World} {nG:Nat}
mutual
def wE:Ex->Nat
 | .mk _ t _ args _=>1+t.length+wEs args
def wEs:List Ex->Nat
 | []=>0
 | x::l=>1+wE x+wEs l
end
def Zft:∀(l:List Ex),wEs l=szS wE l
 | []=>by rw [wEs,szS]
 | x::l=>by rw [wEs,szS,Zft l]
mutual
def wL:Li->Nat
 | .mk _ r a b _=>1+r.length+szS wE a+wLs b
def wLs:List Li->Nat
 | []=>0
 | x::l=>1+wL x+wLs l
end
def ZdE:∀(l:List Li),wLs l=szS wL l
 | []=>by rw [wLs,szS]
 | x::l=>by rw [wLs,szS,ZdE l]
def wRu (r:Ru):Nat:=1+r.head.length+szS wE r.args+szS wL r.body
def wFi (f:Fi):Nat:=1+f.name.length+f.typ.length
def wCa (c:Ca):Nat:=1+c.name.length+szS wFi c.fields
def wTy (t:Ty):Nat:=1+t.name.length+t.base.length+szS wFi t.fields+szS wCa t.cases
def wRe (d:Re):Nat:=1+d.name.length+szS wFi d.fields
def wBs (s:Bs):Nat:=1+s.length
def wIn (i:Ini):Nat:=1+i.name.length+i.comp.length+szS wBs i.types
def wOv (o:Ov):Nat:=1+o.rel.length
mutual
def wUn:Un->Nat
 | .mk a1 a2 a3 a4 a5 a6=>1+szS wTy a1+szS wRe a2+szS wRu a3+ZwS a4+szS wIn a5+szS wOv a6
def wCo:Co->Nat
 | .mk n p b t u _=>1+n.length+szS wBs p+b.length+szS wBs t+wUn u
def ZwS:List Co->Nat
 | []=>0
 | x::l=>1+wCo x+ZwS l
end
def ZgP:∀(l:List Co),ZwS l=szS wCo l
 | []=>by rw [ZwS,szS]
 | x::l=>by rw [ZwS,szS,ZgP l]
abbrev YF {α:Type} (enc:Pl->α->List D):Pl->α->PV:=fun pl x=>.agg ((enc pl x).map .d)
abbrev Zjt:Pl->Bs->PV:=fun _ s=>.d (.str s)
def YT {α:Type} (val:Pl->α->PV) (p:α->Bool) (w:α->Nat) (n:Nat):Zn:=fun args σ K=>match args,σ with
 | [v],⟨[],[],0⟩=>∃pl x,v=val pl x/\(w x<=n/\n<=1073741824)/\∀b,p x=b->K (.ret (.d (.bool b))) ⟨[],[],0⟩
 | _,_=>False
def UY {α:Type} (h0:FuncId) (val:Pl->α->PV) (p:α->Bool) (w:α->Nat) (n:Nat):Zn:=fun args σ K=>match args,σ with
 | [v,.ptr 0 0],⟨[.cells t [.func h' [] []]],[],0⟩=>∃pl x,v=val pl x/\(h'=h0/\w x<=n/\n<=1073741824)/\∀b,(!p x)=b->K (.ret (.d (.bool b))) ⟨[.cells t [.func h' [] []]],[],0⟩
 | _,_=>False
def UZ {α:Type} (g0 h0:FuncId) (enc:Pl->α->List D) (p:α->Bool) (w:α->Nat) (n:Nat):Zn:=fun args σ K=>match args,σ with
 | [.d (.sl r),.func g' [] [.ptr 0 0]],⟨[.cells t [.func h' [] []]],[],0⟩=>∃pl l,r=l.map (enc pl)/\(g'=g0/\h'=h0/\szS w l<=n/\n<=1073741824)/\∀r:Int,(r<0↔l.all p=true)->K (.ret (.d (.int .i64 r))) ⟨[.cells t [.func h' [] []]],[],0⟩
 | _,_=>False
def U0 {α:Type} (g0 h0:FuncId) (enc:Pl->α->List D) (p:α->Bool) (w:α->Nat) (n:Nat):Zn:=fun args σ K=>match args,σ with
 | [.d (.sl r),.func g' [] [.ptr 0 0]],⟨[.cells t [.func h' [] []]],[],0⟩=>∃pl l,r=l.map (enc pl)/\(g'=g0/\h'=h0/\szS w l<=n/\n<=1073741824)/\∀b,(!l.all p)=b->K (.ret (.d (.bool b))) ⟨[.cells t [.func h' [] []]],[],0⟩
 | _,_=>False
def Xv {α:Type} (h0:FuncId) (enc:Pl->α->List D) (p:α->Bool) (w:α->Nat) (n:Nat):Zn:=fun args σ K=>match args,σ with
 | [.d (.sl r),.func h' [] []],⟨[],[],0⟩=>∃pl l,r=l.map (enc pl)/\(h'=h0/\szS w l<=n/\n<=1073741824)/\∀b,l.all p=b->K (.ret (.d (.bool b))) ⟨[],[],0⟩
 | _,_=>False
def Xi {α:Type} (p:α->Bool) {l:List α} {i:Nat} (h:i<l.length):(l.drop i).all p=(p l[i] && (l.drop (i+1)).all p):=by rw [Tm h,List.all_cons]
def Wx {α:Type} (p:α->Bool) {l:List α} {i:Nat} (h:l.length<=i):(l.drop i).all p=true:=by rw [Tq h];rfl
def ZAI {n:Nat}:OKw w0 nG [(174,YT (YF ZF) Yi wE n)] 227 (UY 174 (YF ZF) Yi wE n):=by
 refine pwo Tryz.func227 fun args σ K h=>?_
 exact mq86
def ZAK {n:Nat}:OKw w0 nG [(227,UY 174 (YF ZF) Yi wE n)] 43 (UZ 227 174 ZF Yi wE n):=by
 refine pwo Tryz.func43 fun args σ K h=>?_
 unfold UZ at h
 split at h
 ·obtain ⟨pl,l,rfl,⟨rfl,rfl,hz,hn⟩,h⟩:=h
  rename_i t
  have hlen:(l.map (ZF pl)).length=l.length:=Td ..;have hsz:=Zq wE l;refine pwv [(2,⟨[8],[0,1,7],fun vs σ=>∃i:Nat,vs=[.d (.int .i64 i)]/\σ=⟨[.cells t [.func 174 [] []]],[],0⟩/\i<=l.length/\l.all Yi=(l.drop i).all Yi,mu1 l.length⟩)] 1 false ?_;refine ⟨⟨0,rfl,rfl,oM,rfl⟩,?_⟩;intro vs σ hI
  obtain ⟨i,rfl,rfl,hi,hs⟩:=hI;(conv=>whnf);refine ZFU (fun ab=>wN ?_) (fun ab=>wN ?_)
  ·have ab:i<l.length:=lzI hlen ab;have hg:=Zz wE l i ab;rw [Xi _ ab] at hs;obtain ⟨eA,hA⟩:∃e,l[i]=e:=⟨_,rfl⟩
   obtain ⟨a1,a2,a3,a4,a5⟩:=eA;have ca:(l.map (ZF pl))[((i:Nat):Int).toNat]?=some (ZF pl (.mk a1 a2 a3 a4 a5)):=by simp [ab,hA]
   rw [hA] at hs hg;refine ⟨_,oM,ca,wN ?_⟩;refine ⟨pl,(.mk a1 a2 a3 a4 a5),rfl,⟨rfl,oM,oM⟩,fun b hb=>?_⟩
   cases b with
   | true =>
    have hp:Yi (.mk a1 a2 a3 a4 a5)=false:=by simpa using hb
    exact mq42
   | false =>
   have hp:Yi (.mk a1 a2 a3 a4 a5)=true:=by simpa using hb
   exact mq23
  exact mq28
 exact h.elim
def ZAM {n:Nat}:OKw w0 nG [(43,UZ 227 174 ZF Yi wE n)] 25 (U0 227 174 ZF Yi wE n):=by
 refine pwo Tryz.func25 fun args σ K h=>?_
 unfold U0 at h
 split at h
 ·obtain ⟨pl,l,rfl,⟨rfl,rfl,hz,hn⟩,h⟩:=h;refine pwv [] 1 false ?_;refine ⟨pl,l,rfl,⟨rfl,rfl,hz,hn⟩,fun r hr=>wN ?_⟩;refine h _ ?_
  cases hb:l.all Yi with
  | true=>rw [hb] at hr;have:=hr.2 rfl;simp;omega
  | false=>rw [hb] at hr;have:¬r<0:=fun g=>(by have:=hr.1 g;cases this);simp;omega
 exact h.elim
def ZAO {n:Nat}:OKw w0 nG [(25,U0 227 174 ZF Yi wE n)] 173 (Xv 174 ZF Yi wE n):=by
 refine pwo Tryz.func173 fun args σ K h=>?_
 exact mq7
def ZCR {n:Nat} (h:PC w0 nG 174 (YT (YF ZF) Yi wE n)):PC w0 nG 173 (Xv 174 ZF Yi wE n) :=
 ZAO ⟨ZAM ⟨ZAK ⟨ZAI ⟨h,trivial⟩,trivial⟩,trivial⟩,trivial⟩
def ZAQ {n:Nat}:OKw w0 nG [(176,YT (YF YN) YG wL n)] 231 (UY 176 (YF YN) YG wL n):=by
 refine pwo Tryz.func231 fun args σ K h=>?_
 exact mq86
def ZAS {n:Nat}:OKw w0 nG [(231,UY 176 (YF YN) YG wL n)] 267 (UZ 231 176 YN YG wL n):=by
 refine pwo Tryz.func267 fun args σ K h=>?_
 unfold UZ at h
 split at h
 ·obtain ⟨pl,l,rfl,⟨rfl,rfl,hz,hn⟩,h⟩:=h
  rename_i t
  have hlen:(l.map (YN pl)).length=l.length:=Td ..;have hsz:=Zq wL l;refine pwv [(2,⟨[8],[0,1,7],fun vs σ=>∃i:Nat,vs=[.d (.int .i64 i)]/\σ=⟨[.cells t [.func 176 [] []]],[],0⟩/\i<=l.length/\l.all YG=(l.drop i).all YG,mu1 l.length⟩)] 1 false ?_;refine ⟨⟨0,rfl,rfl,oM,rfl⟩,?_⟩;intro vs σ hI
  obtain ⟨i,rfl,rfl,hi,hs⟩:=hI;(conv=>whnf);refine ZFU (fun ab=>wN ?_) (fun ab=>wN ?_)
  ·have ab:i<l.length:=lzI hlen ab;have hg:=Zz wL l i ab;rw [Xi _ ab] at hs;obtain ⟨eA,hA⟩:∃e,l[i]=e:=⟨_,rfl⟩
   obtain ⟨a1,a2,a3,a4,a5⟩:=eA;have ca:(l.map (YN pl))[((i:Nat):Int).toNat]?=some (YN pl (.mk a1 a2 a3 a4 a5)):=by simp [ab,hA]
   rw [hA] at hs hg;refine ⟨_,oM,ca,wN ?_⟩;refine ⟨pl,(.mk a1 a2 a3 a4 a5),rfl,⟨rfl,oM,oM⟩,fun b hb=>?_⟩
   cases b with
   | true =>
    have hp:YG (.mk a1 a2 a3 a4 a5)=false:=by simpa using hb
    exact mq42
   | false =>
   have hp:YG (.mk a1 a2 a3 a4 a5)=true:=by simpa using hb
   exact mq23
  exact mq28
 exact h.elim
def ZAU {n:Nat}:OKw w0 nG [(267,UZ 231 176 YN YG wL n)] 230 (U0 231 176 YN YG wL n):=by
 refine pwo Tryz.func230 fun args σ K h=>?_
 unfold U0 at h
 split at h
 ·obtain ⟨pl,l,rfl,⟨rfl,rfl,hz,hn⟩,h⟩:=h;refine pwv [] 1 false ?_;refine ⟨pl,l,rfl,⟨rfl,rfl,hz,hn⟩,fun r hr=>wN ?_⟩;refine h _ ?_
  cases hb:l.all YG with
  | true=>rw [hb] at hr;have:=hr.2 rfl;simp;omega
  | false=>rw [hb] at hr;have:¬r<0:=fun g=>(by have:=hr.1 g;cases this);simp;omega
 exact h.elim
def ZAW {n:Nat}:OKw w0 nG [(230,U0 231 176 YN YG wL n)] 175 (Xv 176 YN YG wL n):=by
 refine pwo Tryz.func175 fun args σ K h=>?_
 exact mq7
def ZEP {n:Nat} (h:PC w0 nG 176 (YT (YF YN) YG wL n)):PC w0 nG 175 (Xv 176 YN YG wL n) :=
 ZAW ⟨ZAU ⟨ZAS ⟨ZAQ ⟨h,trivial⟩,trivial⟩,trivial⟩,trivial⟩
def ZwU {n:Nat}:OKw w0 nG [(119,YT (YF ZW) XL wRu n)] 172 (UY 119 (YF ZW) XL wRu n):=by
 refine pwo Tryz.func172 fun args σ K h=>?_
 exact mq90
def ZwW {n:Nat}:OKw w0 nG [(172,UY 119 (YF ZW) XL wRu n)] 226 (UZ 172 119 ZW XL wRu n):=by
 refine pwo Tryz.func226 fun args σ K h=>?_
 unfold UZ at h
 split at h
 ·obtain ⟨pl,l,rfl,⟨rfl,rfl,hz,hn⟩,h⟩:=h
  rename_i t
  have hlen:(l.map (ZW pl)).length=l.length:=Td ..;have hsz:=Zq wRu l;refine pwv [(2,⟨[8],[0,1,7],fun vs σ=>∃i:Nat,vs=[.d (.int .i64 i)]/\σ=⟨[.cells t [.func 119 [] []]],[],0⟩/\i<=l.length/\l.all XL=(l.drop i).all XL,mu1 l.length⟩)] 1 false ?_;refine ⟨⟨0,rfl,rfl,oM,rfl⟩,?_⟩;intro vs σ hI
  obtain ⟨i,rfl,rfl,hi,hs⟩:=hI;(conv=>whnf);refine ZFU (fun ab=>wN ?_) (fun ab=>wN ?_)
  ·have ab:i<l.length:=lzI hlen ab;have hg:=Zz wRu l i ab;rw [Xi _ ab] at hs;obtain ⟨eA,hA⟩:∃e,l[i]=e:=⟨_,rfl⟩
   obtain ⟨a1,a2,a3,a4⟩:=eA;have ca:(l.map (ZW pl))[((i:Nat):Int).toNat]?=some (ZW pl ⟨a1,a2,a3,a4⟩):=by simp [ab,hA]
   rw [hA] at hs hg;refine ⟨_,oM,ca,wN ?_⟩;refine ⟨pl,⟨a1,a2,a3,a4⟩,rfl,⟨rfl,oM,oM⟩,fun b hb=>?_⟩
   cases b with
   | true =>
    have hp:XL ⟨a1,a2,a3,a4⟩=false:=by simpa using hb
    exact mq42
   | false =>
   have hp:XL ⟨a1,a2,a3,a4⟩=true:=by simpa using hb
   exact mq23
  exact mq28
 exact h.elim
def ZwY {n:Nat}:OKw w0 nG [(226,UZ 172 119 ZW XL wRu n)] 171 (U0 172 119 ZW XL wRu n):=by
 refine pwo Tryz.func171 fun args σ K h=>?_
 unfold U0 at h
 split at h
 ·obtain ⟨pl,l,rfl,⟨rfl,rfl,hz,hn⟩,h⟩:=h;refine pwv [] 1 false ?_;refine ⟨pl,l,rfl,⟨rfl,rfl,hz,hn⟩,fun r hr=>wN ?_⟩;refine h _ ?_
  cases hb:l.all XL with
  | true=>rw [hb] at hr;have:=hr.2 rfl;simp;omega
  | false=>rw [hb] at hr;have:¬r<0:=fun g=>(by have:=hr.1 g;cases this);simp;omega
 exact h.elim
def Zw0 {n:Nat}:OKw w0 nG [(171,U0 172 119 ZW XL wRu n)] 118 (Xv 119 ZW XL wRu n):=by
 refine pwo Tryz.func118 fun args σ K h=>?_
 exact mq7
def ZAX {n:Nat} (h:PC w0 nG 119 (YT (YF ZW) XL wRu n)):PC w0 nG 118 (Xv 119 ZW XL wRu n) :=
 Zw0 ⟨ZwY ⟨ZwW ⟨ZwU ⟨h,trivial⟩,trivial⟩,trivial⟩,trivial⟩
def Zw2 {n:Nat}:OKw w0 nG [(117,YT (YF (fun _=>Zo)) YO wFi n)] 170 (UY 117 (YF (fun _=>Zo)) YO wFi n):=by
 refine pwo Tryz.func170 fun args σ K h=>?_
 exact mq52
def Zw4 {n:Nat}:OKw w0 nG [(170,UY 117 (YF (fun _=>Zo)) YO wFi n)] 205 (UZ 170 117 (fun _=>Zo) YO wFi n):=by
 refine pwo Tryz.func205 fun args σ K h=>?_
 unfold UZ at h
 split at h
 ·obtain ⟨pl,l,rfl,⟨rfl,rfl,hz,hn⟩,h⟩:=h
  rename_i t
  have hlen:(l.map ((fun _=>Zo) pl)).length=l.length:=Td ..;have hsz:=Zq wFi l;refine pwv [(2,⟨[8],[0,1,7],fun vs σ=>∃i:Nat,vs=[.d (.int .i64 i)]/\σ=⟨[.cells t [.func 117 [] []]],[],0⟩/\i<=l.length/\l.all YO=(l.drop i).all YO,mu1 l.length⟩)] 1 false ?_;refine ⟨⟨0,rfl,rfl,oM,rfl⟩,?_⟩;intro vs σ hI
  obtain ⟨i,rfl,rfl,hi,hs⟩:=hI;(conv=>whnf);refine ZFU (fun ab=>wN ?_) (fun ab=>wN ?_)
  ·have ab:i<l.length:=lzI hlen ab;have hg:=Zz wFi l i ab;rw [Xi _ ab] at hs;obtain ⟨eA,hA⟩:∃e,l[i]=e:=⟨_,rfl⟩
   obtain ⟨a1,a2⟩:=eA;have ca:(l.map ((fun _=>Zo) pl))[((i:Nat):Int).toNat]?=some ((fun _=>Zo) pl ⟨a1,a2⟩):=by simp [ab,hA]
   rw [hA] at hs hg;refine ⟨_,oM,ca,wN ?_⟩;refine ⟨pl,⟨a1,a2⟩,rfl,⟨rfl,oM,oM⟩,fun b hb=>?_⟩
   cases b with
   | true =>
    have hp:YO ⟨a1,a2⟩=false:=by simpa using hb
    exact mq42
   | false =>
   have hp:YO ⟨a1,a2⟩=true:=by simpa using hb
   exact mq23
  exact mq28
 exact h.elim
def Zw6 {n:Nat}:OKw w0 nG [(205,UZ 170 117 (fun _=>Zo) YO wFi n)] 137 (U0 170 117 (fun _=>Zo) YO wFi n):=by
 refine pwo Tryz.func137 fun args σ K h=>?_
 unfold U0 at h
 split at h
 ·obtain ⟨pl,l,rfl,⟨rfl,rfl,hz,hn⟩,h⟩:=h;refine pwv [] 1 false ?_;refine ⟨pl,l,rfl,⟨rfl,rfl,hz,hn⟩,fun r hr=>wN ?_⟩;refine h _ ?_
  cases hb:l.all YO with
  | true=>rw [hb] at hr;have:=hr.2 rfl;simp;omega
  | false=>rw [hb] at hr;have:¬r<0:=fun g=>(by have:=hr.1 g;cases this);simp;omega
 exact h.elim
def Zw8 {n:Nat}:OKw w0 nG [(137,U0 170 117 (fun _=>Zo) YO wFi n)] 116 (Xv 117 (fun _=>Zo) YO wFi n):=by
 refine pwo Tryz.func116 fun args σ K h=>?_
 exact mq7
def ZDI {n:Nat} (h:PC w0 nG 117 (YT (YF (fun _=>Zo)) YO wFi n)):PC w0 nG 116 (Xv 117 (fun _=>Zo) YO wFi n) :=
 Zw8 ⟨Zw6 ⟨Zw4 ⟨Zw2 ⟨h,trivial⟩,trivial⟩,trivial⟩,trivial⟩
def Zxa {n:Nat}:OKw w0 nG [(165,YT (YF (fun _=>ZB)) Xm wCa n)] 220 (UY 165 (YF (fun _=>ZB)) Xm wCa n):=by
 refine pwo Tryz.func220 fun args σ K h=>?_
 exact mq52
def Zxc {n:Nat}:OKw w0 nG [(220,UY 165 (YF (fun _=>ZB)) Xm wCa n)] 136 (UZ 220 165 (fun _=>ZB) Xm wCa n):=by
 refine pwo Tryz.func136 fun args σ K h=>?_
 unfold UZ at h
 split at h
 ·obtain ⟨pl,l,rfl,⟨rfl,rfl,hz,hn⟩,h⟩:=h
  rename_i t
  have hlen:(l.map ((fun _=>ZB) pl)).length=l.length:=Td ..;have hsz:=Zq wCa l;refine pwv [(2,⟨[8],[0,1,7],fun vs σ=>∃i:Nat,vs=[.d (.int .i64 i)]/\σ=⟨[.cells t [.func 165 [] []]],[],0⟩/\i<=l.length/\l.all Xm=(l.drop i).all Xm,mu1 l.length⟩)] 1 false ?_;refine ⟨⟨0,rfl,rfl,oM,rfl⟩,?_⟩;intro vs σ hI
  obtain ⟨i,rfl,rfl,hi,hs⟩:=hI;(conv=>whnf);refine ZFU (fun ab=>wN ?_) (fun ab=>wN ?_)
  ·have ab:i<l.length:=lzI hlen ab;have hg:=Zz wCa l i ab;rw [Xi _ ab] at hs;obtain ⟨eA,hA⟩:∃e,l[i]=e:=⟨_,rfl⟩
   obtain ⟨a1,a2⟩:=eA;have ca:(l.map ((fun _=>ZB) pl))[((i:Nat):Int).toNat]?=some ((fun _=>ZB) pl ⟨a1,a2⟩):=by simp [ab,hA]
   rw [hA] at hs hg;refine ⟨_,oM,ca,wN ?_⟩;refine ⟨pl,⟨a1,a2⟩,rfl,⟨rfl,oM,oM⟩,fun b hb=>?_⟩
   cases b with
   | true =>
    have hp:Xm ⟨a1,a2⟩=false:=by simpa using hb
    exact mq42
   | false =>
   have hp:Xm ⟨a1,a2⟩=true:=by simpa using hb
   exact mq23
  exact mq28
 exact h.elim
def Zxe {n:Nat}:OKw w0 nG [(136,UZ 220 165 (fun _=>ZB) Xm wCa n)] 82 (U0 220 165 (fun _=>ZB) Xm wCa n):=by
 refine pwo Tryz.func82 fun args σ K h=>?_
 unfold U0 at h
 split at h
 ·obtain ⟨pl,l,rfl,⟨rfl,rfl,hz,hn⟩,h⟩:=h;refine pwv [] 1 false ?_;refine ⟨pl,l,rfl,⟨rfl,rfl,hz,hn⟩,fun r hr=>wN ?_⟩;refine h _ ?_
  cases hb:l.all Xm with
  | true=>rw [hb] at hr;have:=hr.2 rfl;simp;omega
  | false=>rw [hb] at hr;have:¬r<0:=fun g=>(by have:=hr.1 g;cases this);simp;omega
 exact h.elim
def Zxg {n:Nat}:OKw w0 nG [(82,U0 220 165 (fun _=>ZB) Xm wCa n)] 164 (Xv 165 (fun _=>ZB) Xm wCa n):=by
 refine pwo Tryz.func164 fun args σ K h=>?_
 exact mq7
def ZDJ {n:Nat} (h:PC w0 nG 165 (YT (YF (fun _=>ZB)) Xm wCa n)):PC w0 nG 164 (Xv 165 (fun _=>ZB) Xm wCa n) :=
 Zxg ⟨Zxe ⟨Zxc ⟨Zxa ⟨h,trivial⟩,trivial⟩,trivial⟩,trivial⟩
def Zxi {n:Nat}:OKw w0 nG [(112,YT (YF Zw) Yo wTy n)] 163 (UY 112 (YF Zw) Yo wTy n):=by
 refine pwo Tryz.func163 fun args σ K h=>?_
 exact mq83
def Zxk {n:Nat}:OKw w0 nG [(163,UY 112 (YF Zw) Yo wTy n)] 219 (UZ 163 112 Zw Yo wTy n):=by
 refine pwo Tryz.func219 fun args σ K h=>?_
 unfold UZ at h
 split at h
 ·obtain ⟨pl,l,rfl,⟨rfl,rfl,hz,hn⟩,h⟩:=h
  rename_i t
  have hlen:(l.map (Zw pl)).length=l.length:=Td ..;have hsz:=Zq wTy l;refine pwv [(2,⟨[8],[0,1,7],fun vs σ=>∃i:Nat,vs=[.d (.int .i64 i)]/\σ=⟨[.cells t [.func 112 [] []]],[],0⟩/\i<=l.length/\l.all Yo=(l.drop i).all Yo,mu1 l.length⟩)] 1 false ?_;refine ⟨⟨0,rfl,rfl,oM,rfl⟩,?_⟩;intro vs σ hI
  obtain ⟨i,rfl,rfl,hi,hs⟩:=hI;(conv=>whnf);refine ZFU (fun ab=>wN ?_) (fun ab=>wN ?_)
  ·have ab:i<l.length:=lzI hlen ab;have hg:=Zz wTy l i ab;rw [Xi _ ab] at hs;obtain ⟨eA,hA⟩:∃e,l[i]=e:=⟨_,rfl⟩
   obtain ⟨a1,a2,a3,a4,a5,a6⟩:=eA;have ca:(l.map (Zw pl))[((i:Nat):Int).toNat]?=some (Zw pl ⟨a1,a2,a3,a4,a5,a6⟩):=by simp [ab,hA]
   rw [hA] at hs hg;refine ⟨_,oM,ca,wN ?_⟩;refine ⟨pl,⟨a1,a2,a3,a4,a5,a6⟩,rfl,⟨rfl,oM,oM⟩,fun b hb=>?_⟩
   cases b with
   | true =>
    have hp:Yo ⟨a1,a2,a3,a4,a5,a6⟩=false:=by simpa using hb
    exact mq42
   | false =>
   have hp:Yo ⟨a1,a2,a3,a4,a5,a6⟩=true:=by simpa using hb
   exact mq23
  exact mq28
 exact h.elim
def Zxm {n:Nat}:OKw w0 nG [(219,UZ 163 112 Zw Yo wTy n)] 162 (U0 163 112 Zw Yo wTy n):=by
 refine pwo Tryz.func162 fun args σ K h=>?_
 unfold U0 at h
 split at h
 ·obtain ⟨pl,l,rfl,⟨rfl,rfl,hz,hn⟩,h⟩:=h;refine pwv [] 1 false ?_;refine ⟨pl,l,rfl,⟨rfl,rfl,hz,hn⟩,fun r hr=>wN ?_⟩;refine h _ ?_
  cases hb:l.all Yo with
  | true=>rw [hb] at hr;have:=hr.2 rfl;simp;omega
  | false=>rw [hb] at hr;have:¬r<0:=fun g=>(by have:=hr.1 g;cases this);simp;omega
 exact h.elim
def Zxo {n:Nat}:OKw w0 nG [(162,U0 163 112 Zw Yo wTy n)] 111 (Xv 112 Zw Yo wTy n):=by
 refine pwo Tryz.func111 fun args σ K h=>?_
 exact mq7
def ZAY {n:Nat} (h:PC w0 nG 112 (YT (YF Zw) Yo wTy n)):PC w0 nG 111 (Xv 112 Zw Yo wTy n) :=
 Zxo ⟨Zxm ⟨Zxk ⟨Zxi ⟨h,trivial⟩,trivial⟩,trivial⟩,trivial⟩
def Zxq {n:Nat}:OKw w0 nG [(114,YT (YF ZQ) X9 wRe n)] 167 (UY 114 (YF ZQ) X9 wRe n):=by
 refine pwo Tryz.func167 fun args σ K h=>?_
 exact mq83
def Zxs {n:Nat}:OKw w0 nG [(167,UY 114 (YF ZQ) X9 wRe n)] 221 (UZ 167 114 ZQ X9 wRe n):=by
 refine pwo Tryz.func221 fun args σ K h=>?_
 unfold UZ at h
 split at h
 ·obtain ⟨pl,l,rfl,⟨rfl,rfl,hz,hn⟩,h⟩:=h
  rename_i t
  have hlen:(l.map (ZQ pl)).length=l.length:=Td ..;have hsz:=Zq wRe l;refine pwv [(2,⟨[8],[0,1,7],fun vs σ=>∃i:Nat,vs=[.d (.int .i64 i)]/\σ=⟨[.cells t [.func 114 [] []]],[],0⟩/\i<=l.length/\l.all X9=(l.drop i).all X9,mu1 l.length⟩)] 1 false ?_;refine ⟨⟨0,rfl,rfl,oM,rfl⟩,?_⟩;intro vs σ hI
  obtain ⟨i,rfl,rfl,hi,hs⟩:=hI;(conv=>whnf);refine ZFU (fun ab=>wN ?_) (fun ab=>wN ?_)
  ·have ab:i<l.length:=lzI hlen ab;have hg:=Zz wRe l i ab;rw [Xi _ ab] at hs;obtain ⟨eA,hA⟩:∃e,l[i]=e:=⟨_,rfl⟩
   obtain ⟨a1,a2,a3,a4,a5,a6⟩:=eA;have ca:(l.map (ZQ pl))[((i:Nat):Int).toNat]?=some (ZQ pl ⟨a1,a2,a3,a4,a5,a6⟩):=by simp [ab,hA]
   rw [hA] at hs hg;refine ⟨_,oM,ca,wN ?_⟩;refine ⟨pl,⟨a1,a2,a3,a4,a5,a6⟩,rfl,⟨rfl,oM,oM⟩,fun b hb=>?_⟩
   cases b with
   | true =>
    have hp:X9 ⟨a1,a2,a3,a4,a5,a6⟩=false:=by simpa using hb
    exact mq42
   | false =>
   have hp:X9 ⟨a1,a2,a3,a4,a5,a6⟩=true:=by simpa using hb
   exact mq23
  exact mq28
 exact h.elim
def Zxu {n:Nat}:OKw w0 nG [(221,UZ 167 114 ZQ X9 wRe n)] 166 (U0 167 114 ZQ X9 wRe n):=by
 refine pwo Tryz.func166 fun args σ K h=>?_
 unfold U0 at h
 split at h
 ·obtain ⟨pl,l,rfl,⟨rfl,rfl,hz,hn⟩,h⟩:=h;refine pwv [] 1 false ?_;refine ⟨pl,l,rfl,⟨rfl,rfl,hz,hn⟩,fun r hr=>wN ?_⟩;refine h _ ?_
  cases hb:l.all X9 with
  | true=>rw [hb] at hr;have:=hr.2 rfl;simp;omega
  | false=>rw [hb] at hr;have:¬r<0:=fun g=>(by have:=hr.1 g;cases this);simp;omega
 exact h.elim
def Zxw {n:Nat}:OKw w0 nG [(166,U0 167 114 ZQ X9 wRe n)] 113 (Xv 114 ZQ X9 wRe n):=by
 refine pwo Tryz.func113 fun args σ K h=>?_
 exact mq7
def ZAZ {n:Nat} (h:PC w0 nG 114 (YT (YF ZQ) X9 wRe n)):PC w0 nG 113 (Xv 114 ZQ X9 wRe n) :=
 Zxw ⟨Zxu ⟨Zxs ⟨Zxq ⟨h,trivial⟩,trivial⟩,trivial⟩,trivial⟩
def Zxy {n:Nat}:OKw w0 nG [(121,YT (YF XK) Yj wCo n)] 178 (UY 121 (YF XK) Yj wCo n):=by
 refine pwo Tryz.func178 fun args σ K h=>?_
 unfold UY at h
 split at h
 ·obtain ⟨pl,⟨a1,a2,a3,a4,⟨u1,u2,u3,u4,u5,u6⟩,a6⟩,rfl,⟨rfl,hz,hn⟩,h⟩:=h;refine pwv [] 1 false ?_;refine ⟨pl,(.mk a1 a2 a3 a4 (.mk u1 u2 u3 u4 u5 u6) a6),rfl,⟨hz,hn⟩,fun b hb=>wN ?_⟩;exact h _ (by rw [hb])
 exact h.elim
def ZxA {n:Nat}:OKw w0 nG [(178,UY 121 (YF XK) Yj wCo n)] 232 (UZ 178 121 XK Yj wCo n):=by
 refine pwo Tryz.func232 fun args σ K h=>?_
 unfold UZ at h
 split at h
 ·obtain ⟨pl,l,rfl,⟨rfl,rfl,hz,hn⟩,h⟩:=h
  rename_i t
  have hlen:(l.map (XK pl)).length=l.length:=Td ..;have hsz:=Zq wCo l;refine pwv [(2,⟨[8],[0,1,7],fun vs σ=>∃i:Nat,vs=[.d (.int .i64 i)]/\σ=⟨[.cells t [.func 121 [] []]],[],0⟩/\i<=l.length/\l.all Yj=(l.drop i).all Yj,mu1 l.length⟩)] 1 false ?_;refine ⟨⟨0,rfl,rfl,oM,rfl⟩,?_⟩;intro vs σ hI
  obtain ⟨i,rfl,rfl,hi,hs⟩:=hI;(conv=>whnf);refine ZFU (fun ab=>?_) (fun ab=>wN ?_)
  ·have ab:i<l.length:=lzI hlen ab;have hg:=Zz wCo l i ab;rw [Xi _ ab] at hs;obtain ⟨eA,hA⟩:∃e,l[i]=e:=⟨_,rfl⟩
   obtain ⟨a1,a2,a3,a4,⟨u1,u2,u3,u4,u5,u6⟩,a6⟩:=eA;have ca:(l.map (XK pl))[((i:Nat):Int).toNat]?=some (XK pl (.mk a1 a2 a3 a4 (.mk u1 u2 u3 u4 u5 u6) a6)):=by simp [ab,hA]
   rw [hA] at hs hg;(conv=>whnf);refine ⟨_,oM,ca,wN ?_⟩;refine ⟨pl,(.mk a1 a2 a3 a4 (.mk u1 u2 u3 u4 u5 u6) a6),rfl,⟨rfl,oM,oM⟩,fun b hb=>?_⟩
   cases b with
   | true =>
    have hp:Yj (.mk a1 a2 a3 a4 (.mk u1 u2 u3 u4 u5 u6) a6)=false:=by simpa using hb
    exact mq42
   | false =>
   have hp:Yj (.mk a1 a2 a3 a4 (.mk u1 u2 u3 u4 u5 u6) a6)=true:=by simpa using hb
   exact mq23
  exact mq28
 exact h.elim
def ZxC {n:Nat}:OKw w0 nG [(232,UZ 178 121 XK Yj wCo n)] 177 (U0 178 121 XK Yj wCo n):=by
 refine pwo Tryz.func177 fun args σ K h=>?_
 unfold U0 at h
 split at h
 ·obtain ⟨pl,l,rfl,⟨rfl,rfl,hz,hn⟩,h⟩:=h;refine pwv [] 1 false ?_;refine ⟨pl,l,rfl,⟨rfl,rfl,hz,hn⟩,fun r hr=>wN ?_⟩;refine h _ ?_
  cases hb:l.all Yj with
  | true=>rw [hb] at hr;have:=hr.2 rfl;simp;omega
  | false=>rw [hb] at hr;have:¬r<0:=fun g=>(by have:=hr.1 g;cases this);simp;omega
 exact h.elim
def ZxE {n:Nat}:OKw w0 nG [(177,U0 178 121 XK Yj wCo n)] 120 (Xv 121 XK Yj wCo n):=by
 refine pwo Tryz.func120 fun args σ K h=>?_
 exact mq7
def ZDK {n:Nat} (h:PC w0 nG 121 (YT (YF XK) Yj wCo n)):PC w0 nG 120 (Xv 121 XK Yj wCo n) :=
 ZxE ⟨ZxC ⟨ZxA ⟨Zxy ⟨h,trivial⟩,trivial⟩,trivial⟩,trivial⟩
def ZxG {n:Nat}:OKw w0 nG [(124,YT (YF X7) Wv wIn n)] 181 (UY 124 (YF X7) Wv wIn n):=by
 refine pwo Tryz.func181 fun args σ K h=>?_
 exact mq90
def ZxI {n:Nat}:OKw w0 nG [(181,UY 124 (YF X7) Wv wIn n)] 233 (UZ 181 124 X7 Wv wIn n):=by
 refine pwo Tryz.func233 fun args σ K h=>?_
 unfold UZ at h
 split at h
 ·obtain ⟨pl,l,rfl,⟨rfl,rfl,hz,hn⟩,h⟩:=h
  rename_i t
  have hlen:(l.map (X7 pl)).length=l.length:=Td ..;have hsz:=Zq wIn l;refine pwv [(2,⟨[8],[0,1,7],fun vs σ=>∃i:Nat,vs=[.d (.int .i64 i)]/\σ=⟨[.cells t [.func 124 [] []]],[],0⟩/\i<=l.length/\l.all Wv=(l.drop i).all Wv,mu1 l.length⟩)] 1 false ?_;refine ⟨⟨0,rfl,rfl,oM,rfl⟩,?_⟩;intro vs σ hI
  obtain ⟨i,rfl,rfl,hi,hs⟩:=hI;(conv=>whnf);refine ZFU (fun ab=>wN ?_) (fun ab=>wN ?_)
  ·have ab:i<l.length:=lzI hlen ab;have hg:=Zz wIn l i ab;rw [Xi _ ab] at hs;obtain ⟨eA,hA⟩:∃e,l[i]=e:=⟨_,rfl⟩
   obtain ⟨a1,a2,a3,a4⟩:=eA;have ca:(l.map (X7 pl))[((i:Nat):Int).toNat]?=some (X7 pl ⟨a1,a2,a3,a4⟩):=by simp [ab,hA]
   rw [hA] at hs hg;refine ⟨_,oM,ca,wN ?_⟩;refine ⟨pl,⟨a1,a2,a3,a4⟩,rfl,⟨rfl,oM,oM⟩,fun b hb=>?_⟩
   cases b with
   | true =>
    have hp:Wv ⟨a1,a2,a3,a4⟩=false:=by simpa using hb
    exact mq42
   | false =>
   have hp:Wv ⟨a1,a2,a3,a4⟩=true:=by simpa using hb
   exact mq23
  exact mq28
 exact h.elim
def ZxK {n:Nat}:OKw w0 nG [(233,UZ 181 124 X7 Wv wIn n)] 180 (U0 181 124 X7 Wv wIn n):=by
 refine pwo Tryz.func180 fun args σ K h=>?_
 unfold U0 at h
 split at h
 ·obtain ⟨pl,l,rfl,⟨rfl,rfl,hz,hn⟩,h⟩:=h;refine pwv [] 1 false ?_;refine ⟨pl,l,rfl,⟨rfl,rfl,hz,hn⟩,fun r hr=>wN ?_⟩;refine h _ ?_
  cases hb:l.all Wv with
  | true=>rw [hb] at hr;have:=hr.2 rfl;simp;omega
  | false=>rw [hb] at hr;have:¬r<0:=fun g=>(by have:=hr.1 g;cases this);simp;omega
 exact h.elim
def ZxM {n:Nat}:OKw w0 nG [(180,U0 181 124 X7 Wv wIn n)] 123 (Xv 124 X7 Wv wIn n):=by
 refine pwo Tryz.func123 fun args σ K h=>?_
 exact mq7
def ZA0 {n:Nat} (h:PC w0 nG 124 (YT (YF X7) Wv wIn n)):PC w0 nG 123 (Xv 124 X7 Wv wIn n) :=
 ZxM ⟨ZxK ⟨ZxI ⟨ZxG ⟨h,trivial⟩,trivial⟩,trivial⟩,trivial⟩
def ZxO {n:Nat}:OKw w0 nG [(126,YT (YF X8) WU wOv n)] 183 (UY 126 (YF X8) WU wOv n):=by
 refine pwo Tryz.func183 fun args σ K h=>?_
 exact mq52
def ZxQ {n:Nat}:OKw w0 nG [(183,UY 126 (YF X8) WU wOv n)] 234 (UZ 183 126 X8 WU wOv n):=by
 refine pwo Tryz.func234 fun args σ K h=>?_
 unfold UZ at h
 split at h
 ·obtain ⟨pl,l,rfl,⟨rfl,rfl,hz,hn⟩,h⟩:=h
  rename_i t
  have hlen:(l.map (X8 pl)).length=l.length:=Td ..;have hsz:=Zq wOv l;refine pwv [(2,⟨[8],[0,1,7],fun vs σ=>∃i:Nat,vs=[.d (.int .i64 i)]/\σ=⟨[.cells t [.func 126 [] []]],[],0⟩/\i<=l.length/\l.all WU=(l.drop i).all WU,mu1 l.length⟩)] 1 false ?_;refine ⟨⟨0,rfl,rfl,oM,rfl⟩,?_⟩;intro vs σ hI
  obtain ⟨i,rfl,rfl,hi,hs⟩:=hI;(conv=>whnf);refine ZFU (fun ab=>wN ?_) (fun ab=>wN ?_)
  ·have ab:i<l.length:=lzI hlen ab;have hg:=Zz wOv l i ab;rw [Xi _ ab] at hs;obtain ⟨eA,hA⟩:∃e,l[i]=e:=⟨_,rfl⟩
   obtain ⟨a1,a2⟩:=eA;have ca:(l.map (X8 pl))[((i:Nat):Int).toNat]?=some (X8 pl ⟨a1,a2⟩):=by simp [ab,hA]
   rw [hA] at hs hg;refine ⟨_,oM,ca,wN ?_⟩;refine ⟨pl,⟨a1,a2⟩,rfl,⟨rfl,oM,oM⟩,fun b hb=>?_⟩
   cases b with
   | true =>
    have hp:WU ⟨a1,a2⟩=false:=by simpa using hb
    exact mq42
   | false =>
   have hp:WU ⟨a1,a2⟩=true:=by simpa using hb
   exact mq23
  exact mq28
 exact h.elim
def ZxS {n:Nat}:OKw w0 nG [(234,UZ 183 126 X8 WU wOv n)] 182 (U0 183 126 X8 WU wOv n):=by
 refine pwo Tryz.func182 fun args σ K h=>?_
 unfold U0 at h
 split at h
 ·obtain ⟨pl,l,rfl,⟨rfl,rfl,hz,hn⟩,h⟩:=h;refine pwv [] 1 false ?_;refine ⟨pl,l,rfl,⟨rfl,rfl,hz,hn⟩,fun r hr=>wN ?_⟩;refine h _ ?_
  cases hb:l.all WU with
  | true=>rw [hb] at hr;have:=hr.2 rfl;simp;omega
  | false=>rw [hb] at hr;have:¬r<0:=fun g=>(by have:=hr.1 g;cases this);simp;omega
 exact h.elim
def ZxU {n:Nat}:OKw w0 nG [(182,U0 183 126 X8 WU wOv n)] 125 (Xv 126 X8 WU wOv n):=by
 refine pwo Tryz.func125 fun args σ K h=>?_
 exact mq7
def ZA1 {n:Nat} (h:PC w0 nG 126 (YT (YF X8) WU wOv n)):PC w0 nG 125 (Xv 126 X8 WU wOv n) :=
 ZxU ⟨ZxS ⟨ZxQ ⟨ZxO ⟨h,trivial⟩,trivial⟩,trivial⟩,trivial⟩
def ZxW {n:Nat}:OKw w0 nG [(115,YT Zjt Xg wBs n)] 179 (UY 115 Zjt Xg wBs n):=by
 refine pwo Tryz.func179 fun args σ K h=>?_
 unfold UY at h
 split at h
 ·obtain ⟨pl,x,rfl,⟨rfl,hz,hn⟩,h⟩:=h;refine pwv [] 1 false ?_;refine ⟨pl,x,rfl,⟨hz,hn⟩,fun b hb=>wN ?_⟩;exact h _ (by rw [hb])
 exact h.elim
def ZxY {n:Nat}:OKw w0 nG [(179,UY 115 Zjt Xg wBs n)] 209 (UZ 179 115 (fun _=>Ye) Xg wBs n):=by
 refine pwo Tryz.func209 fun args σ K h=>?_
 unfold UZ at h
 split at h
 ·obtain ⟨pl,l,rfl,⟨rfl,rfl,hz,hn⟩,h⟩:=h
  rename_i t
  have hlen:(l.map ((fun _=>Ye) pl)).length=l.length:=Td ..;have hsz:=Zq wBs l;refine pwv [(2,⟨[8],[0,1,7],fun vs σ=>∃i:Nat,vs=[.d (.int .i64 i)]/\σ=⟨[.cells t [.func 115 [] []]],[],0⟩/\i<=l.length/\l.all Xg=(l.drop i).all Xg,mu1 l.length⟩)] 1 false ?_;refine ⟨⟨0,rfl,rfl,oM,rfl⟩,?_⟩;intro vs σ hI
  obtain ⟨i,rfl,rfl,hi,hs⟩:=hI;(conv=>whnf);refine ZFU (fun ab=>wN ?_) (fun ab=>wN ?_)
  ·have ab:i<l.length:=lzI hlen ab;have hg:=Zz wBs l i ab;rw [Xi _ ab] at hs;obtain ⟨eA,hA⟩:∃e,l[i]=e:=⟨_,rfl⟩
   have ca:(l.map ((fun _=>Ye) pl))[((i:Nat):Int).toNat]?=some ((fun _=>Ye) pl eA):=by simp [ab,hA]
   rw [hA] at hs hg;refine ⟨_,oM,ca,wN ?_⟩;refine ⟨pl,eA,rfl,⟨rfl,oM,oM⟩,fun b hb=>?_⟩
   cases b with
   | true =>
    have hp:Xg eA=false:=by simpa using hb
    exact mq42
   | false =>
   have hp:Xg eA=true:=by simpa using hb
   exact mq23
  exact mq28
 exact h.elim
def Zx0 {n:Nat}:OKw w0 nG [(209,UZ 179 115 (fun _=>Ye) Xg wBs n)] 147 (U0 179 115 (fun _=>Ye) Xg wBs n):=by
 refine pwo Tryz.func147 fun args σ K h=>?_
 unfold U0 at h
 split at h
 ·obtain ⟨pl,l,rfl,⟨rfl,rfl,hz,hn⟩,h⟩:=h;refine pwv [] 1 false ?_;refine ⟨pl,l,rfl,⟨rfl,rfl,hz,hn⟩,fun r hr=>wN ?_⟩;refine h _ ?_
  cases hb:l.all Xg with
  | true=>rw [hb] at hr;have:=hr.2 rfl;simp;omega
  | false=>rw [hb] at hr;have:¬r<0:=fun g=>(by have:=hr.1 g;cases this);simp;omega
 exact h.elim
def Zx2 {n:Nat}:OKw w0 nG [(147,U0 179 115 (fun _=>Ye) Xg wBs n)] 122 (Xv 115 (fun _=>Ye) Xg wBs n):=by
 refine pwo Tryz.func122 fun args σ K h=>?_
 exact mq7
def ZDL {n:Nat} (h:PC w0 nG 115 (YT Zjt Xg wBs n)):PC w0 nG 122 (Xv 115 (fun _=>Ye) Xg wBs n) :=
 Zx2 ⟨Zx0 ⟨ZxY ⟨ZxW ⟨h,trivial⟩,trivial⟩,trivial⟩,trivial⟩
def ZzP:Zn:=fun args σ K=>match args,σ with
 | [.d (.int .u8 op)],⟨[],[],0⟩=>∃o:Nat,op=o/\∀l w a,(ZS o:Int)=l->VK o=w->V0 o=a->K (.ret (.agg [.d (.int .i64 l),.d (.str w),.d (.int .i64 a)])) ⟨[],[],0⟩
 | _,_=>False
def Zqw:Zy ZzP:=fun args σ K K' hK h=>by
 unfold ZzP at h |-
 split at h
 ·obtain ⟨o,h1,h2⟩:=h;exact ⟨o,h1,fun l w a e1 e2 e3=>hK _ _ (h2 l w a e1 e2 e3)⟩
 exact h.elim
def Ztn:PC w0 nG 228 ZzP:=by
 refine pwe Tryz.func228 fun args σ K h=>?_
 unfold ZzP at h
 split at h
 ·obtain ⟨o,rfl,h⟩:=h;refine pwu [] 0 false ?_
  repeat' ((conv=>whnf);refine ZFU (fun hc=>?_) (fun hc=>?_))
  all_goals (conv=>whnf)
  all_goals first
  | (have e : o = 16 := by omega
     subst e;exact h _ _ _ rfl rfl rfl)
  | (have e : o = 17 := by omega
     subst e;exact h _ _ _ rfl rfl rfl)
  | (have e : o = 15 := by omega
     subst e;exact h _ _ _ rfl rfl rfl)
  | (have e : o = 18 := by omega
     subst e;exact h _ _ _ rfl rfl rfl)
  | (have e : o = 19 := by omega
     subst e;exact h _ _ _ rfl rfl rfl)
  | (have e : o = 10 := by omega
     subst e;exact h _ _ _ rfl rfl rfl)
  | (have e : o = 11 := by omega
     subst e;exact h _ _ _ rfl rfl rfl)
  | (have e : o = 12 := by omega
     subst e;exact h _ _ _ rfl rfl rfl)
  | (have e : o = 13 := by omega
     subst e;exact h _ _ _ rfl rfl rfl)
  | (have e : o = 14 := by omega
     subst e;exact h _ _ _ rfl rfl rfl)
  | (have e : o = 8 := by omega
     subst e;exact h _ _ _ rfl rfl rfl)
  | (have e : o = 9 := by omega
     subst e;exact h _ _ _ rfl rfl rfl)
  | (have e : o = 20 := by omega
     subst e;exact h _ _ _ rfl rfl rfl)
  | (have e : o = 21 := by omega
     subst e;exact h _ _ _ rfl rfl rfl)
  | (have e : o = 22 := by omega
     subst e;exact h _ _ _ rfl rfl rfl)
  | (have e : o = 23 := by omega
     subst e;exact h _ _ _ rfl rfl rfl)
  | (have e : o = 24 := by omega
     subst e;exact h _ _ _ rfl rfl rfl)
  | (have e : o = 25 := by omega
     subst e;exact h _ _ _ rfl rfl rfl)
  | (have e : o = 6 := by omega
     subst e;exact h _ _ _ rfl rfl rfl)
  | (have e : o = 7 := by omega
     subst e;exact h _ _ _ rfl rfl rfl)
  | (have e : o = 1 := by omega
     subst e;exact h _ _ _ rfl rfl rfl)
  | (have e : o = 2 := by omega
     subst e;exact h _ _ _ rfl rfl rfl)
  | (have e : o = 3 := by omega
     subst e;exact h _ _ _ rfl rfl rfl)
  | (have e : o = 4 := by omega
     subst e;exact h _ _ _ rfl rfl rfl)
  | (have e : o = 5 := by omega
     subst e;exact h _ _ _ rfl rfl rfl)
  | (refine h _ _ _ ?_ ?_ ?_
     ·unfold ZS;(repeat rw [Tf oM]);rfl
     ·unfold VK;(repeat rw [Tf oM])
     unfold V0;(repeat rw [Tf oM]))
 exact h.elim
def ZA3 {n:Nat}:OKw w0 nG [(168,ZgO),(169,Zir)] 115 (YT Zjt Xg wBs n):=by
 refine pwo Tryz.func115 fun args σ K h=>?_
 unfold YT at h
 split at h
 ·obtain ⟨pl,s,rfl,⟨hz,hn⟩,h⟩:=h;unfold wBs at hz
  refine pwv [] 0 false ?_;refine ⟨oM,wN ?_⟩;refine ZFY (fun jb=>?_) (fun jb=>?_);rotate_left
  ·(conv=>whnf);exact h _ (by simp [Xg,jb])
  conv=>whnf
  refine ZFX (fun cz=>?_) (fun cz=>?_);rotate_left
  ·(conv=>whnf);exact h _ (by simp only [Xg,jb,cz];decide)
  conv=>whnf
  refine fun b hb=>wN ?_
  exact h _ (by rw [Xg,jb,hb,decide_eq_false cz];simp)
 exact h.elim
def ZA5 {n:Nat}:OKw w0 nG [(115,YT Zjt Xg wBs n)] 117 (YT (YF (fun _=>Zo)) YO wFi n):=by
 refine pwo Tryz.func117 fun args σ K h=>?_
 unfold YT at h
 split at h
 ·obtain ⟨pl,⟨a1,a2⟩,rfl,⟨hz,hn⟩,h⟩:=h;simp only [wFi] at hz;refine pwv [] 0 false ?_;refine ⟨fun _=>0,a1,rfl,⟨by simp only [wBs];omega,oM⟩,fun b dq=>?_⟩
  cases b with
  | false =>
   conv=>whnf
   exact h _ (by simp [YO,dq])
  | true =>
  conv=>whnf
  refine ⟨fun _=>0,a2,rfl,⟨by simp only [wBs];omega,oM⟩,fun b gc=>wN ?_⟩;exact h _ (by simp [YO,dq,gc])
 exact h.elim
def ZA7 {n:Nat}:OKw w0 nG [(115,YT Zjt Xg wBs n),(116,Xv 117 (fun _=>Zo) YO wFi n)] 165 (YT (YF (fun _=>ZB)) Xm wCa n):=by
 refine pwo Tryz.func165 fun args σ K h=>?_
 unfold YT at h
 split at h
 ·obtain ⟨pl,⟨a1,a2⟩,rfl,⟨hz,hn⟩,h⟩:=h;simp only [wCa] at hz;refine pwv [] 0 false ?_;refine ⟨fun _=>0,a1,rfl,⟨by simp only [wBs];omega,oM⟩,fun b dq=>?_⟩
  cases b with
  | false =>
   conv=>whnf
   exact h _ (by simp [Xm,dq])
  | true =>
  conv=>whnf
  refine ⟨pl,a2,rfl,⟨rfl,oM,oM⟩,fun b ia=>wN ?_⟩;exact h _ (by simp [Xm,dq,ia])
 exact h.elim
def ZA9 {n:Nat}:OKw w0 nG [(115,YT Zjt Xg wBs n),(116,Xv 117 (fun _=>Zo) YO wFi n)] 114 (YT (YF ZQ) X9 wRe n):=by
 refine pwo Tryz.func114 fun args σ K h=>?_
 unfold YT at h
 split at h
 ·obtain ⟨pl,⟨a1,a2,a3,a4,a5,a6⟩,rfl,⟨hz,hn⟩,h⟩:=h;simp only [wRe] at hz;refine pwv [] 0 false ?_;refine ⟨fun _=>0,a1,rfl,⟨by simp only [wBs];omega,oM⟩,fun b dq=>?_⟩
  cases b with
  | false =>
   conv=>whnf
   exact h _ (by simp [X9,dq])
  | true =>
  conv=>whnf
  refine ⟨pl,a2,rfl,⟨rfl,oM,oM⟩,fun b ia=>wN ?_⟩;exact h _ (by simp [X9,dq,ia])
 exact h.elim
def ZBb {n:Nat}:OKw w0 nG [(115,YT Zjt Xg wBs n),(122,Xv 115 (fun _=>Ye) Xg wBs n)] 124 (YT (YF X7) Wv wIn n):=by
 refine pwo Tryz.func124 fun args σ K h=>?_
 unfold YT at h
 split at h
 ·obtain ⟨pl,⟨a1,a2,a3,a4⟩,rfl,⟨hz,hn⟩,h⟩:=h;simp only [wIn] at hz;refine pwv [] 0 false ?_;refine ⟨fun _=>0,a1,rfl,⟨by simp only [wBs];omega,oM⟩,fun b dq=>?_⟩
  cases b with
  | false =>
   conv=>whnf
   exact h _ (by simp [Wv,dq])
  | true =>
  conv=>whnf
  refine ⟨fun _=>0,a2,rfl,⟨by simp only [wBs];omega,oM⟩,fun b gc=>?_⟩
  cases b with
  | false =>
   conv=>whnf
   exact h _ (by simp [Wv,dq,gc])
  | true =>
  conv=>whnf
  refine ⟨pl,a3,rfl,⟨rfl,oM,oM⟩,fun b eu=>wN ?_⟩;exact h _ (by simp [Wv,dq,gc,eu])
 exact h.elim
def ZBd {n:Nat}:OKw w0 nG [(115,YT Zjt Xg wBs n)] 126 (YT (YF X8) WU wOv n):=by
 refine pwo Tryz.func126 fun args σ K h=>?_
 unfold YT at h
 split at h
 ·obtain ⟨pl,⟨a1,a2⟩,rfl,⟨hz,hn⟩,h⟩:=h;simp only [wOv] at hz;refine pwv [] 0 false ?_;refine ⟨fun _=>0,a1,rfl,⟨by simp only [wBs];omega,oM⟩,fun b dq=>wN ?_⟩;exact h _ (by simp [WU,dq])
 exact h.elim
def ZBf {n:Nat}:OKw w0 nG [(115,YT Zjt Xg wBs n),(173,Xv 174 ZF Yi wE n),(175,Xv 176 YN YG wL n)] 119 (YT (YF ZW) XL wRu n):=by
 refine pwo Tryz.func119 fun args σ K h=>?_
 unfold YT at h
 split at h
 ·obtain ⟨pl,⟨a1,a2,a3,a4⟩,rfl,⟨hz,hn⟩,h⟩:=h;simp only [wRu] at hz;refine pwv [] 0 false ?_;refine ⟨fun _=>0,a1,rfl,⟨by simp only [wBs];omega,oM⟩,fun b dq=>?_⟩
  cases b with
  | false =>
   conv=>whnf
   exact h _ (by simp [XL,dq])
  | true =>
  conv=>whnf
  refine ⟨pl,a2,Zb _ _,⟨rfl,oM,oM⟩,fun b ia=>?_⟩
  cases b with
  | false =>
   conv=>whnf
   exact h _ (by simp [XL,dq,ia])
  | true =>
  conv=>whnf
  refine ⟨pl,a3,Zi _ _,⟨rfl,oM,oM⟩,fun b eu=>wN ?_⟩;exact h _ (by simp [XL,dq,ia,eu])
 exact h.elim
def ZBg {n:Nat}:OKw w0 nG [(228,ZzP),(115,YT Zjt Xg wBs n),(229,JG),(173,spB (Xv 174 ZF Yi wE) n)] 174 (YT (YF ZF) Yi wE n):=by
 refine pwo Tryz.func174 fun args σ K h=>?_
 unfold YT at h
 split at h
 ·obtain ⟨pl,⟨a1,a2,a3,a4,a5⟩,rfl,⟨hz,hn⟩,h⟩:=h;simp only [wE,Zft] at hz;refine pwv [] 0 false ?_;have jv:(Zf pl a4).length=a4.length:=by rw [Zb,Td]
  refine ⟨a1,rfl,fun l w a hl hw ha=>wN ?_⟩;refine ZFU (fun em=>wN ?_) (fun em=>wN ?_)
  ·have uk:=em;have em:a1=1:=oM;refine ZFU (fun _=>wN ?_) (fun hx=>absurd uk hx);exact mq170
  refine ZFU (fun ul=>wN ?_) (fun ul=>wN ?_)
  ·have em:a1=7:=by omega
   exact mq170
  have em:¬a1=1:=oM;have ul:¬a1=7:=oM;refine ZFU (fun my=>wN ?_) (fun my=>wN ?_)
  ·have my:a1=4:=by omega
   refine ⟨oM,fun hq=>wN ?_,fun q hq=>wN ?_⟩
   ·have lz:V3 a1 a2=false:=by simp [V3,my,hq]
    exact mq6
   have lz:V3 a1 a2=true:=by simp [V3,my,hq]
   exact mq4
  have my:¬a1=4:=oM;have lz:V3 a1 a2=decide (a2=[]):=by simp [V3,em,ul,my]
  refine ZFU (fun h1=>?_) (fun h1=>?_);rotate_left
  ·exact mq200
  conv=>whnf
  refine ZFU (fun h2=>wN ?_) (fun h2=>wN ?_)
  ·refine ZFU (fun h3=>wN ?_) (fun h3=>wN ?_)
   ·refine ZFU (fun h4=>?_) (fun h4=>?_);rotate_left
    ·exact mq157
    rw [T3 h4] at lz;(conv=>whnf);exact mq197
   refine ZFU (fun h5=>?_) (fun h5=>?_);rotate_left
   ·exact mq168
   have h5:a1=3:=oM;have iu:(decide (a3=0) || decide (a1=3))=true:=by simp [h5]
   conv=>whnf
   refine ZFU (fun h4=>?_) (fun h4=>?_);rotate_left
   ·exact mq157
   rw [T3 h4] at lz;exact mq192
  refine ZFU (fun h6=>?_) (fun h6=>?_);rotate_left
  ·exact mq172
  have h6:(a4.length:Int)=a:=by rw [<- jv];exact h6
  conv=>whnf
  refine ZFU (fun h3=>wN ?_) (fun h3=>wN ?_)
  ·refine ZFU (fun h4=>?_) (fun h4=>?_);rotate_left
   ·exact mq157
   rw [T3 h4] at lz;(conv=>whnf);exact mq196
  refine ZFU (fun h5=>?_) (fun h5=>?_);rotate_left
  ·exact mq168
  have h5:a1=3:=oM;have iu:(decide (a3=0) || decide (a1=3))=true:=by simp [h5]
  conv=>whnf
  refine ZFU (fun h4=>?_) (fun h4=>?_);rotate_left
  ·exact mq157
  rw [T3 h4] at lz;exact mq191
 exact h.elim
def ZBh {n:Nat}:OKw w0 nG [(115,YT Zjt Xg wBs n),(173,Xv 174 ZF Yi wE n),(175,spB (Xv 176 YN YG wL) n)] 176 (YT (YF YN) YG wL n):=by
 refine pwo Tryz.func176 fun args σ K h=>?_
 unfold YT at h
 split at h
 ·obtain ⟨pl,⟨a1,a2,a3,a4,a5⟩,rfl,⟨hz,hn⟩,h⟩:=h;simp only [wL,ZdE] at hz;refine pwv [] 0 false ?_;have ib:(Zf pl a3).length=a3.length:=by rw [Zb,Td]
  have jv:(Zv pl a4).length=a4.length:=by rw [Zi,Td]
  have sd:((0:Int)<((Zv pl a4).length:Int))↔0<a4.length:=by rw [jv];omega
  refine ZFU (fun em=>wN ?_) (fun em=>wN ?_)
  ·have uk:=em;have em:a1=1:=oM;refine ZFU (fun _=>wN ?_) (fun hx=>absurd uk hx);exact mq163
  refine ZFU (fun uj=>wN ?_) (fun uj=>wN ?_)
  ·have em:a1=2:=by omega
   exact mq163
  have jy:¬(a1=1\/a1=2):=oM;refine ZFU (fun ab9=>wN ?_) (fun ab9=>wN ?_)
  ·refine ZFU (fun aca=>wN ?_) (fun aca=>wN ?_)
   ·have z6:3<=a1/\a1<=8:=by omega
    refine ZFU (fun hr=>?_) (fun hr=>?_);rotate_left
    ·have kc:YW a1 a2 a3.length a4.length=false:=by simp [YW,jy,z6,hr]
     conv=>whnf
     exact mq59
    conv=>whnf
    refine ZFU (fun hA=>?_) (fun hA=>?_);rotate_left
    ·have hA:¬a3.length=2:=fun g=>hA (by show ((Zf pl a3).length:Int)=2;rw [ib,g];rfl)
     have kc:YW a1 a2 a3.length a4.length=false:=by simp [YW,jy,z6,hA]
     conv=>whnf
     exact mq59
    have hA:a3.length=2:=by have hA:((Zf pl a3).length:Int)=2:=hA;rw [ib] at hA;omega
    conv=>whnf
    refine ZFX (fun hB=>wN ?_) (fun hB=>wN ?_)
    ·have hB:¬0<a4.length:=fun g=>hB (sd.2 g)
     have kc:YW a1 a2 a3.length a4.length=true:=by simp only [YW,jy,z6,hr,hA,decide_eq_false hB];simp
     exact mq8
    have hB:=sd.1 hB;have kc:YW a1 a2 a3.length a4.length=false:=by simp [YW,jy,z6,hr,hA,hB]
    exact mq59
   exact mq3
  exact mq3
 exact h.elim
end Go.PM.Lex
end

section
namespace Go.PM.Lex
open Go.Proofs
variable {w0:World} {nG:Nat}
def ZBj {n:Nat}:OKw w0 nG [(115,YT Zjt Xg wBs n),(116,Xv 117 (fun _=>Zo) YO wFi n),(164,Xv 165 (fun _=>ZB) Xm wCa n)] 112 (YT (YF Zw) Yo wTy n):=by
 refine pwo Tryz.func112 fun args σ K h=>?_
 unfold YT at h
 split at h
 ·obtain ⟨pl,⟨a1,a2,a3,a4,a5,a6⟩,rfl,⟨hz,hn⟩,h⟩:=h;simp only [wTy] at hz;refine pwv [] 0 false ?_;have jv:(a4.map Zo).length=a4.length:=Td ..;have yc:(a5.map ZB).length=a5.length:=Td ..;have mn:(((a4.map Zo).length:Int)=0)↔a4.length=0:=by rw [jv];omega
  have wb:(((a5.map ZB).length:Int)=0)↔a5.length=0:=by rw [yc];omega
  refine ZFU (fun hk=>?_) (fun hk=>wN ?_)
  ·(try dsimp only at hk)
   have hk:a1=1:=oM;(conv=>whnf);refine ⟨fun _=>0,a3,rfl,⟨by simp only [wBs];omega,oM⟩,fun b ei=>?_⟩
   cases b with
   | false =>
    conv=>whnf
    have l0:ZbS (⟨a1,a2,a3,a4,a5,a6⟩:Ty)=false:=by simp [ZbS,hk,ei]
    conv=>whnf
    exact mq127
   | true =>
   conv=>whnf
   refine ZFU (fun h4=>wN ?_) (fun h4=>wN ?_)
   ·have h4:=mn.1 h4;refine ZFU (fun h5=>wN ?_) (fun h5=>wN ?_)
    ·have h5:=wb.1 h5;have l0:ZbS (⟨a1,a2,a3,a4,a5,a6⟩:Ty)=true:=by simp [ZbS,hk,ei,h4,h5]
     exact mq22
    have h5:¬a5.length=0:=fun g=>h5 (wb.2 g)
    have l0:ZbS (⟨a1,a2,a3,a4,a5,a6⟩:Ty)=false:=by simp [ZbS,hk,ei,h4,h5]
    exact mq127
   have h4:¬a4.length=0:=fun g=>h4 (mn.2 g)
   have l0:ZbS (⟨a1,a2,a3,a4,a5,a6⟩:Ty)=false:=by simp [ZbS,hk,ei,h4]
   exact mq127
  refine ZFU (fun bj=>?_) (fun bj=>wN ?_)
  ·(try dsimp only at bj)
   have bj:a1=2:=oM;(conv=>whnf);refine ZFU (fun ei=>?_) (fun ei=>?_);rotate_left
   ·have l0:ZbS (⟨a1,a2,a3,a4,a5,a6⟩:Ty)=false:=by simp [ZbS,bj,ei]
    conv=>whnf
    exact mq127
   (try dsimp only at ei)
   conv=>whnf
   refine ZFU (fun h5=>wN ?_) (fun h5=>wN ?_)
   ·have h5:=wb.1 h5;have l0:ZbS (⟨a1,a2,a3,a4,a5,a6⟩:Ty)=true:=by simp [ZbS,bj,ei,h5]
    exact mq22
   have h5:¬a5.length=0:=fun g=>h5 (wb.2 g)
   have l0:ZbS (⟨a1,a2,a3,a4,a5,a6⟩:Ty)=false:=by simp [ZbS,bj,ei,h5]
   exact mq127
  refine ZFU (fun f8=>?_) (fun f8=>?_)
  ·(try dsimp only at f8)
   have f8:a1=3:=oM;(conv=>whnf);refine ZFU (fun ei=>?_) (fun ei=>?_);rotate_left
   ·have l0:ZbS (⟨a1,a2,a3,a4,a5,a6⟩:Ty)=false:=by simp [ZbS,f8,ei]
    conv=>whnf
    exact mq127
   (try dsimp only at ei)
   conv=>whnf
   refine ZFU (fun h4=>wN ?_) (fun h4=>wN ?_)
   ·have h4:=mn.1 h4;refine ZFX (fun h5=>wN ?_) (fun h5=>wN ?_)
    ·have h5:¬a5.length=0:=fun g=>h5 (wb.2 g)
     have l0:ZbS (⟨a1,a2,a3,a4,a5,a6⟩:Ty)=true:=by simp [ZbS,f8,ei,h4,h5]
     exact mq22
    have h5:=wb.1 h5;have l0:ZbS (⟨a1,a2,a3,a4,a5,a6⟩:Ty)=false:=by simp [ZbS,f8,ei,h4,h5]
    exact mq127
   have h4:¬a4.length=0:=fun g=>h4 (mn.2 g)
   have l0:ZbS (⟨a1,a2,a3,a4,a5,a6⟩:Ty)=false:=by simp [ZbS,f8,ei,h4]
   exact mq127
  (try dsimp only at hk bj f8)
  have hk:¬a1=1:=oM;have bj:¬a1=2:=oM;have f8:¬a1=3:=oM;have l0:ZbS (⟨a1,a2,a3,a4,a5,a6⟩:Ty)=false:=by simp [ZbS,hk,bj,f8]
  conv=>whnf
  exact mq127
 exact h.elim
def ZBl {n:Nat}:OKw w0 nG [(115,YT Zjt Xg wBs n),(122,Xv 115 (fun _=>Ye) Xg wBs n),(73,YT (YF XQ) Zex wUn n)] 121 (YT (YF XK) Yj wCo n):=by
 refine pwo Tryz.func121 fun args σ K h=>?_
 unfold YT at h
 split at h
 ·obtain ⟨pl,⟨a1,a2,a3,a4,⟨u1,u2,u3,u4,u5,u6⟩,a6⟩,rfl,⟨hz,hn⟩,h⟩:=h;simp only [wCo] at hz;refine pwv [] 0 false ?_;have jv:(a4.map Ye).length=a4.length:=Td ..;have mn:(((a4.map Ye).length:Int)=0)↔a4.length=0:=by rw [jv];omega
  refine ZFU (fun hb=>wN ?_) (fun hb=>wN ?_)
  ·refine ZFU (fun h4=>wN ?_) (fun h4=>wN ?_)
   ·have h4:=mn.1 h4;have lj:((decide (a3=[]) && decide (a4.length=0)) || Xg a3)=true:=by simp [hb,h4]
    exact mq12
   have h4:¬a4.length=0:=fun g=>h4 (mn.2 g)
   refine ⟨fun _=>0,a3,rfl,⟨by simp only [wBs];omega,oM⟩,fun b ei=>?_⟩
   cases b with
   | false =>
    have lj:((decide (a3=[]) && decide (a4.length=0)) || Xg a3)=false:=by simp [h4,ei]
    exact mq38
   | true =>
   have lj:((decide (a3=[]) && decide (a4.length=0)) || Xg a3)=true:=by simp [h4,ei]
   conv=>whnf
   exact mq12
  refine ⟨fun _=>0,a3,rfl,⟨by simp only [wBs];omega,oM⟩,fun b ei=>?_⟩
  cases b with
  | false =>
   have lj:((decide (a3=[]) && decide (a4.length=0)) || Xg a3)=false:=by simp [hb,ei]
   exact mq38
  | true =>
  have lj:((decide (a3=[]) && decide (a4.length=0)) || Xg a3)=true:=by simp [hb,ei]
  conv=>whnf
  exact mq12
 exact h.elim
def Zu6 {n:Nat}:OKw w0 nG [(111,Xv 112 Zw Yo wTy n),(113,Xv 114 ZQ X9 wRe n),(118,Xv 119 ZW XL wRu n),(120,spB (Xv 121 XK Yj wCo) n),(123,Xv 124 X7 Wv wIn n),(125,Xv 126 X8 WU wOv n)] 73 (YT (YF XQ) Zex wUn n):=by
 refine pwo Tryz.func73 fun args σ K h=>?_
 unfold YT at h
 split at h
 ·obtain ⟨pl,⟨a1,a2,a3,a4,a5,a6⟩,rfl,⟨hz,hn⟩,h⟩:=h;simp only [wUn,ZgP] at hz;refine pwv [] 0 false ?_;refine ⟨pl,a1,rfl,⟨rfl,oM,oM⟩,fun b lh=>?_⟩
  cases b with
  | false =>
   conv=>whnf
   exact h _ (by simp [Zex,Ww,lh])
  | true =>
  conv=>whnf
  refine ⟨pl,a2,rfl,⟨rfl,oM,oM⟩,fun b ia=>?_⟩
  cases b with
  | false =>
   conv=>whnf
   exact h _ (by simp [Zex,Ww,lh,ia])
  | true =>
  conv=>whnf
  refine ⟨pl,a3,rfl,⟨rfl,oM,oM⟩,fun b eu=>?_⟩
  cases b with
  | false =>
   conv=>whnf
   exact h _ (by simp [Zex,Ww,lh,ia,eu])
  | true =>
  conv=>whnf
  refine ⟨oM,pl,a4,Us _ _,⟨rfl,oM,oM⟩,fun b ha3=>?_⟩
  cases b with
  | false =>
   conv=>whnf
   exact h _ (by simp [Zex,Ww,lh,ia,eu,ha3])
  | true =>
  conv=>whnf
  refine ⟨pl,a5,rfl,⟨rfl,oM,oM⟩,fun b z7=>?_⟩
  cases b with
  | false =>
   conv=>whnf
   exact h _ (by simp [Zex,Ww,lh,ia,eu,ha3,z7])
  | true =>
  conv=>whnf
  refine ⟨pl,a6,rfl,⟨rfl,oM,oM⟩,fun b ha5=>wN ?_⟩;exact h _ (by simp [Zex,Ww,lh,ia,eu,ha3,z7,ha5])
 exact h.elim
structure LexC (w0:World) (nG:Nat):Prop where
 name:PC w0 nG 168 ZgO
 quote:PC w0 nG 229 JG
variable (hL:LexC w0 nG)
include hL
def ZnT (n:Nat):PC w0 nG 115 (YT Zjt Xg wBs n):=ZA3 ⟨hL.name,Zkf,trivial⟩
def cHE:∀n,PC w0 nG 174 (YT (YF ZF) Yi wE n)
 | 0=>ZBg ⟨Ztn,ZnT hL _,hL.quote,ZC (Ze Tryz.func173 kR rfl),trivial⟩
 | n+1=>ZBg ⟨Ztn,ZnT hL _,hL.quote,ZD (sp:=Xv 174 ZF Yi wE) (ZCR (cHE n)),trivial⟩
def cHL:∀n,PC w0 nG 176 (YT (YF YN) YG wL n)
 | 0=>ZBh ⟨ZnT hL _,ZCR (cHE hL 0),ZC (Ze Tryz.func175 kR rfl),trivial⟩
 | n+1=>ZBh ⟨ZnT hL _,ZCR (cHE hL _),ZD (sp:=Xv 176 YN YG wL) (ZEP (cHL n)),trivial⟩
def ZEQ (n:Nat):PC w0 nG 119 (YT (YF ZW) XL wRu n):=ZBf ⟨ZnT hL _,ZCR (cHE hL _),ZEP (cHL hL _),trivial⟩
def ZDO (n:Nat):PC w0 nG 116 (Xv 117 (fun _=>Zo) YO wFi n):=ZDI (ZA5 ⟨ZnT hL _,trivial⟩)
def ZER (n:Nat):PC w0 nG 112 (YT (YF Zw) Yo wTy n):=ZBj ⟨ZnT hL _,ZDO hL n,ZDJ (ZA7 ⟨ZnT hL _,ZDO hL n,trivial⟩),trivial⟩
def ZES (n:Nat):PC w0 nG 114 (YT (YF ZQ) X9 wRe n):=ZA9 ⟨ZnT hL _,ZDO hL n,trivial⟩
def ZET (n:Nat):PC w0 nG 122 (Xv 115 (fun _=>Ye) Xg wBs n):=ZDL (ZnT hL n)
def ZEU (n:Nat):PC w0 nG 124 (YT (YF X7) Wv wIn n):=ZBb ⟨ZnT hL _,ZET hL n,trivial⟩
def ZEV (n:Nat):PC w0 nG 126 (YT (YF X8) WU wOv n):=ZBd ⟨ZnT hL _,trivial⟩
def ZEW:∀n,PC w0 nG 73 (YT (YF XQ) Zex wUn n)
 | 0=>Zu6 ⟨ZAY (ZER hL _),ZAZ (ZES hL _),ZAX (ZEQ hL _),ZC (Ze Tryz.func120 kR rfl),ZA0 (ZEU hL _),ZA1 (ZEV hL _),trivial⟩
 | n+1=>Zu6 ⟨ZAY (ZER hL _),ZAZ (ZES hL _),ZAX (ZEQ hL _),ZD (sp:=Xv 121 XK Yj wCo) (ZDK (ZBl ⟨ZnT hL _,ZET hL _,ZEW n,trivial⟩)),ZA0 (ZEU hL _),ZA1 (ZEV hL _),trivial⟩
end Go.PM.Lex
end

section
namespace Go.PM.Lex
open Go.Proofs Go.Shelf Go.RowKit
variable {w0:World} {nG:Nat}
def ZDP:liesAt Tryz.prog Tryz.prog.depth 136 (2 / Tryz.prog.cellsOf 136) 0 134 1=true:=kR
def Zks (b:Nat) (w:World) (h0:w.cell? ⟨b,0,none⟩=some (.pointer none)) (ka:w.shape? b=some (136,2)) (jz:w.frozen? ⟨b,0,none⟩=false) :
  Calls Tryz.prog 235 #[.pointer (some ⟨b,0,none⟩)] w fun e w'=>e=.returned (.tuple #[])/\w'=w.setCell ⟨b,0,none⟩ (.pointer (some ⟨b,0,none⟩)):=by
 obtain ⟨j,hj,sv⟩:=i53
 go_enter Tryz.func235,Tryz.ntmps235
 go_wp2
 rw [Go.Lib.run_to_unsafe w ⟨b,0,none⟩ u50 u95 hj (by rw [sv];decide) ka (Nat.zero_lt_succ 1)];simp only [Result.andThen];rw [Oper.upon_value]
 go_wp2
 rw [run_callFunc_extern Tryz.func268 kR kR kR (e:=Extern.AbiNoEscape.same) kR];rw [Go.Lib.run_noEscape];simp only [Result.andThen];rw [Oper.upon_value]
 go_wp2
 rw [Go.Lib.run_from_unsafe w ⟨b,0,none⟩ u95 u50 hj ka ZDP];simp only [Result.andThen];rw [Oper.upon_value]
 go_wp2
 go_end0
 exact ⟨rfl,rfl⟩
def Uw:Zn:=fun args σ K=>match args,σ with
 | [.ptr 0 0],⟨[.cells t [p,q]],tk,nx⟩=>((p=.d .nilp\/p=.ptr 0 0)/\t=136)/\K (.ret (.tuple [])) ⟨[.cells t [.ptr 0 0,q]],tk,nx⟩
 | _,_=>False
def ZgQ:PC w0 nG 235 Uw:=VE (Ze Tryz.func235 kR rfl) fun args σ K h e w vs hS ha=>by
 unfold Uw at h
 split at h
 ·rename_i t p q tk nx
  obtain ⟨⟨hp,rfl⟩,hK⟩:=h;obtain ⟨u,rfl,hu⟩:=Zer ha;obtain ⟨cv,cz,bl,ec⟩:=hS.box 0 _ rfl;have dg:cv.size=2:=bl;obtain ⟨x0,gf⟩:∃x,cv[0]?=some x:=⟨cv[0]'oM,by simp [dg]⟩
  have ol:=(ec 0 p x0 rfl gf).1
  cases hu with
  | ptr b off hb =>
  refine ⟨_,_,.tuple #[],hK,?_⟩;rcases hp with rfl | rfl
  ·cases ol with
   | d _ _ hd =>
   cases hd
   refine Calls.mono (Zks (e.β 0) w ?_ ?_ ?_) fun en w' ⟨h1,h2⟩=>?_
   ·simp [World.cell?,cz,gf]
   ·simp only [World.shape?,cz,dg]
   ·simp [World.frozen?,cz]
   have hst:=Zdd (G:=GG w0 nG) (T:=Vq) Zx hS (t:=131) (b:=0) (off:=0) (x:=.ptr 0 0) (v:=.pointer (some ⟨e.β 0,0,none⟩)) (l:=[.ptr 0 0]) (cs:=[.d .nilp,q]) (ty:=136) rfl (.ptr 0 0 hb) rfl rfl sM (by intro h;cases h);rw [h2];exact ⟨h1,.tuple [] #[] rfl (fun i x u hx=>by simp at hx),hst.2,hst.1.toLater⟩
  exact mq92
 exact h.elim
def ZnU {ty:TypeId} {P:Program} {ρ:Ren} (L:Lays.n169 P ρ) (X:Builder.Extra P ρ) (b g cap:Nat) (p:Value) (cur:Array Value) (fz:Nat×Nat) (l:Bs) (w:World) (h0:l≠[])
  (ph:w.heap[b]?=some (.cells #[p,.slice (some ⟨g,0,none⟩) l.length cap] ty (0,0))) (hg:w.heap[g]?=some (.cells cur (ρ.t 5) fz)) (hn:l.length<=cur.size) (hcap:cap≠0) (cx:l.length<=9223372036854775807)
  (ax:∀j x,l[j]?=some x->w.cell? ⟨g,j,none⟩=some (.int .u8 x.toNat)) :
  Calls P (ρ.f 169) #[.pointer (some ⟨b,0,none⟩)] w fun e w'=>e=.returned (.string ⟨l.toArray⟩)/\w'=w.drew.freeze ⟨g,0,none⟩ l.length:=by
 have c1:w.drew.cell? ⟨b,1,none⟩=some (.slice (some ⟨g,0,none⟩) l.length cap):=by
  have:w.drew.heap[b]?=some (.cells #[p,.slice (some ⟨g,0,none⟩) l.length cap] ty (0,0)):=ph;rw [Go.Lib.cell_of_heap this];rfl
 have hSD:(Builtin.unsafeSliceData_ #[(ρ.t 37)] (ρ.t 127) #[.slice (some ⟨g,0,none⟩) l.length cap]).run P w.drew=.ok (.pointer (some ⟨g,0,none⟩)) w.drew :=
  Go.Lib.run_unsafeSliceData_row _ _ _ _ _ _ hcap
 have hUS:(Builtin.unsafeString_ #[(ρ.t 127),(ρ.t 3)] (ρ.t 9) #[.pointer (some ⟨g,0,none⟩),.int .i64 l.length]).run P w.drew=.ok (.string ⟨l.toArray⟩) (w.drew.freeze ⟨g,0,none⟩ l.length):=by
  exact mq73
 have mixed:=L.mixed;have t72:=L.t72;have a72:=L.a72;have z72:=L.z72;have v72:=L.v72;have u72:=run_underlying L.t72;have t70:=L.t70;have a70:=L.a70;have z70:=L.z70;have v70:=L.v70;have u70:=run_underlying L.t70;have t37:=L.t37;have a37:=L.a37;have z37:=L.z37;have v37:=L.v37;have u37:=run_underlying L.t37;have t127:=L.t127;have a127:=L.a127;have z127:=L.z127;have v127:=L.v127;have u127:=run_underlying L.t127;have t3:=L.t3;have a3:=L.a3;have z3:=L.z3;have v3:=L.v3;have u3:=run_underlying L.t3;have t9:=L.t9;have a9:=L.a9;have z9:=L.z9;have v9:=L.v9;have u9:=run_underlying L.t9;have t5:=X.t5;have a5:=X.a5;have z5:=X.z5;have v5:=X.v5;have u5:=run_underlying X.t5
 go_enter L.f169,Body.n169_ntmps ρ
 go_wp2
 go_region_o
 all_goals (go_wp2;go_ret;exact ⟨rfl,rfl⟩)
def Zto {ty:TypeId} {P:Program} {ρ:Ren} (L:Lays.n169 P ρ) (X:Builder.Extra P ρ) (B b:Nat) (p:Value) (w:World) (ph:w.heap[b]?=some (.cells #[p,.slice none 0 0] ty (0,0))) :
  Calls P (ρ.f 169) #[.pointer (some ⟨b,0,none⟩)] w fun e w'=>e=.returned (.string ⟨#[]⟩)/\Below B w w':=by
 have hUS:=Any.unsafeString_none L X;have c1:w.drew.cell? ⟨b,1,none⟩=some (.slice none 0 0):=by
  have:w.drew.heap[b]?=some (.cells #[p,.slice none 0 0] ty (0,0)):=ph;rw [Lib.cell_of_heap this];rfl
 have hSD:(Builtin.unsafeSliceData_ #[(ρ.t 37)] (ρ.t 127) #[.slice none 0 0]).run P w.drew=.ok (.pointer none) w.drew:=rfl;have mixed:=L.mixed;have t72:=L.t72;have a72:=L.a72;have z72:=L.z72;have v72:=L.v72;have u72:=run_underlying L.t72;have t70:=L.t70;have a70:=L.a70;have z70:=L.z70;have v70:=L.v70;have u70:=run_underlying L.t70;have t37:=L.t37;have a37:=L.a37;have z37:=L.z37;have v37:=L.v37;have u37:=run_underlying L.t37;have t127:=L.t127;have a127:=L.a127;have z127:=L.z127;have v127:=L.v127;have u127:=run_underlying L.t127;have t3:=L.t3;have a3:=L.a3;have z3:=L.z3;have v3:=L.v3;have u3:=run_underlying L.t3;have t9:=L.t9;have a9:=L.a9;have z9:=L.z9;have v9:=L.v9;have u9:=run_underlying L.t9;have t5:=X.t5;have a5:=X.a5;have z5:=X.z5;have v5:=X.v5;have u5:=run_underlying X.t5
 go_enter L.f169,Body.n169_ntmps ρ
 go_wp2
 go_region_o
 all_goals (go_wp2;go_ret;exact ⟨rfl,Below.drew (Below.refl B w)⟩)
def Zqx {ty:TypeId} {P:Program} {ρ:Ren} (L:Lays.n169 P ρ) (X:Builder.Extra P ρ) (B b g cap:Nat) (p:Value) (w:World) (jb:cap≠0) (ph:w.heap[b]?=some (.cells #[p,.slice (some ⟨g,0,none⟩) 0 cap] ty (0,0))) :
  Calls P (ρ.f 169) #[.pointer (some ⟨b,0,none⟩)] w fun e w'=>e=.returned (.string ⟨#[]⟩)/\Below B w w':=by
 have hUS:=Any.unsafeString_none L X;have c1:w.drew.cell? ⟨b,1,none⟩=some (.slice (some ⟨g,0,none⟩) 0 cap):=by
  have:w.drew.heap[b]?=some (.cells #[p,.slice (some ⟨g,0,none⟩) 0 cap] ty (0,0)):=ph;rw [Lib.cell_of_heap this];rfl
 have hSD:(Builtin.unsafeSliceData_ #[(ρ.t 37)] (ρ.t 127) #[.slice (some ⟨g,0,none⟩) 0 cap]).run P w.drew=.ok (.pointer (some ⟨g,0,none⟩)) w.drew:=Go.Lib.run_unsafeSliceData_row _ _ _ _ _ _ jb
 clear jb
 have mixed:=L.mixed;have t72:=L.t72;have a72:=L.a72;have z72:=L.z72;have v72:=L.v72;have u72:=run_underlying L.t72;have t70:=L.t70;have a70:=L.a70;have z70:=L.z70;have v70:=L.v70;have u70:=run_underlying L.t70;have t37:=L.t37;have a37:=L.a37;have z37:=L.z37;have v37:=L.v37;have u37:=run_underlying L.t37;have t127:=L.t127;have a127:=L.a127;have z127:=L.z127;have v127:=L.v127;have u127:=run_underlying L.t127;have t3:=L.t3;have a3:=L.a3;have z3:=L.z3;have v3:=L.v3;have u3:=run_underlying L.t3;have t9:=L.t9;have a9:=L.a9;have z9:=L.z9;have v9:=L.v9;have u9:=run_underlying L.t9;have t5:=X.t5;have a5:=X.a5;have z5:=X.z5;have v5:=X.v5;have u5:=run_underlying X.t5
 go_enter L.f169,Body.n169_ntmps ρ
 go_wp2
 go_region_o
 all_goals (go_wp2;go_ret;exact ⟨rfl,Below.drew (Below.refl B w)⟩)
end Go.PM.Lex
end

section
namespace Go.PM.Lex
open Go.Proofs
variable {w0:World} {nG:Nat}
def wk {rows:List (List D)} {p:PV} {t t1 e e1:Nat} {B:Bs->Prop} {F:Bs->Bs->Prop} (l txt:Bs) (b:B txt) (k:F l txt) (h1:rows=Zk l:=by rfl) (h2:p=.d .nilp\/p=.ptr 0 0:=by first | exact .inl rfl | exact .inr rfl) (h3:t=t1:=by rfl) (h4:e=e1:=by rfl) (h5:l.length+txt.length<70368744177664:=by (try simp only [Tb,Te,Tg]);omega):∃l txt,rows=Zk l/\((p=.d .nilp\/p=.ptr 0 0)/\t=t1/\e=e1)/\B txt/\l.length+txt.length<70368744177664/\F l txt:=⟨l,txt,h1,⟨h2,h3,h4⟩,b,h5,k⟩
def Zju (r:PV) (body:List PV->Bs->Prop):Zn:=fun args σ K=>match args,σ with
 | .ptr 0 0::rest,⟨[.cells t [p,.sl 0 e rows]],[0],1⟩=>∃l txt,rows=Zk l/\((p=.d .nilp\/p=.ptr 0 0)/\t=136/\e=5)/\body rest txt/\l.length+txt.length<70368744177664 /\
   K (.ret r) ⟨[.cells t [.ptr 0 0,.sl 0 e (Zk (l++txt))]],[0],1⟩
 | _,_=>False
def Zaj (r:PV) (body:List PV->Bs->Prop):Zy (Zju r body):=fun args σ K K' hK h=>by
 unfold Zju at h |-
 split at h
 ·obtain ⟨l,txt,h1,h2,h3,h4,h5⟩:=h;exact ⟨l,txt,h1,h2,h3,h4,hK _ _ h5⟩
 exact h.elim
def ZgR {α:Type} (val:Pl->α->PV) (may:α->Bool) (txt:α->Bs) (w:α->Nat) (n:Nat):Zn:=fun args σ K=>match args,σ with
 | [v,.ptr 0 0],⟨[.cells tp [.ptr 1 0],.cells t [.ptr 1 0,.sl 0 e rows]],[0],1⟩=>∃l pl x,rows=Zk l/\v=val pl x/\(t=136/\e=5)/\(may x=true/\w x<=n/\n<=1073741824)/\l.length+(txt x).length<70368744177664 /\
   K (.ret (.tuple [])) ⟨[.cells tp [.ptr 1 0],.cells t [.ptr 1 0,.sl 0 e (Zk (l++txt x))]],[0],1⟩
 | _,_=>False
def Zqy {α:Type} (g0:FuncId) (enc:Pl->α->List D) (may:α->Bool) (txt:α->Bs) (w:α->Nat) (n:Nat):Zn:=fun args σ K=>match args,σ with
 | [.ptr 0 0,.d (.sl r),.d (.str bt),.func g [] [.ptr 1 0]],⟨[.cells t [.ptr 0 0,.sl 0 e rows],.cells tp [.ptr 0 0]],[0],1⟩=>∃l pl xs,rows=Zk l/\r=xs.map (enc pl)/\(t=136/\e=5/\g=g0)/\(xs.all may=true/\szS w xs<=n/\n<=1073741824)/\l.length+(Zg bt (xs.map txt)).length<70368744177664 /\
   K (.ret (.tuple [])) ⟨[.cells t [.ptr 0 0,.sl 0 e (Zk (l++Zg bt (xs.map txt)))],.cells tp [.ptr 0 0]],[0],1⟩
 | _,_=>False
def ZEX (s:Bs):Zn:=Zju (.tuple [.d (.int .i64 s.length),.d .nili]) fun rest txt=>rest=[.d (.str s)]/\txt=s
def ZgS:Zn:=fun args σ K=>match args with
 | [.ptr 0 0,.d (.str s)]=>ZEX s args σ K
 | _=>False
def ZnV:Zy ZgS:=fun args σ K K' hK h=>by
 unfold ZgS at h |-
 split at h
 ·exact Zaj _ _ _ _ _ _ hK h
 exact h.elim
def ZBn:Tbl:=[(235,Uw)]
def Zqz:PC w0 nG 184 ZgS:=by
 refine pwt (tbl:=ZBn) ⟨ZgQ,trivial⟩ Tryz.func184 fun args σ K h=>?_
 unfold ZgS at h
 split at h
 ·rename_i s
  unfold ZEX Zju at h
  split at h
  ·rename_i rest t p e rows ac
   obtain ⟨l,txt,rfl,⟨hp,rfl,rfl⟩,⟨am,rfl⟩,hlen,h⟩:=h;simp only [List.cons.injEq,true_and] at ac;have hb:∀x:Bs,(Zk x).length=x.length:=fun x=>by simp [Zk]
   rw [Va] at h;refine pwu [] 1 true ?_;rcases hp with rfl | rfl
   all_goals
    conv=>whnf
    first | refine ⟨⟨.inl rfl,rfl⟩,?_⟩ | refine ⟨⟨.inr rfl,rfl⟩,?_⟩
    conv=>whnf
    refine ⟨fun r hr=>?_,?_,?_,?_⟩
    ·obtain ⟨b,_,rfl⟩:=Sl.1 hr;rfl
    ·show ((Zk l).length+(Zk txt).length) * 1<=2 ^ 47;rw [hb,hb];omega
    ·show (Zk l).length+(Zk txt).length<=2 ^ 47;rw [hb,hb];omega
    exact mq48
  exact h.elim
 exact h.elim
def Zey:Zn:=Zju (.tuple []) fun rest txt=>∃ps:List Bs,rest=[.d (.sl (ps.map Ye))]/\ps≠[]/\ps.length<=1073741824/\txt=ps.flatten
def ZnW:Zy Zey:=Zaj _ _
def ZqA:Tbl:=[(184,ZgS)]
def ZiG:TO w0 nG ZqA:=⟨Zqz,trivial⟩
def Zak:PC w0 nG 127 Zey:=by
 refine pwt (tbl:=ZqA) ZiG Tryz.func127 fun args σ K h=>?_
 unfold Zey Zju at h
 split at h
 ·rename_i rest t p e rows
  obtain ⟨l,txt,rfl,⟨hp,rfl,rfl⟩,⟨ps,rfl,ah,eg,rfl⟩,hlen,h⟩:=h;have dv:(ps.map Ye).length=ps.length:=Td ..;refine pwu [(1,⟨[8],[0,6,7],fun vs σ=>∃(i:Nat) (P:PV),vs=[.d (.int .i64 i)]/\σ=⟨[.cells 136 [P,.sl 0 5 (Zk (l++(ps.take i).flatten))]],[0],1⟩/\(P=.d .nilp\/P=.ptr 0 0)/\(0<i->P=.ptr 0 0)/\i<=ps.length,mu1 ps.length⟩)] 1 true ?_;rcases hp with rfl | rfl
  all_goals
   conv=>whnf
   refine ⟨⟨0,_,rfl,(by simp only [Sj,List.flatten_nil,T1];rfl),iM,fun g=>absurd g oM,oM⟩,?_⟩;intro vs σ hI
   obtain ⟨i,P,rfl,rfl,hP,hP0,hi⟩:=hI;(conv=>whnf);refine ZFU (fun ab=>?_) (fun ab=>?_)
   ·have ab:i<ps.length:=lzI dv ab;obtain ⟨s,hs⟩:∃s,ps[i]=s:=⟨_,rfl⟩
    have ca:(ps.map Ye)[((i:Nat):Int).toNat]?=some (Ye s):=by simp [ab,hs]
    have cp:(ps.take (i+1)).flatten=(ps.take i).flatten++s:=by rw [List.take_succ_eq_append_getElem ab,List.flatten_append,hs];simp
    have aj:(ps.take (i+1)).flatten.length<=ps.flatten.length:=by
     have e:ps.flatten=(ps.take (i+1)).flatten++(ps.drop (i+1)).flatten:=by rw [<- List.flatten_append,List.take_append_drop]
     rw [e,Tb];omega
    rw [cp,Tb] at aj;rcases hP with rfl | rfl
    all_goals
     conv=>whnf
     refine ⟨_,oM,ca,wN ?_⟩;refine ⟨l++(ps.take i).flatten,s,rfl,⟨iM,rfl,rfl⟩,⟨rfl,rfl⟩,by rw [Tb];omega,?_⟩;(conv=>whnf);refine Zl ?_;refine ⟨⟨i+1,_,rfl,(by rw [cp,To];rfl),.inr rfl,fun _=>rfl,oM⟩,?_⟩;exact lzM oM
   have ab:i=ps.length:=lzE dv oM ab;subst ab;obtain rfl:=hP0 (List.length_pos_iff.2 ah);rw [Si];exact mq48
 exact h.elim
def ZdF (bt:Bs):∀(l:List Bs) (x:Bs),Zg bt (l++[x])=if l=[] then x else Zg bt l++(bt++x)
 | [],x=>rfl
 | [y],x=>by simp [Zg]
 | y::z::l,x=>by
  have ih:=ZdF bt (z::l) x;simp only [T5] at ih |-;rw [Zg,ih] <;> simp [Zg]
def VL {α:Type} (bt:Bs) (f:α->Bs) {xs:List α} {i:Nat} (h:i<xs.length):Zg bt ((xs.take (i+1)).map f)=if i=0 then f xs[i] else Zg bt ((xs.take i).map f)++(bt++f xs[i]):=by
 rw [List.take_succ_eq_append_getElem h,Ss,TF,TQ,ZdF];have e:((xs.take i).map f=[])↔i=0:=by
  rw [<- Sy,Td,List.length_take];omega
 by_cases h0:i=0
 ·rw [Tk (e.2 h0),Tk h0]
 rw [Tf (fun g=>h0 (e.1 g)),Tf h0]
def Zal (bt:Bs):∀(l m:List Bs),(Zg bt l).length<=(Zg bt (l++m)).length
 | [],m=>Sa _
 | [x],[]=>Tu _
 | [x],y::m=>by simp only [T5,Sm,Zg,Tb];omega
 | x::y::l,m=>by
  have ih:=Zal bt (y::l) m;simp only [T5,Zg,Tb] at ih |-;omega
def Zam {α:Type} (bt:Bs) (f:α->Bs) (xs:List α) (i:Nat):(Zg bt ((xs.take i).map f)).length<=(Zg bt (xs.map f)).length:=by
 have h:=Zal bt ((xs.take i).map f) ((xs.drop i).map f)
 rwa [<- Ss,List.take_append_drop] at h
def Zx4 {n:Nat}:OKw w0 nG [(184,ZgS),(186,ZgR (YF (fun _=>Zo)) YO fiT wFi n)] 185 (Zqy 186 (fun _=>Zo) YO fiT wFi n):=by
 refine pwo Tryz.func185 fun args σ K h=>?_
 unfold Zqy at h
 split at h
 ·rename_i r bt g t e rows tp
  obtain ⟨l,pl,xs,rfl,rfl,⟨rfl,rfl,rfl⟩,⟨bv,hz,hn⟩,hlen,h⟩:=h;have dv:(xs.map ((fun _=>Zo) pl)).length=xs.length:=Td ..;have hsz:=Zq wFi xs;refine pwv [(1,⟨[12],[0,1,2,3,10,11],fun vs σ=>∃i:Nat,vs=[.d (.int .i64 i)]/\σ=⟨[.cells 136 [.ptr 0 0,.sl 0 5 (Zk (l++Zg bt ((xs.take i).map fiT)))],.cells tp [.ptr 0 0]],[0],1⟩/\i<=xs.length,mu1 xs.length⟩)] 2 true ?_;refine ⟨⟨0,rfl,(by simp only [Sj,TQ,Zg,T1];rfl),oM⟩,?_⟩;intro vs σ hI
  obtain ⟨i,rfl,rfl,hi⟩:=hI;(conv=>whnf);refine ZFU (fun ab=>wN ?_) (fun ab=>?_)
  ·have ab:i<xs.length:=lzI dv ab;have hg:=Zz wFi xs i ab;have ew:YO xs[i]=true:=Tr.1 bv _ (TC ab);have cp:=VL bt fiT ab;have aj:=Zam bt fiT xs (i+1);obtain ⟨eA,hA⟩:∃x,xs[i]=x:=⟨_,rfl⟩
   obtain ⟨a1,a2⟩:=eA;rw [hA] at hg ew cp;have ca:(xs.map ((fun _=>Zo) pl))[((i:Nat):Int).toNat]?=some ((fun _=>Zo) pl ⟨a1,a2⟩):=by simp [ab,hA]
   refine ⟨_,oM,ca,wN ?_⟩;refine ZFU (fun h0=>wN ?_) (fun h0=>?_)
   ·have h0:0<i:=by omega
    rw [Tf oM] at cp;rw [cp] at aj;simp only [Tb] at aj;refine wk _ bt ⟨rfl,rfl⟩ (wN ?_);refine ⟨l++Zg bt ((xs.take i).map fiT)++bt,pl,⟨a1,a2⟩,rfl,rfl,⟨rfl,rfl⟩,⟨ew,oM,oM⟩,by simp only [Tb];omega,wN ?_⟩;exact mq76
   obtain rfl:i=0:=by omega
   rw [Tk rfl] at cp;rw [cp] at aj;(conv=>whnf);refine ⟨l++Zg bt ((xs.take 0).map fiT),pl,⟨a1,a2⟩,rfl,rfl,⟨rfl,rfl⟩,⟨ew,oM,oM⟩,by simp only [Sj,TQ,Zg,Tb,Tg];omega,wN ?_⟩;exact mq71
  exact mq179
 exact h.elim
def Zx6 {n:Nat}:OKw w0 nG [(184,ZgS),(130,ZgR (YF (fun _=>ZB)) Xm caT wCa n)] 129 (Zqy 130 (fun _=>ZB) Xm caT wCa n):=by
 refine pwo Tryz.func129 fun args σ K h=>?_
 unfold Zqy at h
 split at h
 ·rename_i r bt g t e rows tp
  obtain ⟨l,pl,xs,rfl,rfl,⟨rfl,rfl,rfl⟩,⟨bv,hz,hn⟩,hlen,h⟩:=h;have dv:(xs.map ((fun _=>ZB) pl)).length=xs.length:=Td ..;have hsz:=Zq wCa xs;refine pwv [(1,⟨[12],[0,1,2,3,10,11],fun vs σ=>∃i:Nat,vs=[.d (.int .i64 i)]/\σ=⟨[.cells 136 [.ptr 0 0,.sl 0 5 (Zk (l++Zg bt ((xs.take i).map caT)))],.cells tp [.ptr 0 0]],[0],1⟩/\i<=xs.length,mu1 xs.length⟩)] 2 true ?_;refine ⟨⟨0,rfl,(by simp only [Sj,TQ,Zg,T1];rfl),oM⟩,?_⟩;intro vs σ hI
  obtain ⟨i,rfl,rfl,hi⟩:=hI;(conv=>whnf);refine ZFU (fun ab=>wN ?_) (fun ab=>?_)
  ·have ab:i<xs.length:=lzI dv ab;have hg:=Zz wCa xs i ab;have ew:Xm xs[i]=true:=Tr.1 bv _ (TC ab);have cp:=VL bt caT ab;have aj:=Zam bt caT xs (i+1);obtain ⟨eA,hA⟩:∃x,xs[i]=x:=⟨_,rfl⟩
   obtain ⟨a1,a2⟩:=eA;rw [hA] at hg ew cp;have ca:(xs.map ((fun _=>ZB) pl))[((i:Nat):Int).toNat]?=some ((fun _=>ZB) pl ⟨a1,a2⟩):=by simp [ab,hA]
   refine ⟨_,oM,ca,wN ?_⟩;refine ZFU (fun h0=>wN ?_) (fun h0=>?_)
   ·have h0:0<i:=by omega
    rw [Tf oM] at cp;rw [cp] at aj;simp only [Tb] at aj;refine wk _ bt ⟨rfl,rfl⟩ (wN ?_);refine ⟨l++Zg bt ((xs.take i).map caT)++bt,pl,⟨a1,a2⟩,rfl,rfl,⟨rfl,rfl⟩,⟨ew,oM,oM⟩,by simp only [Tb];omega,wN ?_⟩;exact mq76
   obtain rfl:i=0:=by omega
   rw [Tk rfl] at cp;rw [cp] at aj;(conv=>whnf);refine ⟨l++Zg bt ((xs.take 0).map caT),pl,⟨a1,a2⟩,rfl,rfl,⟨rfl,rfl⟩,⟨ew,oM,oM⟩,by simp only [Sj,TQ,Zg,Tb,Tg];omega,wN ?_⟩;exact mq71
  exact mq179
 exact h.elim
def ZDQ:Tab:=(.node (.node (.node (.node .leaf 3 ⟨1,8,.int .i64,[.d (.int .i64 (0))],true⟩ .leaf) 4 ⟨1,1,.bool,[.d (.bool false)],false⟩ .leaf) 5 ⟨1,1,.int .u8,[.d (.int .u8 (0))],true⟩ (.node .leaf 9 ⟨1,16,.string,[.d (.str [])],false⟩ .leaf)) 93 ⟨1,8,.int .u64,[.d (.int .u64 (0))],true⟩ (.node (.node .leaf 128 ⟨1,8,.int .u64,[.d (.int .u64 (0))],true⟩ .leaf) 132 ⟨1,24,.slice 5,[.nils 5],false⟩ (.node .leaf 365 ⟨65,65,.array 65 5,[.d (.int .u8 (0)),.d (.int .u8 (0)),.d (.int .u8 (0)),.d (.int .u8 (0)),.d (.int .u8 (0)),.d (.int .u8 (0)),.d (.int .u8 (0)),.d (.int .u8 (0)),.d (.int .u8 (0)),.d (.int .u8 (0)),.d (.int .u8 (0)),.d (.int .u8 (0)),.d (.int .u8 (0)),.d (.int .u8 (0)),.d (.int .u8 (0)),.d (.int .u8 (0)),.d (.int .u8 (0)),.d (.int .u8 (0)),.d (.int .u8 (0)),.d (.int .u8 (0)),.d (.int .u8 (0)),.d (.int .u8 (0)),.d (.int .u8 (0)),.d (.int .u8 (0)),.d (.int .u8 (0)),.d (.int .u8 (0)),.d (.int .u8 (0)),.d (.int .u8 (0)),.d (.int .u8 (0)),.d (.int .u8 (0)),.d (.int .u8 (0)),.d (.int .u8 (0)),.d (.int .u8 (0)),.d (.int .u8 (0)),.d (.int .u8 (0)),.d (.int .u8 (0)),.d (.int .u8 (0)),.d (.int .u8 (0)),.d (.int .u8 (0)),.d (.int .u8 (0)),.d (.int .u8 (0)),.d (.int .u8 (0)),.d (.int .u8 (0)),.d (.int .u8 (0)),.d (.int .u8 (0)),.d (.int .u8 (0)),.d (.int .u8 (0)),.d (.int .u8 (0)),.d (.int .u8 (0)),.d (.int .u8 (0)),.d (.int .u8 (0)),.d (.int .u8 (0)),.d (.int .u8 (0)),.d (.int .u8 (0)),.d (.int .u8 (0)),.d (.int .u8 (0)),.d (.int .u8 (0)),.d (.int .u8 (0)),.d (.int .u8 (0)),.d (.int .u8 (0)),.d (.int .u8 (0)),.d (.int .u8 (0)),.d (.int .u8 (0)),.d (.int .u8 (0)),.d (.int .u8 (0))],false⟩ .leaf)))
def Ztp:TabOK ZDQ Tryz.prog:=by unfold TabOK;kernel_rfl
end Go.PM.Lex
end

section
namespace Go.PM.Lex
open Go.Proofs Go.Shelf Go.RowKit
variable {w0:World} {nG:Nat}
structure NumOK (w0:World) (nG:Nat):Prop where
 big:7<nG
 pow : Lib.TabIs Tryz.prog w0 "internal/strconv.uint64pow10" .u64 Lib.pow10Tab
 bru:w0.cell? ⟨5,15,none⟩=some (.int .u8 4)
def ZBo:IntKind.u64.wrap (bits BinOp.and IntKind.u64 (16:Int) (IntKind.u64.wrap (-(16:Int))) * 285870213051353865) / 288230376151711744=(15:Int):=by decide +kernel
def Zx7 (w:World) (ax:w.cell? ⟨5,15,none⟩=some (.int .u8 4)):Calls Tryz.prog 335 #[.int .u64 16] w fun e w'=>e=.returned (.int .i64 4)/\w'=w:=by
 go_enter Tryz.func335,Tryz.ntmps335
 go_wp2_with (simp only [ZBo])
 go_ret
 exact ⟨rfl,rfl⟩
def ZbT:∀(f n:Nat),n<f->Lib.decDigits n=JH 10 f n
 | 0,n,h=>oM
 | f+1,n,h=>by
  rw [Lib.decDigits,JH]
  by_cases c:n<10
  ·rw [dif_pos c,Tk c,Zjs,Tk c]
  rw [dif_neg c,Tf c,ZbT f (n / 10) oM,Zjs,Tk oM]
def ZqB {n:Int} (h:0<=n):Lib.itoa n=Zfs n:=by
 rw [Lib.itoa,Tf oM,Zfs,Tf oM,Ve];exact ZbT _ _ oM
def Ztq {e:Env} {σ:St} {w:World} {name:String} {k:IntKind} {zs:List Int} {g:Nat} (hS:SRel (GG w0 nG) e σ w) (h:Lib.TabIs Tryz.prog w0 name k zs) (hg:Tryz.prog.globalNamed name=some g) (aa:g<nG):Lib.TabIs Tryz.prog w name k zs:=by
 unfold Lib.TabIs World.var? at h |-
 rw [hg] at h |-;simp only [Option.bind_some] at h |-;rw [hS.glob g aa];exact h
def Zx8 {e:Env} {σ:St} {w:World} {k i:Nat} {u:Value} (hS:SRel (GG w0 nG) e σ w) (hk:k<nG) (h:w0.cell? ⟨k,i,none⟩=some u):w.cell? ⟨k,i,none⟩=some u:=by
 have:=hS.glob k hk;simpa [World.cell?,this] using h
def ZiH:Zn:=fun args σ K=>match args,σ with
 | [.d (.int .i64 n),.d (.int .i64 b)],⟨[],[],0⟩=>(b=10/\0<=n/\n<9223372036854775808)/\K (.ret (.d (.str (Zfs n)))) ⟨[],[],0⟩
 | _,_=>False
def Zkt:Zy ZiH:=fun args σ K K' hK h=>by
 unfold ZiH at h |-;split at h <;> first | exact ⟨h.1,hK _ _ h.2⟩ | exact h.elim
def ZqC (hN:NumOK w0 nG):PC w0 nG 271 ZiH:=YK (Ze Tryz.func271 kR rfl) fun args σ K h e w vs hS ha=>by
 unfold ZiH at h
 split at h
 ·rename_i n b
  obtain ⟨⟨rfl,h0,h1⟩,h⟩:=h;obtain ⟨u,v,rfl,hu,hv⟩:=Zj6 ha
  cases hu.dint;cases hv.dint
  have ht:=Ztq hS hN.pow (g:=3) kR (by have:=hN.big;omega);have hc:=Tryz.strconv_FormatInt_10 n oM oM w ht;rw [ZqB h0] at hc;exact ⟨_,h,_,fun _ _=>.mkstr,hc.mono fun en w' ⟨h1,k,os,h2⟩=>⟨h1,ZF0 (by rw [h2];exact Lib.below_grow w.heap.size w (Tu _) k os)⟩⟩
 exact h.elim
def ZzQ:Zn:=fun args σ K=>match args,σ with
 | [.d (.int .u64 n)],⟨[],[],0⟩=>n=16/\K (.ret (.d (.int .i64 4))) ⟨[],[],0⟩
 | _,_=>False
def Zx9 (hN:NumOK w0 nG):PC w0 nG 335 ZzQ:=YK (Ze Tryz.func335 kR rfl) fun args σ K h e w vs hS ha=>by
 unfold ZzQ at h
 split at h
 ·rename_i n
  obtain ⟨rfl,h⟩:=h;obtain ⟨u,rfl,hu⟩:=Zer ha
  cases hu.dint
  exact ⟨_,h,_,fun _ _=>.d _ _ (.int _ _),(Zx7 w (Zx8 hS (k:=5) (by have:=hN.big;omega) hN.bru)).mono fun en w' ⟨h1,h2⟩=>⟨h1,by rw [h2];exact Grows.refl _⟩⟩
 exact h.elim
def ZDR:Tbl:=[(335,ZzQ)]
def ZDS (hN:NumOK w0 nG):PC w0 nG 325 ZzQ:=by
 refine pwt (tbl:=ZDR) ⟨Zx9 hN,trivial⟩ Tryz.func325 fun args σ K h=>?_
 unfold ZzQ at h
 split at h
 ·obtain ⟨rfl,h⟩:=h;refine pwv [] 0 false ?_;refine ⟨rfl,wN ?_⟩;exact h
 exact h.elim
def Zya:Zn:=fun args σ K=>match args,σ with
 | [.d (.int .i64 n)],⟨[],[],0⟩=>n=16/\K (.ret (.d (.bool true))) ⟨[],[],0⟩
 | _,_=>False
def Zyb:Zh .and .i64 16 15=0:=by rw [Yl];decide +kernel
def ZBp:PC w0 nG 324 Zya:=by
 refine pwe Tryz.func324 fun args σ K h=>?_
 unfold Zya at h
 split at h
 ·obtain ⟨rfl,h⟩:=h;refine pwv [] 0 false ?_;refine Zl ?_;have e:(Zh .and .i64 16 (16 - 1))=0:=Zyb;rw [e];exact h
 exact h.elim
def Ztr {n:Nat} (h:16<=n):Ve 16 n=Ve 16 (n / 16)++[Zjs (n % 16)]:=by
 have key:∀(f g m:Nat),m<f->m<g->JH 16 f m=JH 16 g m:=by
  intro f
  induction f with
  | zero=>intro g m h;omega
  | succ f ih =>
  intro g m h1 h2
  obtain ⟨g,rfl⟩:∃k,g=k+1:=⟨g - 1,oM⟩
  rw [JH,JH];split
  ·rfl
  rw [ih g (m / 16) oM oM]
 rw [Ve,JH,Tf oM,Ve,key n (n / 16+1) (n / 16) oM oM]
def Zts {n:Nat} (h:n<16):Ve 16 n=[Zjs n]:=by rw [Ve,JH,Tk h]
def digs36:Bs:=[48,49,50,51,52,53,54,55,56,57,97,98,99,100,101,102,103,104,105,106,107,108,109,110,111,112,113,114,115,116,117,118,119,120,121,122]
def ZqD:∀d:Fin 16,digs36.getD d.val 0=Zjs d.val:=by decide +kernel
def Zyc {u:Nat} (h:u<18446744073709551616):Zh .and .u64 (u:Int) 15=((u % 16:Nat):Int):=by
 have e:Zh .and .u64 (u:Int) 15=bits .and .u64 (u:Int) ((15:Nat):Int):=by rw [Yl];rfl
 rw [e,bits_and_u64_nat u 15 h dM];have:u &&& 15=u % 16:=Nat.and_two_pow_sub_one_eq_mod u 4;rw [this]
def sh4 (n:Int):Int:=n.fdiv (2 ^ (min (Int.toNat 4) (IntKind.bits .u64)))
def Zyd (u:Nat):sh4 (u:Int)=((u / 16:Nat):Int):=by
 show (u:Int).fdiv ((2:Int) ^ 4)=_;rw [show ((2:Int) ^ 4)=((16:Nat):Int) by decide,Int.fdiv_eq_ediv_of_nonneg _ dM];omega
def Ztt {u:Nat} (h:u<18446744073709551616):digs36.getD (Zh .and .u64 (u:Int) 15).toNat 0=Zjs (u % 16):=by
 rw [Zyc h,Tj];exact ZqD ⟨u % 16,Nat.mod_lt _ dM⟩
def Ztu {u:Nat} (h:u<16):digs36.getD (u:Int).toNat 0=Zjs u:=by
 rw [Tj];exact ZqD ⟨u,h⟩
def Ztv {u:Nat} (h:u<18446744073709551616):0<=Zh .and .u64 (u:Int) 15:=by rw [Zyc h];omega
def Ztw {u:Nat} (h:u<18446744073709551616):Zh .and .u64 (u:Int) 15<36:=by rw [Zyc h];omega
def shN:Nat->Int->Int
 | 0,n=>n
 | j+1,n=>sh4 (shN j n)
def ZBq:Nat->Int->Bs
 | 0,_=>[]
 | j+1,n=>digs36.getD (Zh .and .u64 (shN j n) 15).toNat 0::ZBq j n
def Zbc (u:Nat):∀j,shN j (u:Int)=((u / 16 ^ j:Nat):Int)
 | 0=>by rw [shN,Nat.pow_zero,Nat.div_one]
 | j+1=>by rw [shN,Zbc u j,Zyd,Nat.div_div_eq_div_mul,Nat.pow_succ]
def ZqE {u:Nat} (hu:u<18446744073709551616) (j:Nat):u / 16 ^ j<18446744073709551616:=Nat.lt_of_le_of_lt (Nat.div_le_self _ _) hu
def ZEY {u:Nat} (hu:u<18446744073709551616):∀j,(∀k,k<j->16<=u / 16 ^ k)->Ve 16 u=Ve 16 (u / 16 ^ j)++ZBq j (u:Int)
 | 0,_=>by rw [ZBq,Nat.pow_zero,Nat.div_one,T1]
 | j+1,h=>by
  rw [ZEY hu j fun k hk=>h k oM,Ztr (h j oM),ZBq,Zbc,Ztt (ZqE hu j),To,Nat.div_div_eq_div_mul,Nat.pow_succ];rfl
def ZEZ {u j:Nat} (G:∀k,k<j->16<=u / 16 ^ k) (g:(16:Int)<=shN j (u:Int)):∀k,k<j+1->16<=u / 16 ^ k:=fun k hk=>by
 rw [Zbc] at g
 by_cases c:k=j
 ·subst c;omega
 exact G k oM
def ZE0 {u j:Nat} (hu:u<18446744073709551616) (G:∀k,k<j->16<=u / 16 ^ k) (g:¬(16:Int)<=shN j (u:Int)):Ve 16 u=digs36.getD (shN j (u:Int)).toNat 0::ZBq j (u:Int):=by
 rw [Zbc] at g |-;rw [ZEY hu j G,Zts oM,Ztu oM];rfl
def ZFH {u j:Nat} (hu:u<18446744073709551616) (G:∀k,k<j->16<=u / 16 ^ k):0<=Zh .and .u64 (shN j (u:Int)) 15/\Zh .and .u64 (shN j (u:Int)) 15<36:=by
 rw [Zbc];exact ⟨Ztv (ZqE hu j),Ztw (ZqE hu j)⟩
def ZE1 {u j:Nat} (G:∀k,k<j->16<=u / 16 ^ k) (g:¬(16:Int)<=shN j (u:Int)):0<=shN j (u:Int)/\shN j (u:Int)<36:=by
 rw [Zbc] at g |-;generalize u / 16 ^ j=v at g |-;omega
def ZDT:Zn:=fun args σ K=>match args,σ with
 | [.sl 0 e [],.d (.int .u64 n),.d (.int .i64 b),.d (.bool ng),.d (.bool ap)],⟨[],[0],1⟩=>(b=16/\ng=false/\ap=false/\0<=n/\n<18446744073709551616)/\K (.ret (.tuple [.d (.sl []),.d (.str (Ve 16 n.toNat))])) ⟨[],[],0⟩
 | _,_=>False
def ZDU:Tbl:=[(324,Zya),(325,ZzQ)]
def ZDV (hN:NumOK w0 nG):PC w0 nG 312 ZDT:=by
 refine Zj4 Ztp mixed (tbl:=ZDU) ⟨ZBp,ZDS hN,trivial⟩ Tryz.func312 rfl kR kR ?_;intro args σ K h
 unfold ZDT at h
 split at h
 all_goals first | exact h.elim | skip
 all_goals
  obtain ⟨⟨rfl,rfl,rfl,h0,h1⟩,h⟩:=h
  rename_i e n
  obtain ⟨u0,rfl⟩:∃u:Nat,n=u:=⟨n.toNat,oM⟩
  rw [Tj] at h;have wt:u0<18446744073709551616:=oM;refine ⟨Zj [],Xk [(11,17)],Yh [],Yh [101],Yh [],0,false,sM,Tc rfl,wN ?_⟩;refine ⟨rfl,wN ?_⟩;refine Zc9 ?_;refine ⟨rfl,wN ?_⟩;refine Zc9 ?_;refine Zc9 ?_;refine Zc9 ?_;refine Zc9 ?_;have G:∀k,k<0->16<=u0 / 16 ^ k:=fun k hk=>oM
  iterate 15
   refine ZFU (fun g=>?_) (fun g=>?_);rotate_left
   ·have hb:=ZE0 wt G g;have B:=ZE1 G g;rw [hb] at h;(conv=>whnf);exact mq182
   have B:=ZFH wt G;have G:=ZEZ G g;(conv=>whnf);refine X5 ?_;refine ⟨B.1,B.2,wN ?_⟩;refine ⟨dM,dM,wN ?_⟩;refine ⟨dM,wN ?_⟩
  refine ZFU (fun g=>?_) (fun g=>wN ?_)
  ·exact absurd (ZEZ G g 15 dM) oM
  have hb:=ZE0 wt G g;have B:=ZE1 G g;rw [hb] at h;exact mq182
def ZbU:Zn:=fun args σ K=>match args,σ with
 | [.d (.int .u64 n),.d (.int .i64 b)],⟨[],[],0⟩=>(b=16/\0<=n/\n<18446744073709551616)/\K (.ret (.d (.str (Ve 16 n.toNat)))) ⟨[],[],0⟩
 | _,_=>False
def Zku:Zy ZbU:=fun args σ K K' hK h=>by
 unfold ZbU at h |-;split at h <;> first | exact ⟨h.1,hK _ _ h.2⟩ | exact h.elim
def ZDW:Tbl:=[(312,ZDT)]
def ZDX (hN:NumOK w0 nG):PC w0 nG 295 ZbU:=by
 refine pwt (tbl:=ZDW) ⟨ZDV hN,trivial⟩ Tryz.func295 fun args σ K h=>?_
 unfold ZbU at h
 split at h
 ·obtain ⟨⟨rfl,h0,h1⟩,h⟩:=h;refine pwv [] 0 false ?_;refine ⟨⟨rfl,rfl,rfl,h0,h1⟩,wN ?_⟩;exact h
 exact h.elim
def Zye:Tbl:=[(295,ZbU)]
def ZqF (hN:NumOK w0 nG):PC w0 nG 270 ZbU:=by
 refine pwt (tbl:=Zye) ⟨ZDX hN,trivial⟩ Tryz.func270 fun args σ K h=>?_
 unfold ZbU at h
 split at h
 ·rename_i n b
  obtain ⟨⟨rfl,h0,h1⟩,h⟩:=h;refine pwv [] 0 false ?_;refine ⟨⟨rfl,h0,h1⟩,?_⟩;generalize Ve 16 n.toNat=T at h |-;exact mq48
 exact h.elim
def Zl5 {n:Int} (h:n<0) (h0:-9223372036854775808<=n):0<=IntKind.u64.wrap n/\IntKind.u64.wrap n<18446744073709551616/\Zfs n=[48,120]++Ve 16 (IntKind.u64.wrap n).toNat:=by
 have e:IntKind.u64.wrap n=n+18446744073709551616:=by
  unfold IntKind.wrap
  simp [IntKind.signed,IntKind.bits];omega
 refine ⟨oM,oM,?_⟩;rw [Zfs,Tk h,e]
end Go.PM.Lex
end

section
namespace Go.PM.Lex
def ZCS (n:Int):Bool:=decide (-9223372036854775808<=n) && decide (n<9223372036854775808)
mutual
def Zjv:Ex->Bool
 | .mk _ _ n l _=>ZCS n && Zkv l
def Zkv:List Ex->Bool
 | []=>true
 | x::l=>Zjv x && Zkv l
end
def UR (l:List Ex):Zkv l=l.all Zjv:=by induction l with | nil=>rfl | cons x l ih=>simp [Zkv,ih]
def ZdG {op:Nat} {t:Bs} {n:Int} {l:List Ex} {a:Nat} (h:Zjv (.mk op t n l a)=true):(-9223372036854775808<=n/\n<9223372036854775808)/\∀x∈l,Zjv x=true:=by
 simp only [Zjv,UR,ZCS,Tn,TP] at h;exact ⟨h.1,Tr.1 h.2⟩
mutual
def ZnX:Li->Bool
 | .mk _ _ args body _=>Zkv args && ZnY body
def ZnY:List Li->Bool
 | []=>true
 | x::l=>ZnX x && ZnY l
end
def Zan (l:List Li):ZnY l=l.all ZnX:=by induction l with | nil=>rfl | cons x l ih=>simp [ZnY,ih]
def ZqG {op:Nat} {rel:Bs} {args:List Ex} {body:List Li} {a:Nat} (h:ZnX (.mk op rel args body a)=true):(∀x∈args,Zjv x=true)/\∀x∈body,ZnX x=true:=by
 simp only [ZnX,UR,Zan,Tn] at h;exact ⟨Tr.1 h.1,Tr.1 h.2⟩
def ZqH (r:Ru):Bool:=r.args.all Zjv && r.body.all ZnX
mutual
def Zyf:Un->Bool
 | .mk _ _ rules comps _ _=>rules.all ZqH && Zfu comps
def ZqI:Co->Bool
 | .mk _ _ _ _ u _=>Zyf u
def Zfu:List Co->Bool
 | []=>true
 | c::l=>ZqI c && Zfu l
end
def ZdH (l:List Co):Zfu l=l.all ZqI:=by induction l with | nil=>rfl | cons x l ih=>simp [Zfu,ih]
open Go.Proofs
variable {w0:World} {nG:Nat}
def Zkw (e:Ex):Bool:=Yi e && Zjv e
def Zyg {op:Nat} {t:Bs} {n:Int} {l:List Ex} {a:Nat} (h:Zkw (.mk op t n l a)=true):-2<V0 op/\(V0 op<0\/(l.length:Int)=V0 op)/\V3 op t=true/\(-9223372036854775808<=n/\n<9223372036854775808)/\l.all Zkw=true:=by
 simp only [Zkw,Tn] at h;obtain ⟨h1,h2⟩:=h;obtain ⟨r1,r2⟩:=ZdG h2;simp only [Yi,Zt,Tn,Sx,TP] at h1;obtain ⟨h1,h3,h4,h5,h6⟩:=h1;refine ⟨h1,h3,h5,r1,?_⟩;rw [Tr] at h6 |-;exact fun x hx=>by rw [Zkw,h6 x hx,r2 x hx];rfl
def Ztx {op:Nat} (h:-2<V0 op):op<26:=by
 by_cases hc:op<26
 ·exact hc
 unfold V0 at h
 (repeat rw [Tf oM] at h)
 omega
def Zyh {op:Nat} (h:-2<V0 op):(ZS op<5->V0 op=2)/\(ZS op=5->V0 op=1)/\ZS op<=6/\(op=5->V0 op=0):=by
 have hk:∀o:Fin 26,-2<V0 o.val->(ZS o.val<5->V0 o.val=2)/\(ZS o.val=5->V0 o.val=1)/\ZS o.val<=6/\(o.val=5->V0 o.val=0):=dM;exact hk ⟨op,Ztx h⟩ h
def Zty (n:Nat):Zn:=Zju (.tuple []) fun rest txt=>∃pl e want,rest=[YF ZF pl e,.d (.int .i64 want)]/\(Zkw e=true/\wE e<=n/\n<=1073741824/\0<=want/\want<=6)/\txt=exW want.toNat e
def ZqJ (n:Nat):Zy (Zty n):=Zaj _ _
def Ztz (n:Nat):Zn:=Zju (.tuple []) fun rest txt=>∃fr fin pl xs,rest=[.d (.str fr),.d (.sl (Zf pl xs)),.d (.str fin)]/\(xs.all Zkw=true/\szS wE xs<=n/\n<=1073741824)/\txt=argT fr fin xs
def ZqK (n:Nat):Zy (Ztz n):=Zaj _ _
def Vg (e:Ex):exW 0 e=exT e:=by rw [exW,Ztl,Tf sM]
def ZBs {n:Nat}:OKw w0 nG [(239,Zty n)] 238 (ZgR (YF ZF) Zkw exT wE n):=by
 refine pwo Tryz.func238 fun args σ K h=>?_
 unfold ZgR at h
 split at h
 ·obtain ⟨l,pl,⟨op,tx,nn,xs,at'⟩,rfl,rfl,⟨rfl,rfl⟩,⟨bv,hz,hn⟩,hlen,h⟩:=h;refine pwv [] 2 true ?_;refine ⟨l,exT (.mk op tx nn xs at'),rfl,⟨.inr rfl,rfl,rfl⟩,⟨pl,.mk op tx nn xs at',0,rfl,⟨bv,hz,hn,oM,oM⟩,(Vg _).symm⟩,hlen,wN ?_⟩;exact h
 exact h.elim
def ZDZ {n:Nat}:OKw w0 nG [(127,Zey),(237,Zqy 238 ZF Zkw exT wE n)] 188 (Ztz n):=by
 refine pwo Tryz.func188 fun args σ K h=>?_
 unfold Ztz Zju at h
 split at h
 ·rename_i rest t p e rows
  obtain ⟨l,txt,rfl,⟨hp,rfl,rfl⟩,⟨fr,fin,pl,xs,rfl,⟨bv,hz,hn⟩,rfl⟩,hlen,h⟩:=h;have key:l++argT fr fin xs=l++fr++Zg cmm (xs.map exT)++fin:=by simp only [argT,ZAF,To]
  rw [key] at h;have hlen:l.length+(fr.length+((Zg cmm (xs.map exT)).length+fin.length))<70368744177664:=by have:=hlen;simp only [argT,ZAF,Tb] at this;exact this
  refine pwu [] 1 true ?_;rcases hp with rfl | rfl
  all_goals
   conv=>whnf
   refine wk _ fr ⟨[fr],rfl,sM,sM,sM⟩ ?_;(conv=>whnf);refine ⟨l++fr,pl,xs,rfl,Zb pl xs,⟨rfl,rfl,rfl⟩,⟨bv,hz,hn⟩,by rw [Tb];show _+(Zg cmm (xs.map exT)).length<_;omega,wN ?_⟩;refine wk (l++fr++Zg cmm (xs.map exT)) fin ⟨[fin],rfl,sM,sM,sM⟩ (wN ?_);exact h
 exact h.elim
def ZBt:List PV->St->(St->Prop)->Prop:=fun args σ K=>args.length<=Tryz.f127.ntmps/\W (Zoy Vq ZqA (Zj []) (Xk [(1,3)]) (fun _=>false)) (YP Tryz.f127) (ZAn Vq Tryz.f127 σ.bx.length K) (Zb3 0 args) σ
def ZFI:PDef (GG w0 nG) 127 ZBt (fun _ _ _ _=>False) :=
 Znz Zx mixed Tryz.func127 rfl kR kR fun args σ K h=>⟨_,σ.bx.length,CxG.of Zx ZiG ⟨ZnV,trivial⟩ _ _ _,Tu _,h.1,h.2⟩
def ZBu (n:Nat):Tbl:=[(228,ZzP),(127,Zey),(239,spB Zty n),(188,spB Ztz n),(271,ZiH),(270,ZbU),(229,JG)]
def ZBv {n:Nat} (ht:TO w0 nG (ZBu n)):PC w0 nG 239 (Zty n):=by
 refine Zco Zx mixed Tryz.func239 rfl kR kR ZFI ?_;intro args σ K h
 unfold Zty Zju at h
 split at h
 ·rename_i rest t p e rows
  obtain ⟨l,txt,rfl,⟨hp,rfl,rfl⟩,⟨pl,⟨op,tx,nn,xs,at'⟩,want,rfl,⟨bv,hz,hn,z4,hw6⟩,rfl⟩,hlen,h⟩:=h;obtain ⟨m1,m2,m3,m4,m5⟩:=Zyg bv;obtain ⟨k1,k2,k3,k5⟩:=Zyh m1;have dw:szS wE xs+tx.length+1<=n:=by rw [wE,Zft] at hz;omega
  rw [Tr] at m5;refine ⟨Zoy Vq (ZBu n) (Zj []) (Xk []) (Yh []),1,true,CxG.of Zx ht ⟨Zqw,ZnW,Zl2 ZqJ _,Zl2 ZqK _,Zkt,Zku,ZiF,trivial⟩ _ _ _,sM,Tc rfl,?_⟩;rcases hp with rfl | rfl
  all_goals
   conv=>whnf
   refine ⟨op,rfl,fun l1 w1 a1 e1 e2 e3=>?_⟩;subst e1;(conv=>whnf);refine ZFU (fun aa=>wN ?_) (fun aa=>wN ?_)
   ·have hW:exW want.toNat (.mk op tx nn xs at')=[40]++(exT (.mk op tx nn xs at')++[41]):=by rw [exW,Ztl,Tk (by show ZS op<_;omega)]
    rw [hW] at h hlen;have adx:l.length+1<70368744177664:=by simp only [Tb,Te,Tg] at hlen;omega
    refine wk _ [40] ⟨[[40]],rfl,sM,sM,sM⟩ ?_;(conv=>whnf);refine ZFU (fun c1=>?_) (fun c1=>wN ?_)
    ·have c1:ZS op<5:=by omega
     have gy:xs.length=2:=by have:=k1 c1;omega
     obtain ⟨x0,x1,rfl⟩:∃x0 x1,xs=[x0,x1]:=by match xs,gy with | [a,b],_=>exact ⟨a,b,rfl⟩
     simp only [szS] at dw;have g0:=m5 x0 sM;have g1:=m5 x1 sM;have z0:wE x0<=n - 1:=oM;have z1:wE x1<=n - 1:=oM;obtain ⟨o0,t0,n0,y0,q0⟩:=x0;obtain ⟨o1,t1,n1,y1,q1⟩:=x1;have hx:exT (.mk op tx nn [(.mk o0 t0 n0 y0 q0),(.mk o1 t1 n1 y1 q1)] at')=exW (ZS op) (.mk o0 t0 n0 y0 q0)++(([32]++(w1++[32]))++exW (ZS op+1) (.mk o1 t1 n1 y1 q1)):=by rw [exT,exN,Tk c1,e2];rfl
     rw [hx] at h hlen
     (try simp only [Tb,Te,Tg] at hlen)
     conv=>whnf
     refine ⟨_,dM,rfl,wN ?_⟩;refine ⟨oM,wk _ (exW (ZS op) (.mk o0 t0 n0 y0 q0)) ⟨pl,(.mk o0 t0 n0 y0 q0),(ZS op:Int),rfl,⟨g0,oM,oM,oM,oM⟩,rfl⟩ ?_⟩;(conv=>whnf);refine wk _ ([32]++(w1++[32])) ⟨[[32],w1,[32]],rfl,sM,sM,sM⟩ ?_;(conv=>whnf);refine ⟨_,dM,rfl,wN ?_⟩;refine Zl ?_;refine ⟨oM,wk _ (exW (ZS op+1) (.mk o1 t1 n1 y1 q1)) ⟨pl,(.mk o1 t1 n1 y1 q1),((ZS op:Int)+1),rfl,⟨g1,oM,oM,oM,oM⟩,rfl⟩ ?_⟩;(conv=>whnf);refine ⟨Tc rfl,wN ?_⟩;refine ⟨_,dM,rfl,wN ?_⟩;refine wk _ [41] ⟨rfl,rfl⟩ ?_;(conv=>whnf);refine Zl ?_;rw [show l++([40]++(exW (ZS op) (.mk o0 t0 n0 y0 q0)++(([32]++(w1++[32]))++exW (ZS op+1) (.mk o1 t1 n1 y1 q1))++[41]))=(l++[40])++exW (ZS op) (.mk o0 t0 n0 y0 q0)++([32]++(w1++[32]))++exW (ZS op+1) (.mk o1 t1 n1 y1 q1)++[41] by first | rfl | simp only [To]] at h;exact h
    have c1:¬ZS op<5:=oM;refine ZFU (fun c2=>?_) (fun c2=>wN ?_)
    ·have c2:ZS op=5:=by omega
     have gy:xs.length=1:=by have:=k2 c2;omega
     obtain ⟨x0,rfl⟩:∃x0,xs=[x0]:=by match xs,gy with | [a],_=>exact ⟨a,rfl⟩
     simp only [szS] at dw;have g0:=m5 x0 sM;have z0:wE x0<=n - 1:=oM;obtain ⟨o0,t0,n0,y0,q0⟩:=x0;have hx:exT (.mk op tx nn [(.mk o0 t0 n0 y0 q0)] at')=w1++exW 5 (.mk o0 t0 n0 y0 q0):=by rw [exT,exN,Tf c1,Tk c2,e2];rfl
     rw [hx] at h hlen
     (try simp only [Tb,Te,Tg] at hlen)
     conv=>whnf
     refine wk _ w1 ⟨[w1],rfl,sM,sM,sM⟩ ?_;(conv=>whnf);refine ⟨_,dM,rfl,wN ?_⟩;refine ⟨oM,wk _ (exW 5 (.mk o0 t0 n0 y0 q0)) ⟨pl,(.mk o0 t0 n0 y0 q0),5,rfl,⟨g0,oM,oM,oM,oM⟩,rfl⟩ ?_⟩;(conv=>whnf);refine ⟨Tc rfl,wN ?_⟩;refine ⟨_,dM,rfl,wN ?_⟩;refine wk _ [41] ⟨rfl,rfl⟩ ?_;(conv=>whnf);refine Zl ?_;rw [show l++([40]++(w1++exW 5 (.mk o0 t0 n0 y0 q0)++[41]))=(l++[40])++w1++exW 5 (.mk o0 t0 n0 y0 q0)++[41] by first | rfl | simp only [To]] at h;exact h
    have c2:¬ZS op=5:=oM;refine ZFX (fun c3=>?_) (fun c3=>wN ?_)
    ·have c3:VK op≠[]:=by rw [e2];exact c3
     have hx:exT (.mk op tx nn xs at')=w1++argT [40] [41] xs:=by rw [exT,exN,Tf c1,Tf c2,Tk c3,e2,UQ];rfl
     rw [hx] at h hlen
     (try simp only [Tb,Te,Tg] at hlen)
     conv=>whnf
     refine wk _ w1 ⟨[w1],rfl,sM,sM,sM⟩ ?_;(conv=>whnf);refine ⟨oM,wk _ (argT [40] [41] xs) ⟨[40],[41],pl,xs,rfl,⟨Tr.2 m5,oM,oM⟩,rfl⟩ ?_⟩;(conv=>whnf);refine ⟨Tc rfl,wN ?_⟩;refine ⟨_,dM,rfl,wN ?_⟩;refine wk _ [41] ⟨rfl,rfl⟩ ?_;(conv=>whnf);refine Zl ?_;rw [show l++([40]++(w1++argT [40] [41] xs++[41]))=(l++[40])++w1++argT [40] [41] xs++[41] by first | rfl | simp only [To]] at h;exact h
    have c3:¬VK op≠[]:=by rw [e2];exact fun g=>g c3
    refine ZFU (fun c4=>?_) (fun c4=>wN ?_)
    ·have c4:op=6:=by omega
     have hx:exT (.mk op tx nn xs at')=argT [91] [93] xs:=by rw [exT,exN,Tf c1,Tf c2,Tf c3,Tk c4,UQ];rfl
     rw [hx] at h hlen
     (try simp only [Tb,Te,Tg] at hlen)
     conv=>whnf
     refine ⟨oM,wk _ (argT [91] [93] xs) ⟨[91],[93],pl,xs,rfl,⟨Tr.2 m5,oM,oM⟩,rfl⟩ ?_⟩;(conv=>whnf);refine ⟨Tc rfl,wN ?_⟩;refine ⟨_,dM,rfl,wN ?_⟩;refine wk _ [41] ⟨rfl,rfl⟩ ?_;(conv=>whnf);refine Zl ?_;rw [show l++([40]++(argT [91] [93] xs++[41]))=(l++[40])++argT [91] [93] xs++[41] by first | rfl | simp only [To]] at h;exact h
    have c4:¬op=6:=oM;refine ZFU (fun c5=>?_) (fun c5=>wN ?_)
    ·have c5:op=7:=by omega
     have hxl:(Zf pl xs).length=xs.length:=by rw [Zb,Td]
     by_cases gf:xs.length=0
     ·have hx:exT (.mk op tx nn xs at')=[36]++tx:=by rw [exT,exN,Tf c1,Tf c2,Tf c3,Tf c4,Tk c5,Zcq,Tk gf,T1]
      rw [hx] at h hlen
      (try simp only [Tb,Te,Tg] at hlen)
      conv=>whnf
      refine wk _ ([36]++tx) ⟨[[36],tx],rfl,sM,sM,sM⟩ ?_;(conv=>whnf);refine ZFU (fun g=>?_) (fun g=>?_)
      case refine_1=>exact absurd (show ((Zf pl xs).length:Int)>0 from g) oM
      conv=>whnf
      refine ⟨Tc rfl,wN ?_⟩;refine ⟨_,dM,rfl,wN ?_⟩;refine wk _ [41] ⟨rfl,rfl⟩ ?_;(conv=>whnf);refine Zl ?_;rw [show l++([40]++([36]++tx++[41]))=(l++[40])++([36]++tx)++[41] by first | rfl | simp only [To]] at h;exact h
     have hx:exT (.mk op tx nn xs at')=([36]++tx)++argT [40] [41] xs:=by rw [exT,exN,Tf c1,Tf c2,Tf c3,Tf c4,Tk c5,Zcq,Tf gf,UQ,To];rfl
     rw [hx] at h hlen
     (try simp only [Tb,Te,Tg] at hlen)
     conv=>whnf
     refine wk _ ([36]++tx) ⟨[[36],tx],rfl,sM,sM,sM⟩ ?_;(conv=>whnf);refine ZFU (fun g=>?_) (fun g=>?_)
     case refine_2=>exact absurd (show ((Zf pl xs).length:Int)>0 by omega) g
     conv=>whnf
     refine ⟨oM,wk _ (argT [40] [41] xs) ⟨[40],[41],pl,xs,rfl,⟨Tr.2 m5,oM,oM⟩,rfl⟩ ?_⟩;(conv=>whnf);refine ⟨Tc rfl,wN ?_⟩;refine ⟨_,dM,rfl,wN ?_⟩;refine wk _ [41] ⟨rfl,rfl⟩ ?_;(conv=>whnf);refine Zl ?_;rw [show l++([40]++(([36]++tx)++argT [40] [41] xs++[41]))=(l++[40])++([36]++tx)++argT [40] [41] xs++[41] by first | rfl | simp only [To]] at h;exact h
    have c5:¬op=7:=oM;refine ZFU (fun c6=>wN ?_) (fun c6=>wN ?_)
    ·have c6':op=3:=by omega
     obtain ⟨i0,i1⟩:=m4;refine ZFU (fun gn=>wN ?_) (fun gn=>wN ?_)
     ·obtain ⟨j0,j1,j2⟩:=Zl5 gn i0;obtain ⟨wn,yd⟩:∃wn,IntKind.u64.wrap nn=wn:=⟨_,rfl⟩
      rw [yd] at j0 j1 j2;refine Or.inr ?_;rw [yd];have hx:exT (.mk op tx nn xs at')=Zfs nn:=by rw [exT,exN,Tf c1,Tf c2,Tf c3,Tf c4,Tf c5,Tk c6']
      rw [hx] at h hlen
      (try simp only [Tb,Te,Tg] at hlen)
      conv=>whnf
      refine ⟨⟨rfl,j0,j1⟩,?_⟩;obtain ⟨T,hT⟩:∃T,Ve 16 wn.toNat=T:=⟨_,rfl⟩
      rw [hT] at j2 |-;rw [j2] at h hlen
      (try simp only [Tb,Te,Tg] at hlen)
      conv=>whnf
      refine wk _ ([48,120]++T) ⟨[[48,120],T],rfl,sM,sM,sM⟩ ?_;(conv=>whnf);refine ⟨Tc rfl,wN ?_⟩;refine ⟨_,dM,rfl,wN ?_⟩;refine wk _ [41] ⟨rfl,rfl⟩ ?_;(conv=>whnf);refine Zl ?_;rw [show l++([40]++(([48,120]++T)++[41]))=(l++[40])++([48,120]++T)++[41] by first | rfl | simp only [To]] at h;exact h
     refine ZFU (fun _=>?_) (fun g=>absurd c6 g);have hx:exT (.mk op tx nn xs at')=Zfs nn:=by rw [exT,exN,Tf c1,Tf c2,Tf c3,Tf c4,Tf c5,Tk c6']
     rw [hx] at h hlen
     (try simp only [Tb,Te,Tg] at hlen)
     conv=>whnf
     refine ⟨⟨rfl,oM,i1⟩,wN ?_⟩;refine wk _ (Zfs nn) ⟨[Zfs nn],rfl,sM,sM,sM⟩ ?_;(conv=>whnf);refine ⟨Tc rfl,wN ?_⟩;refine ⟨_,dM,rfl,wN ?_⟩;refine wk _ [41] ⟨rfl,rfl⟩ ?_;(conv=>whnf);refine Zl ?_;rw [show l++([40]++(Zfs nn++[41]))=(l++[40])++Zfs nn++[41] by first | rfl | simp only [To]] at h;exact h
    have c6':¬op=3:=oM;refine ZFU (fun g=>absurd g c6) (fun _=>wN ?_);refine ZFU (fun c7=>?_) (fun c7=>wN ?_)
    ·have c7':op=4:=by omega
     have hq:(Jc tx).isSome=true:=by unfold V3 at m3;rw [Tf oM,Tk c7'] at m3;exact m3
     obtain ⟨q,hq⟩:=Sw.1 hq;have hqT:ZwQ tx=q:=by rw [ZwQ,hq];rfl
     have hx:exT (.mk op tx nn xs at')=q:=by rw [exT,exN,Tf c1,Tf c2,Tf c3,Tf c4,Tf c5,Tf c6',Tk c7',hqT]
     rw [hx] at h hlen
     (try simp only [Tb,Te,Tg] at hlen)
     conv=>whnf
     refine ⟨oM,wN ?_⟩;refine ⟨fun g=>?_,fun q' iq=>?_⟩
     case refine_1=>exact absurd (hq.symm.trans g) sM
     obtain rfl:q=q':=by rw [hq] at iq;exact Option.some.inj iq
     conv=>whnf
     refine wk _ q ⟨[q],rfl,sM,sM,sM⟩ ?_;(conv=>whnf);refine ⟨Tc rfl,wN ?_⟩;refine ⟨_,dM,rfl,wN ?_⟩;refine wk _ [41] ⟨rfl,rfl⟩ ?_;(conv=>whnf);refine Zl ?_;rw [show l++([40]++(q++[41]))=(l++[40])++q++[41] by first | rfl | simp only [To]] at h;exact h
    have c7':¬op=4:=oM;refine ZFU (fun c8=>?_) (fun c8=>wN ?_)
    ·have c8':op=5:=by omega
     have hx:exT (.mk op tx nn xs at')=[110,105,108]:=by rw [exT,exN,Tf c1,Tf c2,Tf c3,Tf c4,Tf c5,Tf c6',Tf c7',Tk c8']
     rw [hx] at h hlen
     (try simp only [Tb,Te,Tg] at hlen)
     conv=>whnf
     refine wk _ [110,105,108] ⟨[[110,105,108]],rfl,sM,sM,sM⟩ ?_;(conv=>whnf);refine ⟨Tc rfl,wN ?_⟩;refine ⟨_,dM,rfl,wN ?_⟩;refine wk _ [41] ⟨rfl,rfl⟩ ?_;(conv=>whnf);refine Zl ?_;rw [show l++([40]++([110,105,108]++[41]))=(l++[40])++[110,105,108]++[41] by first | rfl | simp only [To]] at h;exact h
    have c8':¬op=5:=oM;refine ZFU (fun c9=>?_) (fun c9=>?_)
    ·have c9':op=2:=by omega
     have hx:exT (.mk op tx nn xs at')=[95]:=by rw [exT,exN,Tf c1,Tf c2,Tf c3,Tf c4,Tf c5,Tf c6',Tf c7',Tf c8',Tk c9']
     rw [hx] at h hlen
     (try simp only [Tb,Te,Tg] at hlen)
     conv=>whnf
     refine wk _ [95] ⟨[[95]],rfl,sM,sM,sM⟩ ?_;(conv=>whnf);refine ⟨Tc rfl,wN ?_⟩;refine ⟨_,dM,rfl,wN ?_⟩;refine wk _ [41] ⟨rfl,rfl⟩ ?_;(conv=>whnf);refine Zl ?_;rw [show l++([40]++([95]++[41]))=(l++[40])++[95]++[41] by first | rfl | simp only [To]] at h;exact h
    have c9':¬op=2:=oM;have hx:exT (.mk op tx nn xs at')=tx:=by rw [exT,exN,Tf c1,Tf c2,Tf c3,Tf c4,Tf c5,Tf c6',Tf c7',Tf c8',Tf c9']
    rw [hx] at h hlen
    (try simp only [Tb,Te,Tg] at hlen)
    conv=>whnf
    refine wk _ tx ⟨[tx],rfl,sM,sM,sM⟩ ?_;(conv=>whnf);refine ⟨Tc rfl,wN ?_⟩;refine ⟨_,dM,rfl,wN ?_⟩;refine wk _ [41] ⟨rfl,rfl⟩ ?_;(conv=>whnf);refine Zl ?_;rw [show l++([40]++(tx++[41]))=(l++[40])++tx++[41] by first | rfl | simp only [To]] at h;exact h
   have hW:exW want.toNat (.mk op tx nn xs at')=exT (.mk op tx nn xs at'):=by rw [exW,Ztl,Tf (by show ¬ZS op<_;omega)]
   rw [hW] at h hlen;refine ZFU (fun c1=>?_) (fun c1=>wN ?_)
   ·have c1:ZS op<5:=by omega
    have gy:xs.length=2:=by have:=k1 c1;omega
    obtain ⟨x0,x1,rfl⟩:∃x0 x1,xs=[x0,x1]:=by match xs,gy with | [a,b],_=>exact ⟨a,b,rfl⟩
    simp only [szS] at dw;have g0:=m5 x0 sM;have g1:=m5 x1 sM;have z0:wE x0<=n - 1:=oM;have z1:wE x1<=n - 1:=oM;obtain ⟨o0,t0,n0,y0,q0⟩:=x0;obtain ⟨o1,t1,n1,y1,q1⟩:=x1;have hx:exT (.mk op tx nn [(.mk o0 t0 n0 y0 q0),(.mk o1 t1 n1 y1 q1)] at')=exW (ZS op) (.mk o0 t0 n0 y0 q0)++(([32]++(w1++[32]))++exW (ZS op+1) (.mk o1 t1 n1 y1 q1)):=by rw [exT,exN,Tk c1,e2];rfl
    rw [hx] at h hlen
    (try simp only [Tb,Te,Tg] at hlen)
    conv=>whnf
    refine ⟨_,dM,rfl,wN ?_⟩;refine ⟨oM,wk _ (exW (ZS op) (.mk o0 t0 n0 y0 q0)) ⟨pl,(.mk o0 t0 n0 y0 q0),(ZS op:Int),rfl,⟨g0,oM,oM,oM,oM⟩,rfl⟩ ?_⟩;(conv=>whnf);refine wk _ ([32]++(w1++[32])) ⟨[[32],w1,[32]],rfl,sM,sM,sM⟩ ?_;(conv=>whnf);refine ⟨_,dM,rfl,wN ?_⟩;refine Zl ?_;refine ⟨oM,wk _ (exW (ZS op+1) (.mk o1 t1 n1 y1 q1)) ⟨pl,(.mk o1 t1 n1 y1 q1),((ZS op:Int)+1),rfl,⟨g1,oM,oM,oM,oM⟩,rfl⟩ ?_⟩;rw [show l++(exW (ZS op) (.mk o0 t0 n0 y0 q0)++(([32]++(w1++[32]))++exW (ZS op+1) (.mk o1 t1 n1 y1 q1)))=l++exW (ZS op) (.mk o0 t0 n0 y0 q0)++([32]++(w1++[32]))++exW (ZS op+1) (.mk o1 t1 n1 y1 q1) by first | rfl | simp only [To]] at h;exact mq48
   have c1:¬ZS op<5:=oM;refine ZFU (fun c2=>?_) (fun c2=>wN ?_)
   ·have c2:ZS op=5:=by omega
    have gy:xs.length=1:=by have:=k2 c2;omega
    obtain ⟨x0,rfl⟩:∃x0,xs=[x0]:=by match xs,gy with | [a],_=>exact ⟨a,rfl⟩
    simp only [szS] at dw;have g0:=m5 x0 sM;have z0:wE x0<=n - 1:=oM;obtain ⟨o0,t0,n0,y0,q0⟩:=x0;have hx:exT (.mk op tx nn [(.mk o0 t0 n0 y0 q0)] at')=w1++exW 5 (.mk o0 t0 n0 y0 q0):=by rw [exT,exN,Tf c1,Tk c2,e2];rfl
    rw [hx] at h hlen
    (try simp only [Tb,Te,Tg] at hlen)
    conv=>whnf
    refine wk _ w1 ⟨[w1],rfl,sM,sM,sM⟩ ?_;(conv=>whnf);refine ⟨_,dM,rfl,wN ?_⟩;refine ⟨oM,wk _ (exW 5 (.mk o0 t0 n0 y0 q0)) ⟨pl,(.mk o0 t0 n0 y0 q0),5,rfl,⟨g0,oM,oM,oM,oM⟩,rfl⟩ ?_⟩;rw [show l++(w1++exW 5 (.mk o0 t0 n0 y0 q0))=l++w1++exW 5 (.mk o0 t0 n0 y0 q0) by first | rfl | simp only [To]] at h;exact mq48
   have c2:¬ZS op=5:=oM;refine ZFX (fun c3=>?_) (fun c3=>wN ?_)
   ·have c3:VK op≠[]:=by rw [e2];exact c3
    have hx:exT (.mk op tx nn xs at')=w1++argT [40] [41] xs:=by rw [exT,exN,Tf c1,Tf c2,Tk c3,e2,UQ];rfl
    rw [hx] at h hlen
    (try simp only [Tb,Te,Tg] at hlen)
    conv=>whnf
    refine wk _ w1 ⟨[w1],rfl,sM,sM,sM⟩ ?_;(conv=>whnf);refine ⟨oM,wk _ (argT [40] [41] xs) ⟨[40],[41],pl,xs,rfl,⟨Tr.2 m5,oM,oM⟩,rfl⟩ ?_⟩;rw [show l++(w1++argT [40] [41] xs)=l++w1++argT [40] [41] xs by first | rfl | simp only [To]] at h;exact mq48
   have c3:¬VK op≠[]:=by rw [e2];exact fun g=>g c3
   refine ZFU (fun c4=>?_) (fun c4=>wN ?_)
   ·have c4:op=6:=by omega
    have hx:exT (.mk op tx nn xs at')=argT [91] [93] xs:=by rw [exT,exN,Tf c1,Tf c2,Tf c3,Tk c4,UQ];rfl
    rw [hx] at h hlen
    (try simp only [Tb,Te,Tg] at hlen)
    conv=>whnf
    refine ⟨oM,wk _ (argT [91] [93] xs) ⟨[91],[93],pl,xs,rfl,⟨Tr.2 m5,oM,oM⟩,rfl⟩ ?_⟩;rw [show l++(argT [91] [93] xs)=l++argT [91] [93] xs by first | rfl | simp only [To]] at h;exact mq48
   have c4:¬op=6:=oM;refine ZFU (fun c5=>?_) (fun c5=>wN ?_)
   ·have c5:op=7:=by omega
    have hxl:(Zf pl xs).length=xs.length:=by rw [Zb,Td]
    by_cases gf:xs.length=0
    ·have hx:exT (.mk op tx nn xs at')=[36]++tx:=by rw [exT,exN,Tf c1,Tf c2,Tf c3,Tf c4,Tk c5,Zcq,Tk gf,T1]
     rw [hx] at h hlen
     (try simp only [Tb,Te,Tg] at hlen)
     conv=>whnf
     refine wk _ ([36]++tx) ⟨[[36],tx],rfl,sM,sM,sM⟩ ?_;(conv=>whnf);refine ZFU (fun g=>?_) (fun g=>?_)
     case refine_1=>exact absurd (show ((Zf pl xs).length:Int)>0 from g) oM
     rw [show l++([36]++tx)=l++([36]++tx) by first | rfl | simp only [To]] at h;exact mq48
    have hx:exT (.mk op tx nn xs at')=([36]++tx)++argT [40] [41] xs:=by rw [exT,exN,Tf c1,Tf c2,Tf c3,Tf c4,Tk c5,Zcq,Tf gf,UQ,To];rfl
    rw [hx] at h hlen
    (try simp only [Tb,Te,Tg] at hlen)
    conv=>whnf
    refine wk _ ([36]++tx) ⟨[[36],tx],rfl,sM,sM,sM⟩ ?_;(conv=>whnf);refine ZFU (fun g=>?_) (fun g=>?_)
    case refine_2=>exact absurd (show ((Zf pl xs).length:Int)>0 by omega) g
    conv=>whnf
    refine ⟨oM,wk _ (argT [40] [41] xs) ⟨[40],[41],pl,xs,rfl,⟨Tr.2 m5,oM,oM⟩,rfl⟩ ?_⟩;rw [show l++(([36]++tx)++argT [40] [41] xs)=l++([36]++tx)++argT [40] [41] xs by first | rfl | simp only [To]] at h;exact mq48
   have c5:¬op=7:=oM;refine ZFU (fun c6=>wN ?_) (fun c6=>wN ?_)
   ·have c6':op=3:=by omega
    obtain ⟨i0,i1⟩:=m4;refine ZFU (fun gn=>wN ?_) (fun gn=>wN ?_)
    ·obtain ⟨j0,j1,j2⟩:=Zl5 gn i0;obtain ⟨wn,yd⟩:∃wn,IntKind.u64.wrap nn=wn:=⟨_,rfl⟩
     rw [yd] at j0 j1 j2;refine Or.inr ?_;rw [yd];have hx:exT (.mk op tx nn xs at')=Zfs nn:=by rw [exT,exN,Tf c1,Tf c2,Tf c3,Tf c4,Tf c5,Tk c6']
     rw [hx] at h hlen
     (try simp only [Tb,Te,Tg] at hlen)
     conv=>whnf
     refine ⟨⟨rfl,j0,j1⟩,?_⟩;obtain ⟨T,hT⟩:∃T,Ve 16 wn.toNat=T:=⟨_,rfl⟩
     rw [hT] at j2 |-;rw [j2] at h hlen
     (try simp only [Tb,Te,Tg] at hlen)
     conv=>whnf
     refine wk _ ([48,120]++T) ⟨[[48,120],T],rfl,sM,sM,sM⟩ ?_;rw [show l++(([48,120]++T))=l++([48,120]++T) by first | rfl | simp only [To]] at h;exact mq48
    refine ZFU (fun _=>?_) (fun g=>absurd c6 g);have hx:exT (.mk op tx nn xs at')=Zfs nn:=by rw [exT,exN,Tf c1,Tf c2,Tf c3,Tf c4,Tf c5,Tk c6']
    rw [hx] at h hlen
    (try simp only [Tb,Te,Tg] at hlen)
    conv=>whnf
    refine ⟨⟨rfl,oM,i1⟩,wN ?_⟩;refine wk _ (Zfs nn) ⟨[Zfs nn],rfl,sM,sM,sM⟩ ?_;rw [show l++(Zfs nn)=l++Zfs nn by first | rfl | simp only [To]] at h;exact mq48
   have c6':¬op=3:=oM;refine ZFU (fun g=>absurd g c6) (fun _=>wN ?_);refine ZFU (fun c7=>?_) (fun c7=>wN ?_)
   ·have c7':op=4:=by omega
    have hq:(Jc tx).isSome=true:=by unfold V3 at m3;rw [Tf oM,Tk c7'] at m3;exact m3
    obtain ⟨q,hq⟩:=Sw.1 hq;have hqT:ZwQ tx=q:=by rw [ZwQ,hq];rfl
    have hx:exT (.mk op tx nn xs at')=q:=by rw [exT,exN,Tf c1,Tf c2,Tf c3,Tf c4,Tf c5,Tf c6',Tk c7',hqT]
    rw [hx] at h hlen
    (try simp only [Tb,Te,Tg] at hlen)
    conv=>whnf
    refine ⟨oM,wN ?_⟩;refine ⟨fun g=>?_,fun q' iq=>?_⟩
    case refine_1=>exact absurd (hq.symm.trans g) sM
    obtain rfl:q=q':=by rw [hq] at iq;exact Option.some.inj iq
    conv=>whnf
    refine wk _ q ⟨[q],rfl,sM,sM,sM⟩ ?_;rw [show l++(q)=l++q by first | rfl | simp only [To]] at h;exact mq48
   have c7':¬op=4:=oM;refine ZFU (fun c8=>?_) (fun c8=>wN ?_)
   ·have c8':op=5:=by omega
    have hx:exT (.mk op tx nn xs at')=[110,105,108]:=by rw [exT,exN,Tf c1,Tf c2,Tf c3,Tf c4,Tf c5,Tf c6',Tf c7',Tk c8']
    rw [hx] at h hlen
    (try simp only [Tb,Te,Tg] at hlen)
    conv=>whnf
    refine wk _ [110,105,108] ⟨[[110,105,108]],rfl,sM,sM,sM⟩ ?_;rw [show l++([110,105,108])=l++[110,105,108] by first | rfl | simp only [To]] at h;exact mq48
   have c8':¬op=5:=oM;refine ZFU (fun c9=>?_) (fun c9=>?_)
   ·have c9':op=2:=by omega
    have hx:exT (.mk op tx nn xs at')=[95]:=by rw [exT,exN,Tf c1,Tf c2,Tf c3,Tf c4,Tf c5,Tf c6',Tf c7',Tf c8',Tk c9']
    rw [hx] at h hlen
    (try simp only [Tb,Te,Tg] at hlen)
    conv=>whnf
    refine wk _ [95] ⟨[[95]],rfl,sM,sM,sM⟩ ?_;rw [show l++([95])=l++[95] by first | rfl | simp only [To]] at h;exact mq48
   have c9':¬op=2:=oM;have hx:exT (.mk op tx nn xs at')=tx:=by rw [exT,exN,Tf c1,Tf c2,Tf c3,Tf c4,Tf c5,Tf c6',Tf c7',Tf c8',Tf c9']
   rw [hx] at h hlen
   (try simp only [Tb,Te,Tg] at hlen)
   conv=>whnf
   refine wk _ tx ⟨[tx],rfl,sM,sM,sM⟩ ?_;rw [show l++(tx)=l++tx by first | rfl | simp only [To]] at h;exact mq48
 exact h.elim
end Go.PM.Lex
end

section
namespace Go.PM.Lex
open Go.Proofs Go.Shelf Go.RowKit
variable {w0:World} {nG:Nat}
def ZnZ (w:World) (g n:Nat) {cs:Array Value} {ty:TypeId} {fz:Nat×Nat} (h:w.heap[g]?=some (.cells cs ty fz)) (h1:fz.1<=fz.2) (h2:∀o,n<=o->fz.1<=o->fz.2<=o) :
  ∃fz',(w.drew.freeze ⟨g,0,none⟩ n).heap[g]?=some (.cells cs ty fz')/\fz'.1<=fz'.2/\∀o,n<=o->fz'.1<=o->fz'.2<=o:=by
 have h':w.drew.heap[g]?=some (.cells cs ty fz):=h;obtain ⟨lo,hi⟩:=fz;unfold World.freeze
 split
 ·exact ⟨_,h',h1,h2⟩
 simp only [SE,if_true,h',Sc];refine ⟨_,rfl,?_,?_⟩
 ·split
  ·exact Sa _
  simp only at h1 |-;omega
 intro o ho ai
 split
 ·simp only;omega
 rename_i ah
 have ah:lo≠hi:=by simpa using ah
 simp only at h1 |-;have k:=h2 (max lo n) oM (by simp only;omega);simp only at k;omega
def _root_.Go.PM.Owned.grow {G:GE} {e:Env} {w w':World} {t el:Nat} {rows:List (List D)} {v:Value} (h:Owned G e w t el rows v) (g:Grows w w'):Owned G e w' t el rows v:=by
 rcases h with h | ⟨sz,a1,a2,a3,b,off,cap,cs,ty,fz,a4,a5,a6,a7,a8,a9,a10⟩
 ·exact .inl h
 exact .inr ⟨sz,a1,a2,a3,b,off,cap,cs,ty,fz,a4,a5,a6,(g.old _ (Tp.1 a7).1).trans a7,a8,a9,a10⟩
def _root_.Go.PM.Owned.refreeze {G:GE} {e:Env} {w w':World} {t:Nat} {rows:List (List D)} {v:Value} {g n:Nat} {cs:Array Value} {ty:TypeId} {fz fz':Nat×Nat} (h:Owned G e w t 5 rows v) (hM:e.M t=some (g,n))
  (h':w'.heap[g]?=some (.cells cs ty fz')) (h0:w.heap[g]?=some (.cells cs ty fz)) (h1:fz'.1<=fz'.2) (h2:∀o,n<=o->fz'.1<=o->fz'.2<=o):Owned G e w' t 5 rows v:=by
 rcases h with ⟨_,_,h⟩ | ⟨sz,a1,a2,a3,b,off,cap,cs2,ty2,fz2,a4,a5,a6,a7,a8,a9,a10⟩
 ·rw [hM] at h;cases h
 rw [hM] at a10;simp only [Option.some.injEq,Prod.mk.injEq] at a10;obtain ⟨rfl,rfl⟩:=a10;rw [h0] at a7
 cases a7
 exact .inr ⟨sz,a1,a2,a3,g,off,cap,cs,ty,fz',a4,a5,a6,h',a8,⟨h1,h2⟩,hM⟩
def Zyi {G:GE} {e:Env} {w w':World} {t:TypeId} {p:PV} {rows:List (List D)} (hp:p=.d .nilp\/p=.ptr 0 0) (hS:SRel G e ⟨[.cells t [p,.sl 0 5 rows]],[0],1⟩ w)
  (hsz:w.heap.size<=w'.heap.size) (qa:w'.os=w.os) (htp:w'.tape=w.tape) (jl:w'.output=w.output)
  (ax:∀b off u,w.cell? ⟨b,off,none⟩=some u->w'.cell? ⟨b,off,none⟩=some u)
  (fg:∀b,b<w.heap.size->(∀q,e.M 0=some q->q.1≠b)->w'.heap[b]?=w.heap[b]?)
  (jn:∀v,Owned G e w 0 5 rows v->Owned G e w' 0 5 rows v) (ace:∀q,e.M 0=some q->∃cs ty fz,w'.heap[q.1]?=some (.cells cs ty fz)) :
  SRel G e ⟨[.cells t [p,.sl 0 5 rows]],[0],1⟩ w'/\Later e ⟨[.cells t [p,.sl 0 5 rows]],[0],1⟩ w e ⟨[.cells t [p,.sl 0 5 rows]],[0],1⟩ w':=by
 have hL:Later e ⟨[.cells t [p,.sl 0 5 rows]],[0],1⟩ w e ⟨[.cells t [p,.sl 0 5 rows]],[0],1⟩ w':={
  len:=Tu _
  beta:=fun _ _=>rfl
  X:=fun _ _ h=>h
  pres:=fun b off u hu ho=>⟨ho,ax b off u hu⟩
  fhid:=fun b h=>.inr (.inr h)
  blocks:=fun b hb h1 h2 _=>fg b hb fun q hq=>h2 0 sM q hq
  size:=hsz
  os:=qa
  tape:=htp
  output:=jl
  fresh:=fun i h1 h2=>by simp at h1 h2;omega
  ftok:=fun x hx q hq=>.inr (.inl ⟨x,hx,q,hq,rfl⟩) }
 have aa:=hS.lt (i:=0) sM;have ot:w'.heap[e.β 0]?=w.heap[e.β 0]?:=fg _ aa fun q hq=>fun h=>(hS.own 0 sM q hq).2.1 0 sM h.symm
 refine ⟨?_,hL⟩;exact {
  inj:=hS.inj
  box:=fun i x hx=>by
   match i,hx with
   | 0,hx =>
    cases hx
    obtain ⟨cv,h1,h2,h3⟩:=hS.box 0 _ rfl;refine ⟨cv,ot.trans h1,h2,fun j y u hy hu=>?_⟩
    match j,hy with
    | 0,hy =>
     exact mq95
    | 1,hy =>
     cases hy
     obtain ⟨q1,q2⟩:=h3 1 (.sl 0 5 rows) u rfl hu;refine ⟨?_,q2⟩
     cases q1 with
     | sl _ _ _ _ hn hd ht=>exact .sl _ _ _ _ hn (hd.later hL) (fun h=>jn _ (ht h))
    | j+2,hy=>simp at hy
   | i+1,hx=>simp at hx
  low:=hS.low
  tkn:=hS.tkn
  own:=fun x hx q hq=>by
   obtain ⟨a,b,_⟩:=hS.own x hx q hq;obtain rfl:x=0:=by simpa using hx
   exact ⟨a,b,ace q hq⟩
  dis:=hS.dis
  xlt:=fun b off hx=>TA (hS.xlt b off hx) hsz
  xown:=hS.xown
  hid:=fun b q hq=>let ⟨k1,k2,k3,k4,k5⟩:=hS.hid b q hq;⟨k1,TA k2 hsz,k3,k4,k5⟩
  glob:=fun b hb=>by
   rw [fg b (TA hb hS.big) fun q hq=>fun h=>by have:=(hS.own 0 sM q hq).1;omega];exact hS.glob b hb
  big:=TT hS.big hsz }
def Zao:Zn:=fun args σ K=>match args,σ with
 | [.ptr 0 0],⟨[.cells t [p,.sl 0 e rows]],[0],1⟩=>∃l:Bs,(rows=Zk l/\t=136/\e=5/\(p=.d .nilp\/p=.ptr 0 0)/\l.length<70368744177664)/\K (.ret (.d (.str l))) ⟨[.cells t [p,.sl 0 e rows]],[0],1⟩
 | _,_=>False
def Zfv:PC w0 nG 76 Zao:=VE (Ze Tryz.func76 kR rfl) fun args σ K h e w vs hS ha=>by
 unfold Zao at h
 split at h
 ·rename_i t p el rows
  obtain ⟨l,⟨rfl,rfl,rfl,hp,cx⟩,hK⟩:=h;obtain ⟨u,rfl,hu⟩:=Zer ha;obtain ⟨cv,cz,bl,ec⟩:=hS.box 0 _ rfl;have dg:cv.size=2:=bl;obtain ⟨v0,v1,rfl⟩:∃v0 v1,cv=#[v0,v1]:=by
   obtain ⟨lst⟩:=cv
   match lst,dg with
   | [a,b],_=>exact ⟨a,b,rfl⟩
  have ca:=(ec 1 (.sl 0 5 (Zk l)) v1 rfl rfl).1
  cases hu with
  | ptr b off hb =>
  refine ⟨_,_,.string ⟨l.toArray⟩,hK,?_⟩;have fin:∀w',w.heap.size<=w'.heap.size->w'.os=w.os->w'.tape=w.tape->w'.output=w.output ->
    (∀b off u,w.cell? ⟨b,off,none⟩=some u->w'.cell? ⟨b,off,none⟩=some u) ->
    (∀b,b<w.heap.size->(∀q,e.M 0=some q->q.1≠b)->w'.heap[b]?=w.heap[b]?)->(∀v,Owned (GG w0 nG) e w 0 5 (Zk l) v->Owned (GG w0 nG) e w' 0 5 (Zk l) v)->(∀q,e.M 0=some q->∃cs ty fz,w'.heap[q.1]?=some (.cells cs ty fz)) ->
    VRel (GG w0 nG) e ⟨[.cells 136 [p,.sl 0 5 (Zk l)]],[0],1⟩ w' (.d (.str l)) (.string ⟨l.toArray⟩)/\SRel (GG w0 nG) e ⟨[.cells 136 [p,.sl 0 5 (Zk l)]],[0],1⟩ w'/\Later e ⟨[.cells 136 [p,.sl 0 5 (Zk l)]],[0],1⟩ w e ⟨[.cells 136 [p,.sl 0 5 (Zk l)]],[0],1⟩ w':=fun w' h1 h2 h3 h4 h5 h6 h7 h8 =>
   ⟨.mkstr,Zyi hp hS h1 h2 h3 h4 h5 h6 h7 h8⟩
  have grown:∀w',Grows w w'->_:=fun w' g=>fin w' g.size g.os g.tape g.output (fun b off u hu=>(g.cell (Vv hu)).trans hu) (fun b hb _=>g.old b hb) (fun v hv=>hv.grow g) (fun q hq=>by obtain ⟨_,_,cs,ty,fz,hh⟩:=hS.own 0 sM q hq;exact ⟨cs,ty,fz,(g.old _ (Tp.1 hh).1).trans hh⟩)
  cases ca with
  | sl _ _ _ _ hn hd ht =>
  rcases ht sM with ⟨rfl,bw,hM⟩ | ⟨sz,g1,g2,g3,g,off,cap,cs,ty,fz,rfl,g4,g5,g6,⟨g7,rfl,rfl,g8⟩,g9,hM⟩
  ·have hl:l=[]:=by simpa [Zk] using bw
   subst hl;refine (Zto Tryz.lays169 Tryz.Builder_Extra_169 w.heap.size (e.β 0) v0 w cz).mono fun en w' ⟨h1,h2⟩=>?_
   exact ⟨h1,grown w' (ZF0 h2)⟩
  have kg:sz=1:=by
   have:(Tryz.prog.info? 5).map (·.size)=some sz:=g1
   rw [ZAa] at this;cases this;rfl
  subst kg;rw [Y3] at g5 cz g9 hM hd
  by_cases hl:l=[]
  ·subst hl;refine (Zqx Tryz.lays169 Tryz.Builder_Extra_169 w.heap.size (e.β 0) g cap v0 w oM cz).mono fun en w' ⟨h1,h2⟩=>?_
   exact ⟨h1,grown w' (ZF0 h2)⟩
  have ax:∀j x,l[j]?=some x->w.cell? ⟨g,j,none⟩=some (.int .u8 x.toNat):=by
   exact mq31
  obtain ⟨fz',qn,hfa,hfb⟩:=ZnZ w g l.length g6 g9.1 (fun o ho=>g9.2 o oM);refine (ZnU Tryz.lays169 Tryz.Builder_Extra_169 (e.β 0) g cap v0 cs fz l w hl cz g6 oM oM oM ax).mono fun en w' ⟨h1,h2⟩=>?_
  rw [h2];refine ⟨h1,fin _ ?_ ?_ ?_ ?_ ?_ ?_ ?_ ?_⟩
  ·unfold World.freeze;split <;> first | exact Tu _ | (simp only [Array.size_modify];exact Tu _)
  ·exact mq158
  ·exact mq158
  ·exact mq158
  ·exact mq118
  ·intro b hb hq
   exact VG w g l.length b fun h=>hq _ hM h.symm
  ·intro v hv
   exact hv.refreeze hM qn g6 hfa (by simpa [Y3] using hfb)
  intro q hq
  rw [hM] at hq;cases hq;exact ⟨_,_,_,qn⟩
 exact h.elim
end Go.PM.Lex
end

section
namespace Go.PM.Lex
open Go.Proofs
variable {w0:World} {nG:Nat}
def Zyk {n:Nat}:OKw w0 nG [(184,ZgS),(238,ZgR (YF ZF) Zkw exT wE n)] 237 (Zqy 238 ZF Zkw exT wE n):=by
 refine pwo Tryz.func237 fun args σ K h=>?_
 unfold Zqy at h
 split at h
 ·rename_i r bt g t e rows tp
  obtain ⟨l,pl,xs,rfl,rfl,⟨rfl,rfl,rfl⟩,⟨bv,hz,hn⟩,hlen,h⟩:=h;have dv:(xs.map (ZF pl)).length=xs.length:=Td ..;have hsz:=Zq wE xs;refine pwv [(1,⟨[12],[0,1,2,3,10,11],fun vs σ=>∃i:Nat,vs=[.d (.int .i64 i)]/\σ=⟨[.cells 136 [.ptr 0 0,.sl 0 5 (Zk (l++Zg bt ((xs.take i).map exT)))],.cells tp [.ptr 0 0]],[0],1⟩/\i<=xs.length,mu1 xs.length⟩)] 2 true ?_;refine ⟨⟨0,rfl,(by simp only [Sj,TQ,Zg,T1];rfl),oM⟩,?_⟩;intro vs σ hI
  obtain ⟨i,rfl,rfl,hi⟩:=hI;(conv=>whnf);refine ZFU (fun ab=>wN ?_) (fun ab=>?_)
  ·have ab:i<xs.length:=lzI dv ab;have hg:=Zz wE xs i ab;have ew:Zkw xs[i]=true:=Tr.1 bv _ (TC ab);have cp:=VL bt exT ab;have aj:=Zam bt exT xs (i+1);obtain ⟨eA,hA⟩:∃x,xs[i]=x:=⟨_,rfl⟩
   obtain ⟨a1,a2,a3,a4,a5⟩:=eA;rw [hA] at hg ew cp;have ca:(xs.map (ZF pl))[((i:Nat):Int).toNat]?=some (ZF pl (.mk a1 a2 a3 a4 a5)):=by simp [ab,hA]
   refine ⟨_,oM,ca,wN ?_⟩;refine ZFU (fun h0=>wN ?_) (fun h0=>?_)
   ·have h0:0<i:=by omega
    rw [Tf oM] at cp;rw [cp] at aj;simp only [Tb] at aj;refine wk _ bt ⟨rfl,rfl⟩ (wN ?_);refine ⟨l++Zg bt ((xs.take i).map exT)++bt,pl,(.mk a1 a2 a3 a4 a5),rfl,rfl,⟨rfl,rfl⟩,⟨ew,oM,oM⟩,by simp only [Tb];omega,wN ?_⟩;exact mq76
   obtain rfl:i=0:=by omega
   rw [Tk rfl] at cp;rw [cp] at aj;(conv=>whnf);refine ⟨l++Zg bt ((xs.take 0).map exT),pl,(.mk a1 a2 a3 a4 a5),rfl,rfl,⟨rfl,rfl⟩,⟨ew,oM,oM⟩,by simp only [Sj,TQ,Zg,Tb,Tg];omega,wN ?_⟩;exact mq71
  exact mq179
 exact h.elim
def Zu7 {n:Nat} (h:PC w0 nG 239 (Zty n)):PC w0 nG 188 (Ztz n) :=
 ZDZ ⟨Zak,Zyk ⟨Zqz,ZBs ⟨h,trivial⟩,trivial⟩,trivial⟩
def cWE (hN:NumOK w0 nG) (hL:LexC w0 nG):∀n,PC w0 nG 239 (Zty n)
 | 0=>ZBv ⟨Ztn,Zak,ZC (Ze Tryz.func239 kR rfl),ZC (Ze Tryz.func188 kR rfl),ZqC hN,ZqF hN,hL.quote,trivial⟩
 | n+1=>ZBv ⟨Ztn,Zak,ZD (sp:=Zty) (cWE hN hL n),ZD (sp:=Ztz) (Zu7 (cWE hN hL n)),ZqC hN,ZqF hN,hL.quote,trivial⟩
def ZqL:Zn:=fun args σ K=>match args,σ with
 | [.ptr 0 0,.d (.int .i64 c)],⟨[.cells t [p,.sl 0 e rows]],[0],1⟩=>∃l:Bs,(rows=Zk l/\t=136/\e=5/\(p=.d .nilp\/p=.ptr 0 0)/\l.length<70368744177664) /\
   ((c=3\/c=151->K (.ret (.tuple [.d (.str []),.d (.int .i64 3)])) ⟨[.cells t [p,.sl 0 e rows]],[0],1⟩)/\(c≠3/\c≠151->K (.ret (.tuple [.d (.str l),.d (.int .i64 0)])) ⟨[.cells t [p,.sl 0 e rows]],[0],1⟩))
 | _,_=>False
def Zyl:Tbl:=[(76,Zao)]
def Zym:PC w0 nG 77 ZqL:=by
 refine pwt (tbl:=Zyl) ⟨Zfv,trivial⟩ Tryz.func77 fun args σ K h=>?_
 unfold ZqL at h
 split at h
 ·rename_i c t p e rows
  obtain ⟨l,⟨rfl,rfl,rfl,hp,hlen⟩,ha,hb⟩:=h;refine pwu [] 1 true ?_;rcases hp with rfl | rfl
  all_goals
   conv=>whnf
   refine ZFU (fun c1=>wN ?_) (fun c1=>wN ?_)
   ·exact ha (.inl c1)
   refine ZFU (fun c2=>wN ?_) (fun c2=>wN ?_)
   ·exact ha (.inr c2)
   refine ⟨l,⟨rfl,rfl,rfl,iM,hlen⟩,?_⟩;(conv=>whnf);exact hb ⟨c1,c2⟩
 exact h.elim
def ZdI (txt:Bs) {α:Type}:Top α->Bs×Nat
 | .ok _ _=>(txt,0)
 | .err _ e=>if e=3\/e=151 then ([],3) else (txt,0)
def nmT (s:Bs):T0:=⟨1,s,0⟩
def sgT (s:Bs):T0:=⟨4,s,0⟩
def Zu8 (sep:Bs):List Ts->Ts
 | []=>[]
 | x::l=>sgT sep::(x++Zu8 sep l)
def Zyn (sep:Bs):List Ts->Ts
 | []=>[]
 | x::l=>x++Zu8 sep l
def ZBw (want:Nat) (p:Nat×Ts):Ts:=if p.1<want then sgT [40]::(p.2++[sgT [41]]) else p.2
def opT (op:Nat):T0:=if 15<=op/\op<=19 then nmT (VK op) else sgT (VK op)
def ZE2 (w1 w2:Nat) (mid:Ts):List (Nat×Ts)->Ts
 | []=>[]
 | [a]=>ZBw w1 a
 | a::b::_=>ZBw w1 a++(mid++ZBw w2 b)
def brK (fr fin:Bs) (ps:List Ts):Ts:=sgT fr::(Zyn [44] ps++[sgT fin])
def ZFJ (op:Nat) (text:Bs) (n:Int) (ps:List (Nat×Ts)):Ts :=
 if ZS op<5 then ZE2 (ZS op) (ZS op+1) [opT op] ps
 else if ZS op=5 then sgT (VK op)::ZE2 5 5 [] ps
 else if VK op≠[] then nmT (VK op)::brK [40] [41] (ps.map Prod.snd)
 else if op=6 then brK [91] [93] (ps.map Prod.snd)
 else if op=7 then sgT [36]::nmT text::(if ps.length=0 then [] else brK [40] [41] (ps.map Prod.snd))
 else if op=3 then [⟨2,[],n⟩]
 else if op=4 then [⟨3,text,0⟩]
 else if op=5 then [nmT [110,105,108]]
 else if op=2 then [nmT [95]]
 else [nmT text]
mutual
def exK:Ex->Ts
 | .mk op text n args _=>ZFJ op text n (ZE3 args)
def ZE3:List Ex->List (Nat×Ts)
 | []=>[]
 | e::l=>(ZS (opE e),exK e)::ZE3 l
end
def ZCT (want:Nat) (e:Ex):Ts:=ZBw want (ZS (opE e),exK e)
def Lim {α:Type} (x:R α):Prop:=∃p,x=.err p 3\/x=.err p 151
def Rd {α β:Type} (er:α->β) (v:α) (r:Ts) (x:R α):Prop:=(∃v',er v'=er v/\x=.ok v' r)\/Lim x
def Lim.bind {α β:Type} {x:R α} {f:α->Ts->R β} (h:Lim x):Lim (x.bind f):=by
 obtain ⟨p,rfl | rfl⟩:=h
 ·exact ⟨p,.inl rfl⟩
 exact ⟨p,.inr rfl⟩
def Rd.bind {α β γ δ:Type} {er:α->β} {er2:γ->δ} {v:α} {u:γ} {r s:Ts} {x:R α} {f:α->Ts->R γ} (h:Rd er v r x) (hf:∀v',er v'=er v->Rd er2 u s (f v' r)):Rd er2 u s (x.bind f):=by
 rcases h with ⟨v',e,rfl⟩ | h
 ·exact hf v' e
 exact .inr h.bind
def Rd.ok {α β:Type} {er:α->β} {v v':α} {r:Ts} (h:er v'=er v):Rd er v r (.ok v' r):=.inl ⟨v',h,rfl⟩
def Rd.id {α:Type} {v:α} {r:Ts}:Rd (fun x:α=>x) v r (.ok v r):=.inl ⟨v,rfl,rfl⟩
def Rd.lim {α β:Type} {er:α->β} {v:α} {r:Ts} {x:R α} (h:Lim x):Rd er v r x:=.inr h
def Rd.binds {α γ δ:Type} {er2:γ->δ} {v:α} {u:γ} {r s:Ts} {x:R α} {f:α->Ts->R γ} (h:Rd (fun x:α=>x) v r x) (hf:Rd er2 u s (f v r)):Rd er2 u s (x.bind f):=h.bind fun v' e=>by cases (show v'=v from e);exact hf
structure Nx (r:Ts):Prop where
 par:isW r [[40]]=false
 bin:(Za0 r).1=0
def Zu9 {l:List Ex} (h:l.length=2):∃a b,l=[a,b]:=by match l,h with | [a,b],_=>exact ⟨a,b,rfl⟩
def ZBx {l:List Ex} (h:l.length=1):∃a,l=[a]:=by match l,h with | [a],_=>exact ⟨a,rfl⟩
def Ln (e:Ex) (r:Ts) (sub:Nat->Ts->R Ex) (least:Nat) (x:R Ex):Prop:=(∃f e',r.length<f/\erE e'=erE e/\x=U9 sub least f e' r)\/Lim x
def Zyo {e:Ex} {r:Ts} {sub:Nat->Ts->R Ex} {least:Nat} {x:R Ex} (h:Ln e r sub least x) (hb:(Za0 r).1<least\/(Za0 r).1=0):Rd erE e r x:=by
 rcases h with ⟨f,e',h1,h2,rfl⟩ | h
 ·obtain ⟨f,rfl⟩:∃k,f=k+1:=⟨f - 1,oM⟩
  rw [U9,Tk hb];exact Rd.ok h2
 exact .lim h
structure ExR (e:Ex):Prop where
 sg:∀d r,isW r [[40]]=false->Rd erE e r (Xs d (ZCT 5 e++r))
 ln:∀d k w l r,w<=l->l<=5->6<=k+w->isW r [[40]]=false->(Za0 r).1<l+2->Ln e r (Jy (Xs d) (k - 1)) (w+1) (Jy (Xs d) k (w+1) (ZCT l e++r))
def ZBy (e:Ex):ZCT 0 e=exK e:=by rw [ZCT,ZBw,Tf sM]
def ExR.full {e:Ex} (h:ExR e) (d:Nat) {r:Ts} (hr:Nx r):Rd erE e r (Zab d (exK e++r)):=by
 have:=h.ln d 6 0 0 r oM oM oM hr.par (by have:=hr.bin;omega);rw [ZBy] at this;exact Zyo this (.inr hr.bin)
def Zyp {op:Nat} {rel:Bs} {args:List Ex} {body:List Li} {a:Nat} (h:YG (.mk op rel args body a)=true):YW op rel args.length body.length=true/\(∀x∈args,Yi x=true)/\∀x∈body,YG x=true:=by
 simp only [YG,Zt,Xh,Tn] at h;exact ⟨h.1,Tr.1 h.2.1,Tr.1 h.2.2⟩
def Zyq {op:Nat} {rel:Bs} {na nb:Nat} (h:YW op rel na nb=true):((op=1\/op=2)/\Xg rel=true/\nb=0)\/(3<=op/\op<=8/\rel=[]/\na=2/\nb=0)\/(op=9/\rel=[]/\na=1/\0<nb)\/(9<op/\op<=12/\rel=[]/\na=2/\0<nb):=by
 unfold YW at h
 split at h
 ·rename_i c
  simp only [Tn,T7,decide_eq_false_iff_not] at h;exact .inl ⟨c,h.1,oM⟩
 split at h
 ·rename_i c
  simp only [Tn,T7,decide_eq_false_iff_not,TP] at h;exact .inr (.inl ⟨c.1,c.2,h.1,h.2.1,oM⟩)
 split at h
 ·rename_i c
  simp only [Tn,TP] at h;exact .inr (.inr (.inl ⟨c,h.1,h.2.1,h.2.2⟩))
 split at h
 ·rename_i c
  simp only [Tn,TP] at h;exact .inr (.inr (.inr ⟨c.1,c.2,h.1,h.2.1,h.2.2⟩))
 cases h
end Go.PM.Lex
end
