/- A part of the proof: plain logic, contracts and laws over the given program. -/
import Derived.Test.YtnbhcckbjefnjaaGreatDoorMore
import Derived.Lib.AppendIntMem
import Derived.WalkKit
import Derived.Test.YtnbhcckbjefnjaaGreatDoorB07
set_option linter.unusedVariables false
set_option linter.unusedSimpArgs false
set_option linter.all false
set_option maxRecDepth 100000
set_option maxHeartbeats 16000000
noncomputable section
section
namespace Go.PM.Lex
open Go.Proofs
variable {w0:World} {nG:Nat}
mutual
def wE:Ex->Nat
 | .mk _ t _ args _=>1+t.length+wEs args
def wEs:List Ex->Nat
 | []=>0
 | x::l=>1+wE x+wEs l
end
def Xs:∀(l:List Ex),wEs l=szS wE l
 | []=>by rw [wEs,szS]
 | x::l=>by rw [wEs,szS,Xs l]
mutual
def wL:Li->Nat
 | .mk _ r a b _=>1+r.length+szS wE a+wLs b
def wLs:List Li->Nat
 | []=>0
 | x::l=>1+wL x+wLs l
end
def X0:∀(l:List Li),wLs l=szS wL l
 | []=>by rw [wLs,szS]
 | x::l=>by rw [wLs,szS,X0 l]
def wRu (r:Ru):Nat:=1+r.head.length+szS wE r.args+szS wL r.body
def wFi (f:Fi):Nat:=1+f.name.length+f.typ.length
def wCa (c:Ca):Nat:=1+c.name.length+szS wFi c.fields
def wTy (t:Ty):Nat:=1+t.name.length+t.base.length+szS wFi t.fields+szS wCa t.cases
def wRe (d:Re):Nat:=1+d.name.length+szS wFi d.fields
def wBs (s:Bs):Nat:=1+s.length
def wIn (i:Ini):Nat:=1+i.name.length+i.comp.length+szS wBs i.types
def wOv (o:Ov):Nat:=1+o.rel.length
mutual
def wUn:Un->Nat
 | .mk a1 a2 a3 a4 a5 a6=>1+szS wTy a1+szS wRe a2+szS wRu a3+ZpL a4+szS wIn a5+szS wOv a6
def wCo:Co->Nat
 | .mk n p b t u _=>1+n.length+szS wBs p+b.length+szS wBs t+wUn u
def ZpL:List Co->Nat
 | []=>0
 | x::l=>1+wCo x+ZpL l
end
def VQ:∀(l:List Co),ZpL l=szS wCo l
 | []=>by rw [ZpL,szS]
 | x::l=>by rw [ZpL,szS,VQ l]
abbrev YC {α:Type} (enc:Pl->α->List D):Pl->α->PV:=fun pl x=>.agg ((enc pl x).map .d)
abbrev ZiY:Pl->Bs->PV:=fun _ s=>.d (.str s)
def YR {α:Type} (val:Pl->α->PV) (p:α->Bool) (w:α->Nat) (n:Nat):Zp:=fun args σ K=>match args,σ with
 | [v],⟨[],[],0⟩=>∃pl x,v=val pl x/\(w x<=n/\n<=1073741824)/\∀b,p x=b->K (.ret (.d (.bool b))) ⟨[],[],0⟩
 | _,_=>False
def U4 {α:Type} (h0:FuncId) (val:Pl->α->PV) (p:α->Bool) (w:α->Nat) (n:Nat):Zp:=fun args σ K=>match args,σ with
 | [v,.ptr 0 0],⟨[.cells t [.func h' [] []]],[],0⟩=>∃pl x,v=val pl x/\(h'=h0/\w x<=n/\n<=1073741824)/\∀b,(!p x)=b->K (.ret (.d (.bool b))) ⟨[.cells t [.func h' [] []]],[],0⟩
 | _,_=>False
def U5 {α:Type} (g0 h0:FuncId) (enc:Pl->α->List D) (p:α->Bool) (w:α->Nat) (n:Nat):Zp:=fun args σ K=>match args,σ with
 | [.d (.sl r),.func g' [] [.ptr 0 0]],⟨[.cells t [.func h' [] []]],[],0⟩=>∃pl l,r=l.map (enc pl)/\(g'=g0/\h'=h0/\szS w l<=n/\n<=1073741824)/\∀r:Int,(r<0↔l.all p=true)->K (.ret (.d (.int .i64 r))) ⟨[.cells t [.func h' [] []]],[],0⟩
 | _,_=>False
def U6 {α:Type} (g0 h0:FuncId) (enc:Pl->α->List D) (p:α->Bool) (w:α->Nat) (n:Nat):Zp:=fun args σ K=>match args,σ with
 | [.d (.sl r),.func g' [] [.ptr 0 0]],⟨[.cells t [.func h' [] []]],[],0⟩=>∃pl l,r=l.map (enc pl)/\(g'=g0/\h'=h0/\szS w l<=n/\n<=1073741824)/\∀b,(!l.all p)=b->K (.ret (.d (.bool b))) ⟨[.cells t [.func h' [] []]],[],0⟩
 | _,_=>False
def XA {α:Type} (h0:FuncId) (enc:Pl->α->List D) (p:α->Bool) (w:α->Nat) (n:Nat):Zp:=fun args σ K=>match args,σ with
 | [.d (.sl r),.func h' [] []],⟨[],[],0⟩=>∃pl l,r=l.map (enc pl)/\(h'=h0/\szS w l<=n/\n<=1073741824)/\∀b,l.all p=b->K (.ret (.d (.bool b))) ⟨[],[],0⟩
 | _,_=>False
def Xl {α:Type} (p:α->Bool) {l:List α} {i:Nat} (h:i<l.length):(l.drop i).all p=(p l[i] && (l.drop (i+1)).all p):=by rw [Tn h,List.all_cons]
def WE {α:Type} (p:α->Bool) {l:List α} {i:Nat} (h:l.length<=i):(l.drop i).all p=true:=by rw [Tv h];rfl
def Zzm {n:Nat}:OKw w0 nG [(133,YR (YC ZQ) Ye wE n)] 192 (U4 133 (YC ZQ) Ye wE n):=by
 refine pwo Tryz.func192 fun args σ K h=>?_
 exact mq80
def Zzo {n:Nat}:OKw w0 nG [(192,U4 133 (YC ZQ) Ye wE n)] 230 (U5 192 133 ZQ Ye wE n):=by
 refine pwo Tryz.func230 fun args σ K h=>?_
 unfold U5 at h
 split at h
 ·obtain ⟨pl,l,rfl,⟨rfl,rfl,hz,hn⟩,h⟩:=h
  rename_i t
  have aa:(l.map (ZQ pl)).length=l.length:=Td ..;have hsz:=Zn wE l;refine pwv [(2,⟨[8],[0,1,7],fun vs σ=>∃i:Nat,vs=[.d (.int .i64 i)]/\σ=⟨[.cells t [.func 133 [] []]],[],0⟩/\i<=l.length/\l.all Ye=(l.drop i).all Ye,mu1 l.length⟩)] 1 false ?_;refine ⟨⟨0,rfl,rfl,oM,rfl⟩,?_⟩;intro vs σ hI
  obtain ⟨i,rfl,rfl,hi,hs⟩:=hI;(conv=>whnf);refine ZEH (fun ac=>wN ?_) (fun ac=>wN ?_)
  ·have ac:i<l.length:=lzI aa ac;have hg:=Zr wE l i ac;rw [Xl _ ac] at hs;obtain ⟨eA,hA⟩:∃e,l[i]=e:=⟨_,rfl⟩
   obtain ⟨a1,a2,a3,a4,a5⟩:=eA;have bi:(l.map (ZQ pl))[((i:Nat):Int).toNat]?=some (ZQ pl (.mk a1 a2 a3 a4 a5)):=by simp [ac,hA]
   rw [hA] at hs hg;refine ⟨_,oM,bi,wN ?_⟩;refine ⟨pl,(.mk a1 a2 a3 a4 a5),rfl,⟨rfl,oM,oM⟩,fun b hb=>?_⟩
   cases b with
   | true =>
    have hp:Ye (.mk a1 a2 a3 a4 a5)=false:=by simpa using hb
    exact mq42
   | false =>
   have hp:Ye (.mk a1 a2 a3 a4 a5)=true:=by simpa using hb
   exact mq25
  exact mq29
 exact h.elim
def Zzq {n:Nat}:OKw w0 nG [(230,U5 192 133 ZQ Ye wE n)] 191 (U6 192 133 ZQ Ye wE n):=by
 refine pwo Tryz.func191 fun args σ K h=>?_
 unfold U6 at h
 split at h
 ·obtain ⟨pl,l,rfl,⟨rfl,rfl,hz,hn⟩,h⟩:=h;refine pwv [] 1 false ?_;refine ⟨pl,l,rfl,⟨rfl,rfl,hz,hn⟩,fun r hr=>wN ?_⟩;refine h _ ?_
  cases hb:l.all Ye with
  | true=>rw [hb] at hr;have:=hr.2 rfl;simp;omega
  | false=>rw [hb] at hr;have:¬r<0:=fun g=>(by have:=hr.1 g;cases this);simp;omega
 exact h.elim
def Zzs {n:Nat}:OKw w0 nG [(191,U6 192 133 ZQ Ye wE n)] 132 (XA 133 ZQ Ye wE n):=by
 refine pwo Tryz.func132 fun args σ K h=>?_
 exact mq7
def ZBz {n:Nat} (h:PC w0 nG 133 (YR (YC ZQ) Ye wE n)):PC w0 nG 132 (XA 133 ZQ Ye wE n) :=
 Zzs ⟨Zzq ⟨Zzo ⟨Zzm ⟨h,trivial⟩,trivial⟩,trivial⟩,trivial⟩
def Zzu {n:Nat}:OKw w0 nG [(135,YR (YC Y5) YE wL n)] 196 (U4 135 (YC Y5) YE wL n):=by
 refine pwo Tryz.func196 fun args σ K h=>?_
 exact mq80
def Zzw {n:Nat}:OKw w0 nG [(196,U4 135 (YC Y5) YE wL n)] 235 (U5 196 135 Y5 YE wL n):=by
 refine pwo Tryz.func235 fun args σ K h=>?_
 unfold U5 at h
 split at h
 ·obtain ⟨pl,l,rfl,⟨rfl,rfl,hz,hn⟩,h⟩:=h
  rename_i t
  have aa:(l.map (Y5 pl)).length=l.length:=Td ..;have hsz:=Zn wL l;refine pwv [(2,⟨[8],[0,1,7],fun vs σ=>∃i:Nat,vs=[.d (.int .i64 i)]/\σ=⟨[.cells t [.func 135 [] []]],[],0⟩/\i<=l.length/\l.all YE=(l.drop i).all YE,mu1 l.length⟩)] 1 false ?_;refine ⟨⟨0,rfl,rfl,oM,rfl⟩,?_⟩;intro vs σ hI
  obtain ⟨i,rfl,rfl,hi,hs⟩:=hI;(conv=>whnf);refine ZEH (fun ac=>wN ?_) (fun ac=>wN ?_)
  ·have ac:i<l.length:=lzI aa ac;have hg:=Zr wL l i ac;rw [Xl _ ac] at hs;obtain ⟨eA,hA⟩:∃e,l[i]=e:=⟨_,rfl⟩
   obtain ⟨a1,a2,a3,a4,a5⟩:=eA;have bi:(l.map (Y5 pl))[((i:Nat):Int).toNat]?=some (Y5 pl (.mk a1 a2 a3 a4 a5)):=by simp [ac,hA]
   rw [hA] at hs hg;refine ⟨_,oM,bi,wN ?_⟩;refine ⟨pl,(.mk a1 a2 a3 a4 a5),rfl,⟨rfl,oM,oM⟩,fun b hb=>?_⟩
   cases b with
   | true =>
    have hp:YE (.mk a1 a2 a3 a4 a5)=false:=by simpa using hb
    exact mq42
   | false =>
   have hp:YE (.mk a1 a2 a3 a4 a5)=true:=by simpa using hb
   exact mq25
  exact mq29
 exact h.elim
def Zzy {n:Nat}:OKw w0 nG [(235,U5 196 135 Y5 YE wL n)] 195 (U6 196 135 Y5 YE wL n):=by
 refine pwo Tryz.func195 fun args σ K h=>?_
 unfold U6 at h
 split at h
 ·obtain ⟨pl,l,rfl,⟨rfl,rfl,hz,hn⟩,h⟩:=h;refine pwv [] 1 false ?_;refine ⟨pl,l,rfl,⟨rfl,rfl,hz,hn⟩,fun r hr=>wN ?_⟩;refine h _ ?_
  cases hb:l.all YE with
  | true=>rw [hb] at hr;have:=hr.2 rfl;simp;omega
  | false=>rw [hb] at hr;have:¬r<0:=fun g=>(by have:=hr.1 g;cases this);simp;omega
 exact h.elim
def ZzA {n:Nat}:OKw w0 nG [(195,U6 196 135 Y5 YE wL n)] 134 (XA 135 Y5 YE wL n):=by
 refine pwo Tryz.func134 fun args σ K h=>?_
 exact mq7
def ZDu {n:Nat} (h:PC w0 nG 135 (YR (YC Y5) YE wL n)):PC w0 nG 134 (XA 135 Y5 YE wL n) :=
 ZzA ⟨Zzy ⟨Zzw ⟨Zzu ⟨h,trivial⟩,trivial⟩,trivial⟩,trivial⟩
def ZvT {n:Nat}:OKw w0 nG [(69,YR (YC Zy) XQ wRu n)] 131 (U4 69 (YC Zy) XQ wRu n):=by
 refine pwo Tryz.func131 fun args σ K h=>?_
 exact mq84
def ZvV {n:Nat}:OKw w0 nG [(131,U4 69 (YC Zy) XQ wRu n)] 190 (U5 131 69 Zy XQ wRu n):=by
 refine pwo Tryz.func190 fun args σ K h=>?_
 unfold U5 at h
 split at h
 ·obtain ⟨pl,l,rfl,⟨rfl,rfl,hz,hn⟩,h⟩:=h
  rename_i t
  have aa:(l.map (Zy pl)).length=l.length:=Td ..;have hsz:=Zn wRu l;refine pwv [(2,⟨[8],[0,1,7],fun vs σ=>∃i:Nat,vs=[.d (.int .i64 i)]/\σ=⟨[.cells t [.func 69 [] []]],[],0⟩/\i<=l.length/\l.all XQ=(l.drop i).all XQ,mu1 l.length⟩)] 1 false ?_;refine ⟨⟨0,rfl,rfl,oM,rfl⟩,?_⟩;intro vs σ hI
  obtain ⟨i,rfl,rfl,hi,hs⟩:=hI;(conv=>whnf);refine ZEH (fun ac=>wN ?_) (fun ac=>wN ?_)
  ·have ac:i<l.length:=lzI aa ac;have hg:=Zr wRu l i ac;rw [Xl _ ac] at hs;obtain ⟨eA,hA⟩:∃e,l[i]=e:=⟨_,rfl⟩
   obtain ⟨a1,a2,a3,a4⟩:=eA;have bi:(l.map (Zy pl))[((i:Nat):Int).toNat]?=some (Zy pl ⟨a1,a2,a3,a4⟩):=by simp [ac,hA]
   rw [hA] at hs hg;refine ⟨_,oM,bi,wN ?_⟩;refine ⟨pl,⟨a1,a2,a3,a4⟩,rfl,⟨rfl,oM,oM⟩,fun b hb=>?_⟩
   cases b with
   | true =>
    have hp:XQ ⟨a1,a2,a3,a4⟩=false:=by simpa using hb
    exact mq42
   | false =>
   have hp:XQ ⟨a1,a2,a3,a4⟩=true:=by simpa using hb
   exact mq25
  exact mq29
 exact h.elim
def ZvX {n:Nat}:OKw w0 nG [(190,U5 131 69 Zy XQ wRu n)] 130 (U6 131 69 Zy XQ wRu n):=by
 refine pwo Tryz.func130 fun args σ K h=>?_
 unfold U6 at h
 split at h
 ·obtain ⟨pl,l,rfl,⟨rfl,rfl,hz,hn⟩,h⟩:=h;refine pwv [] 1 false ?_;refine ⟨pl,l,rfl,⟨rfl,rfl,hz,hn⟩,fun r hr=>wN ?_⟩;refine h _ ?_
  cases hb:l.all XQ with
  | true=>rw [hb] at hr;have:=hr.2 rfl;simp;omega
  | false=>rw [hb] at hr;have:¬r<0:=fun g=>(by have:=hr.1 g;cases this);simp;omega
 exact h.elim
def ZvZ {n:Nat}:OKw w0 nG [(130,U6 131 69 Zy XQ wRu n)] 68 (XA 69 Zy XQ wRu n):=by
 refine pwo Tryz.func68 fun args σ K h=>?_
 exact mq7
def ZzB {n:Nat} (h:PC w0 nG 69 (YR (YC Zy) XQ wRu n)):PC w0 nG 68 (XA 69 Zy XQ wRu n) :=
 ZvZ ⟨ZvX ⟨ZvV ⟨ZvT ⟨h,trivial⟩,trivial⟩,trivial⟩,trivial⟩
def Zv1 {n:Nat}:OKw w0 nG [(67,YR (YC (fun _=>Zk)) YL wFi n)] 129 (U4 67 (YC (fun _=>Zk)) YL wFi n):=by
 refine pwo Tryz.func129 fun args σ K h=>?_
 exact mq49
def Zv3 {n:Nat}:OKw w0 nG [(129,U4 67 (YC (fun _=>Zk)) YL wFi n)] 164 (U5 129 67 (fun _=>Zk) YL wFi n):=by
 refine pwo Tryz.func164 fun args σ K h=>?_
 unfold U5 at h
 split at h
 ·obtain ⟨pl,l,rfl,⟨rfl,rfl,hz,hn⟩,h⟩:=h
  rename_i t
  have aa:(l.map ((fun _=>Zk) pl)).length=l.length:=Td ..;have hsz:=Zn wFi l;refine pwv [(2,⟨[8],[0,1,7],fun vs σ=>∃i:Nat,vs=[.d (.int .i64 i)]/\σ=⟨[.cells t [.func 67 [] []]],[],0⟩/\i<=l.length/\l.all YL=(l.drop i).all YL,mu1 l.length⟩)] 1 false ?_;refine ⟨⟨0,rfl,rfl,oM,rfl⟩,?_⟩;intro vs σ hI
  obtain ⟨i,rfl,rfl,hi,hs⟩:=hI;(conv=>whnf);refine ZEH (fun ac=>wN ?_) (fun ac=>wN ?_)
  ·have ac:i<l.length:=lzI aa ac;have hg:=Zr wFi l i ac;rw [Xl _ ac] at hs;obtain ⟨eA,hA⟩:∃e,l[i]=e:=⟨_,rfl⟩
   obtain ⟨a1,a2⟩:=eA;have bi:(l.map ((fun _=>Zk) pl))[((i:Nat):Int).toNat]?=some ((fun _=>Zk) pl ⟨a1,a2⟩):=by simp [ac,hA]
   rw [hA] at hs hg;refine ⟨_,oM,bi,wN ?_⟩;refine ⟨pl,⟨a1,a2⟩,rfl,⟨rfl,oM,oM⟩,fun b hb=>?_⟩
   cases b with
   | true =>
    have hp:YL ⟨a1,a2⟩=false:=by simpa using hb
    exact mq42
   | false =>
   have hp:YL ⟨a1,a2⟩=true:=by simpa using hb
   exact mq25
  exact mq29
 exact h.elim
def Zv5 {n:Nat}:OKw w0 nG [(164,U5 129 67 (fun _=>Zk) YL wFi n)] 87 (U6 129 67 (fun _=>Zk) YL wFi n):=by
 refine pwo Tryz.func87 fun args σ K h=>?_
 unfold U6 at h
 split at h
 ·obtain ⟨pl,l,rfl,⟨rfl,rfl,hz,hn⟩,h⟩:=h;refine pwv [] 1 false ?_;refine ⟨pl,l,rfl,⟨rfl,rfl,hz,hn⟩,fun r hr=>wN ?_⟩;refine h _ ?_
  cases hb:l.all YL with
  | true=>rw [hb] at hr;have:=hr.2 rfl;simp;omega
  | false=>rw [hb] at hr;have:¬r<0:=fun g=>(by have:=hr.1 g;cases this);simp;omega
 exact h.elim
def Zv7 {n:Nat}:OKw w0 nG [(87,U6 129 67 (fun _=>Zk) YL wFi n)] 66 (XA 67 (fun _=>Zk) YL wFi n):=by
 refine pwo Tryz.func66 fun args σ K h=>?_
 exact mq7
def ZCm {n:Nat} (h:PC w0 nG 67 (YR (YC (fun _=>Zk)) YL wFi n)):PC w0 nG 66 (XA 67 (fun _=>Zk) YL wFi n) :=
 Zv7 ⟨Zv5 ⟨Zv3 ⟨Zv1 ⟨h,trivial⟩,trivial⟩,trivial⟩,trivial⟩
def Zv9 {n:Nat}:OKw w0 nG [(124,YR (YC (fun _=>Zt)) Xp wCa n)] 184 (U4 124 (YC (fun _=>Zt)) Xp wCa n):=by
 refine pwo Tryz.func184 fun args σ K h=>?_
 exact mq49
def Zwb {n:Nat}:OKw w0 nG [(184,U4 124 (YC (fun _=>Zt)) Xp wCa n)] 86 (U5 184 124 (fun _=>Zt) Xp wCa n):=by
 refine pwo Tryz.func86 fun args σ K h=>?_
 unfold U5 at h
 split at h
 ·obtain ⟨pl,l,rfl,⟨rfl,rfl,hz,hn⟩,h⟩:=h
  rename_i t
  have aa:(l.map ((fun _=>Zt) pl)).length=l.length:=Td ..;have hsz:=Zn wCa l;refine pwv [(2,⟨[8],[0,1,7],fun vs σ=>∃i:Nat,vs=[.d (.int .i64 i)]/\σ=⟨[.cells t [.func 124 [] []]],[],0⟩/\i<=l.length/\l.all Xp=(l.drop i).all Xp,mu1 l.length⟩)] 1 false ?_;refine ⟨⟨0,rfl,rfl,oM,rfl⟩,?_⟩;intro vs σ hI
  obtain ⟨i,rfl,rfl,hi,hs⟩:=hI;(conv=>whnf);refine ZEH (fun ac=>wN ?_) (fun ac=>wN ?_)
  ·have ac:i<l.length:=lzI aa ac;have hg:=Zr wCa l i ac;rw [Xl _ ac] at hs;obtain ⟨eA,hA⟩:∃e,l[i]=e:=⟨_,rfl⟩
   obtain ⟨a1,a2⟩:=eA;have bi:(l.map ((fun _=>Zt) pl))[((i:Nat):Int).toNat]?=some ((fun _=>Zt) pl ⟨a1,a2⟩):=by simp [ac,hA]
   rw [hA] at hs hg;refine ⟨_,oM,bi,wN ?_⟩;refine ⟨pl,⟨a1,a2⟩,rfl,⟨rfl,oM,oM⟩,fun b hb=>?_⟩
   cases b with
   | true =>
    have hp:Xp ⟨a1,a2⟩=false:=by simpa using hb
    exact mq42
   | false =>
   have hp:Xp ⟨a1,a2⟩=true:=by simpa using hb
   exact mq25
  exact mq29
 exact h.elim
def Zwd {n:Nat}:OKw w0 nG [(86,U5 184 124 (fun _=>Zt) Xp wCa n)] 42 (U6 184 124 (fun _=>Zt) Xp wCa n):=by
 refine pwo Tryz.func42 fun args σ K h=>?_
 unfold U6 at h
 split at h
 ·obtain ⟨pl,l,rfl,⟨rfl,rfl,hz,hn⟩,h⟩:=h;refine pwv [] 1 false ?_;refine ⟨pl,l,rfl,⟨rfl,rfl,hz,hn⟩,fun r hr=>wN ?_⟩;refine h _ ?_
  cases hb:l.all Xp with
  | true=>rw [hb] at hr;have:=hr.2 rfl;simp;omega
  | false=>rw [hb] at hr;have:¬r<0:=fun g=>(by have:=hr.1 g;cases this);simp;omega
 exact h.elim
def Zwf {n:Nat}:OKw w0 nG [(42,U6 184 124 (fun _=>Zt) Xp wCa n)] 123 (XA 124 (fun _=>Zt) Xp wCa n):=by
 refine pwo Tryz.func123 fun args σ K h=>?_
 exact mq7
def ZCn {n:Nat} (h:PC w0 nG 124 (YR (YC (fun _=>Zt)) Xp wCa n)):PC w0 nG 123 (XA 124 (fun _=>Zt) Xp wCa n) :=
 Zwf ⟨Zwd ⟨Zwb ⟨Zv9 ⟨h,trivial⟩,trivial⟩,trivial⟩,trivial⟩
def Zwh {n:Nat}:OKw w0 nG [(62,YR (YC Zs) Ym wTy n)] 122 (U4 62 (YC Zs) Ym wTy n):=by
 refine pwo Tryz.func122 fun args σ K h=>?_
 exact mq77
def Zwj {n:Nat}:OKw w0 nG [(122,U4 62 (YC Zs) Ym wTy n)] 183 (U5 122 62 Zs Ym wTy n):=by
 refine pwo Tryz.func183 fun args σ K h=>?_
 unfold U5 at h
 split at h
 ·obtain ⟨pl,l,rfl,⟨rfl,rfl,hz,hn⟩,h⟩:=h
  rename_i t
  have aa:(l.map (Zs pl)).length=l.length:=Td ..;have hsz:=Zn wTy l;refine pwv [(2,⟨[8],[0,1,7],fun vs σ=>∃i:Nat,vs=[.d (.int .i64 i)]/\σ=⟨[.cells t [.func 62 [] []]],[],0⟩/\i<=l.length/\l.all Ym=(l.drop i).all Ym,mu1 l.length⟩)] 1 false ?_;refine ⟨⟨0,rfl,rfl,oM,rfl⟩,?_⟩;intro vs σ hI
  obtain ⟨i,rfl,rfl,hi,hs⟩:=hI;(conv=>whnf);refine ZEH (fun ac=>wN ?_) (fun ac=>wN ?_)
  ·have ac:i<l.length:=lzI aa ac;have hg:=Zr wTy l i ac;rw [Xl _ ac] at hs;obtain ⟨eA,hA⟩:∃e,l[i]=e:=⟨_,rfl⟩
   obtain ⟨a1,a2,a3,a4,a5,a6⟩:=eA;have bi:(l.map (Zs pl))[((i:Nat):Int).toNat]?=some (Zs pl ⟨a1,a2,a3,a4,a5,a6⟩):=by simp [ac,hA]
   rw [hA] at hs hg;refine ⟨_,oM,bi,wN ?_⟩;refine ⟨pl,⟨a1,a2,a3,a4,a5,a6⟩,rfl,⟨rfl,oM,oM⟩,fun b hb=>?_⟩
   cases b with
   | true =>
    have hp:Ym ⟨a1,a2,a3,a4,a5,a6⟩=false:=by simpa using hb
    exact mq42
   | false =>
   have hp:Ym ⟨a1,a2,a3,a4,a5,a6⟩=true:=by simpa using hb
   exact mq25
  exact mq29
 exact h.elim
def Zwl {n:Nat}:OKw w0 nG [(183,U5 122 62 Zs Ym wTy n)] 121 (U6 122 62 Zs Ym wTy n):=by
 refine pwo Tryz.func121 fun args σ K h=>?_
 unfold U6 at h
 split at h
 ·obtain ⟨pl,l,rfl,⟨rfl,rfl,hz,hn⟩,h⟩:=h;refine pwv [] 1 false ?_;refine ⟨pl,l,rfl,⟨rfl,rfl,hz,hn⟩,fun r hr=>wN ?_⟩;refine h _ ?_
  cases hb:l.all Ym with
  | true=>rw [hb] at hr;have:=hr.2 rfl;simp;omega
  | false=>rw [hb] at hr;have:¬r<0:=fun g=>(by have:=hr.1 g;cases this);simp;omega
 exact h.elim
def Zwn {n:Nat}:OKw w0 nG [(121,U6 122 62 Zs Ym wTy n)] 61 (XA 62 Zs Ym wTy n):=by
 refine pwo Tryz.func61 fun args σ K h=>?_
 exact mq7
def ZzC {n:Nat} (h:PC w0 nG 62 (YR (YC Zs) Ym wTy n)):PC w0 nG 61 (XA 62 Zs Ym wTy n) :=
 Zwn ⟨Zwl ⟨Zwj ⟨Zwh ⟨h,trivial⟩,trivial⟩,trivial⟩,trivial⟩
def Zwp {n:Nat}:OKw w0 nG [(64,YR (YC ZF) Wd wRe n)] 126 (U4 64 (YC ZF) Wd wRe n):=by
 refine pwo Tryz.func126 fun args σ K h=>?_
 exact mq77
def Zwr {n:Nat}:OKw w0 nG [(126,U4 64 (YC ZF) Wd wRe n)] 185 (U5 126 64 ZF Wd wRe n):=by
 refine pwo Tryz.func185 fun args σ K h=>?_
 unfold U5 at h
 split at h
 ·obtain ⟨pl,l,rfl,⟨rfl,rfl,hz,hn⟩,h⟩:=h
  rename_i t
  have aa:(l.map (ZF pl)).length=l.length:=Td ..;have hsz:=Zn wRe l;refine pwv [(2,⟨[8],[0,1,7],fun vs σ=>∃i:Nat,vs=[.d (.int .i64 i)]/\σ=⟨[.cells t [.func 64 [] []]],[],0⟩/\i<=l.length/\l.all Wd=(l.drop i).all Wd,mu1 l.length⟩)] 1 false ?_;refine ⟨⟨0,rfl,rfl,oM,rfl⟩,?_⟩;intro vs σ hI
  obtain ⟨i,rfl,rfl,hi,hs⟩:=hI;(conv=>whnf);refine ZEH (fun ac=>wN ?_) (fun ac=>wN ?_)
  ·have ac:i<l.length:=lzI aa ac;have hg:=Zr wRe l i ac;rw [Xl _ ac] at hs;obtain ⟨eA,hA⟩:∃e,l[i]=e:=⟨_,rfl⟩
   obtain ⟨a1,a2,a3,a4,a5,a6⟩:=eA;have bi:(l.map (ZF pl))[((i:Nat):Int).toNat]?=some (ZF pl ⟨a1,a2,a3,a4,a5,a6⟩):=by simp [ac,hA]
   rw [hA] at hs hg;refine ⟨_,oM,bi,wN ?_⟩;refine ⟨pl,⟨a1,a2,a3,a4,a5,a6⟩,rfl,⟨rfl,oM,oM⟩,fun b hb=>?_⟩
   cases b with
   | true =>
    have hp:Wd ⟨a1,a2,a3,a4,a5,a6⟩=false:=by simpa using hb
    exact mq42
   | false =>
   have hp:Wd ⟨a1,a2,a3,a4,a5,a6⟩=true:=by simpa using hb
   exact mq25
  exact mq29
 exact h.elim
def Zwt {n:Nat}:OKw w0 nG [(185,U5 126 64 ZF Wd wRe n)] 125 (U6 126 64 ZF Wd wRe n):=by
 refine pwo Tryz.func125 fun args σ K h=>?_
 unfold U6 at h
 split at h
 ·obtain ⟨pl,l,rfl,⟨rfl,rfl,hz,hn⟩,h⟩:=h;refine pwv [] 1 false ?_;refine ⟨pl,l,rfl,⟨rfl,rfl,hz,hn⟩,fun r hr=>wN ?_⟩;refine h _ ?_
  cases hb:l.all Wd with
  | true=>rw [hb] at hr;have:=hr.2 rfl;simp;omega
  | false=>rw [hb] at hr;have:¬r<0:=fun g=>(by have:=hr.1 g;cases this);simp;omega
 exact h.elim
def Zwv {n:Nat}:OKw w0 nG [(125,U6 126 64 ZF Wd wRe n)] 63 (XA 64 ZF Wd wRe n):=by
 refine pwo Tryz.func63 fun args σ K h=>?_
 exact mq7
def ZzD {n:Nat} (h:PC w0 nG 64 (YR (YC ZF) Wd wRe n)):PC w0 nG 63 (XA 64 ZF Wd wRe n) :=
 Zwv ⟨Zwt ⟨Zwr ⟨Zwp ⟨h,trivial⟩,trivial⟩,trivial⟩,trivial⟩
def Zwx {n:Nat}:OKw w0 nG [(71,YR (YC XP) Yg wCo n)] 137 (U4 71 (YC XP) Yg wCo n):=by
 refine pwo Tryz.func137 fun args σ K h=>?_
 unfold U4 at h
 split at h
 ·obtain ⟨pl,⟨a1,a2,a3,a4,⟨u1,u2,u3,u4,u5,u6⟩,a6⟩,rfl,⟨rfl,hz,hn⟩,h⟩:=h;refine pwv [] 1 false ?_;refine ⟨pl,(.mk a1 a2 a3 a4 (.mk u1 u2 u3 u4 u5 u6) a6),rfl,⟨hz,hn⟩,fun b hb=>wN ?_⟩;exact h _ (by rw [hb])
 exact h.elim
def Zwz {n:Nat}:OKw w0 nG [(137,U4 71 (YC XP) Yg wCo n)] 197 (U5 137 71 XP Yg wCo n):=by
 refine pwo Tryz.func197 fun args σ K h=>?_
 unfold U5 at h
 split at h
 ·obtain ⟨pl,l,rfl,⟨rfl,rfl,hz,hn⟩,h⟩:=h
  rename_i t
  have aa:(l.map (XP pl)).length=l.length:=Td ..;have hsz:=Zn wCo l;refine pwv [(2,⟨[8],[0,1,7],fun vs σ=>∃i:Nat,vs=[.d (.int .i64 i)]/\σ=⟨[.cells t [.func 71 [] []]],[],0⟩/\i<=l.length/\l.all Yg=(l.drop i).all Yg,mu1 l.length⟩)] 1 false ?_;refine ⟨⟨0,rfl,rfl,oM,rfl⟩,?_⟩;intro vs σ hI
  obtain ⟨i,rfl,rfl,hi,hs⟩:=hI;(conv=>whnf);refine ZEH (fun ac=>?_) (fun ac=>wN ?_)
  ·have ac:i<l.length:=lzI aa ac;have hg:=Zr wCo l i ac;rw [Xl _ ac] at hs;obtain ⟨eA,hA⟩:∃e,l[i]=e:=⟨_,rfl⟩
   obtain ⟨a1,a2,a3,a4,⟨u1,u2,u3,u4,u5,u6⟩,a6⟩:=eA;have bi:(l.map (XP pl))[((i:Nat):Int).toNat]?=some (XP pl (.mk a1 a2 a3 a4 (.mk u1 u2 u3 u4 u5 u6) a6)):=by simp [ac,hA]
   rw [hA] at hs hg;(conv=>whnf);refine ⟨_,oM,bi,wN ?_⟩;refine ⟨pl,(.mk a1 a2 a3 a4 (.mk u1 u2 u3 u4 u5 u6) a6),rfl,⟨rfl,oM,oM⟩,fun b hb=>?_⟩
   cases b with
   | true =>
    have hp:Yg (.mk a1 a2 a3 a4 (.mk u1 u2 u3 u4 u5 u6) a6)=false:=by simpa using hb
    exact mq42
   | false =>
   have hp:Yg (.mk a1 a2 a3 a4 (.mk u1 u2 u3 u4 u5 u6) a6)=true:=by simpa using hb
   exact mq25
  exact mq29
 exact h.elim
def ZwB {n:Nat}:OKw w0 nG [(197,U5 137 71 XP Yg wCo n)] 136 (U6 137 71 XP Yg wCo n):=by
 refine pwo Tryz.func136 fun args σ K h=>?_
 unfold U6 at h
 split at h
 ·obtain ⟨pl,l,rfl,⟨rfl,rfl,hz,hn⟩,h⟩:=h;refine pwv [] 1 false ?_;refine ⟨pl,l,rfl,⟨rfl,rfl,hz,hn⟩,fun r hr=>wN ?_⟩;refine h _ ?_
  cases hb:l.all Yg with
  | true=>rw [hb] at hr;have:=hr.2 rfl;simp;omega
  | false=>rw [hb] at hr;have:¬r<0:=fun g=>(by have:=hr.1 g;cases this);simp;omega
 exact h.elim
def ZwD {n:Nat}:OKw w0 nG [(136,U6 137 71 XP Yg wCo n)] 70 (XA 71 XP Yg wCo n):=by
 refine pwo Tryz.func70 fun args σ K h=>?_
 exact mq7
def ZCo {n:Nat} (h:PC w0 nG 71 (YR (YC XP) Yg wCo n)):PC w0 nG 70 (XA 71 XP Yg wCo n) :=
 ZwD ⟨ZwB ⟨Zwz ⟨Zwx ⟨h,trivial⟩,trivial⟩,trivial⟩,trivial⟩
def ZwF {n:Nat}:OKw w0 nG [(74,YR (YC Wb) WC wIn n)] 140 (U4 74 (YC Wb) WC wIn n):=by
 refine pwo Tryz.func140 fun args σ K h=>?_
 exact mq84
def ZwH {n:Nat}:OKw w0 nG [(140,U4 74 (YC Wb) WC wIn n)] 198 (U5 140 74 Wb WC wIn n):=by
 refine pwo Tryz.func198 fun args σ K h=>?_
 unfold U5 at h
 split at h
 ·obtain ⟨pl,l,rfl,⟨rfl,rfl,hz,hn⟩,h⟩:=h
  rename_i t
  have aa:(l.map (Wb pl)).length=l.length:=Td ..;have hsz:=Zn wIn l;refine pwv [(2,⟨[8],[0,1,7],fun vs σ=>∃i:Nat,vs=[.d (.int .i64 i)]/\σ=⟨[.cells t [.func 74 [] []]],[],0⟩/\i<=l.length/\l.all WC=(l.drop i).all WC,mu1 l.length⟩)] 1 false ?_;refine ⟨⟨0,rfl,rfl,oM,rfl⟩,?_⟩;intro vs σ hI
  obtain ⟨i,rfl,rfl,hi,hs⟩:=hI;(conv=>whnf);refine ZEH (fun ac=>wN ?_) (fun ac=>wN ?_)
  ·have ac:i<l.length:=lzI aa ac;have hg:=Zr wIn l i ac;rw [Xl _ ac] at hs;obtain ⟨eA,hA⟩:∃e,l[i]=e:=⟨_,rfl⟩
   obtain ⟨a1,a2,a3,a4⟩:=eA;have bi:(l.map (Wb pl))[((i:Nat):Int).toNat]?=some (Wb pl ⟨a1,a2,a3,a4⟩):=by simp [ac,hA]
   rw [hA] at hs hg;refine ⟨_,oM,bi,wN ?_⟩;refine ⟨pl,⟨a1,a2,a3,a4⟩,rfl,⟨rfl,oM,oM⟩,fun b hb=>?_⟩
   cases b with
   | true =>
    have hp:WC ⟨a1,a2,a3,a4⟩=false:=by simpa using hb
    exact mq42
   | false =>
   have hp:WC ⟨a1,a2,a3,a4⟩=true:=by simpa using hb
   exact mq25
  exact mq29
 exact h.elim
def ZwJ {n:Nat}:OKw w0 nG [(198,U5 140 74 Wb WC wIn n)] 139 (U6 140 74 Wb WC wIn n):=by
 refine pwo Tryz.func139 fun args σ K h=>?_
 unfold U6 at h
 split at h
 ·obtain ⟨pl,l,rfl,⟨rfl,rfl,hz,hn⟩,h⟩:=h;refine pwv [] 1 false ?_;refine ⟨pl,l,rfl,⟨rfl,rfl,hz,hn⟩,fun r hr=>wN ?_⟩;refine h _ ?_
  cases hb:l.all WC with
  | true=>rw [hb] at hr;have:=hr.2 rfl;simp;omega
  | false=>rw [hb] at hr;have:¬r<0:=fun g=>(by have:=hr.1 g;cases this);simp;omega
 exact h.elim
def ZwL {n:Nat}:OKw w0 nG [(139,U6 140 74 Wb WC wIn n)] 73 (XA 74 Wb WC wIn n):=by
 refine pwo Tryz.func73 fun args σ K h=>?_
 exact mq7
def ZzE {n:Nat} (h:PC w0 nG 74 (YR (YC Wb) WC wIn n)):PC w0 nG 73 (XA 74 Wb WC wIn n) :=
 ZwL ⟨ZwJ ⟨ZwH ⟨ZwF ⟨h,trivial⟩,trivial⟩,trivial⟩,trivial⟩
def ZwN {n:Nat}:OKw w0 nG [(76,YR (YC Wc) W5 wOv n)] 142 (U4 76 (YC Wc) W5 wOv n):=by
 refine pwo Tryz.func142 fun args σ K h=>?_
 exact mq49
def ZwP {n:Nat}:OKw w0 nG [(142,U4 76 (YC Wc) W5 wOv n)] 199 (U5 142 76 Wc W5 wOv n):=by
 refine pwo Tryz.func199 fun args σ K h=>?_
 unfold U5 at h
 split at h
 ·obtain ⟨pl,l,rfl,⟨rfl,rfl,hz,hn⟩,h⟩:=h
  rename_i t
  have aa:(l.map (Wc pl)).length=l.length:=Td ..;have hsz:=Zn wOv l;refine pwv [(2,⟨[8],[0,1,7],fun vs σ=>∃i:Nat,vs=[.d (.int .i64 i)]/\σ=⟨[.cells t [.func 76 [] []]],[],0⟩/\i<=l.length/\l.all W5=(l.drop i).all W5,mu1 l.length⟩)] 1 false ?_;refine ⟨⟨0,rfl,rfl,oM,rfl⟩,?_⟩;intro vs σ hI
  obtain ⟨i,rfl,rfl,hi,hs⟩:=hI;(conv=>whnf);refine ZEH (fun ac=>wN ?_) (fun ac=>wN ?_)
  ·have ac:i<l.length:=lzI aa ac;have hg:=Zr wOv l i ac;rw [Xl _ ac] at hs;obtain ⟨eA,hA⟩:∃e,l[i]=e:=⟨_,rfl⟩
   obtain ⟨a1,a2⟩:=eA;have bi:(l.map (Wc pl))[((i:Nat):Int).toNat]?=some (Wc pl ⟨a1,a2⟩):=by simp [ac,hA]
   rw [hA] at hs hg;refine ⟨_,oM,bi,wN ?_⟩;refine ⟨pl,⟨a1,a2⟩,rfl,⟨rfl,oM,oM⟩,fun b hb=>?_⟩
   cases b with
   | true =>
    have hp:W5 ⟨a1,a2⟩=false:=by simpa using hb
    exact mq42
   | false =>
   have hp:W5 ⟨a1,a2⟩=true:=by simpa using hb
   exact mq25
  exact mq29
 exact h.elim
def ZwR {n:Nat}:OKw w0 nG [(199,U5 142 76 Wc W5 wOv n)] 141 (U6 142 76 Wc W5 wOv n):=by
 refine pwo Tryz.func141 fun args σ K h=>?_
 unfold U6 at h
 split at h
 ·obtain ⟨pl,l,rfl,⟨rfl,rfl,hz,hn⟩,h⟩:=h;refine pwv [] 1 false ?_;refine ⟨pl,l,rfl,⟨rfl,rfl,hz,hn⟩,fun r hr=>wN ?_⟩;refine h _ ?_
  cases hb:l.all W5 with
  | true=>rw [hb] at hr;have:=hr.2 rfl;simp;omega
  | false=>rw [hb] at hr;have:¬r<0:=fun g=>(by have:=hr.1 g;cases this);simp;omega
 exact h.elim
def ZwT {n:Nat}:OKw w0 nG [(141,U6 142 76 Wc W5 wOv n)] 75 (XA 76 Wc W5 wOv n):=by
 refine pwo Tryz.func75 fun args σ K h=>?_
 exact mq7
def ZzF {n:Nat} (h:PC w0 nG 76 (YR (YC Wc) W5 wOv n)):PC w0 nG 75 (XA 76 Wc W5 wOv n) :=
 ZwT ⟨ZwR ⟨ZwP ⟨ZwN ⟨h,trivial⟩,trivial⟩,trivial⟩,trivial⟩
def ZwV {n:Nat}:OKw w0 nG [(65,YR ZiY Xj wBs n)] 138 (U4 65 ZiY Xj wBs n):=by
 refine pwo Tryz.func138 fun args σ K h=>?_
 unfold U4 at h
 split at h
 ·obtain ⟨pl,x,rfl,⟨rfl,hz,hn⟩,h⟩:=h;refine pwv [] 1 false ?_;refine ⟨pl,x,rfl,⟨hz,hn⟩,fun b hb=>wN ?_⟩;exact h _ (by rw [hb])
 exact h.elim
def ZwX {n:Nat}:OKw w0 nG [(138,U4 65 ZiY Xj wBs n)] 165 (U5 138 65 (fun _=>Yl) Xj wBs n):=by
 refine pwo Tryz.func165 fun args σ K h=>?_
 unfold U5 at h
 split at h
 ·obtain ⟨pl,l,rfl,⟨rfl,rfl,hz,hn⟩,h⟩:=h
  rename_i t
  have aa:(l.map ((fun _=>Yl) pl)).length=l.length:=Td ..;have hsz:=Zn wBs l;refine pwv [(2,⟨[8],[0,1,7],fun vs σ=>∃i:Nat,vs=[.d (.int .i64 i)]/\σ=⟨[.cells t [.func 65 [] []]],[],0⟩/\i<=l.length/\l.all Xj=(l.drop i).all Xj,mu1 l.length⟩)] 1 false ?_;refine ⟨⟨0,rfl,rfl,oM,rfl⟩,?_⟩;intro vs σ hI
  obtain ⟨i,rfl,rfl,hi,hs⟩:=hI;(conv=>whnf);refine ZEH (fun ac=>wN ?_) (fun ac=>wN ?_)
  ·have ac:i<l.length:=lzI aa ac;have hg:=Zr wBs l i ac;rw [Xl _ ac] at hs;obtain ⟨eA,hA⟩:∃e,l[i]=e:=⟨_,rfl⟩
   have bi:(l.map ((fun _=>Yl) pl))[((i:Nat):Int).toNat]?=some ((fun _=>Yl) pl eA):=by simp [ac,hA]
   rw [hA] at hs hg;refine ⟨_,oM,bi,wN ?_⟩;refine ⟨pl,eA,rfl,⟨rfl,oM,oM⟩,fun b hb=>?_⟩
   cases b with
   | true =>
    have hp:Xj eA=false:=by simpa using hb
    exact mq42
   | false =>
   have hp:Xj eA=true:=by simpa using hb
   exact mq25
  exact mq29
 exact h.elim
def ZwZ {n:Nat}:OKw w0 nG [(165,U5 138 65 (fun _=>Yl) Xj wBs n)] 94 (U6 138 65 (fun _=>Yl) Xj wBs n):=by
 refine pwo Tryz.func94 fun args σ K h=>?_
 unfold U6 at h
 split at h
 ·obtain ⟨pl,l,rfl,⟨rfl,rfl,hz,hn⟩,h⟩:=h;refine pwv [] 1 false ?_;refine ⟨pl,l,rfl,⟨rfl,rfl,hz,hn⟩,fun r hr=>wN ?_⟩;refine h _ ?_
  cases hb:l.all Xj with
  | true=>rw [hb] at hr;have:=hr.2 rfl;simp;omega
  | false=>rw [hb] at hr;have:¬r<0:=fun g=>(by have:=hr.1 g;cases this);simp;omega
 exact h.elim
def Zw1 {n:Nat}:OKw w0 nG [(94,U6 138 65 (fun _=>Yl) Xj wBs n)] 72 (XA 65 (fun _=>Yl) Xj wBs n):=by
 refine pwo Tryz.func72 fun args σ K h=>?_
 exact mq7
def ZCp {n:Nat} (h:PC w0 nG 65 (YR ZiY Xj wBs n)):PC w0 nG 72 (XA 65 (fun _=>Yl) Xj wBs n) :=
 Zw1 ⟨ZwZ ⟨ZwX ⟨ZwV ⟨h,trivial⟩,trivial⟩,trivial⟩,trivial⟩
def ZyA:Zp:=fun args σ K=>match args,σ with
 | [.d (.int .u8 op)],⟨[],[],0⟩=>∃o:Nat,op=o/\∀l w a,(ZS o:Int)=l->VP o=w->V7 o=a->K (.ret (.agg [.d (.int .i64 l),.d (.str w),.d (.int .i64 a)])) ⟨[],[],0⟩
 | _,_=>False
def ZpM:ZG ZyA:=fun args σ K K' hK h=>by
 unfold ZyA at h |-
 split at h
 ·obtain ⟨o,h1,h2⟩:=h;exact ⟨o,h1,fun l w a e1 e2 e3=>hK _ _ (h2 l w a e1 e2 e3)⟩
 exact h.elim
def Zso:PC w0 nG 193 ZyA:=by
 refine pwe Tryz.func193 fun args σ K h=>?_
 unfold ZyA at h
 split at h
 ·obtain ⟨o,rfl,h⟩:=h;refine pwu [] 0 false ?_
  repeat' ((conv=>whnf);refine ZEH (fun hc=>?_) (fun hc=>?_))
  all_goals (conv=>whnf)
  all_goals first
  | (have e : o = 16 := by omega
     subst e;exact h _ _ _ rfl rfl rfl)
  | (have e : o = 17 := by omega
     subst e;exact h _ _ _ rfl rfl rfl)
  | (have e : o = 15 := by omega
     subst e;exact h _ _ _ rfl rfl rfl)
  | (have e : o = 18 := by omega
     subst e;exact h _ _ _ rfl rfl rfl)
  | (have e : o = 19 := by omega
     subst e;exact h _ _ _ rfl rfl rfl)
  | (have e : o = 10 := by omega
     subst e;exact h _ _ _ rfl rfl rfl)
  | (have e : o = 11 := by omega
     subst e;exact h _ _ _ rfl rfl rfl)
  | (have e : o = 12 := by omega
     subst e;exact h _ _ _ rfl rfl rfl)
  | (have e : o = 13 := by omega
     subst e;exact h _ _ _ rfl rfl rfl)
  | (have e : o = 14 := by omega
     subst e;exact h _ _ _ rfl rfl rfl)
  | (have e : o = 8 := by omega
     subst e;exact h _ _ _ rfl rfl rfl)
  | (have e : o = 9 := by omega
     subst e;exact h _ _ _ rfl rfl rfl)
  | (have e : o = 20 := by omega
     subst e;exact h _ _ _ rfl rfl rfl)
  | (have e : o = 21 := by omega
     subst e;exact h _ _ _ rfl rfl rfl)
  | (have e : o = 22 := by omega
     subst e;exact h _ _ _ rfl rfl rfl)
  | (have e : o = 23 := by omega
     subst e;exact h _ _ _ rfl rfl rfl)
  | (have e : o = 24 := by omega
     subst e;exact h _ _ _ rfl rfl rfl)
  | (have e : o = 25 := by omega
     subst e;exact h _ _ _ rfl rfl rfl)
  | (have e : o = 6 := by omega
     subst e;exact h _ _ _ rfl rfl rfl)
  | (have e : o = 7 := by omega
     subst e;exact h _ _ _ rfl rfl rfl)
  | (have e : o = 1 := by omega
     subst e;exact h _ _ _ rfl rfl rfl)
  | (have e : o = 2 := by omega
     subst e;exact h _ _ _ rfl rfl rfl)
  | (have e : o = 3 := by omega
     subst e;exact h _ _ _ rfl rfl rfl)
  | (have e : o = 4 := by omega
     subst e;exact h _ _ _ rfl rfl rfl)
  | (have e : o = 5 := by omega
     subst e;exact h _ _ _ rfl rfl rfl)
  | (refine h _ _ _ ?_ ?_ ?_
     ·unfold ZS;(repeat rw [Tf oM]);rfl
     ·unfold VP;(repeat rw [Tf oM])
     unfold V7;(repeat rw [Tf oM]))
 exact h.elim
def ZzH {n:Nat}:OKw w0 nG [(127,ZgH),(128,Zh6)] 65 (YR ZiY Xj wBs n):=by
 refine pwo Tryz.func65 fun args σ K h=>?_
 unfold YR at h
 split at h
 ·obtain ⟨pl,s,rfl,⟨hz,hn⟩,h⟩:=h;unfold wBs at hz
  refine pwv [] 0 false ?_;refine ⟨oM,wN ?_⟩;refine ZEL (fun iv=>?_) (fun iv=>?_);rotate_left
  ·(conv=>whnf);exact h _ (by simp [Xj,iv])
  conv=>whnf
  refine ZEJ (fun cz=>?_) (fun cz=>?_);rotate_left
  ·(conv=>whnf);exact h _ (by simp only [Xj,iv,cz];decide)
  conv=>whnf
  refine fun b hb=>wN ?_
  exact h _ (by rw [Xj,iv,hb,decide_eq_false cz];simp)
 exact h.elim
def ZzJ {n:Nat}:OKw w0 nG [(65,YR ZiY Xj wBs n)] 67 (YR (YC (fun _=>Zk)) YL wFi n):=by
 refine pwo Tryz.func67 fun args σ K h=>?_
 unfold YR at h
 split at h
 ·obtain ⟨pl,⟨a1,a2⟩,rfl,⟨hz,hn⟩,h⟩:=h;simp only [wFi] at hz;refine pwv [] 0 false ?_;refine ⟨fun _=>0,a1,rfl,⟨by simp only [wBs];omega,oM⟩,fun b dk=>?_⟩
  cases b with
  | false =>
   conv=>whnf
   exact h _ (by simp [YL,dk])
  | true =>
  conv=>whnf
  refine ⟨fun _=>0,a2,rfl,⟨by simp only [wBs];omega,oM⟩,fun b ew=>wN ?_⟩;exact h _ (by simp [YL,dk,ew])
 exact h.elim
def ZzL {n:Nat}:OKw w0 nG [(65,YR ZiY Xj wBs n),(66,XA 67 (fun _=>Zk) YL wFi n)] 124 (YR (YC (fun _=>Zt)) Xp wCa n):=by
 refine pwo Tryz.func124 fun args σ K h=>?_
 unfold YR at h
 split at h
 ·obtain ⟨pl,⟨a1,a2⟩,rfl,⟨hz,hn⟩,h⟩:=h;simp only [wCa] at hz;refine pwv [] 0 false ?_;refine ⟨fun _=>0,a1,rfl,⟨by simp only [wBs];omega,oM⟩,fun b dk=>?_⟩
  cases b with
  | false =>
   conv=>whnf
   exact h _ (by simp [Xp,dk])
  | true =>
  conv=>whnf
  refine ⟨pl,a2,rfl,⟨rfl,oM,oM⟩,fun b gr=>wN ?_⟩;exact h _ (by simp [Xp,dk,gr])
 exact h.elim
def ZzN {n:Nat}:OKw w0 nG [(65,YR ZiY Xj wBs n),(66,XA 67 (fun _=>Zk) YL wFi n)] 64 (YR (YC ZF) Wd wRe n):=by
 refine pwo Tryz.func64 fun args σ K h=>?_
 unfold YR at h
 split at h
 ·obtain ⟨pl,⟨a1,a2,a3,a4,a5,a6⟩,rfl,⟨hz,hn⟩,h⟩:=h;simp only [wRe] at hz;refine pwv [] 0 false ?_;refine ⟨fun _=>0,a1,rfl,⟨by simp only [wBs];omega,oM⟩,fun b dk=>?_⟩
  cases b with
  | false =>
   conv=>whnf
   exact h _ (by simp [Wd,dk])
  | true =>
  conv=>whnf
  refine ⟨pl,a2,rfl,⟨rfl,oM,oM⟩,fun b gr=>wN ?_⟩;exact h _ (by simp [Wd,dk,gr])
 exact h.elim
def ZzP {n:Nat}:OKw w0 nG [(65,YR ZiY Xj wBs n),(72,XA 65 (fun _=>Yl) Xj wBs n)] 74 (YR (YC Wb) WC wIn n):=by
 refine pwo Tryz.func74 fun args σ K h=>?_
 unfold YR at h
 split at h
 ·obtain ⟨pl,⟨a1,a2,a3,a4⟩,rfl,⟨hz,hn⟩,h⟩:=h;simp only [wIn] at hz;refine pwv [] 0 false ?_;refine ⟨fun _=>0,a1,rfl,⟨by simp only [wBs];omega,oM⟩,fun b dk=>?_⟩
  cases b with
  | false =>
   conv=>whnf
   exact h _ (by simp [WC,dk])
  | true =>
  conv=>whnf
  refine ⟨fun _=>0,a2,rfl,⟨by simp only [wBs];omega,oM⟩,fun b ew=>?_⟩
  cases b with
  | false =>
   conv=>whnf
   exact h _ (by simp [WC,dk,ew])
  | true =>
  conv=>whnf
  refine ⟨pl,a3,rfl,⟨rfl,oM,oM⟩,fun b gp=>wN ?_⟩;exact h _ (by simp [WC,dk,ew,gp])
 exact h.elim
def ZzR {n:Nat}:OKw w0 nG [(65,YR ZiY Xj wBs n)] 76 (YR (YC Wc) W5 wOv n):=by
 refine pwo Tryz.func76 fun args σ K h=>?_
 unfold YR at h
 split at h
 ·obtain ⟨pl,⟨a1,a2⟩,rfl,⟨hz,hn⟩,h⟩:=h;simp only [wOv] at hz;refine pwv [] 0 false ?_;refine ⟨fun _=>0,a1,rfl,⟨by simp only [wBs];omega,oM⟩,fun b dk=>wN ?_⟩;exact h _ (by simp [W5,dk])
 exact h.elim
def ZzT {n:Nat}:OKw w0 nG [(65,YR ZiY Xj wBs n),(132,XA 133 ZQ Ye wE n),(134,XA 135 Y5 YE wL n)] 69 (YR (YC Zy) XQ wRu n):=by
 refine pwo Tryz.func69 fun args σ K h=>?_
 unfold YR at h
 split at h
 ·obtain ⟨pl,⟨a1,a2,a3,a4⟩,rfl,⟨hz,hn⟩,h⟩:=h;simp only [wRu] at hz;refine pwv [] 0 false ?_;refine ⟨fun _=>0,a1,rfl,⟨by simp only [wBs];omega,oM⟩,fun b dk=>?_⟩
  cases b with
  | false =>
   conv=>whnf
   exact h _ (by simp [XQ,dk])
  | true =>
  conv=>whnf
  refine ⟨pl,a2,Zb _ _,⟨rfl,oM,oM⟩,fun b gr=>?_⟩
  cases b with
  | false =>
   conv=>whnf
   exact h _ (by simp [XQ,dk,gr])
  | true =>
  conv=>whnf
  refine ⟨pl,a3,Zl _ _,⟨rfl,oM,oM⟩,fun b gp=>wN ?_⟩;exact h _ (by simp [XQ,dk,gr,gp])
 exact h.elim
def ZzU {n:Nat}:OKw w0 nG [(193,ZyA),(65,YR ZiY Xj wBs n),(194,JM),(132,spB (XA 133 ZQ Ye wE) n)] 133 (YR (YC ZQ) Ye wE n):=by
 refine pwo Tryz.func133 fun args σ K h=>?_
 unfold YR at h
 split at h
 ·obtain ⟨pl,⟨a1,a2,a3,a4,a5⟩,rfl,⟨hz,hn⟩,h⟩:=h;simp only [wE,Xs] at hz;refine pwv [] 0 false ?_;have ic:(Zm pl a4).length=a4.length:=by rw [Zb,Td]
  refine ⟨a1,rfl,fun l w a hl hw ha=>wN ?_⟩;refine ZEH (fun gt=>wN ?_) (fun gt=>wN ?_)
  ·have uh:=gt;have gt:a1=1:=oM;refine ZEH (fun _=>wN ?_) (fun hx=>absurd uh hx);exact mq165
  refine ZEH (fun ui=>wN ?_) (fun ui=>wN ?_)
  ·have gt:a1=7:=by omega
   exact mq165
  have gt:¬a1=1:=oM;have ui:¬a1=7:=oM;refine ZEH (fun my=>wN ?_) (fun my=>wN ?_)
  ·have my:a1=4:=by omega
   refine ⟨oM,fun hq=>wN ?_,fun q hq=>wN ?_⟩
   ·have lx:V8 a1 a2=false:=by simp [V8,my,hq]
    exact mq6
   have lx:V8 a1 a2=true:=by simp [V8,my,hq]
   exact mq4
  have my:¬a1=4:=oM;have lx:V8 a1 a2=decide (a2=[]):=by simp [V8,gt,ui,my]
  refine ZEH (fun h1=>?_) (fun h1=>?_);rotate_left
  ·exact mq195
  conv=>whnf
  refine ZEH (fun h2=>wN ?_) (fun h2=>wN ?_)
  ·refine ZEH (fun h3=>wN ?_) (fun h3=>wN ?_)
   ·refine ZEH (fun h4=>?_) (fun h4=>?_);rotate_left
    ·exact mq149
    rw [Sg h4] at lx;(conv=>whnf);exact mq192
   refine ZEH (fun h5=>?_) (fun h5=>?_);rotate_left
   ·exact mq163
   have h5:a1=3:=oM;have ge:(decide (a3=0) || decide (a1=3))=true:=by simp [h5]
   conv=>whnf
   refine ZEH (fun h4=>?_) (fun h4=>?_);rotate_left
   ·exact mq149
   rw [Sg h4] at lx;exact mq187
  refine ZEH (fun h6=>?_) (fun h6=>?_);rotate_left
  ·exact mq167
  have h6:(a4.length:Int)=a:=by rw [<- ic];exact h6
  conv=>whnf
  refine ZEH (fun h3=>wN ?_) (fun h3=>wN ?_)
  ·refine ZEH (fun h4=>?_) (fun h4=>?_);rotate_left
   ·exact mq149
   rw [Sg h4] at lx;(conv=>whnf);exact mq191
  refine ZEH (fun h5=>?_) (fun h5=>?_);rotate_left
  ·exact mq163
  have h5:a1=3:=oM;have ge:(decide (a3=0) || decide (a1=3))=true:=by simp [h5]
  conv=>whnf
  refine ZEH (fun h4=>?_) (fun h4=>?_);rotate_left
  ·exact mq149
  rw [Sg h4] at lx;exact mq186
 exact h.elim
def ZzV {n:Nat}:OKw w0 nG [(65,YR ZiY Xj wBs n),(132,XA 133 ZQ Ye wE n),(134,spB (XA 135 Y5 YE wL) n)] 135 (YR (YC Y5) YE wL n):=by
 refine pwo Tryz.func135 fun args σ K h=>?_
 unfold YR at h
 split at h
 ·obtain ⟨pl,⟨a1,a2,a3,a4,a5⟩,rfl,⟨hz,hn⟩,h⟩:=h;simp only [wL,X0] at hz;refine pwv [] 0 false ?_;have kx:(Zm pl a3).length=a3.length:=by rw [Zb,Td]
  have ic:(Yf pl a4).length=a4.length:=by rw [Zl,Td]
  have ry:((0:Int)<((Yf pl a4).length:Int))↔0<a4.length:=by rw [ic];omega
  refine ZEH (fun gt=>wN ?_) (fun gt=>wN ?_)
  ·have uh:=gt;have gt:a1=1:=oM;refine ZEH (fun _=>wN ?_) (fun hx=>absurd uh hx);exact mq156
  refine ZEH (fun ug=>wN ?_) (fun ug=>wN ?_)
  ·have gt:a1=2:=by omega
   exact mq156
  have jw:¬(a1=1\/a1=2):=oM;refine ZEH (fun acf=>wN ?_) (fun acf=>wN ?_)
  ·refine ZEH (fun acg=>wN ?_) (fun acg=>wN ?_)
   ·have z4:3<=a1/\a1<=8:=by omega
    refine ZEH (fun hr=>?_) (fun hr=>?_);rotate_left
    ·have j8:YU a1 a2 a3.length a4.length=false:=by simp [YU,jw,z4,hr]
     conv=>whnf
     exact mq54
    conv=>whnf
    refine ZEH (fun hA=>?_) (fun hA=>?_);rotate_left
    ·have hA:¬a3.length=2:=fun g=>hA (by show ((Zm pl a3).length:Int)=2;rw [kx,g];rfl)
     have j8:YU a1 a2 a3.length a4.length=false:=by simp [YU,jw,z4,hA]
     conv=>whnf
     exact mq54
    have hA:a3.length=2:=by have hA:((Zm pl a3).length:Int)=2:=hA;rw [kx] at hA;omega
    conv=>whnf
    refine ZEJ (fun hB=>wN ?_) (fun hB=>wN ?_)
    ·have hB:¬0<a4.length:=fun g=>hB (ry.2 g)
     have j8:YU a1 a2 a3.length a4.length=true:=by simp only [YU,jw,z4,hr,hA,decide_eq_false hB];simp
     exact mq8
    have hB:=ry.1 hB;have j8:YU a1 a2 a3.length a4.length=false:=by simp [YU,jw,z4,hr,hA,hB]
    exact mq54
   exact mq3
  exact mq3
 exact h.elim
end Go.PM.Lex
end

section
namespace Go.PM.Lex
open Go.Proofs
variable {w0:World} {nG:Nat}
def ZzX {n:Nat}:OKw w0 nG [(65,YR ZiY Xj wBs n),(66,XA 67 (fun _=>Zk) YL wFi n),(123,XA 124 (fun _=>Zt) Xp wCa n)] 62 (YR (YC Zs) Ym wTy n):=by
 refine pwo Tryz.func62 fun args σ K h=>?_
 unfold YR at h
 split at h
 ·obtain ⟨pl,⟨a1,a2,a3,a4,a5,a6⟩,rfl,⟨hz,hn⟩,h⟩:=h;simp only [wTy] at hz;refine pwv [] 0 false ?_;have ic:(a4.map Zk).length=a4.length:=Td ..;have uj:(a5.map Zt).length=a5.length:=Td ..;have mn:(((a4.map Zk).length:Int)=0)↔a4.length=0:=by rw [ic];omega
  have vu:(((a5.map Zt).length:Int)=0)↔a5.length=0:=by rw [uj];omega
  refine ZEH (fun hk=>?_) (fun hk=>wN ?_)
  ·(try dsimp only at hk)
   have hk:a1=1:=oM;(conv=>whnf);refine ⟨fun _=>0,a3,rfl,⟨by simp only [wBs];omega,oM⟩,fun b eh=>?_⟩
   cases b with
   | false =>
    conv=>whnf
    have ly:ZbT (⟨a1,a2,a3,a4,a5,a6⟩:Ty)=false:=by simp [ZbT,hk,eh]
    conv=>whnf
    exact mq121
   | true =>
   conv=>whnf
   refine ZEH (fun h4=>wN ?_) (fun h4=>wN ?_)
   ·have h4:=mn.1 h4;refine ZEH (fun h5=>wN ?_) (fun h5=>wN ?_)
    ·have h5:=vu.1 h5;have ly:ZbT (⟨a1,a2,a3,a4,a5,a6⟩:Ty)=true:=by simp [ZbT,hk,eh,h4,h5]
     exact mq23
    have h5:¬a5.length=0:=fun g=>h5 (vu.2 g)
    have ly:ZbT (⟨a1,a2,a3,a4,a5,a6⟩:Ty)=false:=by simp [ZbT,hk,eh,h4,h5]
    exact mq121
   have h4:¬a4.length=0:=fun g=>h4 (mn.2 g)
   have ly:ZbT (⟨a1,a2,a3,a4,a5,a6⟩:Ty)=false:=by simp [ZbT,hk,eh,h4]
   exact mq121
  refine ZEH (fun bl=>?_) (fun bl=>wN ?_)
  ·(try dsimp only at bl)
   have bl:a1=2:=oM;(conv=>whnf);refine ZEH (fun eh=>?_) (fun eh=>?_);rotate_left
   ·have ly:ZbT (⟨a1,a2,a3,a4,a5,a6⟩:Ty)=false:=by simp [ZbT,bl,eh]
    conv=>whnf
    exact mq121
   (try dsimp only at eh)
   conv=>whnf
   refine ZEH (fun h5=>wN ?_) (fun h5=>wN ?_)
   ·have h5:=vu.1 h5;have ly:ZbT (⟨a1,a2,a3,a4,a5,a6⟩:Ty)=true:=by simp [ZbT,bl,eh,h5]
    exact mq23
   have h5:¬a5.length=0:=fun g=>h5 (vu.2 g)
   have ly:ZbT (⟨a1,a2,a3,a4,a5,a6⟩:Ty)=false:=by simp [ZbT,bl,eh,h5]
   exact mq121
  refine ZEH (fun fy=>?_) (fun fy=>?_)
  ·(try dsimp only at fy)
   have fy:a1=3:=oM;(conv=>whnf);refine ZEH (fun eh=>?_) (fun eh=>?_);rotate_left
   ·have ly:ZbT (⟨a1,a2,a3,a4,a5,a6⟩:Ty)=false:=by simp [ZbT,fy,eh]
    conv=>whnf
    exact mq121
   (try dsimp only at eh)
   conv=>whnf
   refine ZEH (fun h4=>wN ?_) (fun h4=>wN ?_)
   ·have h4:=mn.1 h4;refine ZEJ (fun h5=>wN ?_) (fun h5=>wN ?_)
    ·have h5:¬a5.length=0:=fun g=>h5 (vu.2 g)
     have ly:ZbT (⟨a1,a2,a3,a4,a5,a6⟩:Ty)=true:=by simp [ZbT,fy,eh,h4,h5]
     exact mq23
    have h5:=vu.1 h5;have ly:ZbT (⟨a1,a2,a3,a4,a5,a6⟩:Ty)=false:=by simp [ZbT,fy,eh,h4,h5]
    exact mq121
   have h4:¬a4.length=0:=fun g=>h4 (mn.2 g)
   have ly:ZbT (⟨a1,a2,a3,a4,a5,a6⟩:Ty)=false:=by simp [ZbT,fy,eh,h4]
   exact mq121
  (try dsimp only at hk bl fy)
  have hk:¬a1=1:=oM;have bl:¬a1=2:=oM;have fy:¬a1=3:=oM;have ly:ZbT (⟨a1,a2,a3,a4,a5,a6⟩:Ty)=false:=by simp [ZbT,hk,bl,fy]
  conv=>whnf
  exact mq121
 exact h.elim
def ZzZ {n:Nat}:OKw w0 nG [(65,YR ZiY Xj wBs n),(72,XA 65 (fun _=>Yl) Xj wBs n),(33,YR (YC XV) Zeu wUn n)] 71 (YR (YC XP) Yg wCo n):=by
 refine pwo Tryz.func71 fun args σ K h=>?_
 unfold YR at h
 split at h
 ·obtain ⟨pl,⟨a1,a2,a3,a4,⟨u1,u2,u3,u4,u5,u6⟩,a6⟩,rfl,⟨hz,hn⟩,h⟩:=h;simp only [wCo] at hz;refine pwv [] 0 false ?_;have ic:(a4.map Yl).length=a4.length:=Td ..;have mn:(((a4.map Yl).length:Int)=0)↔a4.length=0:=by rw [ic];omega
  refine ZEH (fun hb=>wN ?_) (fun hb=>wN ?_)
  ·refine ZEH (fun h4=>wN ?_) (fun h4=>wN ?_)
   ·have h4:=mn.1 h4;have lj:((decide (a3=[]) && decide (a4.length=0)) || Xj a3)=true:=by simp [hb,h4]
    exact mq14
   have h4:¬a4.length=0:=fun g=>h4 (mn.2 g)
   refine ⟨fun _=>0,a3,rfl,⟨by simp only [wBs];omega,oM⟩,fun b eh=>?_⟩
   cases b with
   | false =>
    have lj:((decide (a3=[]) && decide (a4.length=0)) || Xj a3)=false:=by simp [h4,eh]
    exact mq39
   | true =>
   have lj:((decide (a3=[]) && decide (a4.length=0)) || Xj a3)=true:=by simp [h4,eh]
   conv=>whnf
   exact mq14
  refine ⟨fun _=>0,a3,rfl,⟨by simp only [wBs];omega,oM⟩,fun b eh=>?_⟩
  cases b with
  | false =>
   have lj:((decide (a3=[]) && decide (a4.length=0)) || Xj a3)=false:=by simp [hb,eh]
   exact mq39
  | true =>
  have lj:((decide (a3=[]) && decide (a4.length=0)) || Xj a3)=true:=by simp [hb,eh]
  conv=>whnf
  exact mq14
 exact h.elim
def Zt7 {n:Nat}:OKw w0 nG [(61,XA 62 Zs Ym wTy n),(63,XA 64 ZF Wd wRe n),(68,XA 69 Zy XQ wRu n),(70,spB (XA 71 XP Yg wCo) n),(73,XA 74 Wb WC wIn n),(75,XA 76 Wc W5 wOv n)] 33 (YR (YC XV) Zeu wUn n):=by
 refine pwo Tryz.func33 fun args σ K h=>?_
 unfold YR at h
 split at h
 ·obtain ⟨pl,⟨a1,a2,a3,a4,a5,a6⟩,rfl,⟨hz,hn⟩,h⟩:=h;simp only [wUn,VQ] at hz;refine pwv [] 0 false ?_;refine ⟨pl,a1,rfl,⟨rfl,oM,oM⟩,fun b ld=>?_⟩
  cases b with
  | false =>
   conv=>whnf
   exact h _ (by simp [Zeu,WD,ld])
  | true =>
  conv=>whnf
  refine ⟨pl,a2,rfl,⟨rfl,oM,oM⟩,fun b gr=>?_⟩
  cases b with
  | false =>
   conv=>whnf
   exact h _ (by simp [Zeu,WD,ld,gr])
  | true =>
  conv=>whnf
  refine ⟨pl,a3,rfl,⟨rfl,oM,oM⟩,fun b gp=>?_⟩
  cases b with
  | false =>
   conv=>whnf
   exact h _ (by simp [Zeu,WD,ld,gr,gp])
  | true =>
  conv=>whnf
  refine ⟨oM,pl,a4,YZ _ _,⟨rfl,oM,oM⟩,fun b ha3=>?_⟩
  cases b with
  | false =>
   conv=>whnf
   exact h _ (by simp [Zeu,WD,ld,gr,gp,ha3])
  | true =>
  conv=>whnf
  refine ⟨pl,a5,rfl,⟨rfl,oM,oM⟩,fun b vw=>?_⟩
  cases b with
  | false =>
   conv=>whnf
   exact h _ (by simp [Zeu,WD,ld,gr,gp,ha3,vw])
  | true =>
  conv=>whnf
  refine ⟨pl,a6,rfl,⟨rfl,oM,oM⟩,fun b ha5=>wN ?_⟩;exact h _ (by simp [Zeu,WD,ld,gr,gp,ha3,vw,ha5])
 exact h.elim
structure LexC (w0:World) (nG:Nat):Prop where
 name:PC w0 nG 127 ZgH
 quote:PC w0 nG 194 JM
variable (hL:LexC w0 nG)
include hL
def Znb (n:Nat):PC w0 nG 65 (YR ZiY Xj wBs n):=ZzH ⟨hL.name,ZjH,trivial⟩
def cHE:∀n,PC w0 nG 133 (YR (YC ZQ) Ye wE n)
 | 0=>ZzU ⟨Zso,Znb hL _,hL.quote,ZB (Ze Tryz.func132 kR rfl),trivial⟩
 | n+1=>ZzU ⟨Zso,Znb hL _,hL.quote,ZC (sp:=XA 133 ZQ Ye wE) (ZBz (cHE n)),trivial⟩
def cHL:∀n,PC w0 nG 135 (YR (YC Y5) YE wL n)
 | 0=>ZzV ⟨Znb hL _,ZBz (cHE hL 0),ZB (Ze Tryz.func134 kR rfl),trivial⟩
 | n+1=>ZzV ⟨Znb hL _,ZBz (cHE hL _),ZC (sp:=XA 135 Y5 YE wL) (ZDu (cHL n)),trivial⟩
def ZDv (n:Nat):PC w0 nG 69 (YR (YC Zy) XQ wRu n):=ZzT ⟨Znb hL _,ZBz (cHE hL _),ZDu (cHL hL _),trivial⟩
def ZCs (n:Nat):PC w0 nG 66 (XA 67 (fun _=>Zk) YL wFi n):=ZCm (ZzJ ⟨Znb hL _,trivial⟩)
def ZDw (n:Nat):PC w0 nG 62 (YR (YC Zs) Ym wTy n):=ZzX ⟨Znb hL _,ZCs hL n,ZCn (ZzL ⟨Znb hL _,ZCs hL n,trivial⟩),trivial⟩
def ZDx (n:Nat):PC w0 nG 64 (YR (YC ZF) Wd wRe n):=ZzN ⟨Znb hL _,ZCs hL n,trivial⟩
def ZDy (n:Nat):PC w0 nG 72 (XA 65 (fun _=>Yl) Xj wBs n):=ZCp (Znb hL n)
def ZDz (n:Nat):PC w0 nG 74 (YR (YC Wb) WC wIn n):=ZzP ⟨Znb hL _,ZDy hL n,trivial⟩
def ZDA (n:Nat):PC w0 nG 76 (YR (YC Wc) W5 wOv n):=ZzR ⟨Znb hL _,trivial⟩
def ZDB:∀n,PC w0 nG 33 (YR (YC XV) Zeu wUn n)
 | 0=>Zt7 ⟨ZzC (ZDw hL _),ZzD (ZDx hL _),ZzB (ZDv hL _),ZB (Ze Tryz.func70 kR rfl),ZzE (ZDz hL _),ZzF (ZDA hL _),trivial⟩
 | n+1=>Zt7 ⟨ZzC (ZDw hL _),ZzD (ZDx hL _),ZzB (ZDv hL _),ZC (sp:=XA 71 XP Yg wCo) (ZCo (ZzZ ⟨Znb hL _,ZDy hL _,ZDB n,trivial⟩)),ZzE (ZDz hL _),ZzF (ZDA hL _),trivial⟩
end Go.PM.Lex
end

section
namespace Go.PM.Lex
open Go.Proofs Go.Shelf Go.RowKit
variable {w0:World} {nG:Nat}
def ZCt:liesAt Tryz.prog Tryz.prog.depth 104 (2 / Tryz.prog.cellsOf 104) 0 102 1=true:=kR
def ZjV (b:Nat) (w:World) (h0:w.cell? ⟨b,0,none⟩=some (.pointer none)) (j6:w.shape? b=some (104,2)) (jx:w.frozen? ⟨b,0,none⟩=false) :
  Calls Tryz.prog 200 #[.pointer (some ⟨b,0,none⟩)] w fun e w'=>e=.returned (.tuple #[])/\w'=w.setCell ⟨b,0,none⟩ (.pointer (some ⟨b,0,none⟩)):=by
 obtain ⟨j,hj,lf⟩:=i53
 go_enter Tryz.func200,Tryz.ntmps200
 go_wp2
 rw [Go.Lib.run_to_unsafe w ⟨b,0,none⟩ u50 u95 hj (by rw [lf];decide) j6 (Nat.zero_lt_succ 1)];simp only [Result.andThen];rw [Oper.upon_value]
 go_wp2
 rw [run_callFunc_extern Tryz.func236 kR kR kR (e:=Extern.AbiNoEscape.same) kR];rw [Go.Lib.run_noEscape];simp only [Result.andThen];rw [Oper.upon_value]
 go_wp2
 rw [Go.Lib.run_from_unsafe w ⟨b,0,none⟩ u95 u50 hj j6 ZCt];simp only [Result.andThen];rw [Oper.upon_value]
 go_wp2
 go_end0
 exact ⟨rfl,rfl⟩
def UB:Zp:=fun args σ K=>match args,σ with
 | [.ptr 0 0],⟨[.cells t [p,q]],tk,nx⟩=>((p=.d .nilp\/p=.ptr 0 0)/\t=104)/\K (.ret (.tuple [])) ⟨[.cells t [.ptr 0 0,q]],tk,nx⟩
 | _,_=>False
def ZgI:PC w0 nG 200 UB:=VJ (Ze Tryz.func200 kR rfl) fun args σ K h e w vs hS ha=>by
 unfold UB at h
 split at h
 ·rename_i t p q tk nx
  obtain ⟨⟨hp,rfl⟩,hK⟩:=h;obtain ⟨u,rfl,hu⟩:=Zgo ha;obtain ⟨cv,cz,bw,js⟩:=hS.box 0 _ rfl;have dj:cv.size=2:=bw;obtain ⟨x0,iz⟩:∃x,cv[0]?=some x:=⟨cv[0]'oM,by simp [dj]⟩
  have lk:=(js 0 p x0 rfl iz).1
  cases hu with
  | ptr b off hb =>
  refine ⟨_,_,.tuple #[],hK,?_⟩;rcases hp with rfl | rfl
  ·cases lk with
   | d _ _ hd =>
   cases hd
   refine Calls.mono (ZjV (e.β 0) w ?_ ?_ ?_) fun en w' ⟨h1,h2⟩=>?_
   ·simp [World.cell?,cz,iz]
   ·simp only [World.shape?,cz,dj]
   ·simp [World.frozen?,cz]
   have hst:=Zde (G:=GG w0 nG) (T:=Jy) ZI hS (t:=99) (b:=0) (off:=0) (x:=.ptr 0 0) (v:=.pointer (some ⟨e.β 0,0,none⟩)) (l:=[.ptr 0 0]) (cs:=[.d .nilp,q]) (ty:=104) rfl (.ptr 0 0 hb) rfl rfl sM (by intro h;cases h);rw [h2];exact ⟨h1,.tuple [] #[] rfl (fun i x u hx=>by simp at hx),hst.2,hst.1.toLater⟩
  exact mq85
 exact h.elim
def Znc {ty:TypeId} {P:Program} {ρ:Ren} (L:Lays.n169 P ρ) (X:Builder.Extra P ρ) (b g cap:Nat) (p:Value) (cur:Array Value) (fz:Nat×Nat) (l:Bs) (w:World) (h0:l≠[])
  (o7:w.heap[b]?=some (.cells #[p,.slice (some ⟨g,0,none⟩) l.length cap] ty (0,0))) (hg:w.heap[g]?=some (.cells cur (ρ.t 5) fz)) (hn:l.length<=cur.size) (hcap:cap≠0) (cx:l.length<=9223372036854775807)
  (az:∀j x,l[j]?=some x->w.cell? ⟨g,j,none⟩=some (.int .u8 x.toNat)) :
  Calls P (ρ.f 169) #[.pointer (some ⟨b,0,none⟩)] w fun e w'=>e=.returned (.string ⟨l.toArray⟩)/\w'=w.drew.freeze ⟨g,0,none⟩ l.length:=by
 have c1:w.drew.cell? ⟨b,1,none⟩=some (.slice (some ⟨g,0,none⟩) l.length cap):=by
  have:w.drew.heap[b]?=some (.cells #[p,.slice (some ⟨g,0,none⟩) l.length cap] ty (0,0)):=o7;rw [Go.Lib.cell_of_heap this];rfl
 have hSD:(Builtin.unsafeSliceData_ #[(ρ.t 37)] (ρ.t 127) #[.slice (some ⟨g,0,none⟩) l.length cap]).run P w.drew=.ok (.pointer (some ⟨g,0,none⟩)) w.drew :=
  Go.Lib.run_unsafeSliceData_row _ _ _ _ _ _ hcap
 have hUS:(Builtin.unsafeString_ #[(ρ.t 127),(ρ.t 3)] (ρ.t 9) #[.pointer (some ⟨g,0,none⟩),.int .i64 l.length]).run P w.drew=.ok (.string ⟨l.toArray⟩) (w.drew.freeze ⟨g,0,none⟩ l.length):=by
  exact mq68
 have mixed:=L.mixed;have t72:=L.t72;have a72:=L.a72;have z72:=L.z72;have v72:=L.v72;have u72:=run_underlying L.t72;have t70:=L.t70;have a70:=L.a70;have z70:=L.z70;have v70:=L.v70;have u70:=run_underlying L.t70;have t37:=L.t37;have a37:=L.a37;have z37:=L.z37;have v37:=L.v37;have u37:=run_underlying L.t37;have t127:=L.t127;have a127:=L.a127;have z127:=L.z127;have v127:=L.v127;have u127:=run_underlying L.t127;have t3:=L.t3;have a3:=L.a3;have z3:=L.z3;have v3:=L.v3;have u3:=run_underlying L.t3;have t9:=L.t9;have a9:=L.a9;have z9:=L.z9;have v9:=L.v9;have u9:=run_underlying L.t9;have t5:=X.t5;have a5:=X.a5;have z5:=X.z5;have v5:=X.v5;have u5:=run_underlying X.t5
 go_enter L.f169,Body.n169_ntmps ρ
 go_wp2
 go_region_o
 all_goals (go_wp2;go_ret;exact ⟨rfl,rfl⟩)
def Zsp {ty:TypeId} {P:Program} {ρ:Ren} (L:Lays.n169 P ρ) (X:Builder.Extra P ρ) (B b:Nat) (p:Value) (w:World) (o7:w.heap[b]?=some (.cells #[p,.slice none 0 0] ty (0,0))) :
  Calls P (ρ.f 169) #[.pointer (some ⟨b,0,none⟩)] w fun e w'=>e=.returned (.string ⟨#[]⟩)/\Below B w w':=by
 have hUS:=Any.unsafeString_none L X;have c1:w.drew.cell? ⟨b,1,none⟩=some (.slice none 0 0):=by
  have:w.drew.heap[b]?=some (.cells #[p,.slice none 0 0] ty (0,0)):=o7;rw [Lib.cell_of_heap this];rfl
 have hSD:(Builtin.unsafeSliceData_ #[(ρ.t 37)] (ρ.t 127) #[.slice none 0 0]).run P w.drew=.ok (.pointer none) w.drew:=rfl;have mixed:=L.mixed;have t72:=L.t72;have a72:=L.a72;have z72:=L.z72;have v72:=L.v72;have u72:=run_underlying L.t72;have t70:=L.t70;have a70:=L.a70;have z70:=L.z70;have v70:=L.v70;have u70:=run_underlying L.t70;have t37:=L.t37;have a37:=L.a37;have z37:=L.z37;have v37:=L.v37;have u37:=run_underlying L.t37;have t127:=L.t127;have a127:=L.a127;have z127:=L.z127;have v127:=L.v127;have u127:=run_underlying L.t127;have t3:=L.t3;have a3:=L.a3;have z3:=L.z3;have v3:=L.v3;have u3:=run_underlying L.t3;have t9:=L.t9;have a9:=L.a9;have z9:=L.z9;have v9:=L.v9;have u9:=run_underlying L.t9;have t5:=X.t5;have a5:=X.a5;have z5:=X.z5;have v5:=X.v5;have u5:=run_underlying X.t5
 go_enter L.f169,Body.n169_ntmps ρ
 go_wp2
 go_region_o
 all_goals (go_wp2;go_ret;exact ⟨rfl,Below.drew (Below.refl B w)⟩)
def ZpN {ty:TypeId} {P:Program} {ρ:Ren} (L:Lays.n169 P ρ) (X:Builder.Extra P ρ) (B b g cap:Nat) (p:Value) (w:World) (iv:cap≠0) (o7:w.heap[b]?=some (.cells #[p,.slice (some ⟨g,0,none⟩) 0 cap] ty (0,0))) :
  Calls P (ρ.f 169) #[.pointer (some ⟨b,0,none⟩)] w fun e w'=>e=.returned (.string ⟨#[]⟩)/\Below B w w':=by
 have hUS:=Any.unsafeString_none L X;have c1:w.drew.cell? ⟨b,1,none⟩=some (.slice (some ⟨g,0,none⟩) 0 cap):=by
  have:w.drew.heap[b]?=some (.cells #[p,.slice (some ⟨g,0,none⟩) 0 cap] ty (0,0)):=o7;rw [Lib.cell_of_heap this];rfl
 have hSD:(Builtin.unsafeSliceData_ #[(ρ.t 37)] (ρ.t 127) #[.slice (some ⟨g,0,none⟩) 0 cap]).run P w.drew=.ok (.pointer (some ⟨g,0,none⟩)) w.drew:=Go.Lib.run_unsafeSliceData_row _ _ _ _ _ _ iv
 clear iv
 have mixed:=L.mixed;have t72:=L.t72;have a72:=L.a72;have z72:=L.z72;have v72:=L.v72;have u72:=run_underlying L.t72;have t70:=L.t70;have a70:=L.a70;have z70:=L.z70;have v70:=L.v70;have u70:=run_underlying L.t70;have t37:=L.t37;have a37:=L.a37;have z37:=L.z37;have v37:=L.v37;have u37:=run_underlying L.t37;have t127:=L.t127;have a127:=L.a127;have z127:=L.z127;have v127:=L.v127;have u127:=run_underlying L.t127;have t3:=L.t3;have a3:=L.a3;have z3:=L.z3;have v3:=L.v3;have u3:=run_underlying L.t3;have t9:=L.t9;have a9:=L.a9;have z9:=L.z9;have v9:=L.v9;have u9:=run_underlying L.t9;have t5:=X.t5;have a5:=X.a5;have z5:=X.z5;have v5:=X.v5;have u5:=run_underlying X.t5
 go_enter L.f169,Body.n169_ntmps ρ
 go_wp2
 go_region_o
 all_goals (go_wp2;go_ret;exact ⟨rfl,Below.drew (Below.refl B w)⟩)
end Go.PM.Lex
end

section
namespace Go.PM.Lex
open Go.Proofs
variable {w0:World} {nG:Nat}
def wk {rows:List (List D)} {p:PV} {t t1 e e1:Nat} {B:Bs->Prop} {F:Bs->Bs->Prop} (l txt:Bs) (b:B txt) (k:F l txt) (h1:rows=Zh l:=by rfl) (h2:p=.d .nilp\/p=.ptr 0 0:=by first | exact .inl rfl | exact .inr rfl) (h3:t=t1:=by rfl) (h4:e=e1:=by rfl) (h5:l.length+txt.length<70368744177664:=by (try simp only [Ta,Te,Tg]);omega):∃l txt,rows=Zh l/\((p=.d .nilp\/p=.ptr 0 0)/\t=t1/\e=e1)/\B txt/\l.length+txt.length<70368744177664/\F l txt:=⟨l,txt,h1,⟨h2,h3,h4⟩,b,h5,k⟩
def ZiZ (r:PV) (body:List PV->Bs->Prop):Zp:=fun args σ K=>match args,σ with
 | .ptr 0 0::rest,⟨[.cells t [p,.sl 0 e rows]],[0],1⟩=>∃l txt,rows=Zh l/\((p=.d .nilp\/p=.ptr 0 0)/\t=104/\e=5)/\body rest txt/\l.length+txt.length<70368744177664 /\
   K (.ret r) ⟨[.cells t [.ptr 0 0,.sl 0 e (Zh (l++txt))]],[0],1⟩
 | _,_=>False
def Zaq (r:PV) (body:List PV->Bs->Prop):ZG (ZiZ r body):=fun args σ K K' hK h=>by
 unfold ZiZ at h |-
 split at h
 ·obtain ⟨l,txt,h1,h2,h3,h4,h5⟩:=h;exact ⟨l,txt,h1,h2,h3,h4,hK _ _ h5⟩
 exact h.elim
def ZgJ {α:Type} (val:Pl->α->PV) (may:α->Bool) (txt:α->Bs) (w:α->Nat) (n:Nat):Zp:=fun args σ K=>match args,σ with
 | [v,.ptr 0 0],⟨[.cells tp [.ptr 1 0],.cells t [.ptr 1 0,.sl 0 e rows]],[0],1⟩=>∃l pl x,rows=Zh l/\v=val pl x/\(t=104/\e=5)/\(may x=true/\w x<=n/\n<=1073741824)/\l.length+(txt x).length<70368744177664 /\
   K (.ret (.tuple [])) ⟨[.cells tp [.ptr 1 0],.cells t [.ptr 1 0,.sl 0 e (Zh (l++txt x))]],[0],1⟩
 | _,_=>False
def ZpO {α:Type} (g0:FuncId) (enc:Pl->α->List D) (may:α->Bool) (txt:α->Bs) (w:α->Nat) (n:Nat):Zp:=fun args σ K=>match args,σ with
 | [.ptr 0 0,.d (.sl r),.d (.str bt),.func g [] [.ptr 1 0]],⟨[.cells t [.ptr 0 0,.sl 0 e rows],.cells tp [.ptr 0 0]],[0],1⟩=>∃l pl xs,rows=Zh l/\r=xs.map (enc pl)/\(t=104/\e=5/\g=g0)/\(xs.all may=true/\szS w xs<=n/\n<=1073741824)/\l.length+(Zf bt (xs.map txt)).length<70368744177664 /\
   K (.ret (.tuple [])) ⟨[.cells t [.ptr 0 0,.sl 0 e (Zh (l++Zf bt (xs.map txt)))],.cells tp [.ptr 0 0]],[0],1⟩
 | _,_=>False
def ZDC (s:Bs):Zp:=ZiZ (.tuple [.d (.int .i64 s.length),.d .nili]) fun rest txt=>rest=[.d (.str s)]/\txt=s
def ZgK:Zp:=fun args σ K=>match args with
 | [.ptr 0 0,.d (.str s)]=>ZDC s args σ K
 | _=>False
def Znd:ZG ZgK:=fun args σ K K' hK h=>by
 unfold ZgK at h |-
 split at h
 ·exact Zaq _ _ _ _ _ _ hK h
 exact h.elim
def Zz1:Tbl:=[(200,UB)]
def ZpP:PC w0 nG 143 ZgK:=by
 refine pwt (tbl:=Zz1) ⟨ZgI,trivial⟩ Tryz.func143 fun args σ K h=>?_
 unfold ZgK at h
 split at h
 ·rename_i s
  unfold ZDC ZiZ at h
  split at h
  ·rename_i rest t p e rows af
   obtain ⟨l,txt,rfl,⟨hp,rfl,rfl⟩,⟨am,rfl⟩,aa,h⟩:=h;simp only [List.cons.injEq,true_and] at af;have hb:∀x:Bs,(Zh x).length=x.length:=fun x=>by simp [Zh]
   rw [Vj] at h;refine pwu [] 1 true ?_;rcases hp with rfl | rfl
   all_goals
    conv=>whnf
    first | refine ⟨⟨.inl rfl,rfl⟩,?_⟩ | refine ⟨⟨.inr rfl,rfl⟩,?_⟩
    conv=>whnf
    refine ⟨fun r hr=>?_,?_,?_,?_⟩
    ·obtain ⟨b,_,rfl⟩:=Sh.1 hr;rfl
    ·show ((Zh l).length+(Zh txt).length) * 1<=2 ^ 47;rw [hb,hb];omega
    ·show (Zh l).length+(Zh txt).length<=2 ^ 47;rw [hb,hb];omega
    exact mq52
  exact h.elim
 exact h.elim
def Zev:Zp:=ZiZ (.tuple []) fun rest txt=>∃ps:List Bs,rest=[.d (.sl (ps.map Yl))]/\ps≠[]/\ps.length<=1073741824/\txt=ps.flatten
def Zne:ZG Zev:=Zaq _ _
def ZpQ:Tbl:=[(143,ZgK)]
def Zil:TO w0 nG ZpQ:=⟨ZpP,trivial⟩
def Zar:PC w0 nG 77 Zev:=by
 refine pwt (tbl:=ZpQ) Zil Tryz.func77 fun args σ K h=>?_
 unfold Zev ZiZ at h
 split at h
 ·rename_i rest t p e rows
  obtain ⟨l,txt,rfl,⟨hp,rfl,rfl⟩,⟨ps,rfl,ai,jg,rfl⟩,aa,h⟩:=h;have du:(ps.map Yl).length=ps.length:=Td ..;refine pwu [(1,⟨[8],[0,6,7],fun vs σ=>∃(i:Nat) (P:PV),vs=[.d (.int .i64 i)]/\σ=⟨[.cells 104 [P,.sl 0 5 (Zh (l++(ps.take i).flatten))]],[0],1⟩/\(P=.d .nilp\/P=.ptr 0 0)/\(0<i->P=.ptr 0 0)/\i<=ps.length,mu1 ps.length⟩)] 1 true ?_;rcases hp with rfl | rfl
  all_goals
   conv=>whnf
   refine ⟨⟨0,_,rfl,(by simp only [Sk,List.flatten_nil,T1];rfl),iM,fun g=>absurd g oM,oM⟩,?_⟩;intro vs σ hI
   obtain ⟨i,P,rfl,rfl,hP,hP0,hi⟩:=hI;(conv=>whnf);refine ZEH (fun ac=>?_) (fun ac=>?_)
   ·have ac:i<ps.length:=lzI du ac;obtain ⟨s,hs⟩:∃s,ps[i]=s:=⟨_,rfl⟩
    have bi:(ps.map Yl)[((i:Nat):Int).toNat]?=some (Yl s):=by simp [ac,hs]
    have cn:(ps.take (i+1)).flatten=(ps.take i).flatten++s:=by rw [List.take_succ_eq_append_getElem ac,List.flatten_append,hs];simp
    have ak:(ps.take (i+1)).flatten.length<=ps.flatten.length:=by
     have e:ps.flatten=(ps.take (i+1)).flatten++(ps.drop (i+1)).flatten:=by rw [<- List.flatten_append,List.take_append_drop]
     rw [e,Ta];omega
    rw [cn,Ta] at ak;rcases hP with rfl | rfl
    all_goals
     conv=>whnf
     refine ⟨_,oM,bi,wN ?_⟩;refine ⟨l++(ps.take i).flatten,s,rfl,⟨iM,rfl,rfl⟩,⟨rfl,rfl⟩,by rw [Ta];omega,?_⟩;(conv=>whnf);refine Zi ?_;refine ⟨⟨i+1,_,rfl,(by rw [cn,To];rfl),.inr rfl,fun _=>rfl,oM⟩,?_⟩;exact lzM oM
   have ac:i=ps.length:=lzE du oM ac;subst ac;obtain rfl:=hP0 (List.length_pos_iff.2 ai);rw [Sj];exact mq52
 exact h.elim
def ZdF (bt:Bs):∀(l:List Bs) (x:Bs),Zf bt (l++[x])=if l=[] then x else Zf bt l++(bt++x)
 | [],x=>rfl
 | [y],x=>by simp [Zf]
 | y::z::l,x=>by
  have ih:=ZdF bt (z::l) x;simp only [Sf] at ih |-;rw [Zf,ih] <;> simp [Zf]
def VR {α:Type} (bt:Bs) (f:α->Bs) {xs:List α} {i:Nat} (h:i<xs.length):Zf bt ((xs.take (i+1)).map f)=if i=0 then f xs[i] else Zf bt ((xs.take i).map f)++(bt++f xs[i]):=by
 rw [List.take_succ_eq_append_getElem h,Sc,Tx,TM,ZdF];have e:((xs.take i).map f=[])↔i=0:=by
  rw [<- Sx,Td,List.length_take];omega
 by_cases h0:i=0
 ·rw [Tj (e.2 h0),Tj h0]
 rw [Tf (fun g=>h0 (e.1 g)),Tf h0]
def Zas (bt:Bs):∀(l m:List Bs),(Zf bt l).length<=(Zf bt (l++m)).length
 | [],m=>T7 _
 | [x],[]=>Tr _
 | [x],y::m=>by simp only [Sf,Sn,Zf,Ta];omega
 | x::y::l,m=>by
  have ih:=Zas bt (y::l) m;simp only [Sf,Zf,Ta] at ih |-;omega
def Zat {α:Type} (bt:Bs) (f:α->Bs) (xs:List α) (i:Nat):(Zf bt ((xs.take i).map f)).length<=(Zf bt (xs.map f)).length:=by
 have h:=Zas bt ((xs.take i).map f) ((xs.drop i).map f)
 rwa [<- Sc,List.take_append_drop] at h
def Zw3 {n:Nat}:OKw w0 nG [(143,ZgK),(145,ZgJ (YC (fun _=>Zk)) YL fiT wFi n)] 144 (ZpO 145 (fun _=>Zk) YL fiT wFi n):=by
 refine pwo Tryz.func144 fun args σ K h=>?_
 unfold ZpO at h
 split at h
 ·rename_i r bt g t e rows tp
  obtain ⟨l,pl,xs,rfl,rfl,⟨rfl,rfl,rfl⟩,⟨bv,hz,hn⟩,aa,h⟩:=h;have du:(xs.map ((fun _=>Zk) pl)).length=xs.length:=Td ..;have hsz:=Zn wFi xs;refine pwv [(1,⟨[12],[0,1,2,3,10,11],fun vs σ=>∃i:Nat,vs=[.d (.int .i64 i)]/\σ=⟨[.cells 104 [.ptr 0 0,.sl 0 5 (Zh (l++Zf bt ((xs.take i).map fiT)))],.cells tp [.ptr 0 0]],[0],1⟩/\i<=xs.length,mu1 xs.length⟩)] 2 true ?_;refine ⟨⟨0,rfl,(by simp only [Sk,TM,Zf,T1];rfl),oM⟩,?_⟩;intro vs σ hI
  obtain ⟨i,rfl,rfl,hi⟩:=hI;(conv=>whnf);refine ZEH (fun ac=>wN ?_) (fun ac=>?_)
  ·have ac:i<xs.length:=lzI du ac;have hg:=Zr wFi xs i ac;have ig:YL xs[i]=true:=Tq.1 bv _ (TE ac);have cn:=VR bt fiT ac;have ak:=Zat bt fiT xs (i+1);obtain ⟨eA,hA⟩:∃x,xs[i]=x:=⟨_,rfl⟩
   obtain ⟨a1,a2⟩:=eA;rw [hA] at hg ig cn;have bi:(xs.map ((fun _=>Zk) pl))[((i:Nat):Int).toNat]?=some ((fun _=>Zk) pl ⟨a1,a2⟩):=by simp [ac,hA]
   refine ⟨_,oM,bi,wN ?_⟩;refine ZEH (fun h0=>wN ?_) (fun h0=>?_)
   ·have h0:0<i:=by omega
    rw [Tf oM] at cn;rw [cn] at ak;simp only [Ta] at ak;refine wk _ bt ⟨rfl,rfl⟩ (wN ?_);refine ⟨l++Zf bt ((xs.take i).map fiT)++bt,pl,⟨a1,a2⟩,rfl,rfl,⟨rfl,rfl⟩,⟨ig,oM,oM⟩,by simp only [Ta];omega,wN ?_⟩;exact mq70
   obtain rfl:i=0:=by omega
   rw [Tj rfl] at cn;rw [cn] at ak;(conv=>whnf);refine ⟨l++Zf bt ((xs.take 0).map fiT),pl,⟨a1,a2⟩,rfl,rfl,⟨rfl,rfl⟩,⟨ig,oM,oM⟩,by simp only [Sk,TM,Zf,Ta,Tg];omega,wN ?_⟩;exact mq66
  exact mq174
 exact h.elim
def Zw5 {n:Nat}:OKw w0 nG [(143,ZgK),(80,ZgJ (YC (fun _=>Zt)) Xp caT wCa n)] 79 (ZpO 80 (fun _=>Zt) Xp caT wCa n):=by
 refine pwo Tryz.func79 fun args σ K h=>?_
 unfold ZpO at h
 split at h
 ·rename_i r bt g t e rows tp
  obtain ⟨l,pl,xs,rfl,rfl,⟨rfl,rfl,rfl⟩,⟨bv,hz,hn⟩,aa,h⟩:=h;have du:(xs.map ((fun _=>Zt) pl)).length=xs.length:=Td ..;have hsz:=Zn wCa xs;refine pwv [(1,⟨[12],[0,1,2,3,10,11],fun vs σ=>∃i:Nat,vs=[.d (.int .i64 i)]/\σ=⟨[.cells 104 [.ptr 0 0,.sl 0 5 (Zh (l++Zf bt ((xs.take i).map caT)))],.cells tp [.ptr 0 0]],[0],1⟩/\i<=xs.length,mu1 xs.length⟩)] 2 true ?_;refine ⟨⟨0,rfl,(by simp only [Sk,TM,Zf,T1];rfl),oM⟩,?_⟩;intro vs σ hI
  obtain ⟨i,rfl,rfl,hi⟩:=hI;(conv=>whnf);refine ZEH (fun ac=>wN ?_) (fun ac=>?_)
  ·have ac:i<xs.length:=lzI du ac;have hg:=Zr wCa xs i ac;have ig:Xp xs[i]=true:=Tq.1 bv _ (TE ac);have cn:=VR bt caT ac;have ak:=Zat bt caT xs (i+1);obtain ⟨eA,hA⟩:∃x,xs[i]=x:=⟨_,rfl⟩
   obtain ⟨a1,a2⟩:=eA;rw [hA] at hg ig cn;have bi:(xs.map ((fun _=>Zt) pl))[((i:Nat):Int).toNat]?=some ((fun _=>Zt) pl ⟨a1,a2⟩):=by simp [ac,hA]
   refine ⟨_,oM,bi,wN ?_⟩;refine ZEH (fun h0=>wN ?_) (fun h0=>?_)
   ·have h0:0<i:=by omega
    rw [Tf oM] at cn;rw [cn] at ak;simp only [Ta] at ak;refine wk _ bt ⟨rfl,rfl⟩ (wN ?_);refine ⟨l++Zf bt ((xs.take i).map caT)++bt,pl,⟨a1,a2⟩,rfl,rfl,⟨rfl,rfl⟩,⟨ig,oM,oM⟩,by simp only [Ta];omega,wN ?_⟩;exact mq70
   obtain rfl:i=0:=by omega
   rw [Tj rfl] at cn;rw [cn] at ak;(conv=>whnf);refine ⟨l++Zf bt ((xs.take 0).map caT),pl,⟨a1,a2⟩,rfl,rfl,⟨rfl,rfl⟩,⟨ig,oM,oM⟩,by simp only [Sk,TM,Zf,Ta,Tg];omega,wN ?_⟩;exact mq66
  exact mq174
 exact h.elim
def ZCu:Tab:=(.node (.node (.node (.node .leaf 3 ⟨1,8,.int .i64,[.d (.int .i64 (0))],true⟩ .leaf) 4 ⟨1,1,.bool,[.d (.bool false)],false⟩ .leaf) 5 ⟨1,1,.int .u8,[.d (.int .u8 (0))],true⟩ (.node .leaf 9 ⟨1,16,.string,[.d (.str [])],false⟩ .leaf)) 100 ⟨1,24,.slice 5,[.nils 5],false⟩ (.node (.node .leaf 133 ⟨1,8,.int .u64,[.d (.int .u64 (0))],true⟩ .leaf) 194 ⟨1,8,.int .u64,[.d (.int .u64 (0))],true⟩ (.node .leaf 349 ⟨65,65,.array 65 5,[.d (.int .u8 (0)),.d (.int .u8 (0)),.d (.int .u8 (0)),.d (.int .u8 (0)),.d (.int .u8 (0)),.d (.int .u8 (0)),.d (.int .u8 (0)),.d (.int .u8 (0)),.d (.int .u8 (0)),.d (.int .u8 (0)),.d (.int .u8 (0)),.d (.int .u8 (0)),.d (.int .u8 (0)),.d (.int .u8 (0)),.d (.int .u8 (0)),.d (.int .u8 (0)),.d (.int .u8 (0)),.d (.int .u8 (0)),.d (.int .u8 (0)),.d (.int .u8 (0)),.d (.int .u8 (0)),.d (.int .u8 (0)),.d (.int .u8 (0)),.d (.int .u8 (0)),.d (.int .u8 (0)),.d (.int .u8 (0)),.d (.int .u8 (0)),.d (.int .u8 (0)),.d (.int .u8 (0)),.d (.int .u8 (0)),.d (.int .u8 (0)),.d (.int .u8 (0)),.d (.int .u8 (0)),.d (.int .u8 (0)),.d (.int .u8 (0)),.d (.int .u8 (0)),.d (.int .u8 (0)),.d (.int .u8 (0)),.d (.int .u8 (0)),.d (.int .u8 (0)),.d (.int .u8 (0)),.d (.int .u8 (0)),.d (.int .u8 (0)),.d (.int .u8 (0)),.d (.int .u8 (0)),.d (.int .u8 (0)),.d (.int .u8 (0)),.d (.int .u8 (0)),.d (.int .u8 (0)),.d (.int .u8 (0)),.d (.int .u8 (0)),.d (.int .u8 (0)),.d (.int .u8 (0)),.d (.int .u8 (0)),.d (.int .u8 (0)),.d (.int .u8 (0)),.d (.int .u8 (0)),.d (.int .u8 (0)),.d (.int .u8 (0)),.d (.int .u8 (0)),.d (.int .u8 (0)),.d (.int .u8 (0)),.d (.int .u8 (0)),.d (.int .u8 (0)),.d (.int .u8 (0))],false⟩ .leaf)))
def Zsq:TabOK ZCu Tryz.prog:=by unfold TabOK;kernel_rfl
end Go.PM.Lex
end

section
namespace Go.PM.Lex
open Go.Proofs Go.Shelf Go.RowKit
variable {w0:World} {nG:Nat}
structure NumOK (w0:World) (nG:Nat):Prop where
 big:7<nG
 pow : Lib.TabIs Tryz.prog w0 "internal/strconv.uint64pow10" .u64 Lib.pow10Tab
 bru:w0.cell? ⟨5,15,none⟩=some (.int .u8 4)
def Zz2:IntKind.u64.wrap (bits BinOp.and IntKind.u64 (16:Int) (IntKind.u64.wrap (-(16:Int))) * 285870213051353865) / 288230376151711744=(15:Int):=by decide +kernel
def Zw6 (w:World) (az:w.cell? ⟨5,15,none⟩=some (.int .u8 4)):Calls Tryz.prog 311 #[.int .u64 16] w fun e w'=>e=.returned (.int .i64 4)/\w'=w:=by
 go_enter Tryz.func311,Tryz.ntmps311
 go_wp2_with (simp only [Zz2])
 go_ret
 exact ⟨rfl,rfl⟩
def ZbU:∀(f n:Nat),n<f->Lib.decDigits n=JN 10 f n
 | 0,n,h=>oM
 | f+1,n,h=>by
  rw [Lib.decDigits,JN]
  by_cases c:n<10
  ·rw [dif_pos c,Tj c,ZiX,Tj c]
  rw [dif_neg c,Tf c,ZbU f (n / 10) oM,ZiX,Tj oM]
def ZpR {n:Int} (h:0<=n):Lib.itoa n=Zfo n:=by
 rw [Lib.itoa,Tf oM,Zfo,Tf oM,Vn];exact ZbU _ _ oM
def Zsr {e:Env} {σ:St} {w:World} {name:String} {k:IntKind} {zs:List Int} {g:Nat} (hS:SRel (GG w0 nG) e σ w) (h:Lib.TabIs Tryz.prog w0 name k zs) (hg:Tryz.prog.globalNamed name=some g) (ab:g<nG):Lib.TabIs Tryz.prog w name k zs:=by
 unfold Lib.TabIs World.var? at h |-
 rw [hg] at h |-;simp only [Option.bind_some] at h |-;rw [hS.glob g ab];exact h
def Zw7 {e:Env} {σ:St} {w:World} {k i:Nat} {u:Value} (hS:SRel (GG w0 nG) e σ w) (hk:k<nG) (h:w0.cell? ⟨k,i,none⟩=some u):w.cell? ⟨k,i,none⟩=some u:=by
 have:=hS.glob k hk;simpa [World.cell?,this] using h
def Zim:Zp:=fun args σ K=>match args,σ with
 | [.d (.int .i64 n),.d (.int .i64 b)],⟨[],[],0⟩=>(b=10/\0<=n/\n<9223372036854775808)/\K (.ret (.d (.str (Zfo n)))) ⟨[],[],0⟩
 | _,_=>False
def ZjW:ZG Zim:=fun args σ K K' hK h=>by
 unfold Zim at h |-;split at h <;> first | exact ⟨h.1,hK _ _ h.2⟩ | exact h.elim
def ZpS (hN:NumOK w0 nG):PC w0 nG 239 Zim:=YI (Ze Tryz.func239 kR rfl) fun args σ K h e w vs hS ha=>by
 unfold Zim at h
 split at h
 ·rename_i n b
  obtain ⟨⟨rfl,h0,h1⟩,h⟩:=h;obtain ⟨u,v,rfl,hu,hv⟩:=Zjy ha
  cases hu.dint;cases hv.dint
  have ht:=Zsr hS hN.pow (g:=3) kR (by have:=hN.big;omega);have hc:=Tryz.strconv_FormatInt_10 n oM oM w ht;rw [ZpR h0] at hc;exact ⟨_,h,_,fun _ _=>.mkstr,hc.mono fun en w' ⟨h1,k,os,h2⟩=>⟨h1,ZEN (by rw [h2];exact Lib.below_grow w.heap.size w (Tr _) k os)⟩⟩
 exact h.elim
def ZyB:Zp:=fun args σ K=>match args,σ with
 | [.d (.int .u64 n)],⟨[],[],0⟩=>n=16/\K (.ret (.d (.int .i64 4))) ⟨[],[],0⟩
 | _,_=>False
def Zw8 (hN:NumOK w0 nG):PC w0 nG 311 ZyB:=YI (Ze Tryz.func311 kR rfl) fun args σ K h e w vs hS ha=>by
 unfold ZyB at h
 split at h
 ·rename_i n
  obtain ⟨rfl,h⟩:=h;obtain ⟨u,rfl,hu⟩:=Zgo ha
  cases hu.dint
  exact ⟨_,h,_,fun _ _=>.d _ _ (.int _ _),(Zw6 w (Zw7 hS (k:=5) (by have:=hN.big;omega) hN.bru)).mono fun en w' ⟨h1,h2⟩=>⟨h1,by rw [h2];exact Grows.refl _⟩⟩
 exact h.elim
def ZCv:Tbl:=[(311,ZyB)]
def ZCw (hN:NumOK w0 nG):PC w0 nG 301 ZyB:=by
 refine pwt (tbl:=ZCv) ⟨Zw8 hN,trivial⟩ Tryz.func301 fun args σ K h=>?_
 unfold ZyB at h
 split at h
 ·obtain ⟨rfl,h⟩:=h;refine pwv [] 0 false ?_;refine ⟨rfl,wN ?_⟩;exact h
 exact h.elim
def Zw9:Zp:=fun args σ K=>match args,σ with
 | [.d (.int .i64 n)],⟨[],[],0⟩=>n=16/\K (.ret (.d (.bool true))) ⟨[],[],0⟩
 | _,_=>False
def Zxa:Zg .and .i64 16 15=0:=by rw [Yi];decide +kernel
def Zz3:PC w0 nG 300 Zw9:=by
 refine pwe Tryz.func300 fun args σ K h=>?_
 unfold Zw9 at h
 split at h
 ·obtain ⟨rfl,h⟩:=h;refine pwv [] 0 false ?_;refine Zi ?_;have e:(Zg .and .i64 16 (16 - 1))=0:=Zxa;rw [e];exact h
 exact h.elim
def Zss {n:Nat} (h:16<=n):Vn 16 n=Vn 16 (n / 16)++[ZiX (n % 16)]:=by
 have key:∀(f g m:Nat),m<f->m<g->JN 16 f m=JN 16 g m:=by
  intro f
  induction f with
  | zero=>intro g m h;omega
  | succ f ih =>
  intro g m h1 h2
  obtain ⟨g,rfl⟩:∃k,g=k+1:=⟨g - 1,oM⟩
  rw [JN,JN];split
  ·rfl
  rw [ih g (m / 16) oM oM]
 rw [Vn,JN,Tf oM,Vn,key n (n / 16+1) (n / 16) oM oM]
def Zst {n:Nat} (h:n<16):Vn 16 n=[ZiX n]:=by rw [Vn,JN,Tj h]
def digs36:Bs:=[48,49,50,51,52,53,54,55,56,57,97,98,99,100,101,102,103,104,105,106,107,108,109,110,111,112,113,114,115,116,117,118,119,120,121,122]
def ZpT:∀d:Fin 16,digs36.getD d.val 0=ZiX d.val:=by decide +kernel
def Zxb {u:Nat} (h:u<18446744073709551616):Zg .and .u64 (u:Int) 15=((u % 16:Nat):Int):=by
 have e:Zg .and .u64 (u:Int) 15=bits .and .u64 (u:Int) ((15:Nat):Int):=by rw [Yi];rfl
 rw [e,bits_and_u64_nat u 15 h dM];have:u &&& 15=u % 16:=Nat.and_two_pow_sub_one_eq_mod u 4;rw [this]
def sh4 (n:Int):Int:=n.fdiv (2 ^ (min (Int.toNat 4) (IntKind.bits .u64)))
def Zxc (u:Nat):sh4 (u:Int)=((u / 16:Nat):Int):=by
 show (u:Int).fdiv ((2:Int) ^ 4)=_;rw [show ((2:Int) ^ 4)=((16:Nat):Int) by decide,Int.fdiv_eq_ediv_of_nonneg _ dM];omega
def Zsu {u:Nat} (h:u<18446744073709551616):digs36.getD (Zg .and .u64 (u:Int) 15).toNat 0=ZiX (u % 16):=by
 rw [Zxb h,Tl];exact ZpT ⟨u % 16,Nat.mod_lt _ dM⟩
def Zsv {u:Nat} (h:u<16):digs36.getD (u:Int).toNat 0=ZiX u:=by
 rw [Tl];exact ZpT ⟨u,h⟩
def Zsw {u:Nat} (h:u<18446744073709551616):0<=Zg .and .u64 (u:Int) 15:=by rw [Zxb h];omega
def Zsx {u:Nat} (h:u<18446744073709551616):Zg .and .u64 (u:Int) 15<36:=by rw [Zxb h];omega
def shN:Nat->Int->Int
 | 0,n=>n
 | j+1,n=>sh4 (shN j n)
def Zz4:Nat->Int->Bs
 | 0,_=>[]
 | j+1,n=>digs36.getD (Zg .and .u64 (shN j n) 15).toNat 0::Zz4 j n
def Zbh (u:Nat):∀j,shN j (u:Int)=((u / 16 ^ j:Nat):Int)
 | 0=>by rw [shN,Nat.pow_zero,Nat.div_one]
 | j+1=>by rw [shN,Zbh u j,Zxc,Nat.div_div_eq_div_mul,Nat.pow_succ]
def ZpU {u:Nat} (hu:u<18446744073709551616) (j:Nat):u / 16 ^ j<18446744073709551616:=Nat.lt_of_le_of_lt (Nat.div_le_self _ _) hu
def ZDD {u:Nat} (hu:u<18446744073709551616):∀j,(∀k,k<j->16<=u / 16 ^ k)->Vn 16 u=Vn 16 (u / 16 ^ j)++Zz4 j (u:Int)
 | 0,_=>by rw [Zz4,Nat.pow_zero,Nat.div_one,T1]
 | j+1,h=>by
  rw [ZDD hu j fun k hk=>h k oM,Zss (h j oM),Zz4,Zbh,Zsu (ZpU hu j),To,Nat.div_div_eq_div_mul,Nat.pow_succ];rfl
def ZDE {u j:Nat} (G:∀k,k<j->16<=u / 16 ^ k) (g:(16:Int)<=shN j (u:Int)):∀k,k<j+1->16<=u / 16 ^ k:=fun k hk=>by
 rw [Zbh] at g
 by_cases c:k=j
 ·subst c;omega
 exact G k oM
def ZDF {u j:Nat} (hu:u<18446744073709551616) (G:∀k,k<j->16<=u / 16 ^ k) (g:¬(16:Int)<=shN j (u:Int)):Vn 16 u=digs36.getD (shN j (u:Int)).toNat 0::Zz4 j (u:Int):=by
 rw [Zbh] at g |-;rw [ZDD hu j G,Zst oM,Zsv oM];rfl
def ZEf {u j:Nat} (hu:u<18446744073709551616) (G:∀k,k<j->16<=u / 16 ^ k):0<=Zg .and .u64 (shN j (u:Int)) 15/\Zg .and .u64 (shN j (u:Int)) 15<36:=by
 rw [Zbh];exact ⟨Zsw (ZpU hu j),Zsx (ZpU hu j)⟩
def ZDG {u j:Nat} (G:∀k,k<j->16<=u / 16 ^ k) (g:¬(16:Int)<=shN j (u:Int)):0<=shN j (u:Int)/\shN j (u:Int)<36:=by
 rw [Zbh] at g |-;generalize u / 16 ^ j=v at g |-;omega
def ZCx:Zp:=fun args σ K=>match args,σ with
 | [.sl 0 e [],.d (.int .u64 n),.d (.int .i64 b),.d (.bool ng),.d (.bool ap)],⟨[],[0],1⟩=>(b=16/\ng=false/\ap=false/\0<=n/\n<18446744073709551616)/\K (.ret (.tuple [.d (.sl []),.d (.str (Vn 16 n.toNat))])) ⟨[],[],0⟩
 | _,_=>False
def ZCy:Tbl:=[(300,Zw9),(301,ZyB)]
def ZCz (hN:NumOK w0 nG):PC w0 nG 287 ZCx:=by
 refine Zjw Zsq mixed (tbl:=ZCy) ⟨Zz3,ZCw hN,trivial⟩ Tryz.func287 rfl kR kR ?_;intro args σ K h
 unfold ZCx at h
 split at h
 all_goals first | exact h.elim | skip
 all_goals
  obtain ⟨⟨rfl,rfl,rfl,h0,h1⟩,h⟩:=h
  rename_i e n
  obtain ⟨u0,rfl⟩:∃u:Nat,n=u:=⟨n.toNat,oM⟩
  rw [Tl] at h;have wp:u0<18446744073709551616:=oM;refine ⟨Zo [],Xn [(11,17)],Yd [],Yd [101],Yd [],0,false,sM,Tc rfl,wN ?_⟩;refine ⟨rfl,wN ?_⟩;refine Zda ?_;refine ⟨rfl,wN ?_⟩;refine Zda ?_;refine Zda ?_;refine Zda ?_;refine Zda ?_;have G:∀k,k<0->16<=u0 / 16 ^ k:=fun k hk=>oM
  iterate 15
   refine ZEH (fun g=>?_) (fun g=>?_);rotate_left
   ·have hb:=ZDF wp G g;have B:=ZDG G g;rw [hb] at h;(conv=>whnf);exact mq177
   have B:=ZEf wp G;have G:=ZDE G g;(conv=>whnf);refine Vh ?_;refine ⟨B.1,B.2,wN ?_⟩;refine ⟨dM,dM,wN ?_⟩;refine ⟨dM,wN ?_⟩
  refine ZEH (fun g=>?_) (fun g=>wN ?_)
  ·exact absurd (ZDE G g 15 dM) oM
  have hb:=ZDF wp G g;have B:=ZDG G g;rw [hb] at h;exact mq177
def ZbV:Zp:=fun args σ K=>match args,σ with
 | [.d (.int .u64 n),.d (.int .i64 b)],⟨[],[],0⟩=>(b=16/\0<=n/\n<18446744073709551616)/\K (.ret (.d (.str (Vn 16 n.toNat)))) ⟨[],[],0⟩
 | _,_=>False
def ZjX:ZG ZbV:=fun args σ K K' hK h=>by
 unfold ZbV at h |-;split at h <;> first | exact ⟨h.1,hK _ _ h.2⟩ | exact h.elim
def ZCA:Tbl:=[(287,ZCx)]
def ZCB (hN:NumOK w0 nG):PC w0 nG 269 ZbV:=by
 refine pwt (tbl:=ZCA) ⟨ZCz hN,trivial⟩ Tryz.func269 fun args σ K h=>?_
 unfold ZbV at h
 split at h
 ·obtain ⟨⟨rfl,h0,h1⟩,h⟩:=h;refine pwv [] 0 false ?_;refine ⟨⟨rfl,rfl,rfl,h0,h1⟩,wN ?_⟩;exact h
 exact h.elim
def Zxd:Tbl:=[(269,ZbV)]
def ZpV (hN:NumOK w0 nG):PC w0 nG 238 ZbV:=by
 refine pwt (tbl:=Zxd) ⟨ZCB hN,trivial⟩ Tryz.func238 fun args σ K h=>?_
 unfold ZbV at h
 split at h
 ·rename_i n b
  obtain ⟨⟨rfl,h0,h1⟩,h⟩:=h;refine pwv [] 0 false ?_;refine ⟨⟨rfl,h0,h1⟩,?_⟩;generalize Vn 16 n.toNat=T at h |-;exact mq52
 exact h.elim
def Zlu {n:Int} (h:n<0) (h0:-9223372036854775808<=n):0<=IntKind.u64.wrap n/\IntKind.u64.wrap n<18446744073709551616/\Zfo n=[48,120]++Vn 16 (IntKind.u64.wrap n).toNat:=by
 have e:IntKind.u64.wrap n=n+18446744073709551616:=by
  unfold IntKind.wrap
  simp [IntKind.signed,IntKind.bits];omega
 refine ⟨oM,oM,?_⟩;rw [Zfo,Tj h,e]
end Go.PM.Lex
end

section
namespace Go.PM.Lex
def ZBA (n:Int):Bool:=decide (-9223372036854775808<=n) && decide (n<9223372036854775808)
mutual
def Zfp:Ex->Bool
 | .mk _ _ n l _=>ZBA n && Zew l
def Zew:List Ex->Bool
 | []=>true
 | x::l=>Zfp x && Zew l
end
def We (l:List Ex):Zew l=l.all Zfp:=by induction l with | nil=>rfl | cons x l ih=>simp [Zew,ih]
def ZdG {op:Nat} {t:Bs} {n:Int} {l:List Ex} {a:Nat} (h:Zfp (.mk op t n l a)=true):(-9223372036854775808<=n/\n<9223372036854775808)/\∀x∈l,Zfp x=true:=by
 simp only [Zfp,We,ZBA,Tm,TQ] at h;exact ⟨h.1,Tq.1 h.2⟩
mutual
def Zi0:Li->Bool
 | .mk _ _ args body _=>Zew args && ZgL body
def ZgL:List Li->Bool
 | []=>true
 | x::l=>Zi0 x && ZgL l
end
def WV (l:List Li):ZgL l=l.all Zi0:=by induction l with | nil=>rfl | cons x l ih=>simp [ZgL,ih]
def ZpW {op:Nat} {rel:Bs} {args:List Ex} {body:List Li} {a:Nat} (h:Zi0 (.mk op rel args body a)=true):(∀x∈args,Zfp x=true)/\∀x∈body,Zi0 x=true:=by
 simp only [Zi0,We,WV,Tm] at h;exact ⟨Tq.1 h.1,Tq.1 h.2⟩
def ZdH (r:Ru):Bool:=r.args.all Zfp && r.body.all Zi0
mutual
def Zlv:Un->Bool
 | .mk _ _ rules comps _ _=>rules.all ZdH && ZdI comps
def ZpX:Co->Bool
 | .mk _ _ _ _ u _=>Zlv u
def ZdI:List Co->Bool
 | []=>true
 | c::l=>ZpX c && ZdI l
end
def Zau (l:List Co):ZdI l=l.all ZpX:=by induction l with | nil=>rfl | cons x l ih=>simp [ZdI,ih]
open Go.Proofs
variable {w0:World} {nG:Nat}
def ZjY (e:Ex):Bool:=Ye e && Zfp e
def Zxe {op:Nat} {t:Bs} {n:Int} {l:List Ex} {a:Nat} (h:ZjY (.mk op t n l a)=true):-2<V7 op/\(V7 op<0\/(l.length:Int)=V7 op)/\V8 op t=true/\(-9223372036854775808<=n/\n<9223372036854775808)/\l.all ZjY=true:=by
 simp only [ZjY,Tm] at h;obtain ⟨h1,h2⟩:=h;obtain ⟨r1,r2⟩:=ZdG h2;simp only [Ye,Zw,Tm,Sw,TQ] at h1;obtain ⟨h1,h3,h4,h5,h6⟩:=h1;refine ⟨h1,h3,h5,r1,?_⟩;rw [Tq] at h6 |-;exact fun x hx=>by rw [ZjY,h6 x hx,r2 x hx];rfl
def Zsy {op:Nat} (h:-2<V7 op):op<26:=by
 by_cases hc:op<26
 ·exact hc
 unfold V7 at h
 (repeat rw [Tf oM] at h)
 omega
def Zxf {op:Nat} (h:-2<V7 op):(ZS op<5->V7 op=2)/\(ZS op=5->V7 op=1)/\ZS op<=6/\(op=5->V7 op=0):=by
 have hk:∀o:Fin 26,-2<V7 o.val->(ZS o.val<5->V7 o.val=2)/\(ZS o.val=5->V7 o.val=1)/\ZS o.val<=6/\(o.val=5->V7 o.val=0):=dM;exact hk ⟨op,Zsy h⟩ h
def Zsz (n:Nat):Zp:=ZiZ (.tuple []) fun rest txt=>∃pl e want,rest=[YC ZQ pl e,.d (.int .i64 want)]/\(ZjY e=true/\wE e<=n/\n<=1073741824/\0<=want/\want<=6)/\txt=exW want.toNat e
def ZpY (n:Nat):ZG (Zsz n):=Zaq _ _
def ZsA (n:Nat):Zp:=ZiZ (.tuple []) fun rest txt=>∃fr fin pl xs,rest=[.d (.str fr),.d (.sl (Zm pl xs)),.d (.str fin)]/\(xs.all ZjY=true/\szS wE xs<=n/\n<=1073741824)/\txt=argT fr fin xs
def ZpZ (n:Nat):ZG (ZsA n):=Zaq _ _
def Vp (e:Ex):exW 0 e=exT e:=by rw [exW,Zsm,Tf sM]
def Zz6 {n:Nat}:OKw w0 nG [(204,Zsz n)] 203 (ZgJ (YC ZQ) ZjY exT wE n):=by
 refine pwo Tryz.func203 fun args σ K h=>?_
 unfold ZgJ at h
 split at h
 ·obtain ⟨l,pl,⟨op,tx,nn,xs,at'⟩,rfl,rfl,⟨rfl,rfl⟩,⟨bv,hz,hn⟩,aa,h⟩:=h;refine pwv [] 2 true ?_;refine ⟨l,exT (.mk op tx nn xs at'),rfl,⟨.inr rfl,rfl,rfl⟩,⟨pl,.mk op tx nn xs at',0,rfl,⟨bv,hz,hn,oM,oM⟩,(Vp _).symm⟩,aa,wN ?_⟩;exact h
 exact h.elim
def ZCD {n:Nat}:OKw w0 nG [(77,Zev),(202,ZpO 203 ZQ ZjY exT wE n)] 147 (ZsA n):=by
 refine pwo Tryz.func147 fun args σ K h=>?_
 unfold ZsA ZiZ at h
 split at h
 ·rename_i rest t p e rows
  obtain ⟨l,txt,rfl,⟨hp,rfl,rfl⟩,⟨fr,fin,pl,xs,rfl,⟨bv,hz,hn⟩,rfl⟩,aa,h⟩:=h;have key:l++argT fr fin xs=l++fr++Zf cmm (xs.map exT)++fin:=by simp only [argT,Zzj,To]
  rw [key] at h;have aa:l.length+(fr.length+((Zf cmm (xs.map exT)).length+fin.length))<70368744177664:=by have:=aa;simp only [argT,Zzj,Ta] at this;exact this
  refine pwu [] 1 true ?_;rcases hp with rfl | rfl
  all_goals
   conv=>whnf
   refine wk _ fr ⟨[fr],rfl,sM,sM,sM⟩ ?_;(conv=>whnf);refine ⟨l++fr,pl,xs,rfl,Zb pl xs,⟨rfl,rfl,rfl⟩,⟨bv,hz,hn⟩,by rw [Ta];show _+(Zf cmm (xs.map exT)).length<_;omega,wN ?_⟩;refine wk (l++fr++Zf cmm (xs.map exT)) fin ⟨[fin],rfl,sM,sM,sM⟩ (wN ?_);exact h
 exact h.elim
def Zz7:List PV->St->(St->Prop)->Prop:=fun args σ K=>args.length<=Tryz.f77.ntmps/\W (ZrL Jy ZpQ (Zo []) (Xn [(1,3)]) (fun _=>false)) (YW Tryz.f77) (Zy4 Jy Tryz.f77 σ.bx.length K) (ZcH 0 args) σ
def ZEg:PDef (GG w0 nG) 77 Zz7 (fun _ _ _ _=>False) :=
 ZmQ ZI mixed Tryz.func77 rfl kR kR fun args σ K h=>⟨_,σ.bx.length,CxG.of ZI Zil ⟨Znd,trivial⟩ _ _ _,Tr _,h.1,h.2⟩
def Zz8 (n:Nat):Tbl:=[(193,ZyA),(77,Zev),(204,spB Zsz n),(147,spB ZsA n),(239,Zim),(238,ZbV),(194,JM)]
def Zz9 {n:Nat} (ht:TO w0 nG (Zz8 n)):PC w0 nG 204 (Zsz n):=by
 refine Zgy ZI mixed Tryz.func204 rfl kR kR ZEg ?_;intro args σ K h
 unfold Zsz ZiZ at h
 split at h
 ·rename_i rest t p e rows
  obtain ⟨l,txt,rfl,⟨hp,rfl,rfl⟩,⟨pl,⟨op,tx,nn,xs,at'⟩,want,rfl,⟨bv,hz,hn,zz,hw6⟩,rfl⟩,aa,h⟩:=h;obtain ⟨m1,m2,m3,m4,m5⟩:=Zxe bv;obtain ⟨k1,k2,k3,k5⟩:=Zxf m1;have dx:szS wE xs+tx.length+1<=n:=by rw [wE,Xs] at hz;omega
  rw [Tq] at m5;refine ⟨ZrL Jy (Zz8 n) (Zo []) (Xn []) (Yd []),1,true,CxG.of ZI ht ⟨ZpM,Zne,Zlr ZpY _,Zlr ZpZ _,ZjW,ZjX,Zik,trivial⟩ _ _ _,sM,Tc rfl,?_⟩;rcases hp with rfl | rfl
  all_goals
   conv=>whnf
   refine ⟨op,rfl,fun l1 w1 a1 e1 e2 e3=>?_⟩;subst e1;(conv=>whnf);refine ZEH (fun ab=>wN ?_) (fun ab=>wN ?_)
   ·have hW:exW want.toNat (.mk op tx nn xs at')=[40]++(exT (.mk op tx nn xs at')++[41]):=by rw [exW,Zsm,Tj (by show ZS op<_;omega)]
    rw [hW] at h aa;have adz:l.length+1<70368744177664:=by simp only [Ta,Te,Tg] at aa;omega
    refine wk _ [40] ⟨[[40]],rfl,sM,sM,sM⟩ ?_;(conv=>whnf);refine ZEH (fun c1=>?_) (fun c1=>wN ?_)
    ·have c1:ZS op<5:=by omega
     have gl:xs.length=2:=by have:=k1 c1;omega
     obtain ⟨x0,x1,rfl⟩:∃x0 x1,xs=[x0,x1]:=by match xs,gl with | [a,b],_=>exact ⟨a,b,rfl⟩
     simp only [szS] at dx;have g0:=m5 x0 sM;have g1:=m5 x1 sM;have z0:wE x0<=n - 1:=oM;have z1:wE x1<=n - 1:=oM;obtain ⟨o0,t0,n0,y0,q0⟩:=x0;obtain ⟨o1,t1,n1,y1,q1⟩:=x1;have hx:exT (.mk op tx nn [(.mk o0 t0 n0 y0 q0),(.mk o1 t1 n1 y1 q1)] at')=exW (ZS op) (.mk o0 t0 n0 y0 q0)++(([32]++(w1++[32]))++exW (ZS op+1) (.mk o1 t1 n1 y1 q1)):=by rw [exT,exN,Tj c1,e2];rfl
     rw [hx] at h aa
     (try simp only [Ta,Te,Tg] at aa)
     conv=>whnf
     refine ⟨_,dM,rfl,wN ?_⟩;refine ⟨oM,wk _ (exW (ZS op) (.mk o0 t0 n0 y0 q0)) ⟨pl,(.mk o0 t0 n0 y0 q0),(ZS op:Int),rfl,⟨g0,oM,oM,oM,oM⟩,rfl⟩ ?_⟩;(conv=>whnf);refine wk _ ([32]++(w1++[32])) ⟨[[32],w1,[32]],rfl,sM,sM,sM⟩ ?_;(conv=>whnf);refine ⟨_,dM,rfl,wN ?_⟩;refine Zi ?_;refine ⟨oM,wk _ (exW (ZS op+1) (.mk o1 t1 n1 y1 q1)) ⟨pl,(.mk o1 t1 n1 y1 q1),((ZS op:Int)+1),rfl,⟨g1,oM,oM,oM,oM⟩,rfl⟩ ?_⟩;(conv=>whnf);refine ⟨Tc rfl,wN ?_⟩;refine ⟨_,dM,rfl,wN ?_⟩;refine wk _ [41] ⟨rfl,rfl⟩ ?_;(conv=>whnf);refine Zi ?_;rw [show l++([40]++(exW (ZS op) (.mk o0 t0 n0 y0 q0)++(([32]++(w1++[32]))++exW (ZS op+1) (.mk o1 t1 n1 y1 q1))++[41]))=(l++[40])++exW (ZS op) (.mk o0 t0 n0 y0 q0)++([32]++(w1++[32]))++exW (ZS op+1) (.mk o1 t1 n1 y1 q1)++[41] by first | rfl | simp only [To]] at h;exact h
    have c1:¬ZS op<5:=oM;refine ZEH (fun c2=>?_) (fun c2=>wN ?_)
    ·have c2:ZS op=5:=by omega
     have gl:xs.length=1:=by have:=k2 c2;omega
     obtain ⟨x0,rfl⟩:∃x0,xs=[x0]:=by match xs,gl with | [a],_=>exact ⟨a,rfl⟩
     simp only [szS] at dx;have g0:=m5 x0 sM;have z0:wE x0<=n - 1:=oM;obtain ⟨o0,t0,n0,y0,q0⟩:=x0;have hx:exT (.mk op tx nn [(.mk o0 t0 n0 y0 q0)] at')=w1++exW 5 (.mk o0 t0 n0 y0 q0):=by rw [exT,exN,Tf c1,Tj c2,e2];rfl
     rw [hx] at h aa
     (try simp only [Ta,Te,Tg] at aa)
     conv=>whnf
     refine wk _ w1 ⟨[w1],rfl,sM,sM,sM⟩ ?_;(conv=>whnf);refine ⟨_,dM,rfl,wN ?_⟩;refine ⟨oM,wk _ (exW 5 (.mk o0 t0 n0 y0 q0)) ⟨pl,(.mk o0 t0 n0 y0 q0),5,rfl,⟨g0,oM,oM,oM,oM⟩,rfl⟩ ?_⟩;(conv=>whnf);refine ⟨Tc rfl,wN ?_⟩;refine ⟨_,dM,rfl,wN ?_⟩;refine wk _ [41] ⟨rfl,rfl⟩ ?_;(conv=>whnf);refine Zi ?_;rw [show l++([40]++(w1++exW 5 (.mk o0 t0 n0 y0 q0)++[41]))=(l++[40])++w1++exW 5 (.mk o0 t0 n0 y0 q0)++[41] by first | rfl | simp only [To]] at h;exact h
    have c2:¬ZS op=5:=oM;refine ZEJ (fun c3=>?_) (fun c3=>wN ?_)
    ·have c3:VP op≠[]:=by rw [e2];exact c3
     have hx:exT (.mk op tx nn xs at')=w1++argT [40] [41] xs:=by rw [exT,exN,Tf c1,Tf c2,Tj c3,e2,UW];rfl
     rw [hx] at h aa
     (try simp only [Ta,Te,Tg] at aa)
     conv=>whnf
     refine wk _ w1 ⟨[w1],rfl,sM,sM,sM⟩ ?_;(conv=>whnf);refine ⟨oM,wk _ (argT [40] [41] xs) ⟨[40],[41],pl,xs,rfl,⟨Tq.2 m5,oM,oM⟩,rfl⟩ ?_⟩;(conv=>whnf);refine ⟨Tc rfl,wN ?_⟩;refine ⟨_,dM,rfl,wN ?_⟩;refine wk _ [41] ⟨rfl,rfl⟩ ?_;(conv=>whnf);refine Zi ?_;rw [show l++([40]++(w1++argT [40] [41] xs++[41]))=(l++[40])++w1++argT [40] [41] xs++[41] by first | rfl | simp only [To]] at h;exact h
    have c3:¬VP op≠[]:=by rw [e2];exact fun g=>g c3
    refine ZEH (fun c4=>?_) (fun c4=>wN ?_)
    ·have c4:op=6:=by omega
     have hx:exT (.mk op tx nn xs at')=argT [91] [93] xs:=by rw [exT,exN,Tf c1,Tf c2,Tf c3,Tj c4,UW];rfl
     rw [hx] at h aa
     (try simp only [Ta,Te,Tg] at aa)
     conv=>whnf
     refine ⟨oM,wk _ (argT [91] [93] xs) ⟨[91],[93],pl,xs,rfl,⟨Tq.2 m5,oM,oM⟩,rfl⟩ ?_⟩;(conv=>whnf);refine ⟨Tc rfl,wN ?_⟩;refine ⟨_,dM,rfl,wN ?_⟩;refine wk _ [41] ⟨rfl,rfl⟩ ?_;(conv=>whnf);refine Zi ?_;rw [show l++([40]++(argT [91] [93] xs++[41]))=(l++[40])++argT [91] [93] xs++[41] by first | rfl | simp only [To]] at h;exact h
    have c4:¬op=6:=oM;refine ZEH (fun c5=>?_) (fun c5=>wN ?_)
    ·have c5:op=7:=by omega
     have hxl:(Zm pl xs).length=xs.length:=by rw [Zb,Td]
     by_cases iz:xs.length=0
     ·have hx:exT (.mk op tx nn xs at')=[36]++tx:=by rw [exT,exN,Tf c1,Tf c2,Tf c3,Tf c4,Tj c5,Zcr,Tj iz,T1]
      rw [hx] at h aa
      (try simp only [Ta,Te,Tg] at aa)
      conv=>whnf
      refine wk _ ([36]++tx) ⟨[[36],tx],rfl,sM,sM,sM⟩ ?_;(conv=>whnf);refine ZEH (fun g=>?_) (fun g=>?_)
      case refine_1=>exact absurd (show ((Zm pl xs).length:Int)>0 from g) oM
      conv=>whnf
      refine ⟨Tc rfl,wN ?_⟩;refine ⟨_,dM,rfl,wN ?_⟩;refine wk _ [41] ⟨rfl,rfl⟩ ?_;(conv=>whnf);refine Zi ?_;rw [show l++([40]++([36]++tx++[41]))=(l++[40])++([36]++tx)++[41] by first | rfl | simp only [To]] at h;exact h
     have hx:exT (.mk op tx nn xs at')=([36]++tx)++argT [40] [41] xs:=by rw [exT,exN,Tf c1,Tf c2,Tf c3,Tf c4,Tj c5,Zcr,Tf iz,UW,To];rfl
     rw [hx] at h aa
     (try simp only [Ta,Te,Tg] at aa)
     conv=>whnf
     refine wk _ ([36]++tx) ⟨[[36],tx],rfl,sM,sM,sM⟩ ?_;(conv=>whnf);refine ZEH (fun g=>?_) (fun g=>?_)
     case refine_2=>exact absurd (show ((Zm pl xs).length:Int)>0 by omega) g
     conv=>whnf
     refine ⟨oM,wk _ (argT [40] [41] xs) ⟨[40],[41],pl,xs,rfl,⟨Tq.2 m5,oM,oM⟩,rfl⟩ ?_⟩;(conv=>whnf);refine ⟨Tc rfl,wN ?_⟩;refine ⟨_,dM,rfl,wN ?_⟩;refine wk _ [41] ⟨rfl,rfl⟩ ?_;(conv=>whnf);refine Zi ?_;rw [show l++([40]++(([36]++tx)++argT [40] [41] xs++[41]))=(l++[40])++([36]++tx)++argT [40] [41] xs++[41] by first | rfl | simp only [To]] at h;exact h
    have c5:¬op=7:=oM;refine ZEH (fun c6=>wN ?_) (fun c6=>wN ?_)
    ·have c6':op=3:=by omega
     obtain ⟨i0,i1⟩:=m4;refine ZEH (fun gn=>wN ?_) (fun gn=>wN ?_)
     ·obtain ⟨j0,j1,j2⟩:=Zlu gn i0;obtain ⟨wn,x7⟩:∃wn,IntKind.u64.wrap nn=wn:=⟨_,rfl⟩
      rw [x7] at j0 j1 j2;refine Or.inr ?_;rw [x7];have hx:exT (.mk op tx nn xs at')=Zfo nn:=by rw [exT,exN,Tf c1,Tf c2,Tf c3,Tf c4,Tf c5,Tj c6']
      rw [hx] at h aa
      (try simp only [Ta,Te,Tg] at aa)
      conv=>whnf
      refine ⟨⟨rfl,j0,j1⟩,?_⟩;obtain ⟨T,hT⟩:∃T,Vn 16 wn.toNat=T:=⟨_,rfl⟩
      rw [hT] at j2 |-;rw [j2] at h aa
      (try simp only [Ta,Te,Tg] at aa)
      conv=>whnf
      refine wk _ ([48,120]++T) ⟨[[48,120],T],rfl,sM,sM,sM⟩ ?_;(conv=>whnf);refine ⟨Tc rfl,wN ?_⟩;refine ⟨_,dM,rfl,wN ?_⟩;refine wk _ [41] ⟨rfl,rfl⟩ ?_;(conv=>whnf);refine Zi ?_;rw [show l++([40]++(([48,120]++T)++[41]))=(l++[40])++([48,120]++T)++[41] by first | rfl | simp only [To]] at h;exact h
     refine ZEH (fun _=>?_) (fun g=>absurd c6 g);have hx:exT (.mk op tx nn xs at')=Zfo nn:=by rw [exT,exN,Tf c1,Tf c2,Tf c3,Tf c4,Tf c5,Tj c6']
     rw [hx] at h aa
     (try simp only [Ta,Te,Tg] at aa)
     conv=>whnf
     refine ⟨⟨rfl,oM,i1⟩,wN ?_⟩;refine wk _ (Zfo nn) ⟨[Zfo nn],rfl,sM,sM,sM⟩ ?_;(conv=>whnf);refine ⟨Tc rfl,wN ?_⟩;refine ⟨_,dM,rfl,wN ?_⟩;refine wk _ [41] ⟨rfl,rfl⟩ ?_;(conv=>whnf);refine Zi ?_;rw [show l++([40]++(Zfo nn++[41]))=(l++[40])++Zfo nn++[41] by first | rfl | simp only [To]] at h;exact h
    have c6':¬op=3:=oM;refine ZEH (fun g=>absurd g c6) (fun _=>wN ?_);refine ZEH (fun c7=>?_) (fun c7=>wN ?_)
    ·have c7':op=4:=by omega
     have hq:(Jj tx).isSome=true:=by unfold V8 at m3;rw [Tf oM,Tj c7'] at m3;exact m3
     obtain ⟨q,hq⟩:=Sv.1 hq;have hqT:ZvQ tx=q:=by rw [ZvQ,hq];rfl
     have hx:exT (.mk op tx nn xs at')=q:=by rw [exT,exN,Tf c1,Tf c2,Tf c3,Tf c4,Tf c5,Tf c6',Tj c7',hqT]
     rw [hx] at h aa
     (try simp only [Ta,Te,Tg] at aa)
     conv=>whnf
     refine ⟨oM,wN ?_⟩;refine ⟨fun g=>?_,fun q' ib=>?_⟩
     case refine_1=>exact absurd (hq.symm.trans g) sM
     obtain rfl:q=q':=by rw [hq] at ib;exact Option.some.inj ib
     conv=>whnf
     refine wk _ q ⟨[q],rfl,sM,sM,sM⟩ ?_;(conv=>whnf);refine ⟨Tc rfl,wN ?_⟩;refine ⟨_,dM,rfl,wN ?_⟩;refine wk _ [41] ⟨rfl,rfl⟩ ?_;(conv=>whnf);refine Zi ?_;rw [show l++([40]++(q++[41]))=(l++[40])++q++[41] by first | rfl | simp only [To]] at h;exact h
    have c7':¬op=4:=oM;refine ZEH (fun c8=>?_) (fun c8=>wN ?_)
    ·have c8':op=5:=by omega
     have hx:exT (.mk op tx nn xs at')=[110,105,108]:=by rw [exT,exN,Tf c1,Tf c2,Tf c3,Tf c4,Tf c5,Tf c6',Tf c7',Tj c8']
     rw [hx] at h aa
     (try simp only [Ta,Te,Tg] at aa)
     conv=>whnf
     refine wk _ [110,105,108] ⟨[[110,105,108]],rfl,sM,sM,sM⟩ ?_;(conv=>whnf);refine ⟨Tc rfl,wN ?_⟩;refine ⟨_,dM,rfl,wN ?_⟩;refine wk _ [41] ⟨rfl,rfl⟩ ?_;(conv=>whnf);refine Zi ?_;rw [show l++([40]++([110,105,108]++[41]))=(l++[40])++[110,105,108]++[41] by first | rfl | simp only [To]] at h;exact h
    have c8':¬op=5:=oM;refine ZEH (fun c9=>?_) (fun c9=>?_)
    ·have c9':op=2:=by omega
     have hx:exT (.mk op tx nn xs at')=[95]:=by rw [exT,exN,Tf c1,Tf c2,Tf c3,Tf c4,Tf c5,Tf c6',Tf c7',Tf c8',Tj c9']
     rw [hx] at h aa
     (try simp only [Ta,Te,Tg] at aa)
     conv=>whnf
     refine wk _ [95] ⟨[[95]],rfl,sM,sM,sM⟩ ?_;(conv=>whnf);refine ⟨Tc rfl,wN ?_⟩;refine ⟨_,dM,rfl,wN ?_⟩;refine wk _ [41] ⟨rfl,rfl⟩ ?_;(conv=>whnf);refine Zi ?_;rw [show l++([40]++([95]++[41]))=(l++[40])++[95]++[41] by first | rfl | simp only [To]] at h;exact h
    have c9':¬op=2:=oM;have hx:exT (.mk op tx nn xs at')=tx:=by rw [exT,exN,Tf c1,Tf c2,Tf c3,Tf c4,Tf c5,Tf c6',Tf c7',Tf c8',Tf c9']
    rw [hx] at h aa
    (try simp only [Ta,Te,Tg] at aa)
    conv=>whnf
    refine wk _ tx ⟨[tx],rfl,sM,sM,sM⟩ ?_;(conv=>whnf);refine ⟨Tc rfl,wN ?_⟩;refine ⟨_,dM,rfl,wN ?_⟩;refine wk _ [41] ⟨rfl,rfl⟩ ?_;(conv=>whnf);refine Zi ?_;rw [show l++([40]++(tx++[41]))=(l++[40])++tx++[41] by first | rfl | simp only [To]] at h;exact h
   have hW:exW want.toNat (.mk op tx nn xs at')=exT (.mk op tx nn xs at'):=by rw [exW,Zsm,Tf (by show ¬ZS op<_;omega)]
   rw [hW] at h aa;refine ZEH (fun c1=>?_) (fun c1=>wN ?_)
   ·have c1:ZS op<5:=by omega
    have gl:xs.length=2:=by have:=k1 c1;omega
    obtain ⟨x0,x1,rfl⟩:∃x0 x1,xs=[x0,x1]:=by match xs,gl with | [a,b],_=>exact ⟨a,b,rfl⟩
    simp only [szS] at dx;have g0:=m5 x0 sM;have g1:=m5 x1 sM;have z0:wE x0<=n - 1:=oM;have z1:wE x1<=n - 1:=oM;obtain ⟨o0,t0,n0,y0,q0⟩:=x0;obtain ⟨o1,t1,n1,y1,q1⟩:=x1;have hx:exT (.mk op tx nn [(.mk o0 t0 n0 y0 q0),(.mk o1 t1 n1 y1 q1)] at')=exW (ZS op) (.mk o0 t0 n0 y0 q0)++(([32]++(w1++[32]))++exW (ZS op+1) (.mk o1 t1 n1 y1 q1)):=by rw [exT,exN,Tj c1,e2];rfl
    rw [hx] at h aa
    (try simp only [Ta,Te,Tg] at aa)
    conv=>whnf
    refine ⟨_,dM,rfl,wN ?_⟩;refine ⟨oM,wk _ (exW (ZS op) (.mk o0 t0 n0 y0 q0)) ⟨pl,(.mk o0 t0 n0 y0 q0),(ZS op:Int),rfl,⟨g0,oM,oM,oM,oM⟩,rfl⟩ ?_⟩;(conv=>whnf);refine wk _ ([32]++(w1++[32])) ⟨[[32],w1,[32]],rfl,sM,sM,sM⟩ ?_;(conv=>whnf);refine ⟨_,dM,rfl,wN ?_⟩;refine Zi ?_;refine ⟨oM,wk _ (exW (ZS op+1) (.mk o1 t1 n1 y1 q1)) ⟨pl,(.mk o1 t1 n1 y1 q1),((ZS op:Int)+1),rfl,⟨g1,oM,oM,oM,oM⟩,rfl⟩ ?_⟩;rw [show l++(exW (ZS op) (.mk o0 t0 n0 y0 q0)++(([32]++(w1++[32]))++exW (ZS op+1) (.mk o1 t1 n1 y1 q1)))=l++exW (ZS op) (.mk o0 t0 n0 y0 q0)++([32]++(w1++[32]))++exW (ZS op+1) (.mk o1 t1 n1 y1 q1) by first | rfl | simp only [To]] at h;exact mq52
   have c1:¬ZS op<5:=oM;refine ZEH (fun c2=>?_) (fun c2=>wN ?_)
   ·have c2:ZS op=5:=by omega
    have gl:xs.length=1:=by have:=k2 c2;omega
    obtain ⟨x0,rfl⟩:∃x0,xs=[x0]:=by match xs,gl with | [a],_=>exact ⟨a,rfl⟩
    simp only [szS] at dx;have g0:=m5 x0 sM;have z0:wE x0<=n - 1:=oM;obtain ⟨o0,t0,n0,y0,q0⟩:=x0;have hx:exT (.mk op tx nn [(.mk o0 t0 n0 y0 q0)] at')=w1++exW 5 (.mk o0 t0 n0 y0 q0):=by rw [exT,exN,Tf c1,Tj c2,e2];rfl
    rw [hx] at h aa
    (try simp only [Ta,Te,Tg] at aa)
    conv=>whnf
    refine wk _ w1 ⟨[w1],rfl,sM,sM,sM⟩ ?_;(conv=>whnf);refine ⟨_,dM,rfl,wN ?_⟩;refine ⟨oM,wk _ (exW 5 (.mk o0 t0 n0 y0 q0)) ⟨pl,(.mk o0 t0 n0 y0 q0),5,rfl,⟨g0,oM,oM,oM,oM⟩,rfl⟩ ?_⟩;rw [show l++(w1++exW 5 (.mk o0 t0 n0 y0 q0))=l++w1++exW 5 (.mk o0 t0 n0 y0 q0) by first | rfl | simp only [To]] at h;exact mq52
   have c2:¬ZS op=5:=oM;refine ZEJ (fun c3=>?_) (fun c3=>wN ?_)
   ·have c3:VP op≠[]:=by rw [e2];exact c3
    have hx:exT (.mk op tx nn xs at')=w1++argT [40] [41] xs:=by rw [exT,exN,Tf c1,Tf c2,Tj c3,e2,UW];rfl
    rw [hx] at h aa
    (try simp only [Ta,Te,Tg] at aa)
    conv=>whnf
    refine wk _ w1 ⟨[w1],rfl,sM,sM,sM⟩ ?_;(conv=>whnf);refine ⟨oM,wk _ (argT [40] [41] xs) ⟨[40],[41],pl,xs,rfl,⟨Tq.2 m5,oM,oM⟩,rfl⟩ ?_⟩;rw [show l++(w1++argT [40] [41] xs)=l++w1++argT [40] [41] xs by first | rfl | simp only [To]] at h;exact mq52
   have c3:¬VP op≠[]:=by rw [e2];exact fun g=>g c3
   refine ZEH (fun c4=>?_) (fun c4=>wN ?_)
   ·have c4:op=6:=by omega
    have hx:exT (.mk op tx nn xs at')=argT [91] [93] xs:=by rw [exT,exN,Tf c1,Tf c2,Tf c3,Tj c4,UW];rfl
    rw [hx] at h aa
    (try simp only [Ta,Te,Tg] at aa)
    conv=>whnf
    refine ⟨oM,wk _ (argT [91] [93] xs) ⟨[91],[93],pl,xs,rfl,⟨Tq.2 m5,oM,oM⟩,rfl⟩ ?_⟩;rw [show l++(argT [91] [93] xs)=l++argT [91] [93] xs by first | rfl | simp only [To]] at h;exact mq52
   have c4:¬op=6:=oM;refine ZEH (fun c5=>?_) (fun c5=>wN ?_)
   ·have c5:op=7:=by omega
    have hxl:(Zm pl xs).length=xs.length:=by rw [Zb,Td]
    by_cases iz:xs.length=0
    ·have hx:exT (.mk op tx nn xs at')=[36]++tx:=by rw [exT,exN,Tf c1,Tf c2,Tf c3,Tf c4,Tj c5,Zcr,Tj iz,T1]
     rw [hx] at h aa
     (try simp only [Ta,Te,Tg] at aa)
     conv=>whnf
     refine wk _ ([36]++tx) ⟨[[36],tx],rfl,sM,sM,sM⟩ ?_;(conv=>whnf);refine ZEH (fun g=>?_) (fun g=>?_)
     case refine_1=>exact absurd (show ((Zm pl xs).length:Int)>0 from g) oM
     rw [show l++([36]++tx)=l++([36]++tx) by first | rfl | simp only [To]] at h;exact mq52
    have hx:exT (.mk op tx nn xs at')=([36]++tx)++argT [40] [41] xs:=by rw [exT,exN,Tf c1,Tf c2,Tf c3,Tf c4,Tj c5,Zcr,Tf iz,UW,To];rfl
    rw [hx] at h aa
    (try simp only [Ta,Te,Tg] at aa)
    conv=>whnf
    refine wk _ ([36]++tx) ⟨[[36],tx],rfl,sM,sM,sM⟩ ?_;(conv=>whnf);refine ZEH (fun g=>?_) (fun g=>?_)
    case refine_2=>exact absurd (show ((Zm pl xs).length:Int)>0 by omega) g
    conv=>whnf
    refine ⟨oM,wk _ (argT [40] [41] xs) ⟨[40],[41],pl,xs,rfl,⟨Tq.2 m5,oM,oM⟩,rfl⟩ ?_⟩;rw [show l++(([36]++tx)++argT [40] [41] xs)=l++([36]++tx)++argT [40] [41] xs by first | rfl | simp only [To]] at h;exact mq52
   have c5:¬op=7:=oM;refine ZEH (fun c6=>wN ?_) (fun c6=>wN ?_)
   ·have c6':op=3:=by omega
    obtain ⟨i0,i1⟩:=m4;refine ZEH (fun gn=>wN ?_) (fun gn=>wN ?_)
    ·obtain ⟨j0,j1,j2⟩:=Zlu gn i0;obtain ⟨wn,x7⟩:∃wn,IntKind.u64.wrap nn=wn:=⟨_,rfl⟩
     rw [x7] at j0 j1 j2;refine Or.inr ?_;rw [x7];have hx:exT (.mk op tx nn xs at')=Zfo nn:=by rw [exT,exN,Tf c1,Tf c2,Tf c3,Tf c4,Tf c5,Tj c6']
     rw [hx] at h aa
     (try simp only [Ta,Te,Tg] at aa)
     conv=>whnf
     refine ⟨⟨rfl,j0,j1⟩,?_⟩;obtain ⟨T,hT⟩:∃T,Vn 16 wn.toNat=T:=⟨_,rfl⟩
     rw [hT] at j2 |-;rw [j2] at h aa
     (try simp only [Ta,Te,Tg] at aa)
     conv=>whnf
     refine wk _ ([48,120]++T) ⟨[[48,120],T],rfl,sM,sM,sM⟩ ?_;rw [show l++(([48,120]++T))=l++([48,120]++T) by first | rfl | simp only [To]] at h;exact mq52
    refine ZEH (fun _=>?_) (fun g=>absurd c6 g);have hx:exT (.mk op tx nn xs at')=Zfo nn:=by rw [exT,exN,Tf c1,Tf c2,Tf c3,Tf c4,Tf c5,Tj c6']
    rw [hx] at h aa
    (try simp only [Ta,Te,Tg] at aa)
    conv=>whnf
    refine ⟨⟨rfl,oM,i1⟩,wN ?_⟩;refine wk _ (Zfo nn) ⟨[Zfo nn],rfl,sM,sM,sM⟩ ?_;rw [show l++(Zfo nn)=l++Zfo nn by first | rfl | simp only [To]] at h;exact mq52
   have c6':¬op=3:=oM;refine ZEH (fun g=>absurd g c6) (fun _=>wN ?_);refine ZEH (fun c7=>?_) (fun c7=>wN ?_)
   ·have c7':op=4:=by omega
    have hq:(Jj tx).isSome=true:=by unfold V8 at m3;rw [Tf oM,Tj c7'] at m3;exact m3
    obtain ⟨q,hq⟩:=Sv.1 hq;have hqT:ZvQ tx=q:=by rw [ZvQ,hq];rfl
    have hx:exT (.mk op tx nn xs at')=q:=by rw [exT,exN,Tf c1,Tf c2,Tf c3,Tf c4,Tf c5,Tf c6',Tj c7',hqT]
    rw [hx] at h aa
    (try simp only [Ta,Te,Tg] at aa)
    conv=>whnf
    refine ⟨oM,wN ?_⟩;refine ⟨fun g=>?_,fun q' ib=>?_⟩
    case refine_1=>exact absurd (hq.symm.trans g) sM
    obtain rfl:q=q':=by rw [hq] at ib;exact Option.some.inj ib
    conv=>whnf
    refine wk _ q ⟨[q],rfl,sM,sM,sM⟩ ?_;rw [show l++(q)=l++q by first | rfl | simp only [To]] at h;exact mq52
   have c7':¬op=4:=oM;refine ZEH (fun c8=>?_) (fun c8=>wN ?_)
   ·have c8':op=5:=by omega
    have hx:exT (.mk op tx nn xs at')=[110,105,108]:=by rw [exT,exN,Tf c1,Tf c2,Tf c3,Tf c4,Tf c5,Tf c6',Tf c7',Tj c8']
    rw [hx] at h aa
    (try simp only [Ta,Te,Tg] at aa)
    conv=>whnf
    refine wk _ [110,105,108] ⟨[[110,105,108]],rfl,sM,sM,sM⟩ ?_;rw [show l++([110,105,108])=l++[110,105,108] by first | rfl | simp only [To]] at h;exact mq52
   have c8':¬op=5:=oM;refine ZEH (fun c9=>?_) (fun c9=>?_)
   ·have c9':op=2:=by omega
    have hx:exT (.mk op tx nn xs at')=[95]:=by rw [exT,exN,Tf c1,Tf c2,Tf c3,Tf c4,Tf c5,Tf c6',Tf c7',Tf c8',Tj c9']
    rw [hx] at h aa
    (try simp only [Ta,Te,Tg] at aa)
    conv=>whnf
    refine wk _ [95] ⟨[[95]],rfl,sM,sM,sM⟩ ?_;rw [show l++([95])=l++[95] by first | rfl | simp only [To]] at h;exact mq52
   have c9':¬op=2:=oM;have hx:exT (.mk op tx nn xs at')=tx:=by rw [exT,exN,Tf c1,Tf c2,Tf c3,Tf c4,Tf c5,Tf c6',Tf c7',Tf c8',Tf c9']
   rw [hx] at h aa
   (try simp only [Ta,Te,Tg] at aa)
   conv=>whnf
   refine wk _ tx ⟨[tx],rfl,sM,sM,sM⟩ ?_;rw [show l++(tx)=l++tx by first | rfl | simp only [To]] at h;exact mq52
 exact h.elim
end Go.PM.Lex
end

section
namespace Go.PM.Lex
open Go.Proofs Go.Shelf Go.RowKit
variable {w0:World} {nG:Nat}
def Znf (w:World) (g n:Nat) {cs:Array Value} {ty:TypeId} {fz:Nat×Nat} (h:w.heap[g]?=some (.cells cs ty fz)) (h1:fz.1<=fz.2) (h2:∀o,n<=o->fz.1<=o->fz.2<=o) :
  ∃fz',(w.drew.freeze ⟨g,0,none⟩ n).heap[g]?=some (.cells cs ty fz')/\fz'.1<=fz'.2/\∀o,n<=o->fz'.1<=o->fz'.2<=o:=by
 have h':w.drew.heap[g]?=some (.cells cs ty fz):=h;obtain ⟨lo,hi⟩:=fz;unfold World.freeze
 split
 ·exact ⟨_,h',h1,h2⟩
 simp only [SC,if_true,h',Sb];refine ⟨_,rfl,?_,?_⟩
 ·split
  ·exact T7 _
  simp only at h1 |-;omega
 intro o ho aj
 split
 ·simp only;omega
 rename_i ai
 have ai:lo≠hi:=by simpa using ai
 simp only at h1 |-;have k:=h2 (max lo n) oM (by simp only;omega);simp only at k;omega
def _root_.Go.PM.Owned.grow {G:GE} {e:Env} {w w':World} {t el:Nat} {rows:List (List D)} {v:Value} (h:Owned G e w t el rows v) (g:Grows w w'):Owned G e w' t el rows v:=by
 rcases h with h | ⟨sz,a1,a2,a3,b,off,cap,cs,ty,fz,a4,a5,a6,a7,a8,a9,a10⟩
 ·exact .inl h
 exact .inr ⟨sz,a1,a2,a3,b,off,cap,cs,ty,fz,a4,a5,a6,(g.old _ (Tp.1 a7).1).trans a7,a8,a9,a10⟩
def _root_.Go.PM.Owned.refreeze {G:GE} {e:Env} {w w':World} {t:Nat} {rows:List (List D)} {v:Value} {g n:Nat} {cs:Array Value} {ty:TypeId} {fz fz':Nat×Nat} (h:Owned G e w t 5 rows v) (hM:e.M t=some (g,n))
  (h':w'.heap[g]?=some (.cells cs ty fz')) (h0:w.heap[g]?=some (.cells cs ty fz)) (h1:fz'.1<=fz'.2) (h2:∀o,n<=o->fz'.1<=o->fz'.2<=o):Owned G e w' t 5 rows v:=by
 rcases h with ⟨_,_,h⟩ | ⟨sz,a1,a2,a3,b,off,cap,cs2,ty2,fz2,a4,a5,a6,a7,a8,a9,a10⟩
 ·rw [hM] at h;cases h
 rw [hM] at a10;simp only [Option.some.injEq,Prod.mk.injEq] at a10;obtain ⟨rfl,rfl⟩:=a10;rw [h0] at a7
 cases a7
 exact .inr ⟨sz,a1,a2,a3,g,off,cap,cs,ty,fz',a4,a5,a6,h',a8,⟨h1,h2⟩,hM⟩
def Zxg {G:GE} {e:Env} {w w':World} {t:TypeId} {p:PV} {rows:List (List D)} (hp:p=.d .nilp\/p=.ptr 0 0) (hS:SRel G e ⟨[.cells t [p,.sl 0 5 rows]],[0],1⟩ w)
  (hsz:w.heap.size<=w'.heap.size) (pr:w'.os=w.os) (htp:w'.tape=w.tape) (ji:w'.output=w.output)
  (az:∀b off u,w.cell? ⟨b,off,none⟩=some u->w'.cell? ⟨b,off,none⟩=some u)
  (fb:∀b,b<w.heap.size->(∀q,e.M 0=some q->q.1≠b)->w'.heap[b]?=w.heap[b]?)
  (jk:∀v,Owned G e w 0 5 rows v->Owned G e w' 0 5 rows v) (acj:∀q,e.M 0=some q->∃cs ty fz,w'.heap[q.1]?=some (.cells cs ty fz)) :
  SRel G e ⟨[.cells t [p,.sl 0 5 rows]],[0],1⟩ w'/\Later e ⟨[.cells t [p,.sl 0 5 rows]],[0],1⟩ w e ⟨[.cells t [p,.sl 0 5 rows]],[0],1⟩ w':=by
 have hL:Later e ⟨[.cells t [p,.sl 0 5 rows]],[0],1⟩ w e ⟨[.cells t [p,.sl 0 5 rows]],[0],1⟩ w':={
  len:=Tr _
  beta:=fun _ _=>rfl
  X:=rfl
  pres:=fun b off u hu ho=>⟨ho,az b off u hu⟩
  fhid:=fun b h=>.inr (.inr h)
  blocks:=fun b hb h1 h2 _=>fb b hb fun q hq=>h2 0 sM q hq
  size:=hsz
  os:=pr
  tape:=htp
  output:=ji
  fresh:=fun i h1 h2=>by simp at h1 h2;omega
  ftok:=fun x hx q hq=>.inr (.inl ⟨x,hx,q,hq,rfl⟩) }
 have ab:=hS.lt (i:=0) sM;have oh:w'.heap[e.β 0]?=w.heap[e.β 0]?:=fb _ ab fun q hq=>fun h=>(hS.own 0 sM q hq).2.1 0 sM h.symm
 refine ⟨?_,hL⟩;exact {
  inj:=hS.inj
  box:=fun i x hx=>by
   match i,hx with
   | 0,hx =>
    cases hx
    obtain ⟨cv,h1,h2,h3⟩:=hS.box 0 _ rfl;refine ⟨cv,oh.trans h1,h2,fun j y u hy hu=>?_⟩
    match j,hy with
    | 0,hy =>
     exact mq90
    | 1,hy =>
     cases hy
     obtain ⟨q1,q2⟩:=h3 1 (.sl 0 5 rows) u rfl hu;refine ⟨?_,q2⟩
     cases q1 with
     | sl _ _ _ _ hn hd ht=>exact .sl _ _ _ _ hn (hd.later hL) (fun h=>jk _ (ht h))
    | j+2,hy=>simp at hy
   | i+1,hx=>simp at hx
  low:=hS.low
  tkn:=hS.tkn
  own:=fun x hx q hq=>by
   obtain ⟨a,b,_⟩:=hS.own x hx q hq;obtain rfl:x=0:=by simpa using hx
   exact ⟨a,b,acj q hq⟩
  dis:=hS.dis
  xlt:=fun b off hx=>TD (hS.xlt b off hx) hsz
  xown:=hS.xown
  hid:=fun b q hq=>let ⟨k1,k2,k3,k4,k5⟩:=hS.hid b q hq;⟨k1,TD k2 hsz,k3,k4,k5⟩
  glob:=fun b hb=>by
   rw [fb b (TD hb hS.big) fun q hq=>fun h=>by have:=(hS.own 0 sM q hq).1;omega];exact hS.glob b hb
  big:=TZ hS.big hsz }
def Zav:Zp:=fun args σ K=>match args,σ with
 | [.ptr 0 0],⟨[.cells t [p,.sl 0 e rows]],[0],1⟩=>∃l:Bs,(rows=Zh l/\t=104/\e=5/\(p=.d .nilp\/p=.ptr 0 0)/\l.length<70368744177664)/\K (.ret (.d (.str l))) ⟨[.cells t [p,.sl 0 e rows]],[0],1⟩
 | _,_=>False
def Zfq:PC w0 nG 36 Zav:=VJ (Ze Tryz.func36 kR rfl) fun args σ K h e w vs hS ha=>by
 unfold Zav at h
 split at h
 ·rename_i t p el rows
  obtain ⟨l,⟨rfl,rfl,rfl,hp,cx⟩,hK⟩:=h;obtain ⟨u,rfl,hu⟩:=Zgo ha;obtain ⟨cv,cz,bw,js⟩:=hS.box 0 _ rfl;have dj:cv.size=2:=bw;obtain ⟨v0,v1,rfl⟩:∃v0 v1,cv=#[v0,v1]:=by
   obtain ⟨lst⟩:=cv
   match lst,dj with
   | [a,b],_=>exact ⟨a,b,rfl⟩
  have bi:=(js 1 (.sl 0 5 (Zh l)) v1 rfl rfl).1
  cases hu with
  | ptr b off hb =>
  refine ⟨_,_,.string ⟨l.toArray⟩,hK,?_⟩;have fin:∀w',w.heap.size<=w'.heap.size->w'.os=w.os->w'.tape=w.tape->w'.output=w.output ->
    (∀b off u,w.cell? ⟨b,off,none⟩=some u->w'.cell? ⟨b,off,none⟩=some u) ->
    (∀b,b<w.heap.size->(∀q,e.M 0=some q->q.1≠b)->w'.heap[b]?=w.heap[b]?)->(∀v,Owned (GG w0 nG) e w 0 5 (Zh l) v->Owned (GG w0 nG) e w' 0 5 (Zh l) v)->(∀q,e.M 0=some q->∃cs ty fz,w'.heap[q.1]?=some (.cells cs ty fz)) ->
    VRel (GG w0 nG) e ⟨[.cells 104 [p,.sl 0 5 (Zh l)]],[0],1⟩ w' (.d (.str l)) (.string ⟨l.toArray⟩)/\SRel (GG w0 nG) e ⟨[.cells 104 [p,.sl 0 5 (Zh l)]],[0],1⟩ w'/\Later e ⟨[.cells 104 [p,.sl 0 5 (Zh l)]],[0],1⟩ w e ⟨[.cells 104 [p,.sl 0 5 (Zh l)]],[0],1⟩ w':=fun w' h1 h2 h3 h4 h5 h6 h7 h8 =>
   ⟨.mkstr,Zxg hp hS h1 h2 h3 h4 h5 h6 h7 h8⟩
  have grown:∀w',Grows w w'->_:=fun w' g=>fin w' g.size g.os g.tape g.output (fun b off u hu=>(g.cell (VA hu)).trans hu) (fun b hb _=>g.old b hb) (fun v hv=>hv.grow g) (fun q hq=>by obtain ⟨_,_,cs,ty,fz,hh⟩:=hS.own 0 sM q hq;exact ⟨cs,ty,fz,(g.old _ (Tp.1 hh).1).trans hh⟩)
  cases bi with
  | sl _ _ _ _ hn hd ht =>
  rcases ht sM with ⟨rfl,bz,hM⟩ | ⟨sz,g1,g2,g3,g,off,cap,cs,ty,fz,rfl,g4,g5,g6,⟨g7,rfl,rfl,g8⟩,g9,hM⟩
  ·have hl:l=[]:=by simpa [Zh] using bz
   subst hl;refine (Zsp Tryz.lays169 Tryz.Builder_Extra_169 w.heap.size (e.β 0) v0 w cz).mono fun en w' ⟨h1,h2⟩=>?_
   exact ⟨h1,grown w' (ZEN h2)⟩
  have ka:sz=1:=by
   have:(Tryz.prog.info? 5).map (·.size)=some sz:=g1
   rw [ZyQ] at this;cases this;rfl
  subst ka;rw [Y3] at g5 cz g9 hM hd
  by_cases hl:l=[]
  ·subst hl;refine (ZpN Tryz.lays169 Tryz.Builder_Extra_169 w.heap.size (e.β 0) g cap v0 w oM cz).mono fun en w' ⟨h1,h2⟩=>?_
   exact ⟨h1,grown w' (ZEN h2)⟩
  have az:∀j x,l[j]?=some x->w.cell? ⟨g,j,none⟩=some (.int .u8 x.toNat):=by
   exact mq32
  obtain ⟨fz',qf,hfa,hfb⟩:=Znf w g l.length g6 g9.1 (fun o ho=>g9.2 o oM);refine (Znc Tryz.lays169 Tryz.Builder_Extra_169 (e.β 0) g cap v0 cs fz l w hl cz g6 oM oM oM az).mono fun en w' ⟨h1,h2⟩=>?_
  rw [h2];refine ⟨h1,fin _ ?_ ?_ ?_ ?_ ?_ ?_ ?_ ?_⟩
  ·unfold World.freeze;split <;> first | exact Tr _ | (simp only [Array.size_modify];exact Tr _)
  ·exact mq150
  ·exact mq150
  ·exact mq150
  ·exact mq112
  ·intro b hb hq
   exact VL w g l.length b fun h=>hq _ hM h.symm
  ·intro v hv
   exact hv.refreeze hM qf g6 hfa (by simpa [Y3] using hfb)
  intro q hq
  rw [hM] at hq;cases hq;exact ⟨_,_,_,qf⟩
 exact h.elim
end Go.PM.Lex
end

section
namespace Go.PM.Lex
open Go.Proofs
variable {w0:World} {nG:Nat}
def Zxi {n:Nat}:OKw w0 nG [(143,ZgK),(203,ZgJ (YC ZQ) ZjY exT wE n)] 202 (ZpO 203 ZQ ZjY exT wE n):=by
 refine pwo Tryz.func202 fun args σ K h=>?_
 unfold ZpO at h
 split at h
 ·rename_i r bt g t e rows tp
  obtain ⟨l,pl,xs,rfl,rfl,⟨rfl,rfl,rfl⟩,⟨bv,hz,hn⟩,aa,h⟩:=h;have du:(xs.map (ZQ pl)).length=xs.length:=Td ..;have hsz:=Zn wE xs;refine pwv [(1,⟨[12],[0,1,2,3,10,11],fun vs σ=>∃i:Nat,vs=[.d (.int .i64 i)]/\σ=⟨[.cells 104 [.ptr 0 0,.sl 0 5 (Zh (l++Zf bt ((xs.take i).map exT)))],.cells tp [.ptr 0 0]],[0],1⟩/\i<=xs.length,mu1 xs.length⟩)] 2 true ?_;refine ⟨⟨0,rfl,(by simp only [Sk,TM,Zf,T1];rfl),oM⟩,?_⟩;intro vs σ hI
  obtain ⟨i,rfl,rfl,hi⟩:=hI;(conv=>whnf);refine ZEH (fun ac=>wN ?_) (fun ac=>?_)
  ·have ac:i<xs.length:=lzI du ac;have hg:=Zr wE xs i ac;have ig:ZjY xs[i]=true:=Tq.1 bv _ (TE ac);have cn:=VR bt exT ac;have ak:=Zat bt exT xs (i+1);obtain ⟨eA,hA⟩:∃x,xs[i]=x:=⟨_,rfl⟩
   obtain ⟨a1,a2,a3,a4,a5⟩:=eA;rw [hA] at hg ig cn;have bi:(xs.map (ZQ pl))[((i:Nat):Int).toNat]?=some (ZQ pl (.mk a1 a2 a3 a4 a5)):=by simp [ac,hA]
   refine ⟨_,oM,bi,wN ?_⟩;refine ZEH (fun h0=>wN ?_) (fun h0=>?_)
   ·have h0:0<i:=by omega
    rw [Tf oM] at cn;rw [cn] at ak;simp only [Ta] at ak;refine wk _ bt ⟨rfl,rfl⟩ (wN ?_);refine ⟨l++Zf bt ((xs.take i).map exT)++bt,pl,(.mk a1 a2 a3 a4 a5),rfl,rfl,⟨rfl,rfl⟩,⟨ig,oM,oM⟩,by simp only [Ta];omega,wN ?_⟩;exact mq70
   obtain rfl:i=0:=by omega
   rw [Tj rfl] at cn;rw [cn] at ak;(conv=>whnf);refine ⟨l++Zf bt ((xs.take 0).map exT),pl,(.mk a1 a2 a3 a4 a5),rfl,rfl,⟨rfl,rfl⟩,⟨ig,oM,oM⟩,by simp only [Sk,TM,Zf,Ta,Tg];omega,wN ?_⟩;exact mq66
  exact mq174
 exact h.elim
def Zt8 {n:Nat} (h:PC w0 nG 204 (Zsz n)):PC w0 nG 147 (ZsA n) :=
 ZCD ⟨Zar,Zxi ⟨ZpP,Zz6 ⟨h,trivial⟩,trivial⟩,trivial⟩
def cWE (hN:NumOK w0 nG) (hL:LexC w0 nG):∀n,PC w0 nG 204 (Zsz n)
 | 0=>Zz9 ⟨Zso,Zar,ZB (Ze Tryz.func204 kR rfl),ZB (Ze Tryz.func147 kR rfl),ZpS hN,ZpV hN,hL.quote,trivial⟩
 | n+1=>Zz9 ⟨Zso,Zar,ZC (sp:=Zsz) (cWE hN hL n),ZC (sp:=ZsA) (Zt8 (cWE hN hL n)),ZpS hN,ZpV hN,hL.quote,trivial⟩
def Zp0:Zp:=fun args σ K=>match args,σ with
 | [.ptr 0 0,.d (.int .i64 c)],⟨[.cells t [p,.sl 0 e rows]],[0],1⟩=>∃l:Bs,(rows=Zh l/\t=104/\e=5/\(p=.d .nilp\/p=.ptr 0 0)/\l.length<70368744177664) /\
   ((c=3\/c=151->K (.ret (.tuple [.d (.str []),.d (.int .i64 3)])) ⟨[.cells t [p,.sl 0 e rows]],[0],1⟩)/\(c≠3/\c≠151->K (.ret (.tuple [.d (.str l),.d (.int .i64 0)])) ⟨[.cells t [p,.sl 0 e rows]],[0],1⟩))
 | _,_=>False
def Zxj:Tbl:=[(36,Zav)]
def Zxk:PC w0 nG 37 Zp0:=by
 refine pwt (tbl:=Zxj) ⟨Zfq,trivial⟩ Tryz.func37 fun args σ K h=>?_
 unfold Zp0 at h
 split at h
 ·rename_i c t p e rows
  obtain ⟨l,⟨rfl,rfl,rfl,hp,aa⟩,ha,hb⟩:=h;refine pwu [] 1 true ?_;rcases hp with rfl | rfl
  all_goals
   conv=>whnf
   refine ZEH (fun c1=>wN ?_) (fun c1=>wN ?_)
   ·exact ha (.inl c1)
   refine ZEH (fun c2=>wN ?_) (fun c2=>wN ?_)
   ·exact ha (.inr c2)
   refine ⟨l,⟨rfl,rfl,rfl,iM,aa⟩,?_⟩;(conv=>whnf);exact hb ⟨c1,c2⟩
 exact h.elim
def Zbi (txt:Bs) {α:Type}:Top α->Bs×Nat
 | .ok _ _=>(txt,0)
 | .err _ e=>if e=3\/e=151 then ([],3) else (txt,0)
def nmT (s:Bs):T0:=⟨1,s,0⟩
def sgT (s:Bs):T0:=⟨4,s,0⟩
def Zt9 (sep:Bs):List Ts->Ts
 | []=>[]
 | x::l=>sgT sep::(x++Zt9 sep l)
def Zxl (sep:Bs):List Ts->Ts
 | []=>[]
 | x::l=>x++Zt9 sep l
def ZAa (want:Nat) (p:Nat×Ts):Ts:=if p.1<want then sgT [40]::(p.2++[sgT [41]]) else p.2
def opT (op:Nat):T0:=if 15<=op/\op<=19 then nmT (VP op) else sgT (VP op)
def ZDH (w1 w2:Nat) (mid:Ts):List (Nat×Ts)->Ts
 | []=>[]
 | [a]=>ZAa w1 a
 | a::b::_=>ZAa w1 a++(mid++ZAa w2 b)
def brK (fr fin:Bs) (ps:List Ts):Ts:=sgT fr::(Zxl [44] ps++[sgT fin])
def ZEh (op:Nat) (text:Bs) (n:Int) (ps:List (Nat×Ts)):Ts :=
 if ZS op<5 then ZDH (ZS op) (ZS op+1) [opT op] ps
 else if ZS op=5 then sgT (VP op)::ZDH 5 5 [] ps
 else if VP op≠[] then nmT (VP op)::brK [40] [41] (ps.map Prod.snd)
 else if op=6 then brK [91] [93] (ps.map Prod.snd)
 else if op=7 then sgT [36]::nmT text::(if ps.length=0 then [] else brK [40] [41] (ps.map Prod.snd))
 else if op=3 then [⟨2,[],n⟩]
 else if op=4 then [⟨3,text,0⟩]
 else if op=5 then [nmT [110,105,108]]
 else if op=2 then [nmT [95]]
 else [nmT text]
mutual
def exK:Ex->Ts
 | .mk op text n args _=>ZEh op text n (ZDI args)
def ZDI:List Ex->List (Nat×Ts)
 | []=>[]
 | e::l=>(ZS (opE e),exK e)::ZDI l
end
def ZBB (want:Nat) (e:Ex):Ts:=ZAa want (ZS (opE e),exK e)
def Lim {α:Type} (x:R α):Prop:=∃p,x=.err p 3\/x=.err p 151
def Rd {α β:Type} (er:α->β) (v:α) (r:Ts) (x:R α):Prop:=(∃v',er v'=er v/\x=.ok v' r)\/Lim x
def Lim.bind {α β:Type} {x:R α} {f:α->Ts->R β} (h:Lim x):Lim (x.bind f):=by
 obtain ⟨p,rfl | rfl⟩:=h
 ·exact ⟨p,.inl rfl⟩
 exact ⟨p,.inr rfl⟩
def Rd.bind {α β γ δ:Type} {er:α->β} {er2:γ->δ} {v:α} {u:γ} {r s:Ts} {x:R α} {f:α->Ts->R γ} (h:Rd er v r x) (hf:∀v',er v'=er v->Rd er2 u s (f v' r)):Rd er2 u s (x.bind f):=by
 rcases h with ⟨v',e,rfl⟩ | h
 ·exact hf v' e
 exact .inr h.bind
def Rd.ok {α β:Type} {er:α->β} {v v':α} {r:Ts} (h:er v'=er v):Rd er v r (.ok v' r):=.inl ⟨v',h,rfl⟩
def Rd.id {α:Type} {v:α} {r:Ts}:Rd (fun x:α=>x) v r (.ok v r):=.inl ⟨v,rfl,rfl⟩
def Rd.lim {α β:Type} {er:α->β} {v:α} {r:Ts} {x:R α} (h:Lim x):Rd er v r x:=.inr h
def Rd.binds {α γ δ:Type} {er2:γ->δ} {v:α} {u:γ} {r s:Ts} {x:R α} {f:α->Ts->R γ} (h:Rd (fun x:α=>x) v r x) (hf:Rd er2 u s (f v r)):Rd er2 u s (x.bind f):=h.bind fun v' e=>by cases (show v'=v from e);exact hf
structure Nx (r:Ts):Prop where
 par:isW r [[40]]=false
 bin:(Za6 r).1=0
def Zua {l:List Ex} (h:l.length=2):∃a b,l=[a,b]:=by match l,h with | [a,b],_=>exact ⟨a,b,rfl⟩
def ZAb {l:List Ex} (h:l.length=1):∃a,l=[a]:=by match l,h with | [a],_=>exact ⟨a,rfl⟩
def Ln (e:Ex) (r:Ts) (sub:Nat->Ts->R Ex) (least:Nat) (x:R Ex):Prop:=(∃f e',r.length<f/\erE e'=erE e/\x=Jg sub least f e' r)\/Lim x
def Zxm {e:Ex} {r:Ts} {sub:Nat->Ts->R Ex} {least:Nat} {x:R Ex} (h:Ln e r sub least x) (hb:(Za6 r).1<least\/(Za6 r).1=0):Rd erE e r x:=by
 rcases h with ⟨f,e',h1,h2,rfl⟩ | h
 ·obtain ⟨f,rfl⟩:∃k,f=k+1:=⟨f - 1,oM⟩
  rw [Jg,Tj hb];exact Rd.ok h2
 exact .lim h
structure ExR (e:Ex):Prop where
 sg:∀d r,isW r [[40]]=false->Rd erE e r (Xy d (ZBB 5 e++r))
 ln:∀d k w l r,w<=l->l<=5->6<=k+w->isW r [[40]]=false->(Za6 r).1<l+2->Ln e r (JD (Xy d) (k - 1)) (w+1) (JD (Xy d) k (w+1) (ZBB l e++r))
def ZAc (e:Ex):ZBB 0 e=exK e:=by rw [ZBB,ZAa,Tf sM]
def ExR.full {e:Ex} (h:ExR e) (d:Nat) {r:Ts} (hr:Nx r):Rd erE e r (Zaj d (exK e++r)):=by
 have:=h.ln d 6 0 0 r oM oM oM hr.par (by have:=hr.bin;omega);rw [ZAc] at this;exact Zxm this (.inr hr.bin)
def Zxn {op:Nat} {rel:Bs} {args:List Ex} {body:List Li} {a:Nat} (h:YE (.mk op rel args body a)=true):YU op rel args.length body.length=true/\(∀x∈args,Ye x=true)/\∀x∈body,YE x=true:=by
 simp only [YE,Zw,Xk,Tm] at h;exact ⟨h.1,Tq.1 h.2.1,Tq.1 h.2.2⟩
def Zxo {op:Nat} {rel:Bs} {na nb:Nat} (h:YU op rel na nb=true):((op=1\/op=2)/\Xj rel=true/\nb=0)\/(3<=op/\op<=8/\rel=[]/\na=2/\nb=0)\/(op=9/\rel=[]/\na=1/\0<nb)\/(9<op/\op<=12/\rel=[]/\na=2/\0<nb):=by
 unfold YU at h
 split at h
 ·rename_i c
  simp only [Tm,T5,decide_eq_false_iff_not] at h;exact .inl ⟨c,h.1,oM⟩
 split at h
 ·rename_i c
  simp only [Tm,T5,decide_eq_false_iff_not,TQ] at h;exact .inr (.inl ⟨c.1,c.2,h.1,h.2.1,oM⟩)
 split at h
 ·rename_i c
  simp only [Tm,TQ] at h;exact .inr (.inr (.inl ⟨c,h.1,h.2.1,h.2.2⟩))
 split at h
 ·rename_i c
  simp only [Tm,TQ] at h;exact .inr (.inr (.inr ⟨c.1,c.2,h.1,h.2.1,h.2.2⟩))
 cases h
end Go.PM.Lex
end
