/- A part of the proof: plain logic, contracts and laws over the given program. -/
import Derived.Test.YtflgockgjnddnaaGreatDoorMore
import Derived.Lib.AppendIntMem
import Derived.WalkKit
import Derived.Test.YtflgockgjnddnaaGreatDoorV07
set_option linter.unusedVariables false
set_option linter.unusedSimpArgs false
set_option linter.all false
set_option maxRecDepth 100000
set_option maxHeartbeats 16000000
section
namespace Go.PM.Lex
open Go.Proofs
variable {w0:World} {nG:Nat}
mutual
def wE:Ex→Nat
 | .mk _ t _ args _=>1+t.length+wEs args
def wEs:List Ex→Nat
 | []=>0
 | x::l=>1+wE x+wEs l
end
theorem VP:∀(l:List Ex),wEs l=szS wE l
 | []=>by rw [wEs,szS]
 | x::l=>by rw [wEs,szS,VP l]
mutual
def wL:Li→Nat
 | .mk _ r a b _=>1+r.length+szS wE a+wLs b
def wLs:List Li→Nat
 | []=>0
 | x::l=>1+wL x+wLs l
end
theorem Vk:∀(l:List Li),wLs l=szS wL l
 | []=>by rw [wLs,szS]
 | x::l=>by rw [wLs,szS,Vk l]
def wRu (r:Ru):Nat:=1+r.head.length+szS wE r.args+szS wL r.body
def wFi (f:Fi):Nat:=1+f.name.length+f.typ.length
def wCa (c:Ca):Nat:=1+c.name.length+szS wFi c.fields
def wTy (t:Ty):Nat:=1+t.name.length+t.base.length+szS wFi t.fields+szS wCa t.cases
def wRe (d:Re):Nat:=1+d.name.length+szS wFi d.fields
def wBs (s:Bs):Nat:=1+s.length
def wIn (i:Ini):Nat:=1+i.name.length+i.comp.length+szS wBs i.types
def wOv (o:Ov):Nat:=1+o.rel.length
mutual
def wUn:Un→Nat
 | .mk a1 a2 a3 a4 a5 a6=>1+szS wTy a1+szS wRe a2+szS wRu a3+Zqj a4+szS wIn a5+szS wOv a6
def wCo:Co→Nat
 | .mk n p b t u _=>1+n.length+szS wBs p+b.length+szS wBs t+wUn u
def Zqj:List Co→Nat
 | []=>0
 | x::l=>1+wCo x+Zqj l
end
theorem XY:∀(l:List Co),Zqj l=szS wCo l
 | []=>by rw [Zqj,szS]
 | x::l=>by rw [Zqj,szS,XY l]
abbrev Xd {α:Type} (enc:Pl→α→List D):Pl→α→PV:=fun pl x=>.agg ((enc pl x).map .d)
abbrev Zj1:Pl→Bs→PV:=fun _ s=>.d (.str s)
noncomputable def Xq {α:Type} (val:Pl→α→PV) (p:α→Bool) (w:α→Nat) (n:Nat):Zz:=fun args σ K=>match args,σ with
 | [v],⟨[],[],0⟩=>∃pl x,v=val pl x∧(w x≤n∧n≤1073741824)∧∀b,p x=b→K (.ret (.d (.bool b))) ⟨[],[],0⟩
 | _,_=>False
theorem Zw {α:Type} (val:Pl→α→PV) (p:α→Bool) (w:α→Nat) (n:Nat):Zc (Xq val p w n):=fun args σ K K' hK h=>by
 unfold Xq at h ⊢
 exact m52
noncomputable def Zac {α:Type} (h0:FuncId) (val:Pl→α→PV) (p:α→Bool) (w:α→Nat) (n:Nat):Zz:=fun args σ K=>match args,σ with
 | [v,.ptr 0 0],⟨[.cells t [.func h' [] []]],[],0⟩=>∃pl x,v=val pl x∧(h'=h0∧w x≤n∧n≤1073741824)∧∀b,(!p x)=b→K (.ret (.d (.bool b))) ⟨[.cells t [.func h' [] []]],[],0⟩
 | _,_=>False
theorem Xm {α:Type} (h0:FuncId) (val:Pl→α→PV) (p:α→Bool) (w:α→Nat) (n:Nat):Zc (Zac h0 val p w n):=fun args σ K K' hK h=>by
 unfold Zac at h ⊢
 exact m52
noncomputable def Zad {α:Type} (g0 h0:FuncId) (enc:Pl→α→List D) (p:α→Bool) (w:α→Nat) (n:Nat):Zz:=fun args σ K=>match args,σ with
 | [.d (.sl r),.func g' [] [.ptr 0 0]],⟨[.cells t [.func h' [] []]],[],0⟩=>∃pl l,r=l.map (enc pl)∧(g'=g0∧h'=h0∧szS w l≤n∧n≤1073741824)∧∀r:Int,(r<0↔l.all p=true)→K (.ret (.d (.int .i64 r))) ⟨[.cells t [.func h' [] []]],[],0⟩
 | _,_=>False
theorem Xn {α:Type} (g0 h0:FuncId) (enc:Pl→α→List D) (p:α→Bool) (w:α→Nat) (n:Nat):Zc (Zad g0 h0 enc p w n):=fun args σ K K' hK h=>by
 unfold Zad at h ⊢
 exact m52
noncomputable def Zae {α:Type} (g0 h0:FuncId) (enc:Pl→α→List D) (p:α→Bool) (w:α→Nat) (n:Nat):Zz:=fun args σ K=>match args,σ with
 | [.d (.sl r),.func g' [] [.ptr 0 0]],⟨[.cells t [.func h' [] []]],[],0⟩=>∃pl l,r=l.map (enc pl)∧(g'=g0∧h'=h0∧szS w l≤n∧n≤1073741824)∧∀b,(!l.all p)=b→K (.ret (.d (.bool b))) ⟨[.cells t [.func h' [] []]],[],0⟩
 | _,_=>False
theorem Xo {α:Type} (g0 h0:FuncId) (enc:Pl→α→List D) (p:α→Bool) (w:α→Nat) (n:Nat):Zc (Zae g0 h0 enc p w n):=fun args σ K K' hK h=>by
 unfold Zae at h ⊢
 exact m52
noncomputable def Wu {α:Type} (h0:FuncId) (enc:Pl→α→List D) (p:α→Bool) (w:α→Nat) (n:Nat):Zz:=fun args σ K=>match args,σ with
 | [.d (.sl r),.func h' [] []],⟨[],[],0⟩=>∃pl l,r=l.map (enc pl)∧(h'=h0∧szS w l≤n∧n≤1073741824)∧∀b,l.all p=b→K (.ret (.d (.bool b))) ⟨[],[],0⟩
 | _,_=>False
theorem Zx {α:Type} (h0:FuncId) (enc:Pl→α→List D) (p:α→Bool) (w:α→Nat) (n:Nat):Zc (Wu h0 enc p w n):=fun args σ K K' hK h=>by
 unfold Wu at h ⊢
 exact m52
theorem Wn {α:Type} (p:α→Bool) {l:List α} {i:Nat} (h:i<l.length):(l.drop i).all p=(p l[i] && (l.drop (i+1)).all p):=by rw [Sl h,List.all_cons]
theorem VQ {α:Type} (p:α→Bool) {l:List α} {i:Nat} (h:l.length≤i):(l.drop i).all p=true:=by rw [TU h];rfl
noncomputable def Zzv (n:Nat):Tbl:=[(29,Xq (Xd YE) ZW wE n)]
theorem Zzw {n:Nat} (ht:TblOK (GG w0 nG) (Zzv n)):PCalls (GG w0 nG) 154 (Zac 29 (Xd YE) ZW wE n):=by
 refine pc ht Tryz.func154 ?_
 exact m61
noncomputable def Zzx (n:Nat):Tbl:=[(154,Zac 29 (Xd YE) ZW wE n)]
theorem Zzy {n:Nat} (ht:TblOK (GG w0 nG) (Zzx n)):PCalls (GG w0 nG) 220 (Zad 154 29 YE ZW wE n):=by
 refine pc ht Tryz.func220 ?_
 intro args σ K h
 unfold Zad at h
 split at h
 ·obtain ⟨pl,l,rfl,⟨rfl,rfl,hz,hn⟩,h⟩:=h
  rename_i t
  have hlen:(l.map (YE pl)).length=l.length:=Tf ..
  have hsz:=ZH wE l
  refine ⟨Za [(2,⟨[8],[0,1,7],fun vs σ=>∃i:Nat,vs=[.d (.int .i64 i)]∧σ=⟨[.cells t [.func 29 [] []]],[],0⟩∧i≤l.length∧l.all ZW=(l.drop i).all ZW,fun vs _=>match vs with | [.d (.int _ i)]=>((l.length:Int) - i).toNat | _=>0⟩)],1,false,by simp,Tb rfl,?_⟩
  conv=>whnf
  refine ⟨⟨0,rfl,rfl,by omega,rfl⟩,?_⟩
  intro vs σ hI
  obtain ⟨i,rfl,rfl,hi,hs⟩:=hI
  conv=>whnf
  refine ZEb (fun hi2=>?_) (fun hi2=>?_)
  ·have hi2:i<l.length:=by have hi2:(i:Int)<(l.map (YE pl)).length:=hi2;rw [hlen] at hi2;omega
   have hg:=ZD wE l i hi2
   rw [Wn _ hi2] at hs
   obtain ⟨eA,hA⟩:∃e,l[i]=e:=⟨_,rfl⟩
   obtain ⟨a1,a2,a3,a4,a5⟩:=eA
   have hr1:(l.map (YE pl))[((i:Nat):Int).toNat]?=some (YE pl (.mk a1 a2 a3 a4 a5)):=by simp [hi2,hA]
   rw [hA] at hs hg
   conv=>whnf
   refine ⟨_,by omega,hr1,?_⟩
   conv=>whnf
   refine ⟨pl,(.mk a1 a2 a3 a4 a5),rfl,⟨rfl,by omega,by omega⟩,fun b hb=>?_⟩
   cases b with
   | true =>
    have hp:ZW (.mk a1 a2 a3 a4 a5)=false:=by simpa using hb
    exact m40
   | false =>
    have hp:ZW (.mk a1 a2 a3 a4 a5)=true:=by simpa using hb
    exact m13
  ·have hi2:l.length≤i:=by have hi2:¬(i:Int)<(l.map (YE pl)).length:=hi2;rw [hlen] at hi2;omega
   exact m44
 ·exact h.elim
noncomputable def Zzz (n:Nat):Tbl:=[(220,Zad 154 29 YE ZW wE n)]
theorem ZzA {n:Nat} (ht:TblOK (GG w0 nG) (Zzz n)):PCalls (GG w0 nG) 153 (Zae 154 29 YE ZW wE n):=by
 refine pc ht Tryz.func153 ?_
 intro args σ K h
 unfold Zae at h
 split at h
 ·obtain ⟨pl,l,rfl,⟨rfl,rfl,hz,hn⟩,h⟩:=h
  refine ⟨Za [],1,false,by simp,Tb rfl,?_⟩
  conv=>whnf
  refine ⟨pl,l,rfl,⟨rfl,rfl,hz,hn⟩,fun r hr=>?_⟩
  conv=>whnf
  refine h _ ?_
  cases hb:l.all ZW with
  | true=>rw [hb] at hr;have:=hr.2 rfl;simp;omega
  | false=>rw [hb] at hr;have:¬r<0:=fun g=>(by have:=hr.1 g;cases this);simp;omega
 ·exact h.elim
noncomputable def ZzB (n:Nat):Tbl:=[(153,Zae 154 29 YE ZW wE n)]
theorem ZzC {n:Nat} (ht:TblOK (GG w0 nG) (ZzB n)):PCalls (GG w0 nG) 74 (Wu 29 YE ZW wE n):=by
 refine pc ht Tryz.func74 ?_
 exact m7
theorem ZBU {n:Nat} (h:PCalls (GG w0 nG) 29 (Xq (Xd YE) ZW wE n)):PCalls (GG w0 nG) 74 (Wu 29 YE ZW wE n) :=
 ZzC ⟨⟨ZzA ⟨⟨Zzy ⟨⟨Zzw ⟨⟨h,Zw _ _ _ _⟩,trivial⟩,Xm _ _ _ _ _⟩,trivial⟩,Xn _ _ _ _ _ _⟩,trivial⟩,Xo _ _ _ _ _ _⟩,trivial⟩
noncomputable def ZzD (n:Nat):Tbl:=[(109,Xq (Xd Xp) YX wL n)]
theorem ZzE {n:Nat} (ht:TblOK (GG w0 nG) (ZzD n)):PCalls (GG w0 nG) 175 (Zac 109 (Xd Xp) YX wL n):=by
 refine pc ht Tryz.func175 ?_
 exact m61
noncomputable def ZzF (n:Nat):Tbl:=[(175,Zac 109 (Xd Xp) YX wL n)]
theorem ZzG {n:Nat} (ht:TblOK (GG w0 nG) (ZzF n)):PCalls (GG w0 nG) 245 (Zad 175 109 Xp YX wL n):=by
 refine pc ht Tryz.func245 ?_
 intro args σ K h
 unfold Zad at h
 split at h
 ·obtain ⟨pl,l,rfl,⟨rfl,rfl,hz,hn⟩,h⟩:=h
  rename_i t
  have hlen:(l.map (Xp pl)).length=l.length:=Tf ..
  have hsz:=ZH wL l
  refine ⟨Za [(2,⟨[8],[0,1,7],fun vs σ=>∃i:Nat,vs=[.d (.int .i64 i)]∧σ=⟨[.cells t [.func 109 [] []]],[],0⟩∧i≤l.length∧l.all YX=(l.drop i).all YX,fun vs _=>match vs with | [.d (.int _ i)]=>((l.length:Int) - i).toNat | _=>0⟩)],1,false,by simp,Tb rfl,?_⟩
  conv=>whnf
  refine ⟨⟨0,rfl,rfl,by omega,rfl⟩,?_⟩
  intro vs σ hI
  obtain ⟨i,rfl,rfl,hi,hs⟩:=hI
  conv=>whnf
  refine ZEb (fun hi2=>?_) (fun hi2=>?_)
  ·have hi2:i<l.length:=by have hi2:(i:Int)<(l.map (Xp pl)).length:=hi2;rw [hlen] at hi2;omega
   have hg:=ZD wL l i hi2
   rw [Wn _ hi2] at hs
   obtain ⟨eA,hA⟩:∃e,l[i]=e:=⟨_,rfl⟩
   obtain ⟨a1,a2,a3,a4,a5⟩:=eA
   have hr1:(l.map (Xp pl))[((i:Nat):Int).toNat]?=some (Xp pl (.mk a1 a2 a3 a4 a5)):=by simp [hi2,hA]
   rw [hA] at hs hg
   conv=>whnf
   refine ⟨_,by omega,hr1,?_⟩
   conv=>whnf
   refine ⟨pl,(.mk a1 a2 a3 a4 a5),rfl,⟨rfl,by omega,by omega⟩,fun b hb=>?_⟩
   cases b with
   | true =>
    have hp:YX (.mk a1 a2 a3 a4 a5)=false:=by simpa using hb
    exact m40
   | false =>
    have hp:YX (.mk a1 a2 a3 a4 a5)=true:=by simpa using hb
    exact m13
  ·have hi2:l.length≤i:=by have hi2:¬(i:Int)<(l.map (Xp pl)).length:=hi2;rw [hlen] at hi2;omega
   exact m44
 ·exact h.elim
noncomputable def ZzH (n:Nat):Tbl:=[(245,Zad 175 109 Xp YX wL n)]
theorem ZzI {n:Nat} (ht:TblOK (GG w0 nG) (ZzH n)):PCalls (GG w0 nG) 174 (Zae 175 109 Xp YX wL n):=by
 refine pc ht Tryz.func174 ?_
 intro args σ K h
 unfold Zae at h
 split at h
 ·obtain ⟨pl,l,rfl,⟨rfl,rfl,hz,hn⟩,h⟩:=h
  refine ⟨Za [],1,false,by simp,Tb rfl,?_⟩
  conv=>whnf
  refine ⟨pl,l,rfl,⟨rfl,rfl,hz,hn⟩,fun r hr=>?_⟩
  conv=>whnf
  refine h _ ?_
  cases hb:l.all YX with
  | true=>rw [hb] at hr;have:=hr.2 rfl;simp;omega
  | false=>rw [hb] at hr;have:¬r<0:=fun g=>(by have:=hr.1 g;cases this);simp;omega
 ·exact h.elim
noncomputable def ZzJ (n:Nat):Tbl:=[(174,Zae 175 109 Xp YX wL n)]
theorem ZzK {n:Nat} (ht:TblOK (GG w0 nG) (ZzJ n)):PCalls (GG w0 nG) 108 (Wu 109 Xp YX wL n):=by
 refine pc ht Tryz.func108 ?_
 exact m7
theorem ZDn {n:Nat} (h:PCalls (GG w0 nG) 109 (Xq (Xd Xp) YX wL n)):PCalls (GG w0 nG) 108 (Wu 109 Xp YX wL n) :=
 ZzK ⟨⟨ZzI ⟨⟨ZzG ⟨⟨ZzE ⟨⟨h,Zw _ _ _ _⟩,trivial⟩,Xm _ _ _ _ _⟩,trivial⟩,Xn _ _ _ _ _ _⟩,trivial⟩,Xo _ _ _ _ _ _⟩,trivial⟩
noncomputable def ZvT (n:Nat):Tbl:=[(63,Xq (Xd Z7) Y6 wRu n)]
theorem ZvU {n:Nat} (ht:TblOK (GG w0 nG) (ZvT n)):PCalls (GG w0 nG) 186 (Zac 63 (Xd Z7) Y6 wRu n):=by
 refine pc ht Tryz.func186 ?_
 exact m63
noncomputable def ZvV (n:Nat):Tbl:=[(186,Zac 63 (Xd Z7) Y6 wRu n)]
theorem ZvW {n:Nat} (ht:TblOK (GG w0 nG) (ZvV n)):PCalls (GG w0 nG) 251 (Zad 186 63 Z7 Y6 wRu n):=by
 refine pc ht Tryz.func251 ?_
 intro args σ K h
 unfold Zad at h
 split at h
 ·obtain ⟨pl,l,rfl,⟨rfl,rfl,hz,hn⟩,h⟩:=h
  rename_i t
  have hlen:(l.map (Z7 pl)).length=l.length:=Tf ..
  have hsz:=ZH wRu l
  refine ⟨Za [(2,⟨[8],[0,1,7],fun vs σ=>∃i:Nat,vs=[.d (.int .i64 i)]∧σ=⟨[.cells t [.func 63 [] []]],[],0⟩∧i≤l.length∧l.all Y6=(l.drop i).all Y6,fun vs _=>match vs with | [.d (.int _ i)]=>((l.length:Int) - i).toNat | _=>0⟩)],1,false,by simp,Tb rfl,?_⟩
  conv=>whnf
  refine ⟨⟨0,rfl,rfl,by omega,rfl⟩,?_⟩
  intro vs σ hI
  obtain ⟨i,rfl,rfl,hi,hs⟩:=hI
  conv=>whnf
  refine ZEb (fun hi2=>?_) (fun hi2=>?_)
  ·have hi2:i<l.length:=by have hi2:(i:Int)<(l.map (Z7 pl)).length:=hi2;rw [hlen] at hi2;omega
   have hg:=ZD wRu l i hi2
   rw [Wn _ hi2] at hs
   obtain ⟨eA,hA⟩:∃e,l[i]=e:=⟨_,rfl⟩
   obtain ⟨a1,a2,a3,a4⟩:=eA
   have hr1:(l.map (Z7 pl))[((i:Nat):Int).toNat]?=some (Z7 pl ⟨a1,a2,a3,a4⟩):=by simp [hi2,hA]
   rw [hA] at hs hg
   conv=>whnf
   refine ⟨_,by omega,hr1,?_⟩
   conv=>whnf
   refine ⟨pl,⟨a1,a2,a3,a4⟩,rfl,⟨rfl,by omega,by omega⟩,fun b hb=>?_⟩
   cases b with
   | true =>
    have hp:Y6 ⟨a1,a2,a3,a4⟩=false:=by simpa using hb
    exact m40
   | false =>
    have hp:Y6 ⟨a1,a2,a3,a4⟩=true:=by simpa using hb
    exact m13
  ·have hi2:l.length≤i:=by have hi2:¬(i:Int)<(l.map (Z7 pl)).length:=hi2;rw [hlen] at hi2;omega
   exact m44
 ·exact h.elim
noncomputable def ZvX (n:Nat):Tbl:=[(251,Zad 186 63 Z7 Y6 wRu n)]
theorem ZvY {n:Nat} (ht:TblOK (GG w0 nG) (ZvX n)):PCalls (GG w0 nG) 185 (Zae 186 63 Z7 Y6 wRu n):=by
 refine pc ht Tryz.func185 ?_
 intro args σ K h
 unfold Zae at h
 split at h
 ·obtain ⟨pl,l,rfl,⟨rfl,rfl,hz,hn⟩,h⟩:=h
  refine ⟨Za [],1,false,by simp,Tb rfl,?_⟩
  conv=>whnf
  refine ⟨pl,l,rfl,⟨rfl,rfl,hz,hn⟩,fun r hr=>?_⟩
  conv=>whnf
  refine h _ ?_
  cases hb:l.all Y6 with
  | true=>rw [hb] at hr;have:=hr.2 rfl;simp;omega
  | false=>rw [hb] at hr;have:¬r<0:=fun g=>(by have:=hr.1 g;cases this);simp;omega
 ·exact h.elim
noncomputable def ZvZ (n:Nat):Tbl:=[(185,Zae 186 63 Z7 Y6 wRu n)]
theorem Zv0 {n:Nat} (ht:TblOK (GG w0 nG) (ZvZ n)):PCalls (GG w0 nG) 124 (Wu 63 Z7 Y6 wRu n):=by
 refine pc ht Tryz.func124 ?_
 exact m7
theorem ZzL {n:Nat} (h:PCalls (GG w0 nG) 63 (Xq (Xd Z7) Y6 wRu n)):PCalls (GG w0 nG) 124 (Wu 63 Z7 Y6 wRu n) :=
 Zv0 ⟨⟨ZvY ⟨⟨ZvW ⟨⟨ZvU ⟨⟨h,Zw _ _ _ _⟩,trivial⟩,Xm _ _ _ _ _⟩,trivial⟩,Xn _ _ _ _ _ _⟩,trivial⟩,Xo _ _ _ _ _ _⟩,trivial⟩
noncomputable def Zv1 (n:Nat):Tbl:=[(123,Xq (Xd (fun _=>ZA)) YG wFi n)]
theorem Zv2 {n:Nat} (ht:TblOK (GG w0 nG) (Zv1 n)):PCalls (GG w0 nG) 184 (Zac 123 (Xd (fun _=>ZA)) YG wFi n):=by
 refine pc ht Tryz.func184 ?_
 exact m41
noncomputable def Zv3 (n:Nat):Tbl:=[(184,Zac 123 (Xd (fun _=>ZA)) YG wFi n)]
theorem Zv4 {n:Nat} (ht:TblOK (GG w0 nG) (Zv3 n)):PCalls (GG w0 nG) 250 (Zad 184 123 (fun _=>ZA) YG wFi n):=by
 refine pc ht Tryz.func250 ?_
 intro args σ K h
 unfold Zad at h
 split at h
 ·obtain ⟨pl,l,rfl,⟨rfl,rfl,hz,hn⟩,h⟩:=h
  rename_i t
  have hlen:(l.map ((fun _=>ZA) pl)).length=l.length:=Tf ..
  have hsz:=ZH wFi l
  refine ⟨Za [(2,⟨[8],[0,1,7],fun vs σ=>∃i:Nat,vs=[.d (.int .i64 i)]∧σ=⟨[.cells t [.func 123 [] []]],[],0⟩∧i≤l.length∧l.all YG=(l.drop i).all YG,fun vs _=>match vs with | [.d (.int _ i)]=>((l.length:Int) - i).toNat | _=>0⟩)],1,false,by simp,Tb rfl,?_⟩
  conv=>whnf
  refine ⟨⟨0,rfl,rfl,by omega,rfl⟩,?_⟩
  intro vs σ hI
  obtain ⟨i,rfl,rfl,hi,hs⟩:=hI
  conv=>whnf
  refine ZEb (fun hi2=>?_) (fun hi2=>?_)
  ·have hi2:i<l.length:=by have hi2:(i:Int)<(l.map ((fun _=>ZA) pl)).length:=hi2;rw [hlen] at hi2;omega
   have hg:=ZD wFi l i hi2
   rw [Wn _ hi2] at hs
   obtain ⟨eA,hA⟩:∃e,l[i]=e:=⟨_,rfl⟩
   obtain ⟨a1,a2⟩:=eA
   have hr1:(l.map ((fun _=>ZA) pl))[((i:Nat):Int).toNat]?=some ((fun _=>ZA) pl ⟨a1,a2⟩):=by simp [hi2,hA]
   rw [hA] at hs hg
   conv=>whnf
   refine ⟨_,by omega,hr1,?_⟩
   conv=>whnf
   refine ⟨pl,⟨a1,a2⟩,rfl,⟨rfl,by omega,by omega⟩,fun b hb=>?_⟩
   cases b with
   | true =>
    have hp:YG ⟨a1,a2⟩=false:=by simpa using hb
    exact m40
   | false =>
    have hp:YG ⟨a1,a2⟩=true:=by simpa using hb
    exact m13
  ·have hi2:l.length≤i:=by have hi2:¬(i:Int)<(l.map ((fun _=>ZA) pl)).length:=hi2;rw [hlen] at hi2;omega
   exact m44
 ·exact h.elim
noncomputable def Zv5 (n:Nat):Tbl:=[(250,Zad 184 123 (fun _=>ZA) YG wFi n)]
theorem Zv6 {n:Nat} (ht:TblOK (GG w0 nG) (Zv5 n)):PCalls (GG w0 nG) 183 (Zae 184 123 (fun _=>ZA) YG wFi n):=by
 refine pc ht Tryz.func183 ?_
 intro args σ K h
 unfold Zae at h
 split at h
 ·obtain ⟨pl,l,rfl,⟨rfl,rfl,hz,hn⟩,h⟩:=h
  refine ⟨Za [],1,false,by simp,Tb rfl,?_⟩
  conv=>whnf
  refine ⟨pl,l,rfl,⟨rfl,rfl,hz,hn⟩,fun r hr=>?_⟩
  conv=>whnf
  refine h _ ?_
  cases hb:l.all YG with
  | true=>rw [hb] at hr;have:=hr.2 rfl;simp;omega
  | false=>rw [hb] at hr;have:¬r<0:=fun g=>(by have:=hr.1 g;cases this);simp;omega
 ·exact h.elim
noncomputable def Zv7 (n:Nat):Tbl:=[(183,Zae 184 123 (fun _=>ZA) YG wFi n)]
theorem Zv8 {n:Nat} (ht:TblOK (GG w0 nG) (Zv7 n)):PCalls (GG w0 nG) 122 (Wu 123 (fun _=>ZA) YG wFi n):=by
 refine pc ht Tryz.func122 ?_
 exact m7
theorem ZCA {n:Nat} (h:PCalls (GG w0 nG) 123 (Xq (Xd (fun _=>ZA)) YG wFi n)):PCalls (GG w0 nG) 122 (Wu 123 (fun _=>ZA) YG wFi n) :=
 Zv8 ⟨⟨Zv6 ⟨⟨Zv4 ⟨⟨Zv2 ⟨⟨h,Zw _ _ _ _⟩,trivial⟩,Xm _ _ _ _ _⟩,trivial⟩,Xn _ _ _ _ _ _⟩,trivial⟩,Xo _ _ _ _ _ _⟩,trivial⟩
noncomputable def Zv9 (n:Nat):Tbl:=[(180,Xq (Xd (fun _=>ZI)) Xz wCa n)]
theorem Zwa {n:Nat} (ht:TblOK (GG w0 nG) (Zv9 n)):PCalls (GG w0 nG) 248 (Zac 180 (Xd (fun _=>ZI)) Xz wCa n):=by
 refine pc ht Tryz.func248 ?_
 exact m41
noncomputable def Zwb (n:Nat):Tbl:=[(248,Zac 180 (Xd (fun _=>ZI)) Xz wCa n)]
theorem Zwc {n:Nat} (ht:TblOK (GG w0 nG) (Zwb n)):PCalls (GG w0 nG) 298 (Zad 248 180 (fun _=>ZI) Xz wCa n):=by
 refine pc ht Tryz.func298 ?_
 intro args σ K h
 unfold Zad at h
 split at h
 ·obtain ⟨pl,l,rfl,⟨rfl,rfl,hz,hn⟩,h⟩:=h
  rename_i t
  have hlen:(l.map ((fun _=>ZI) pl)).length=l.length:=Tf ..
  have hsz:=ZH wCa l
  refine ⟨Za [(2,⟨[8],[0,1,7],fun vs σ=>∃i:Nat,vs=[.d (.int .i64 i)]∧σ=⟨[.cells t [.func 180 [] []]],[],0⟩∧i≤l.length∧l.all Xz=(l.drop i).all Xz,fun vs _=>match vs with | [.d (.int _ i)]=>((l.length:Int) - i).toNat | _=>0⟩)],1,false,by simp,Tb rfl,?_⟩
  conv=>whnf
  refine ⟨⟨0,rfl,rfl,by omega,rfl⟩,?_⟩
  intro vs σ hI
  obtain ⟨i,rfl,rfl,hi,hs⟩:=hI
  conv=>whnf
  refine ZEb (fun hi2=>?_) (fun hi2=>?_)
  ·have hi2:i<l.length:=by have hi2:(i:Int)<(l.map ((fun _=>ZI) pl)).length:=hi2;rw [hlen] at hi2;omega
   have hg:=ZD wCa l i hi2
   rw [Wn _ hi2] at hs
   obtain ⟨eA,hA⟩:∃e,l[i]=e:=⟨_,rfl⟩
   obtain ⟨a1,a2⟩:=eA
   have hr1:(l.map ((fun _=>ZI) pl))[((i:Nat):Int).toNat]?=some ((fun _=>ZI) pl ⟨a1,a2⟩):=by simp [hi2,hA]
   rw [hA] at hs hg
   conv=>whnf
   refine ⟨_,by omega,hr1,?_⟩
   conv=>whnf
   refine ⟨pl,⟨a1,a2⟩,rfl,⟨rfl,by omega,by omega⟩,fun b hb=>?_⟩
   cases b with
   | true =>
    have hp:Xz ⟨a1,a2⟩=false:=by simpa using hb
    exact m40
   | false =>
    have hp:Xz ⟨a1,a2⟩=true:=by simpa using hb
    exact m13
  ·have hi2:l.length≤i:=by have hi2:¬(i:Int)<(l.map ((fun _=>ZI) pl)).length:=hi2;rw [hlen] at hi2;omega
   exact m44
 ·exact h.elim
noncomputable def Zwd (n:Nat):Tbl:=[(298,Zad 248 180 (fun _=>ZI) Xz wCa n)]
theorem Zwe {n:Nat} (ht:TblOK (GG w0 nG) (Zwd n)):PCalls (GG w0 nG) 247 (Zae 248 180 (fun _=>ZI) Xz wCa n):=by
 refine pc ht Tryz.func247 ?_
 intro args σ K h
 unfold Zae at h
 split at h
 ·obtain ⟨pl,l,rfl,⟨rfl,rfl,hz,hn⟩,h⟩:=h
  refine ⟨Za [],1,false,by simp,Tb rfl,?_⟩
  conv=>whnf
  refine ⟨pl,l,rfl,⟨rfl,rfl,hz,hn⟩,fun r hr=>?_⟩
  conv=>whnf
  refine h _ ?_
  cases hb:l.all Xz with
  | true=>rw [hb] at hr;have:=hr.2 rfl;simp;omega
  | false=>rw [hb] at hr;have:¬r<0:=fun g=>(by have:=hr.1 g;cases this);simp;omega
 ·exact h.elim
noncomputable def Zwf (n:Nat):Tbl:=[(247,Zae 248 180 (fun _=>ZI) Xz wCa n)]
theorem Zwg {n:Nat} (ht:TblOK (GG w0 nG) (Zwf n)):PCalls (GG w0 nG) 179 (Wu 180 (fun _=>ZI) Xz wCa n):=by
 refine pc ht Tryz.func179 ?_
 exact m7
theorem ZCB {n:Nat} (h:PCalls (GG w0 nG) 180 (Xq (Xd (fun _=>ZI)) Xz wCa n)):PCalls (GG w0 nG) 179 (Wu 180 (fun _=>ZI) Xz wCa n) :=
 Zwg ⟨⟨Zwe ⟨⟨Zwc ⟨⟨Zwa ⟨⟨h,Zw _ _ _ _⟩,trivial⟩,Xm _ _ _ _ _⟩,trivial⟩,Xn _ _ _ _ _ _⟩,trivial⟩,Xo _ _ _ _ _ _⟩,trivial⟩
noncomputable def Zwh (n:Nat):Tbl:=[(119,Xq (Xd Ya) Ym wTy n)]
theorem Zwi {n:Nat} (ht:TblOK (GG w0 nG) (Zwh n)):PCalls (GG w0 nG) 178 (Zac 119 (Xd Ya) Ym wTy n):=by
 refine pc ht Tryz.func178 ?_
 exact m60
noncomputable def Zwj (n:Nat):Tbl:=[(178,Zac 119 (Xd Ya) Ym wTy n)]
theorem Zwk {n:Nat} (ht:TblOK (GG w0 nG) (Zwj n)):PCalls (GG w0 nG) 246 (Zad 178 119 Ya Ym wTy n):=by
 refine pc ht Tryz.func246 ?_
 intro args σ K h
 unfold Zad at h
 split at h
 ·obtain ⟨pl,l,rfl,⟨rfl,rfl,hz,hn⟩,h⟩:=h
  rename_i t
  have hlen:(l.map (Ya pl)).length=l.length:=Tf ..
  have hsz:=ZH wTy l
  refine ⟨Za [(2,⟨[8],[0,1,7],fun vs σ=>∃i:Nat,vs=[.d (.int .i64 i)]∧σ=⟨[.cells t [.func 119 [] []]],[],0⟩∧i≤l.length∧l.all Ym=(l.drop i).all Ym,fun vs _=>match vs with | [.d (.int _ i)]=>((l.length:Int) - i).toNat | _=>0⟩)],1,false,by simp,Tb rfl,?_⟩
  conv=>whnf
  refine ⟨⟨0,rfl,rfl,by omega,rfl⟩,?_⟩
  intro vs σ hI
  obtain ⟨i,rfl,rfl,hi,hs⟩:=hI
  conv=>whnf
  refine ZEb (fun hi2=>?_) (fun hi2=>?_)
  ·have hi2:i<l.length:=by have hi2:(i:Int)<(l.map (Ya pl)).length:=hi2;rw [hlen] at hi2;omega
   have hg:=ZD wTy l i hi2
   rw [Wn _ hi2] at hs
   obtain ⟨eA,hA⟩:∃e,l[i]=e:=⟨_,rfl⟩
   obtain ⟨a1,a2,a3,a4,a5,a6⟩:=eA
   have hr1:(l.map (Ya pl))[((i:Nat):Int).toNat]?=some (Ya pl ⟨a1,a2,a3,a4,a5,a6⟩):=by simp [hi2,hA]
   rw [hA] at hs hg
   conv=>whnf
   refine ⟨_,by omega,hr1,?_⟩
   conv=>whnf
   refine ⟨pl,⟨a1,a2,a3,a4,a5,a6⟩,rfl,⟨rfl,by omega,by omega⟩,fun b hb=>?_⟩
   cases b with
   | true =>
    have hp:Ym ⟨a1,a2,a3,a4,a5,a6⟩=false:=by simpa using hb
    exact m40
   | false =>
    have hp:Ym ⟨a1,a2,a3,a4,a5,a6⟩=true:=by simpa using hb
    exact m13
  ·have hi2:l.length≤i:=by have hi2:¬(i:Int)<(l.map (Ya pl)).length:=hi2;rw [hlen] at hi2;omega
   exact m44
 ·exact h.elim
noncomputable def Zwl (n:Nat):Tbl:=[(246,Zad 178 119 Ya Ym wTy n)]
theorem Zwm {n:Nat} (ht:TblOK (GG w0 nG) (Zwl n)):PCalls (GG w0 nG) 177 (Zae 178 119 Ya Ym wTy n):=by
 refine pc ht Tryz.func177 ?_
 intro args σ K h
 unfold Zae at h
 split at h
 ·obtain ⟨pl,l,rfl,⟨rfl,rfl,hz,hn⟩,h⟩:=h
  refine ⟨Za [],1,false,by simp,Tb rfl,?_⟩
  conv=>whnf
  refine ⟨pl,l,rfl,⟨rfl,rfl,hz,hn⟩,fun r hr=>?_⟩
  conv=>whnf
  refine h _ ?_
  cases hb:l.all Ym with
  | true=>rw [hb] at hr;have:=hr.2 rfl;simp;omega
  | false=>rw [hb] at hr;have:¬r<0:=fun g=>(by have:=hr.1 g;cases this);simp;omega
 ·exact h.elim
noncomputable def Zwn (n:Nat):Tbl:=[(177,Zae 178 119 Ya Ym wTy n)]
theorem Zwo {n:Nat} (ht:TblOK (GG w0 nG) (Zwn n)):PCalls (GG w0 nG) 118 (Wu 119 Ya Ym wTy n):=by
 refine pc ht Tryz.func118 ?_
 exact m7
theorem ZzM {n:Nat} (h:PCalls (GG w0 nG) 119 (Xq (Xd Ya) Ym wTy n)):PCalls (GG w0 nG) 118 (Wu 119 Ya Ym wTy n) :=
 Zwo ⟨⟨Zwm ⟨⟨Zwk ⟨⟨Zwi ⟨⟨h,Zw _ _ _ _⟩,trivial⟩,Xm _ _ _ _ _⟩,trivial⟩,Xn _ _ _ _ _ _⟩,trivial⟩,Xo _ _ _ _ _ _⟩,trivial⟩
noncomputable def Zwp (n:Nat):Tbl:=[(121,Xq (Xd Z8) XN wRe n)]
theorem Zwq {n:Nat} (ht:TblOK (GG w0 nG) (Zwp n)):PCalls (GG w0 nG) 182 (Zac 121 (Xd Z8) XN wRe n):=by
 refine pc ht Tryz.func182 ?_
 exact m60
noncomputable def Zwr (n:Nat):Tbl:=[(182,Zac 121 (Xd Z8) XN wRe n)]
theorem Zws {n:Nat} (ht:TblOK (GG w0 nG) (Zwr n)):PCalls (GG w0 nG) 249 (Zad 182 121 Z8 XN wRe n):=by
 refine pc ht Tryz.func249 ?_
 intro args σ K h
 unfold Zad at h
 split at h
 ·obtain ⟨pl,l,rfl,⟨rfl,rfl,hz,hn⟩,h⟩:=h
  rename_i t
  have hlen:(l.map (Z8 pl)).length=l.length:=Tf ..
  have hsz:=ZH wRe l
  refine ⟨Za [(2,⟨[8],[0,1,7],fun vs σ=>∃i:Nat,vs=[.d (.int .i64 i)]∧σ=⟨[.cells t [.func 121 [] []]],[],0⟩∧i≤l.length∧l.all XN=(l.drop i).all XN,fun vs _=>match vs with | [.d (.int _ i)]=>((l.length:Int) - i).toNat | _=>0⟩)],1,false,by simp,Tb rfl,?_⟩
  conv=>whnf
  refine ⟨⟨0,rfl,rfl,by omega,rfl⟩,?_⟩
  intro vs σ hI
  obtain ⟨i,rfl,rfl,hi,hs⟩:=hI
  conv=>whnf
  refine ZEb (fun hi2=>?_) (fun hi2=>?_)
  ·have hi2:i<l.length:=by have hi2:(i:Int)<(l.map (Z8 pl)).length:=hi2;rw [hlen] at hi2;omega
   have hg:=ZD wRe l i hi2
   rw [Wn _ hi2] at hs
   obtain ⟨eA,hA⟩:∃e,l[i]=e:=⟨_,rfl⟩
   obtain ⟨a1,a2,a3,a4,a5,a6⟩:=eA
   have hr1:(l.map (Z8 pl))[((i:Nat):Int).toNat]?=some (Z8 pl ⟨a1,a2,a3,a4,a5,a6⟩):=by simp [hi2,hA]
   rw [hA] at hs hg
   conv=>whnf
   refine ⟨_,by omega,hr1,?_⟩
   conv=>whnf
   refine ⟨pl,⟨a1,a2,a3,a4,a5,a6⟩,rfl,⟨rfl,by omega,by omega⟩,fun b hb=>?_⟩
   cases b with
   | true =>
    have hp:XN ⟨a1,a2,a3,a4,a5,a6⟩=false:=by simpa using hb
    exact m40
   | false =>
    have hp:XN ⟨a1,a2,a3,a4,a5,a6⟩=true:=by simpa using hb
    exact m13
  ·have hi2:l.length≤i:=by have hi2:¬(i:Int)<(l.map (Z8 pl)).length:=hi2;rw [hlen] at hi2;omega
   exact m44
 ·exact h.elim
noncomputable def Zwt (n:Nat):Tbl:=[(249,Zad 182 121 Z8 XN wRe n)]
theorem Zwu {n:Nat} (ht:TblOK (GG w0 nG) (Zwt n)):PCalls (GG w0 nG) 181 (Zae 182 121 Z8 XN wRe n):=by
 refine pc ht Tryz.func181 ?_
 intro args σ K h
 unfold Zae at h
 split at h
 ·obtain ⟨pl,l,rfl,⟨rfl,rfl,hz,hn⟩,h⟩:=h
  refine ⟨Za [],1,false,by simp,Tb rfl,?_⟩
  conv=>whnf
  refine ⟨pl,l,rfl,⟨rfl,rfl,hz,hn⟩,fun r hr=>?_⟩
  conv=>whnf
  refine h _ ?_
  cases hb:l.all XN with
  | true=>rw [hb] at hr;have:=hr.2 rfl;simp;omega
  | false=>rw [hb] at hr;have:¬r<0:=fun g=>(by have:=hr.1 g;cases this);simp;omega
 ·exact h.elim
noncomputable def Zwv (n:Nat):Tbl:=[(181,Zae 182 121 Z8 XN wRe n)]
theorem Zww {n:Nat} (ht:TblOK (GG w0 nG) (Zwv n)):PCalls (GG w0 nG) 120 (Wu 121 Z8 XN wRe n):=by
 refine pc ht Tryz.func120 ?_
 exact m7
theorem ZzN {n:Nat} (h:PCalls (GG w0 nG) 121 (Xq (Xd Z8) XN wRe n)):PCalls (GG w0 nG) 120 (Wu 121 Z8 XN wRe n) :=
 Zww ⟨⟨Zwu ⟨⟨Zws ⟨⟨Zwq ⟨⟨h,Zw _ _ _ _⟩,trivial⟩,Xm _ _ _ _ _⟩,trivial⟩,Xn _ _ _ _ _ _⟩,trivial⟩,Xo _ _ _ _ _ _⟩,trivial⟩
noncomputable def Zwx (n:Nat):Tbl:=[(126,Xq (Xd ZY) Yc wCo n)]
theorem Zwy {n:Nat} (ht:TblOK (GG w0 nG) (Zwx n)):PCalls (GG w0 nG) 188 (Zac 126 (Xd ZY) Yc wCo n):=by
 refine pc ht Tryz.func188 ?_
 intro args σ K h
 unfold Zac at h
 split at h
 ·obtain ⟨pl,⟨a1,a2,a3,a4,⟨u1,u2,u3,u4,u5,u6⟩,a6⟩,rfl,⟨rfl,hz,hn⟩,h⟩:=h
  refine ⟨Za [],1,false,by simp,Tb rfl,?_⟩
  conv=>whnf
  refine ⟨pl,(.mk a1 a2 a3 a4 (.mk u1 u2 u3 u4 u5 u6) a6),rfl,⟨hz,hn⟩,fun b hb=>?_⟩
  exact m187
 ·exact h.elim
noncomputable def Zwz (n:Nat):Tbl:=[(188,Zac 126 (Xd ZY) Yc wCo n)]
theorem ZwA {n:Nat} (ht:TblOK (GG w0 nG) (Zwz n)):PCalls (GG w0 nG) 252 (Zad 188 126 ZY Yc wCo n):=by
 refine pc ht Tryz.func252 ?_
 intro args σ K h
 unfold Zad at h
 split at h
 ·obtain ⟨pl,l,rfl,⟨rfl,rfl,hz,hn⟩,h⟩:=h
  rename_i t
  have hlen:(l.map (ZY pl)).length=l.length:=Tf ..
  have hsz:=ZH wCo l
  refine ⟨Za [(2,⟨[8],[0,1,7],fun vs σ=>∃i:Nat,vs=[.d (.int .i64 i)]∧σ=⟨[.cells t [.func 126 [] []]],[],0⟩∧i≤l.length∧l.all Yc=(l.drop i).all Yc,fun vs _=>match vs with | [.d (.int _ i)]=>((l.length:Int) - i).toNat | _=>0⟩)],1,false,by simp,Tb rfl,?_⟩
  conv=>whnf
  refine ⟨⟨0,rfl,rfl,by omega,rfl⟩,?_⟩
  intro vs σ hI
  obtain ⟨i,rfl,rfl,hi,hs⟩:=hI
  conv=>whnf
  refine ZEb (fun hi2=>?_) (fun hi2=>?_)
  ·have hi2:i<l.length:=by have hi2:(i:Int)<(l.map (ZY pl)).length:=hi2;rw [hlen] at hi2;omega
   have hg:=ZD wCo l i hi2
   rw [Wn _ hi2] at hs
   obtain ⟨eA,hA⟩:∃e,l[i]=e:=⟨_,rfl⟩
   obtain ⟨a1,a2,a3,a4,⟨u1,u2,u3,u4,u5,u6⟩,a6⟩:=eA
   have hr1:(l.map (ZY pl))[((i:Nat):Int).toNat]?=some (ZY pl (.mk a1 a2 a3 a4 (.mk u1 u2 u3 u4 u5 u6) a6)):=by simp [hi2,hA]
   rw [hA] at hs hg
   conv=>whnf
   refine ⟨_,by omega,hr1,?_⟩
   conv=>whnf
   refine ⟨pl,(.mk a1 a2 a3 a4 (.mk u1 u2 u3 u4 u5 u6) a6),rfl,⟨rfl,by omega,by omega⟩,fun b hb=>?_⟩
   cases b with
   | true =>
    have hp:Yc (.mk a1 a2 a3 a4 (.mk u1 u2 u3 u4 u5 u6) a6)=false:=by simpa using hb
    exact m40
   | false =>
    have hp:Yc (.mk a1 a2 a3 a4 (.mk u1 u2 u3 u4 u5 u6) a6)=true:=by simpa using hb
    exact m13
  ·have hi2:l.length≤i:=by have hi2:¬(i:Int)<(l.map (ZY pl)).length:=hi2;rw [hlen] at hi2;omega
   exact m44
 ·exact h.elim
noncomputable def ZwB (n:Nat):Tbl:=[(252,Zad 188 126 ZY Yc wCo n)]
theorem ZwC {n:Nat} (ht:TblOK (GG w0 nG) (ZwB n)):PCalls (GG w0 nG) 187 (Zae 188 126 ZY Yc wCo n):=by
 refine pc ht Tryz.func187 ?_
 intro args σ K h
 unfold Zae at h
 split at h
 ·obtain ⟨pl,l,rfl,⟨rfl,rfl,hz,hn⟩,h⟩:=h
  refine ⟨Za [],1,false,by simp,Tb rfl,?_⟩
  conv=>whnf
  refine ⟨pl,l,rfl,⟨rfl,rfl,hz,hn⟩,fun r hr=>?_⟩
  conv=>whnf
  refine h _ ?_
  cases hb:l.all Yc with
  | true=>rw [hb] at hr;have:=hr.2 rfl;simp;omega
  | false=>rw [hb] at hr;have:¬r<0:=fun g=>(by have:=hr.1 g;cases this);simp;omega
 ·exact h.elim
noncomputable def ZwD (n:Nat):Tbl:=[(187,Zae 188 126 ZY Yc wCo n)]
theorem ZwE {n:Nat} (ht:TblOK (GG w0 nG) (ZwD n)):PCalls (GG w0 nG) 125 (Wu 126 ZY Yc wCo n):=by
 refine pc ht Tryz.func125 ?_
 exact m7
theorem ZCC {n:Nat} (h:PCalls (GG w0 nG) 126 (Xq (Xd ZY) Yc wCo n)):PCalls (GG w0 nG) 125 (Wu 126 ZY Yc wCo n) :=
 ZwE ⟨⟨ZwC ⟨⟨ZwA ⟨⟨Zwy ⟨⟨h,Zw _ _ _ _⟩,trivial⟩,Xm _ _ _ _ _⟩,trivial⟩,Xn _ _ _ _ _ _⟩,trivial⟩,Xo _ _ _ _ _ _⟩,trivial⟩
noncomputable def ZwF (n:Nat):Tbl:=[(129,Xq (Xd Yd) XX wIn n)]
theorem ZwG {n:Nat} (ht:TblOK (GG w0 nG) (ZwF n)):PCalls (GG w0 nG) 192 (Zac 129 (Xd Yd) XX wIn n):=by
 refine pc ht Tryz.func192 ?_
 exact m63
noncomputable def ZwH (n:Nat):Tbl:=[(192,Zac 129 (Xd Yd) XX wIn n)]
theorem ZwI {n:Nat} (ht:TblOK (GG w0 nG) (ZwH n)):PCalls (GG w0 nG) 254 (Zad 192 129 Yd XX wIn n):=by
 refine pc ht Tryz.func254 ?_
 intro args σ K h
 unfold Zad at h
 split at h
 ·obtain ⟨pl,l,rfl,⟨rfl,rfl,hz,hn⟩,h⟩:=h
  rename_i t
  have hlen:(l.map (Yd pl)).length=l.length:=Tf ..
  have hsz:=ZH wIn l
  refine ⟨Za [(2,⟨[8],[0,1,7],fun vs σ=>∃i:Nat,vs=[.d (.int .i64 i)]∧σ=⟨[.cells t [.func 129 [] []]],[],0⟩∧i≤l.length∧l.all XX=(l.drop i).all XX,fun vs _=>match vs with | [.d (.int _ i)]=>((l.length:Int) - i).toNat | _=>0⟩)],1,false,by simp,Tb rfl,?_⟩
  conv=>whnf
  refine ⟨⟨0,rfl,rfl,by omega,rfl⟩,?_⟩
  intro vs σ hI
  obtain ⟨i,rfl,rfl,hi,hs⟩:=hI
  conv=>whnf
  refine ZEb (fun hi2=>?_) (fun hi2=>?_)
  ·have hi2:i<l.length:=by have hi2:(i:Int)<(l.map (Yd pl)).length:=hi2;rw [hlen] at hi2;omega
   have hg:=ZD wIn l i hi2
   rw [Wn _ hi2] at hs
   obtain ⟨eA,hA⟩:∃e,l[i]=e:=⟨_,rfl⟩
   obtain ⟨a1,a2,a3,a4⟩:=eA
   have hr1:(l.map (Yd pl))[((i:Nat):Int).toNat]?=some (Yd pl ⟨a1,a2,a3,a4⟩):=by simp [hi2,hA]
   rw [hA] at hs hg
   conv=>whnf
   refine ⟨_,by omega,hr1,?_⟩
   conv=>whnf
   refine ⟨pl,⟨a1,a2,a3,a4⟩,rfl,⟨rfl,by omega,by omega⟩,fun b hb=>?_⟩
   cases b with
   | true =>
    have hp:XX ⟨a1,a2,a3,a4⟩=false:=by simpa using hb
    exact m40
   | false =>
    have hp:XX ⟨a1,a2,a3,a4⟩=true:=by simpa using hb
    exact m13
  ·have hi2:l.length≤i:=by have hi2:¬(i:Int)<(l.map (Yd pl)).length:=hi2;rw [hlen] at hi2;omega
   exact m44
 ·exact h.elim
noncomputable def ZwJ (n:Nat):Tbl:=[(254,Zad 192 129 Yd XX wIn n)]
theorem ZwK {n:Nat} (ht:TblOK (GG w0 nG) (ZwJ n)):PCalls (GG w0 nG) 191 (Zae 192 129 Yd XX wIn n):=by
 refine pc ht Tryz.func191 ?_
 intro args σ K h
 unfold Zae at h
 split at h
 ·obtain ⟨pl,l,rfl,⟨rfl,rfl,hz,hn⟩,h⟩:=h
  refine ⟨Za [],1,false,by simp,Tb rfl,?_⟩
  conv=>whnf
  refine ⟨pl,l,rfl,⟨rfl,rfl,hz,hn⟩,fun r hr=>?_⟩
  conv=>whnf
  refine h _ ?_
  cases hb:l.all XX with
  | true=>rw [hb] at hr;have:=hr.2 rfl;simp;omega
  | false=>rw [hb] at hr;have:¬r<0:=fun g=>(by have:=hr.1 g;cases this);simp;omega
 ·exact h.elim
noncomputable def ZwL (n:Nat):Tbl:=[(191,Zae 192 129 Yd XX wIn n)]
theorem ZwM {n:Nat} (ht:TblOK (GG w0 nG) (ZwL n)):PCalls (GG w0 nG) 128 (Wu 129 Yd XX wIn n):=by
 refine pc ht Tryz.func128 ?_
 exact m7
theorem ZzO {n:Nat} (h:PCalls (GG w0 nG) 129 (Xq (Xd Yd) XX wIn n)):PCalls (GG w0 nG) 128 (Wu 129 Yd XX wIn n) :=
 ZwM ⟨⟨ZwK ⟨⟨ZwI ⟨⟨ZwG ⟨⟨h,Zw _ _ _ _⟩,trivial⟩,Xm _ _ _ _ _⟩,trivial⟩,Xn _ _ _ _ _ _⟩,trivial⟩,Xo _ _ _ _ _ _⟩,trivial⟩
noncomputable def ZwN (n:Nat):Tbl:=[(131,Xq (Xd Ye) W4 wOv n)]
theorem ZwO {n:Nat} (ht:TblOK (GG w0 nG) (ZwN n)):PCalls (GG w0 nG) 194 (Zac 131 (Xd Ye) W4 wOv n):=by
 refine pc ht Tryz.func194 ?_
 exact m41
noncomputable def ZwP (n:Nat):Tbl:=[(194,Zac 131 (Xd Ye) W4 wOv n)]
theorem ZwQ {n:Nat} (ht:TblOK (GG w0 nG) (ZwP n)):PCalls (GG w0 nG) 255 (Zad 194 131 Ye W4 wOv n):=by
 refine pc ht Tryz.func255 ?_
 intro args σ K h
 unfold Zad at h
 split at h
 ·obtain ⟨pl,l,rfl,⟨rfl,rfl,hz,hn⟩,h⟩:=h
  rename_i t
  have hlen:(l.map (Ye pl)).length=l.length:=Tf ..
  have hsz:=ZH wOv l
  refine ⟨Za [(2,⟨[8],[0,1,7],fun vs σ=>∃i:Nat,vs=[.d (.int .i64 i)]∧σ=⟨[.cells t [.func 131 [] []]],[],0⟩∧i≤l.length∧l.all W4=(l.drop i).all W4,fun vs _=>match vs with | [.d (.int _ i)]=>((l.length:Int) - i).toNat | _=>0⟩)],1,false,by simp,Tb rfl,?_⟩
  conv=>whnf
  refine ⟨⟨0,rfl,rfl,by omega,rfl⟩,?_⟩
  intro vs σ hI
  obtain ⟨i,rfl,rfl,hi,hs⟩:=hI
  conv=>whnf
  refine ZEb (fun hi2=>?_) (fun hi2=>?_)
  ·have hi2:i<l.length:=by have hi2:(i:Int)<(l.map (Ye pl)).length:=hi2;rw [hlen] at hi2;omega
   have hg:=ZD wOv l i hi2
   rw [Wn _ hi2] at hs
   obtain ⟨eA,hA⟩:∃e,l[i]=e:=⟨_,rfl⟩
   obtain ⟨a1,a2⟩:=eA
   have hr1:(l.map (Ye pl))[((i:Nat):Int).toNat]?=some (Ye pl ⟨a1,a2⟩):=by simp [hi2,hA]
   rw [hA] at hs hg
   conv=>whnf
   refine ⟨_,by omega,hr1,?_⟩
   conv=>whnf
   refine ⟨pl,⟨a1,a2⟩,rfl,⟨rfl,by omega,by omega⟩,fun b hb=>?_⟩
   cases b with
   | true =>
    have hp:W4 ⟨a1,a2⟩=false:=by simpa using hb
    exact m40
   | false =>
    have hp:W4 ⟨a1,a2⟩=true:=by simpa using hb
    exact m13
  ·have hi2:l.length≤i:=by have hi2:¬(i:Int)<(l.map (Ye pl)).length:=hi2;rw [hlen] at hi2;omega
   exact m44
 ·exact h.elim
noncomputable def ZwR (n:Nat):Tbl:=[(255,Zad 194 131 Ye W4 wOv n)]
theorem ZwS {n:Nat} (ht:TblOK (GG w0 nG) (ZwR n)):PCalls (GG w0 nG) 193 (Zae 194 131 Ye W4 wOv n):=by
 refine pc ht Tryz.func193 ?_
 intro args σ K h
 unfold Zae at h
 split at h
 ·obtain ⟨pl,l,rfl,⟨rfl,rfl,hz,hn⟩,h⟩:=h
  refine ⟨Za [],1,false,by simp,Tb rfl,?_⟩
  conv=>whnf
  refine ⟨pl,l,rfl,⟨rfl,rfl,hz,hn⟩,fun r hr=>?_⟩
  conv=>whnf
  refine h _ ?_
  cases hb:l.all W4 with
  | true=>rw [hb] at hr;have:=hr.2 rfl;simp;omega
  | false=>rw [hb] at hr;have:¬r<0:=fun g=>(by have:=hr.1 g;cases this);simp;omega
 ·exact h.elim
noncomputable def ZwT (n:Nat):Tbl:=[(193,Zae 194 131 Ye W4 wOv n)]
theorem ZwU {n:Nat} (ht:TblOK (GG w0 nG) (ZwT n)):PCalls (GG w0 nG) 130 (Wu 131 Ye W4 wOv n):=by
 refine pc ht Tryz.func130 ?_
 exact m7
theorem ZzP {n:Nat} (h:PCalls (GG w0 nG) 131 (Xq (Xd Ye) W4 wOv n)):PCalls (GG w0 nG) 130 (Wu 131 Ye W4 wOv n) :=
 ZwU ⟨⟨ZwS ⟨⟨ZwQ ⟨⟨ZwO ⟨⟨h,Zw _ _ _ _⟩,trivial⟩,Xm _ _ _ _ _⟩,trivial⟩,Xn _ _ _ _ _ _⟩,trivial⟩,Xo _ _ _ _ _ _⟩,trivial⟩
noncomputable def ZwV (n:Nat):Tbl:=[(72,Xq Zj1 Yk wBs n)]
theorem ZwW {n:Nat} (ht:TblOK (GG w0 nG) (ZwV n)):PCalls (GG w0 nG) 190 (Zac 72 Zj1 Yk wBs n):=by
 refine pc ht Tryz.func190 ?_
 intro args σ K h
 unfold Zac at h
 split at h
 ·obtain ⟨pl,x,rfl,⟨rfl,hz,hn⟩,h⟩:=h
  refine ⟨Za [],1,false,by simp,Tb rfl,?_⟩
  conv=>whnf
  refine ⟨pl,x,rfl,⟨hz,hn⟩,fun b hb=>?_⟩
  exact m187
 ·exact h.elim
noncomputable def ZwX (n:Nat):Tbl:=[(190,Zac 72 Zj1 Yk wBs n)]
theorem ZwY {n:Nat} (ht:TblOK (GG w0 nG) (ZwX n)):PCalls (GG w0 nG) 253 (Zad 190 72 (fun _=>ZC) Yk wBs n):=by
 refine pc ht Tryz.func253 ?_
 intro args σ K h
 unfold Zad at h
 split at h
 ·obtain ⟨pl,l,rfl,⟨rfl,rfl,hz,hn⟩,h⟩:=h
  rename_i t
  have hlen:(l.map ((fun _=>ZC) pl)).length=l.length:=Tf ..
  have hsz:=ZH wBs l
  refine ⟨Za [(2,⟨[8],[0,1,7],fun vs σ=>∃i:Nat,vs=[.d (.int .i64 i)]∧σ=⟨[.cells t [.func 72 [] []]],[],0⟩∧i≤l.length∧l.all Yk=(l.drop i).all Yk,fun vs _=>match vs with | [.d (.int _ i)]=>((l.length:Int) - i).toNat | _=>0⟩)],1,false,by simp,Tb rfl,?_⟩
  conv=>whnf
  refine ⟨⟨0,rfl,rfl,by omega,rfl⟩,?_⟩
  intro vs σ hI
  obtain ⟨i,rfl,rfl,hi,hs⟩:=hI
  conv=>whnf
  refine ZEb (fun hi2=>?_) (fun hi2=>?_)
  ·have hi2:i<l.length:=by have hi2:(i:Int)<(l.map ((fun _=>ZC) pl)).length:=hi2;rw [hlen] at hi2;omega
   have hg:=ZD wBs l i hi2
   rw [Wn _ hi2] at hs
   obtain ⟨eA,hA⟩:∃e,l[i]=e:=⟨_,rfl⟩
   have hr1:(l.map ((fun _=>ZC) pl))[((i:Nat):Int).toNat]?=some ((fun _=>ZC) pl eA):=by simp [hi2,hA]
   rw [hA] at hs hg
   conv=>whnf
   refine ⟨_,by omega,hr1,?_⟩
   conv=>whnf
   refine ⟨pl,eA,rfl,⟨rfl,by omega,by omega⟩,fun b hb=>?_⟩
   cases b with
   | true =>
    have hp:Yk eA=false:=by simpa using hb
    exact m40
   | false =>
    have hp:Yk eA=true:=by simpa using hb
    exact m13
  ·have hi2:l.length≤i:=by have hi2:¬(i:Int)<(l.map ((fun _=>ZC) pl)).length:=hi2;rw [hlen] at hi2;omega
   exact m44
 ·exact h.elim
noncomputable def ZwZ (n:Nat):Tbl:=[(253,Zad 190 72 (fun _=>ZC) Yk wBs n)]
theorem Zw0 {n:Nat} (ht:TblOK (GG w0 nG) (ZwZ n)):PCalls (GG w0 nG) 189 (Zae 190 72 (fun _=>ZC) Yk wBs n):=by
 refine pc ht Tryz.func189 ?_
 intro args σ K h
 unfold Zae at h
 split at h
 ·obtain ⟨pl,l,rfl,⟨rfl,rfl,hz,hn⟩,h⟩:=h
  refine ⟨Za [],1,false,by simp,Tb rfl,?_⟩
  conv=>whnf
  refine ⟨pl,l,rfl,⟨rfl,rfl,hz,hn⟩,fun r hr=>?_⟩
  conv=>whnf
  refine h _ ?_
  cases hb:l.all Yk with
  | true=>rw [hb] at hr;have:=hr.2 rfl;simp;omega
  | false=>rw [hb] at hr;have:¬r<0:=fun g=>(by have:=hr.1 g;cases this);simp;omega
 ·exact h.elim
noncomputable def Zw1 (n:Nat):Tbl:=[(189,Zae 190 72 (fun _=>ZC) Yk wBs n)]
theorem Zw2 {n:Nat} (ht:TblOK (GG w0 nG) (Zw1 n)):PCalls (GG w0 nG) 127 (Wu 72 (fun _=>ZC) Yk wBs n):=by
 refine pc ht Tryz.func127 ?_
 exact m7
theorem ZCD {n:Nat} (h:PCalls (GG w0 nG) 72 (Xq Zj1 Yk wBs n)):PCalls (GG w0 nG) 127 (Wu 72 (fun _=>ZC) Yk wBs n) :=
 Zw2 ⟨⟨Zw0 ⟨⟨ZwY ⟨⟨ZwW ⟨⟨h,Zw _ _ _ _⟩,trivial⟩,Xm _ _ _ _ _⟩,trivial⟩,Xn _ _ _ _ _ _⟩,trivial⟩,Xo _ _ _ _ _ _⟩,trivial⟩
end Go.PM.Lex
end

section
namespace Go.PM.Lex
open Go.Proofs
variable {w0:World} {nG:Nat}
noncomputable def ZyC:Zz:=fun args σ K=>match args,σ with
 | [.d (.int .u8 op)],⟨[],[],0⟩=>∃o:Nat,op=o∧∀l w a,(Zl o:Int)=l→ZE o=w→Z2 o=a→K (.ret (.agg [.d (.int .i64 l),.d (.str w),.d (.int .i64 a)])) ⟨[],[],0⟩
 | _,_=>False
theorem Zch:Zc ZyC:=fun args σ K K' hK h=>by
 unfold ZyC at h ⊢
 split at h
 ·obtain ⟨o,h1,h2⟩:=h;exact ⟨o,h1,fun l w a e1 e2 e3=>hK _ _ (h2 l w a e1 e2 e3)⟩
 ·exact h.elim
theorem ZsE:PCalls (GG w0 nG) 71 ZyC:=by
 refine pc (tbl:=[]) trivial Tryz.func71 ?_
 intro args σ K h
 unfold ZyC at h
 split at h
 ·obtain ⟨o,rfl,h⟩:=h
  refine ⟨Za [],0,false,by simp,Tb rfl,?_⟩
  repeat' ((conv=>whnf);refine ZEb (fun hc=>?_) (fun hc=>?_))
  all_goals (conv=>whnf)
  all_goals first
  | (have e : o = 16 := by omega
     subst e;exact h _ _ _ rfl rfl rfl)
  | (have e : o = 17 := by omega
     subst e;exact h _ _ _ rfl rfl rfl)
  | (have e : o = 15 := by omega
     subst e;exact h _ _ _ rfl rfl rfl)
  | (have e : o = 18 := by omega
     subst e;exact h _ _ _ rfl rfl rfl)
  | (have e : o = 19 := by omega
     subst e;exact h _ _ _ rfl rfl rfl)
  | (have e : o = 10 := by omega
     subst e;exact h _ _ _ rfl rfl rfl)
  | (have e : o = 11 := by omega
     subst e;exact h _ _ _ rfl rfl rfl)
  | (have e : o = 12 := by omega
     subst e;exact h _ _ _ rfl rfl rfl)
  | (have e : o = 13 := by omega
     subst e;exact h _ _ _ rfl rfl rfl)
  | (have e : o = 14 := by omega
     subst e;exact h _ _ _ rfl rfl rfl)
  | (have e : o = 8 := by omega
     subst e;exact h _ _ _ rfl rfl rfl)
  | (have e : o = 9 := by omega
     subst e;exact h _ _ _ rfl rfl rfl)
  | (have e : o = 20 := by omega
     subst e;exact h _ _ _ rfl rfl rfl)
  | (have e : o = 21 := by omega
     subst e;exact h _ _ _ rfl rfl rfl)
  | (have e : o = 22 := by omega
     subst e;exact h _ _ _ rfl rfl rfl)
  | (have e : o = 23 := by omega
     subst e;exact h _ _ _ rfl rfl rfl)
  | (have e : o = 24 := by omega
     subst e;exact h _ _ _ rfl rfl rfl)
  | (have e : o = 25 := by omega
     subst e;exact h _ _ _ rfl rfl rfl)
  | (have e : o = 6 := by omega
     subst e;exact h _ _ _ rfl rfl rfl)
  | (have e : o = 7 := by omega
     subst e;exact h _ _ _ rfl rfl rfl)
  | (have e : o = 1 := by omega
     subst e;exact h _ _ _ rfl rfl rfl)
  | (have e : o = 2 := by omega
     subst e;exact h _ _ _ rfl rfl rfl)
  | (have e : o = 3 := by omega
     subst e;exact h _ _ _ rfl rfl rfl)
  | (have e : o = 4 := by omega
     subst e;exact h _ _ _ rfl rfl rfl)
  | (have e : o = 5 := by omega
     subst e;exact h _ _ _ rfl rfl rfl)
  | (refine h _ _ _ ?_ ?_ ?_
     ·unfold Zl;(repeat rw [Te (by omega)]);rfl
     ·unfold ZE;(repeat rw [Te (by omega)])
     ·unfold Z2;(repeat rw [Te (by omega)]))
 ·exact h.elim
noncomputable def ZzQ:Tbl:=[(147,Zc0),(148,ZeM)]
theorem ZzR {n:Nat} (ht:TblOK (GG w0 nG) ZzQ):PCalls (GG w0 nG) 72 (Xq Zj1 Yk wBs n):=by
 refine pc ht Tryz.func72 ?_
 intro args σ K h
 unfold Xq at h
 split at h
 ·obtain ⟨pl,s,rfl,⟨hz,hn⟩,h⟩:=h
  unfold wBs at hz
  refine ⟨Za [],0,false,by simp,Tb rfl,?_⟩
  conv=>whnf
  refine ⟨by omega,?_⟩
  conv=>whnf
  refine ZEg (fun hc0=>?_) (fun hc0=>?_)
  rotate_left
  ·(conv=>whnf);exact h _ (by simp [Yk,hc0])
  conv=>whnf
  refine ZEf (fun hc1=>?_) (fun hc1=>?_)
  rotate_left
  ·(conv=>whnf);exact h _ (by simp only [Yk,hc0,hc1];decide)
  conv=>whnf
  refine fun b hb=>?_
  conv=>whnf
  exact h _ (by rw [Yk,hc0,hb,decide_eq_false hc1];simp)
 ·exact h.elim
noncomputable def ZzS (n:Nat):Tbl:=[(72,Xq Zj1 Yk wBs n)]
theorem ZzT {n:Nat} (ht:TblOK (GG w0 nG) (ZzS n)):PCalls (GG w0 nG) 123 (Xq (Xd (fun _=>ZA)) YG wFi n):=by
 refine pc ht Tryz.func123 ?_
 intro args σ K h
 unfold Xq at h
 split at h
 ·obtain ⟨pl,⟨a1,a2⟩,rfl,⟨hz,hn⟩,h⟩:=h
  simp only [wFi] at hz
  refine ⟨Za [],0,false,by simp,Tb rfl,?_⟩
  conv=>whnf
  refine ⟨fun _=>0,a1,rfl,⟨by simp only [wBs];omega,by omega⟩,fun b hn0=>?_⟩
  cases b with
  | false =>
   conv=>whnf
   exact h _ (by simp [YG,hn0])
  | true =>
   conv=>whnf
   refine ⟨fun _=>0,a2,rfl,⟨by simp only [wBs];omega,by omega⟩,fun b hn1=>?_⟩
   conv=>whnf
   exact h _ (by simp [YG,hn0,hn1])
 ·exact h.elim
noncomputable def ZzU (n:Nat):Tbl:=[(72,Xq Zj1 Yk wBs n),(122,Wu 123 (fun _=>ZA) YG wFi n)]
theorem ZzV {n:Nat} (ht:TblOK (GG w0 nG) (ZzU n)):PCalls (GG w0 nG) 180 (Xq (Xd (fun _=>ZI)) Xz wCa n):=by
 refine pc ht Tryz.func180 ?_
 intro args σ K h
 unfold Xq at h
 split at h
 ·obtain ⟨pl,⟨a1,a2⟩,rfl,⟨hz,hn⟩,h⟩:=h
  simp only [wCa] at hz
  refine ⟨Za [],0,false,by simp,Tb rfl,?_⟩
  conv=>whnf
  refine ⟨fun _=>0,a1,rfl,⟨by simp only [wBs];omega,by omega⟩,fun b hn0=>?_⟩
  cases b with
  | false =>
   conv=>whnf
   exact h _ (by simp [Xz,hn0])
  | true =>
   conv=>whnf
   refine ⟨pl,a2,rfl,⟨rfl,by omega,by omega⟩,fun b ha1=>?_⟩
   conv=>whnf
   exact h _ (by simp [Xz,hn0,ha1])
 ·exact h.elim
noncomputable def ZzW (n:Nat):Tbl:=[(72,Xq Zj1 Yk wBs n),(122,Wu 123 (fun _=>ZA) YG wFi n)]
theorem ZzX {n:Nat} (ht:TblOK (GG w0 nG) (ZzW n)):PCalls (GG w0 nG) 121 (Xq (Xd Z8) XN wRe n):=by
 refine pc ht Tryz.func121 ?_
 intro args σ K h
 unfold Xq at h
 split at h
 ·obtain ⟨pl,⟨a1,a2,a3,a4,a5,a6⟩,rfl,⟨hz,hn⟩,h⟩:=h
  simp only [wRe] at hz
  refine ⟨Za [],0,false,by simp,Tb rfl,?_⟩
  conv=>whnf
  refine ⟨fun _=>0,a1,rfl,⟨by simp only [wBs];omega,by omega⟩,fun b hn0=>?_⟩
  cases b with
  | false =>
   conv=>whnf
   exact h _ (by simp [XN,hn0])
  | true =>
   conv=>whnf
   refine ⟨pl,a2,rfl,⟨rfl,by omega,by omega⟩,fun b ha1=>?_⟩
   conv=>whnf
   exact h _ (by simp [XN,hn0,ha1])
 ·exact h.elim
noncomputable def ZzY (n:Nat):Tbl:=[(72,Xq Zj1 Yk wBs n),(127,Wu 72 (fun _=>ZC) Yk wBs n)]
theorem ZzZ {n:Nat} (ht:TblOK (GG w0 nG) (ZzY n)):PCalls (GG w0 nG) 129 (Xq (Xd Yd) XX wIn n):=by
 refine pc ht Tryz.func129 ?_
 intro args σ K h
 unfold Xq at h
 split at h
 ·obtain ⟨pl,⟨a1,a2,a3,a4⟩,rfl,⟨hz,hn⟩,h⟩:=h
  simp only [wIn] at hz
  refine ⟨Za [],0,false,by simp,Tb rfl,?_⟩
  conv=>whnf
  refine ⟨fun _=>0,a1,rfl,⟨by simp only [wBs];omega,by omega⟩,fun b hn0=>?_⟩
  cases b with
  | false =>
   conv=>whnf
   exact h _ (by simp [XX,hn0])
  | true =>
   conv=>whnf
   refine ⟨fun _=>0,a2,rfl,⟨by simp only [wBs];omega,by omega⟩,fun b hn1=>?_⟩
   cases b with
   | false =>
    conv=>whnf
    exact h _ (by simp [XX,hn0,hn1])
   | true =>
    conv=>whnf
    refine ⟨pl,a3,rfl,⟨rfl,by omega,by omega⟩,fun b ha2=>?_⟩
    conv=>whnf
    exact h _ (by simp [XX,hn0,hn1,ha2])
 ·exact h.elim
noncomputable def Zz0 (n:Nat):Tbl:=[(72,Xq Zj1 Yk wBs n)]
theorem Zz1 {n:Nat} (ht:TblOK (GG w0 nG) (Zz0 n)):PCalls (GG w0 nG) 131 (Xq (Xd Ye) W4 wOv n):=by
 refine pc ht Tryz.func131 ?_
 intro args σ K h
 unfold Xq at h
 split at h
 ·obtain ⟨pl,⟨a1,a2⟩,rfl,⟨hz,hn⟩,h⟩:=h
  simp only [wOv] at hz
  refine ⟨Za [],0,false,by simp,Tb rfl,?_⟩
  conv=>whnf
  refine ⟨fun _=>0,a1,rfl,⟨by simp only [wBs];omega,by omega⟩,fun b hn0=>?_⟩
  conv=>whnf
  exact h _ (by simp [W4,hn0])
 ·exact h.elim
noncomputable def Zz2 (n:Nat):Tbl:=[(72,Xq Zj1 Yk wBs n),(74,Wu 29 YE ZW wE n),(108,Wu 109 Xp YX wL n)]
theorem Zz3 {n:Nat} (ht:TblOK (GG w0 nG) (Zz2 n)):PCalls (GG w0 nG) 63 (Xq (Xd Z7) Y6 wRu n):=by
 refine pc ht Tryz.func63 ?_
 intro args σ K h
 unfold Xq at h
 split at h
 ·obtain ⟨pl,⟨a1,a2,a3,a4⟩,rfl,⟨hz,hn⟩,h⟩:=h
  simp only [wRu] at hz
  refine ⟨Za [],0,false,by simp,Tb rfl,?_⟩
  conv=>whnf
  refine ⟨fun _=>0,a1,rfl,⟨by simp only [wBs];omega,by omega⟩,fun b hn0=>?_⟩
  cases b with
  | false =>
   conv=>whnf
   exact h _ (by simp [Y6,hn0])
  | true =>
   conv=>whnf
   refine ⟨pl,a2,Zh _ _,⟨rfl,by omega,by omega⟩,fun b ha1=>?_⟩
   cases b with
   | false =>
    conv=>whnf
    exact h _ (by simp [Y6,hn0,ha1])
   | true =>
    conv=>whnf
    refine ⟨pl,a3,Zp _ _,⟨rfl,by omega,by omega⟩,fun b ha2=>?_⟩
    conv=>whnf
    exact h _ (by simp [Y6,hn0,ha1,ha2])
 ·exact h.elim
noncomputable def ZCE (n:Nat):Tbl:=[(71,ZyC),(72,Xq Zj1 Yk wBs n),(73,ZbA),(74,spB (Wu 29 YE ZW wE) n)]
theorem Zz4 {n:Nat} (ht:TblOK (GG w0 nG) (ZCE n)):PCalls (GG w0 nG) 29 (Xq (Xd YE) ZW wE n):=by
 refine pc ht Tryz.func29 ?_
 intro args σ K h
 unfold Xq at h
 split at h
 ·obtain ⟨pl,⟨a1,a2,a3,a4,a5⟩,rfl,⟨hz,hn⟩,h⟩:=h
  simp only [wE,VP] at hz
  refine ⟨Za [],0,false,by simp,Tb rfl,?_⟩
  have hl4:(XF pl a4).length=a4.length:=by rw [Zh,Tf]
  conv=>whnf
  refine ⟨a1,rfl,fun l w a hl hw ha=>?_⟩
  conv=>whnf
  refine ZEb (fun hop=>?_) (fun hop=>?_)
  ·have hopI:=hop
   have hop:a1=1:=by omega
   conv=>whnf
   refine ZEb (fun _=>?_) (fun hx=>absurd hopI hx)
   exact m161
  conv=>whnf
  refine ZEb (fun hop7=>?_) (fun hop7=>?_)
  ·have hop:a1=7:=by omega
   exact m161
  have hop:¬a1=1:=by omega
  have hop7:¬a1=7:=by omega
  conv=>whnf
  refine ZEb (fun hop4=>?_) (fun hop4=>?_)
  ·have hop4:a1=4:=by omega
   conv=>whnf
   refine ⟨by omega,fun hq=>?_,fun q hq=>?_⟩
   ·have htx:XM a1 a2=false:=by simp [XM,hop4,hq]
    exact m9
   ·have htx:XM a1 a2=true:=by simp [XM,hop4,hq]
    exact m3
  have hop4:¬a1=4:=by omega
  have htx:XM a1 a2=decide (a2=[]):=by simp [XM,hop,hop7,hop4]
  conv=>whnf
  refine ZEb (fun h1=>?_) (fun h1=>?_)
  rotate_left
  ·exact m190
  conv=>whnf
  refine ZEb (fun h2=>?_) (fun h2=>?_)
  ·conv=>whnf
   refine ZEb (fun h3=>?_) (fun h3=>?_)
   ·conv=>whnf
    refine ZEb (fun h4=>?_) (fun h4=>?_)
    rotate_left
    ·exact m143
    rw [SC h4] at htx
    exact m178
   conv=>whnf
   refine ZEb (fun h5=>?_) (fun h5=>?_)
   rotate_left
   ·exact m155
   have h5:a1=3:=by omega
   have hor:(decide (a3=0) || decide (a1=3))=true:=by simp [h5]
   conv=>whnf
   refine ZEb (fun h4=>?_) (fun h4=>?_)
   rotate_left
   ·exact m143
   rw [SC h4] at htx
   exact m176
  conv=>whnf
  refine ZEb (fun h6=>?_) (fun h6=>?_)
  rotate_left
  ·exact m160
  have h6:(a4.length:Int)=a:=by rw [← hl4];exact h6
  conv=>whnf
  refine ZEb (fun h3=>?_) (fun h3=>?_)
  ·conv=>whnf
   refine ZEb (fun h4=>?_) (fun h4=>?_)
   rotate_left
   ·exact m143
   rw [SC h4] at htx
   exact m177
  conv=>whnf
  refine ZEb (fun h5=>?_) (fun h5=>?_)
  rotate_left
  ·exact m155
  have h5:a1=3:=by omega
  have hor:(decide (a3=0) || decide (a1=3))=true:=by simp [h5]
  conv=>whnf
  refine ZEb (fun h4=>?_) (fun h4=>?_)
  rotate_left
  ·exact m143
  rw [SC h4] at htx
  exact m175
 ·exact h.elim
noncomputable def ZCF (n:Nat):Tbl:=[(72,Xq Zj1 Yk wBs n),(74,Wu 29 YE ZW wE n),(108,spB (Wu 109 Xp YX wL) n)]
theorem Zz5 {n:Nat} (ht:TblOK (GG w0 nG) (ZCF n)):PCalls (GG w0 nG) 109 (Xq (Xd Xp) YX wL n):=by
 refine pc ht Tryz.func109 ?_
 intro args σ K h
 unfold Xq at h
 split at h
 ·obtain ⟨pl,⟨a1,a2,a3,a4,a5⟩,rfl,⟨hz,hn⟩,h⟩:=h
  simp only [wL,Vk] at hz
  refine ⟨Za [],0,false,by simp,Tb rfl,?_⟩
  have hl3:(XF pl a3).length=a3.length:=by rw [Zh,Tf]
  have hl4:(ZfS pl a4).length=a4.length:=by rw [Zp,Tf]
  have hbd:((0:Int)<((ZfS pl a4).length:Int))↔0<a4.length:=by rw [hl4];omega
  conv=>whnf
  refine ZEb (fun hop=>?_) (fun hop=>?_)
  ·have hopI:=hop
   have hop:a1=1:=by omega
   conv=>whnf
   refine ZEb (fun _=>?_) (fun hx=>absurd hopI hx)
   exact m149
  conv=>whnf
  refine ZEb (fun hop2=>?_) (fun hop2=>?_)
  ·have hop:a1=2:=by omega
   exact m149
  have hn12:¬(a1=1∨a1=2):=by omega
  conv=>whnf
  refine ZEb (fun hop3=>?_) (fun hop3=>?_)
  ·conv=>whnf
   refine ZEb (fun hop8=>?_) (fun hop8=>?_)
   ·have h38:3≤a1∧a1≤8:=by omega
    conv=>whnf
    refine ZEb (fun hr=>?_) (fun hr=>?_)
    rotate_left
    ·have hlb:Xy a1 a2 a3.length a4.length=false:=by simp [Xy,hn12,h38,hr]
     exact m32
    conv=>whnf
    refine ZEb (fun hA=>?_) (fun hA=>?_)
    rotate_left
    ·have hA:¬a3.length=2:=fun g=>hA (by show ((XF pl a3).length:Int)=2;rw [hl3,g];rfl)
     have hlb:Xy a1 a2 a3.length a4.length=false:=by simp [Xy,hn12,h38,hA]
     exact m32
    have hA:a3.length=2:=by have hA:((XF pl a3).length:Int)=2:=hA;rw [hl3] at hA;omega
    conv=>whnf
    refine ZEf (fun hB=>?_) (fun hB=>?_)
    ·have hB:¬0<a4.length:=fun g=>hB (hbd.2 g)
     have hlb:Xy a1 a2 a3.length a4.length=true:=by simp only [Xy,hn12,h38,hr,hA,decide_eq_false hB];simp
     exact m11
    ·have hB:=hbd.1 hB
     have hlb:Xy a1 a2 a3.length a4.length=false:=by simp [Xy,hn12,h38,hr,hA,hB]
     exact m32
   exact m4
  exact m4
 ·exact h.elim
end Go.PM.Lex
end

section
namespace Go.PM.Lex
open Go.Proofs
variable {w0:World} {nG:Nat}
noncomputable def Zz6 (n:Nat):Tbl:=[(72,Xq Zj1 Yk wBs n),(122,Wu 123 (fun _=>ZA) YG wFi n),(179,Wu 180 (fun _=>ZI) Xz wCa n)]
theorem Zz7 {n:Nat} (ht:TblOK (GG w0 nG) (Zz6 n)):PCalls (GG w0 nG) 119 (Xq (Xd Ya) Ym wTy n):=by
 refine pc ht Tryz.func119 ?_
 intro args σ K h
 unfold Xq at h
 split at h
 ·obtain ⟨pl,⟨a1,a2,a3,a4,a5,a6⟩,rfl,⟨hz,hn⟩,h⟩:=h
  simp only [wTy] at hz
  refine ⟨Za [],0,false,by simp,Tb rfl,?_⟩
  have hl4:(a4.map ZA).length=a4.length:=Tf ..
  have hl5:(a5.map ZI).length=a5.length:=Tf ..
  have hz4:(((a4.map ZA).length:Int)=0)↔a4.length=0:=by rw [hl4];omega
  have hz5:(((a5.map ZI).length:Int)=0)↔a5.length=0:=by rw [hl5];omega
  conv=>whnf
  refine ZEb (fun hk=>?_) (fun hk=>?_)
  ·(try dsimp only at hk)
   have hk:a1=1:=by omega
   conv=>whnf
   refine ⟨fun _=>0,a3,rfl,⟨by simp only [wBs];omega,by omega⟩,fun b hb0=>?_⟩
   cases b with
   | false =>
    conv=>whnf
    have htb:Zcg (⟨a1,a2,a3,a4,a5,a6⟩:Ty)=false:=by simp [Zcg,hk,hb0]
    exact m71
   | true =>
    conv=>whnf
    refine ZEb (fun h4=>?_) (fun h4=>?_)
    ·have h4:=hz4.1 h4
     conv=>whnf
     refine ZEb (fun h5=>?_) (fun h5=>?_)
     ·have h5:=hz5.1 h5
      have htb:Zcg (⟨a1,a2,a3,a4,a5,a6⟩:Ty)=true:=by simp [Zcg,hk,hb0,h4,h5]
      exact m22
     ·have h5:¬a5.length=0:=fun g=>h5 (hz5.2 g)
      have htb:Zcg (⟨a1,a2,a3,a4,a5,a6⟩:Ty)=false:=by simp [Zcg,hk,hb0,h4,h5]
      exact m71
    ·have h4:¬a4.length=0:=fun g=>h4 (hz4.2 g)
     have htb:Zcg (⟨a1,a2,a3,a4,a5,a6⟩:Ty)=false:=by simp [Zcg,hk,hb0,h4]
     exact m71
  conv=>whnf
  refine ZEb (fun hk2=>?_) (fun hk2=>?_)
  ·(try dsimp only at hk2)
   have hk2:a1=2:=by omega
   conv=>whnf
   refine ZEb (fun hb0=>?_) (fun hb0=>?_)
   rotate_left
   ·have htb:Zcg (⟨a1,a2,a3,a4,a5,a6⟩:Ty)=false:=by simp [Zcg,hk2,hb0]
    exact m71
   (try dsimp only at hb0)
   conv=>whnf
   refine ZEb (fun h5=>?_) (fun h5=>?_)
   ·have h5:=hz5.1 h5
    have htb:Zcg (⟨a1,a2,a3,a4,a5,a6⟩:Ty)=true:=by simp [Zcg,hk2,hb0,h5]
    exact m22
   ·have h5:¬a5.length=0:=fun g=>h5 (hz5.2 g)
    have htb:Zcg (⟨a1,a2,a3,a4,a5,a6⟩:Ty)=false:=by simp [Zcg,hk2,hb0,h5]
    exact m71
  conv=>whnf
  refine ZEb (fun hk3=>?_) (fun hk3=>?_)
  ·(try dsimp only at hk3)
   have hk3:a1=3:=by omega
   conv=>whnf
   refine ZEb (fun hb0=>?_) (fun hb0=>?_)
   rotate_left
   ·have htb:Zcg (⟨a1,a2,a3,a4,a5,a6⟩:Ty)=false:=by simp [Zcg,hk3,hb0]
    exact m71
   (try dsimp only at hb0)
   conv=>whnf
   refine ZEb (fun h4=>?_) (fun h4=>?_)
   ·have h4:=hz4.1 h4
    conv=>whnf
    refine ZEf (fun h5=>?_) (fun h5=>?_)
    ·have h5:¬a5.length=0:=fun g=>h5 (hz5.2 g)
     have htb:Zcg (⟨a1,a2,a3,a4,a5,a6⟩:Ty)=true:=by simp [Zcg,hk3,hb0,h4,h5]
     exact m22
    ·have h5:=hz5.1 h5
     have htb:Zcg (⟨a1,a2,a3,a4,a5,a6⟩:Ty)=false:=by simp [Zcg,hk3,hb0,h4,h5]
     exact m71
   ·have h4:¬a4.length=0:=fun g=>h4 (hz4.2 g)
    have htb:Zcg (⟨a1,a2,a3,a4,a5,a6⟩:Ty)=false:=by simp [Zcg,hk3,hb0,h4]
    exact m71
  (try dsimp only at hk hk2 hk3)
  have hk:¬a1=1:=by omega
  have hk2:¬a1=2:=by omega
  have hk3:¬a1=3:=by omega
  have htb:Zcg (⟨a1,a2,a3,a4,a5,a6⟩:Ty)=false:=by simp [Zcg,hk,hk2,hk3]
  exact m71
 ·exact h.elim
noncomputable def Zz8 (n:Nat):Tbl:=[(72,Xq Zj1 Yk wBs n),(127,Wu 72 (fun _=>ZC) Yk wBs n),(67,Xq (Xd XK) Za1 wUn n)]
theorem Zz9 {n:Nat} (ht:TblOK (GG w0 nG) (Zz8 n)):PCalls (GG w0 nG) 126 (Xq (Xd ZY) Yc wCo n):=by
 refine pc ht Tryz.func126 ?_
 intro args σ K h
 unfold Xq at h
 split at h
 ·obtain ⟨pl,⟨a1,a2,a3,a4,⟨u1,u2,u3,u4,u5,u6⟩,a6⟩,rfl,⟨hz,hn⟩,h⟩:=h
  simp only [wCo] at hz
  refine ⟨Za [],0,false,by simp,Tb rfl,?_⟩
  have hl4:(a4.map ZC).length=a4.length:=Tf ..
  have hz4:(((a4.map ZC).length:Int)=0)↔a4.length=0:=by rw [hl4];omega
  conv=>whnf
  refine ZEb (fun hb=>?_) (fun hb=>?_)
  ·conv=>whnf
   refine ZEb (fun h4=>?_) (fun h4=>?_)
   ·have h4:=hz4.1 h4
    have hbs:((decide (a3=[]) && decide (a4.length=0)) || Yk a3)=true:=by simp [hb,h4]
    exact m16
   ·have h4:¬a4.length=0:=fun g=>h4 (hz4.2 g)
    conv=>whnf
    refine ⟨fun _=>0,a3,rfl,⟨by simp only [wBs];omega,by omega⟩,fun b hb0=>?_⟩
    cases b with
    | false =>
     have hbs:((decide (a3=[]) && decide (a4.length=0)) || Yk a3)=false:=by simp [h4,hb0]
     exact m33
    | true =>
     have hbs:((decide (a3=[]) && decide (a4.length=0)) || Yk a3)=true:=by simp [h4,hb0]
     exact m16
  conv=>whnf
  refine ⟨fun _=>0,a3,rfl,⟨by simp only [wBs];omega,by omega⟩,fun b hb0=>?_⟩
  cases b with
  | false =>
   have hbs:((decide (a3=[]) && decide (a4.length=0)) || Yk a3)=false:=by simp [hb,hb0]
   exact m33
  | true =>
   have hbs:((decide (a3=[]) && decide (a4.length=0)) || Yk a3)=true:=by simp [hb,hb0]
   exact m16
 ·exact h.elim
noncomputable def ZAa (n:Nat):Tbl:=[(118,Wu 119 Ya Ym wTy n),(120,Wu 121 Z8 XN wRe n),(124,Wu 63 Z7 Y6 wRu n),(125,spB (Wu 126 ZY Yc wCo) n),(128,Wu 129 Yd XX wIn n),(130,Wu 131 Ye W4 wOv n)]
theorem Zt1 {n:Nat} (ht:TblOK (GG w0 nG) (ZAa n)):PCalls (GG w0 nG) 67 (Xq (Xd XK) Za1 wUn n):=by
 refine pc ht Tryz.func67 ?_
 intro args σ K h
 unfold Xq at h
 split at h
 ·obtain ⟨pl,⟨a1,a2,a3,a4,a5,a6⟩,rfl,⟨hz,hn⟩,h⟩:=h
  simp only [wUn,XY] at hz
  refine ⟨Za [],0,false,by simp,Tb rfl,?_⟩
  conv=>whnf
  refine ⟨pl,a1,rfl,⟨rfl,by omega,by omega⟩,fun b ha0=>?_⟩
  cases b with
  | false =>
   conv=>whnf
   exact h _ (by simp [Za1,W5,ha0])
  | true =>
   conv=>whnf
   refine ⟨pl,a2,rfl,⟨rfl,by omega,by omega⟩,fun b ha1=>?_⟩
   cases b with
   | false =>
    conv=>whnf
    exact h _ (by simp [Za1,W5,ha0,ha1])
   | true =>
    conv=>whnf
    refine ⟨pl,a3,rfl,⟨rfl,by omega,by omega⟩,fun b ha2=>?_⟩
    cases b with
    | false =>
     conv=>whnf
     exact h _ (by simp [Za1,W5,ha0,ha1,ha2])
    | true =>
     conv=>whnf
     refine ⟨by omega,pl,a4,Yb _ _,⟨rfl,by omega,by omega⟩,fun b ha3=>?_⟩
     cases b with
     | false =>
      conv=>whnf
      exact h _ (by simp [Za1,W5,ha0,ha1,ha2,ha3])
     | true =>
      conv=>whnf
      refine ⟨pl,a5,rfl,⟨rfl,by omega,by omega⟩,fun b ha4=>?_⟩
      cases b with
      | false =>
       conv=>whnf
       exact h _ (by simp [Za1,W5,ha0,ha1,ha2,ha3,ha4])
      | true =>
       conv=>whnf
       refine ⟨pl,a6,rfl,⟨rfl,by omega,by omega⟩,fun b ha5=>?_⟩
       conv=>whnf
       exact h _ (by simp [Za1,W5,ha0,ha1,ha2,ha3,ha4,ha5])
 ·exact h.elim
structure LexC (w0:World) (nG:Nat):Prop where
 name:PCalls (GG w0 nG) 147 Zc0
 quote:PCalls (GG w0 nG) 73 ZbA
variable (hL:LexC w0 nG)
include hL
theorem Zn2 (n:Nat):PCalls (GG w0 nG) 72 (Xq Zj1 Yk wBs n):=ZzR ⟨⟨hL.name,Zjp⟩,⟨ZkE,Zbr⟩,trivial⟩
theorem cHE:∀n,PCalls (GG w0 nG) 29 (Xq (Xd YE) ZW wE n)
 | 0=>Zz4 ⟨⟨ZsE,Zch⟩,⟨Zn2 hL _,Zw _ _ _ _⟩,⟨hL.quote,Ue⟩,⟨Yi (Zi Tryz.func74 (by kernel_rfl) rfl),ZV (Zx _ _ _ _) _⟩,trivial⟩
 | n+1=>Zz4 ⟨⟨ZsE,Zch⟩,⟨Zn2 hL _,Zw _ _ _ _⟩,⟨hL.quote,Ue⟩,⟨Yj (sp:=Wu 29 YE ZW wE) (ZBU (cHE n)),ZV (Zx _ _ _ _) _⟩,trivial⟩
theorem cHL:∀n,PCalls (GG w0 nG) 109 (Xq (Xd Xp) YX wL n)
 | 0=>Zz5 ⟨⟨Zn2 hL _,Zw _ _ _ _⟩,⟨ZBU (cHE hL 0),Zx _ _ _ _ _⟩,⟨Yi (Zi Tryz.func108 (by kernel_rfl) rfl),ZV (Zx _ _ _ _) _⟩,trivial⟩
 | n+1=>Zz5 ⟨⟨Zn2 hL _,Zw _ _ _ _⟩,⟨ZBU (cHE hL _),Zx _ _ _ _ _⟩,⟨Yj (sp:=Wu 109 Xp YX wL) (ZDn (cHL n)),ZV (Zx _ _ _ _) _⟩,trivial⟩
theorem ZDo (n:Nat):PCalls (GG w0 nG) 63 (Xq (Xd Z7) Y6 wRu n):=Zz3 ⟨⟨Zn2 hL _,Zw _ _ _ _⟩,⟨ZBU (cHE hL _),Zx _ _ _ _ _⟩,⟨ZDn (cHL hL _),Zx _ _ _ _ _⟩,trivial⟩
theorem ZCG (n:Nat):PCalls (GG w0 nG) 122 (Wu 123 (fun _=>ZA) YG wFi n):=ZCA (ZzT ⟨⟨Zn2 hL _,Zw _ _ _ _⟩,trivial⟩)
theorem ZDp (n:Nat):PCalls (GG w0 nG) 119 (Xq (Xd Ya) Ym wTy n):=Zz7 ⟨⟨Zn2 hL _,Zw _ _ _ _⟩,⟨ZCG hL n,Zx _ _ _ _ _⟩,⟨ZCB (ZzV ⟨⟨Zn2 hL _,Zw _ _ _ _⟩,⟨ZCG hL n,Zx _ _ _ _ _⟩,trivial⟩),Zx _ _ _ _ _⟩,trivial⟩
theorem ZDq (n:Nat):PCalls (GG w0 nG) 121 (Xq (Xd Z8) XN wRe n):=ZzX ⟨⟨Zn2 hL _,Zw _ _ _ _⟩,⟨ZCG hL n,Zx _ _ _ _ _⟩,trivial⟩
theorem ZDr (n:Nat):PCalls (GG w0 nG) 127 (Wu 72 (fun _=>ZC) Yk wBs n):=ZCD (Zn2 hL n)
theorem ZDs (n:Nat):PCalls (GG w0 nG) 129 (Xq (Xd Yd) XX wIn n):=ZzZ ⟨⟨Zn2 hL _,Zw _ _ _ _⟩,⟨ZDr hL n,Zx _ _ _ _ _⟩,trivial⟩
theorem ZDt (n:Nat):PCalls (GG w0 nG) 131 (Xq (Xd Ye) W4 wOv n):=Zz1 ⟨⟨Zn2 hL _,Zw _ _ _ _⟩,trivial⟩
theorem ZDu:∀n,PCalls (GG w0 nG) 67 (Xq (Xd XK) Za1 wUn n)
 | 0=>Zt1 ⟨⟨ZzM (ZDp hL _),Zx _ _ _ _ _⟩,⟨ZzN (ZDq hL _),Zx _ _ _ _ _⟩,⟨ZzL (ZDo hL _),Zx _ _ _ _ _⟩,⟨Yi (Zi Tryz.func125 (by kernel_rfl) rfl),ZV (Zx _ _ _ _) _⟩,⟨ZzO (ZDs hL _),Zx _ _ _ _ _⟩,⟨ZzP (ZDt hL _),Zx _ _ _ _ _⟩,trivial⟩
 | n+1=>Zt1 ⟨⟨ZzM (ZDp hL _),Zx _ _ _ _ _⟩,⟨ZzN (ZDq hL _),Zx _ _ _ _ _⟩,⟨ZzL (ZDo hL _),Zx _ _ _ _ _⟩,⟨Yj (sp:=Wu 126 ZY Yc wCo) (ZCC (Zz9 ⟨⟨Zn2 hL _,Zw _ _ _ _⟩,⟨ZDr hL _,Zx _ _ _ _ _⟩,⟨ZDu n,Zw _ _ _ _⟩,trivial⟩)),ZV (Zx _ _ _ _) _⟩,⟨ZzO (ZDs hL _),Zx _ _ _ _ _⟩,⟨ZzP (ZDt hL _),Zx _ _ _ _ _⟩,trivial⟩
end Go.PM.Lex
end

section
namespace Go.PM.Lex
open Go.Proofs Go.Shelf Go.RowKit
variable {w0:World} {nG:Nat}
theorem ZCH:liesAt Tryz.prog Tryz.prog.depth 84 (2 / Tryz.prog.cellsOf 84) 0 82 1=true:=by kernel_rfl
theorem Zk0 (b:Nat) (w:World) (h0:w.cell? ⟨b,0,none⟩=some (.pointer none)) (hsh:w.shape? b=some (84,2)) (hfz:w.frozen? ⟨b,0,none⟩=false) :
  Calls Tryz.prog 214 #[.pointer (some ⟨b,0,none⟩)] w fun e w'=>e=.returned (.tuple #[])∧w'=w.setCell ⟨b,0,none⟩ (.pointer (some ⟨b,0,none⟩)):=by
 obtain ⟨j,hj,hjs⟩:=i53
 go_enter Tryz.func214,Tryz.ntmps214
 go_wp2
 rw [Go.Lib.run_to_unsafe w ⟨b,0,none⟩ u50 u95 hj (by rw [hjs];decide) hsh (Nat.zero_lt_succ 1)]
 simp only [Result.andThen]
 rw [Oper.upon_value]
 go_wp2
 rw [run_callFunc_extern Tryz.func269 (by kernel_rfl) (by kernel_rfl) (by kernel_rfl) (e:=Extern.AbiNoEscape.same) (by kernel_rfl)]
 rw [Go.Lib.run_noEscape]
 simp only [Result.andThen]
 rw [Oper.upon_value]
 go_wp2
 rw [Go.Lib.run_from_unsafe w ⟨b,0,none⟩ u95 u50 hj hsh ZCH]
 simp only [Result.andThen]
 rw [Oper.upon_value]
 go_wp2
 go_end0
 exact ⟨rfl,rfl⟩
noncomputable def W6:Zz:=fun args σ K=>match args,σ with
 | [.ptr 0 0],⟨[.cells t [p,q]],tk,nx⟩=>((p=.d .nilp∨p=.ptr 0 0)∧t=84)∧K (.ret (.tuple [])) ⟨[.cells t [.ptr 0 0,q]],tk,nx⟩
 | _,_=>False
theorem Zc1:Zc W6:=fun args σ K K' hK h=>by
 unfold W6 at h ⊢;split at h <;> first | exact ⟨h.1,hK _ _ h.2⟩ | exact h.elim
theorem ZhN:PCalls (GG w0 nG) 214 W6:=Je (Zi Tryz.func214 (by kernel_rfl) rfl) fun args σ K h e w vs hS ha=>by
 unfold W6 at h
 split at h
 ·rename_i t p q tk nx
  obtain ⟨⟨hp,rfl⟩,hK⟩:=h
  obtain ⟨u,rfl,hu⟩:=ZiO ha
  obtain ⟨cv,hc1,hc2,hc3⟩:=hS.box 0 _ rfl
  have hcs:cv.size=2:=hc2
  obtain ⟨x0,hx0⟩:∃x,cv[0]?=some x:=⟨cv[0]'(by omega),by simp [hcs]⟩
  have hr0:=(hc3 0 p x0 rfl hx0).1
  cases hu with
  | ptr b off hb =>
  refine ⟨_,_,.tuple #[],hK,?_⟩
  rcases hp with rfl | rfl
  ·cases hr0 with
   | d _ _ hd =>
   cases hd
   refine Calls.mono (Zk0 (e.β 0) w ?_ ?_ ?_) fun en w' ⟨h1,h2⟩=>?_
   ·simp [World.cell?,hc1,hx0]
   ·simp only [World.shape?,hc1,hcs]
   ·simp [World.frozen?,hc1]
   ·have hst:=ZeE (G:=GG w0 nG) (T:=Zkv) XI hS (t:=79) (b:=0) (off:=0) (x:=.ptr 0 0) (v:=.pointer (some ⟨e.β 0,0,none⟩)) (l:=[.ptr 0 0]) (cs:=[.d .nilp,q]) (ty:=84) rfl (.ptr 0 0 hb) rfl rfl (by simp) (by intro h;cases h)
    rw [h2]
    exact ⟨h1,.tuple [] #[] rfl (fun i x u hx=>by simp at hx),hst.2,hst.1.toLater⟩
  ·exact m81
 ·exact h.elim
theorem Zn4 {ty:TypeId} {P:Program} {ρ:Ren} (L:Lays.n169 P ρ) (X:Builder.Extra P ρ) (b g cap:Nat) (p:Value) (cur:Array Value) (fz:Nat×Nat) (l:Bs) (w:World) (h0:l≠[])
  (hbk:w.heap[b]?=some (.cells #[p,.slice (some ⟨g,0,none⟩) l.length cap] ty (0,0))) (hg:w.heap[g]?=some (.cells cur (ρ.t 5) fz)) (hn:l.length≤cur.size) (hcap:cap≠0) (hbig:l.length≤9223372036854775807)
  (hcell:∀j x,l[j]?=some x→w.cell? ⟨g,j,none⟩=some (.int .u8 x.toNat)) :
  Calls P (ρ.f 169) #[.pointer (some ⟨b,0,none⟩)] w fun e w'=>e=.returned (.string ⟨l.toArray⟩)∧w'=w.drew.freeze ⟨g,0,none⟩ l.length:=by
 have c1:w.drew.cell? ⟨b,1,none⟩=some (.slice (some ⟨g,0,none⟩) l.length cap):=by
  have:w.drew.heap[b]?=some (.cells #[p,.slice (some ⟨g,0,none⟩) l.length cap] ty (0,0)):=hbk
  rw [Go.Lib.cell_of_heap this];rfl
 have hSD:(Builtin.unsafeSliceData_ #[(ρ.t 37)] (ρ.t 127) #[.slice (some ⟨g,0,none⟩) l.length cap]).run P w.drew=.ok (.pointer (some ⟨g,0,none⟩)) w.drew :=
  Go.Lib.run_unsafeSliceData_row _ _ _ _ _ _ hcap
 have hUS:(Builtin.unsafeString_ #[(ρ.t 127),(ρ.t 3)] (ρ.t 9) #[.pointer (some ⟨g,0,none⟩),.int .i64 l.length]).run P w.drew=.ok (.string ⟨l.toArray⟩) (w.drew.freeze ⟨g,0,none⟩ l.length):=by
  exact m69
 have mixed:=L.mixed
 have t72:=L.t72;have a72:=L.a72;have z72:=L.z72;have v72:=L.v72;have u72:=run_underlying L.t72
 have t70:=L.t70;have a70:=L.a70;have z70:=L.z70;have v70:=L.v70;have u70:=run_underlying L.t70
 have t37:=L.t37;have a37:=L.a37;have z37:=L.z37;have v37:=L.v37;have u37:=run_underlying L.t37
 have t127:=L.t127;have a127:=L.a127;have z127:=L.z127;have v127:=L.v127;have u127:=run_underlying L.t127
 have t3:=L.t3;have a3:=L.a3;have z3:=L.z3;have v3:=L.v3;have u3:=run_underlying L.t3
 have t9:=L.t9;have a9:=L.a9;have z9:=L.z9;have v9:=L.v9;have u9:=run_underlying L.t9
 have t5:=X.t5;have a5:=X.a5;have z5:=X.z5;have v5:=X.v5;have u5:=run_underlying X.t5
 go_enter L.f169,Body.n169_ntmps ρ
 go_wp2
 go_region_o
 all_goals (go_wp2;go_ret;exact ⟨rfl,rfl⟩)
theorem ZsG {ty:TypeId} {P:Program} {ρ:Ren} (L:Lays.n169 P ρ) (X:Builder.Extra P ρ) (B b:Nat) (p:Value) (w:World) (hbk:w.heap[b]?=some (.cells #[p,.slice none 0 0] ty (0,0))) :
  Calls P (ρ.f 169) #[.pointer (some ⟨b,0,none⟩)] w fun e w'=>e=.returned (.string ⟨#[]⟩)∧Below B w w':=by
 have hUS:=Any.unsafeString_none L X
 have c1:w.drew.cell? ⟨b,1,none⟩=some (.slice none 0 0):=by
  have:w.drew.heap[b]?=some (.cells #[p,.slice none 0 0] ty (0,0)):=hbk
  rw [Lib.cell_of_heap this];rfl
 have hSD:(Builtin.unsafeSliceData_ #[(ρ.t 37)] (ρ.t 127) #[.slice none 0 0]).run P w.drew=.ok (.pointer none) w.drew:=rfl
 have mixed:=L.mixed
 have t72:=L.t72;have a72:=L.a72;have z72:=L.z72;have v72:=L.v72;have u72:=run_underlying L.t72
 have t70:=L.t70;have a70:=L.a70;have z70:=L.z70;have v70:=L.v70;have u70:=run_underlying L.t70
 have t37:=L.t37;have a37:=L.a37;have z37:=L.z37;have v37:=L.v37;have u37:=run_underlying L.t37
 have t127:=L.t127;have a127:=L.a127;have z127:=L.z127;have v127:=L.v127;have u127:=run_underlying L.t127
 have t3:=L.t3;have a3:=L.a3;have z3:=L.z3;have v3:=L.v3;have u3:=run_underlying L.t3
 have t9:=L.t9;have a9:=L.a9;have z9:=L.z9;have v9:=L.v9;have u9:=run_underlying L.t9
 have t5:=X.t5;have a5:=X.a5;have z5:=X.z5;have v5:=X.v5;have u5:=run_underlying X.t5
 go_enter L.f169,Body.n169_ntmps ρ
 go_wp2
 go_region_o
 all_goals (go_wp2;go_ret;exact ⟨rfl,Below.drew (Below.refl B w)⟩)
theorem Zql {ty:TypeId} {P:Program} {ρ:Ren} (L:Lays.n169 P ρ) (X:Builder.Extra P ρ) (B b g cap:Nat) (p:Value) (w:World) (hc0:cap≠0) (hbk:w.heap[b]?=some (.cells #[p,.slice (some ⟨g,0,none⟩) 0 cap] ty (0,0))) :
  Calls P (ρ.f 169) #[.pointer (some ⟨b,0,none⟩)] w fun e w'=>e=.returned (.string ⟨#[]⟩)∧Below B w w':=by
 have hUS:=Any.unsafeString_none L X
 have c1:w.drew.cell? ⟨b,1,none⟩=some (.slice (some ⟨g,0,none⟩) 0 cap):=by
  have:w.drew.heap[b]?=some (.cells #[p,.slice (some ⟨g,0,none⟩) 0 cap] ty (0,0)):=hbk
  rw [Lib.cell_of_heap this];rfl
 have hSD:(Builtin.unsafeSliceData_ #[(ρ.t 37)] (ρ.t 127) #[.slice (some ⟨g,0,none⟩) 0 cap]).run P w.drew=.ok (.pointer (some ⟨g,0,none⟩)) w.drew:=Go.Lib.run_unsafeSliceData_row _ _ _ _ _ _ hc0
 clear hc0
 have mixed:=L.mixed
 have t72:=L.t72;have a72:=L.a72;have z72:=L.z72;have v72:=L.v72;have u72:=run_underlying L.t72
 have t70:=L.t70;have a70:=L.a70;have z70:=L.z70;have v70:=L.v70;have u70:=run_underlying L.t70
 have t37:=L.t37;have a37:=L.a37;have z37:=L.z37;have v37:=L.v37;have u37:=run_underlying L.t37
 have t127:=L.t127;have a127:=L.a127;have z127:=L.z127;have v127:=L.v127;have u127:=run_underlying L.t127
 have t3:=L.t3;have a3:=L.a3;have z3:=L.z3;have v3:=L.v3;have u3:=run_underlying L.t3
 have t9:=L.t9;have a9:=L.a9;have z9:=L.z9;have v9:=L.v9;have u9:=run_underlying L.t9
 have t5:=X.t5;have a5:=X.a5;have z5:=X.z5;have v5:=X.v5;have u5:=run_underlying X.t5
 go_enter L.f169,Body.n169_ntmps ρ
 go_wp2
 go_region_o
 all_goals (go_wp2;go_ret;exact ⟨rfl,Below.drew (Below.refl B w)⟩)
end Go.PM.Lex
end

section
namespace Go.PM.Lex
open Go.Proofs
variable {w0:World} {nG:Nat}
noncomputable def Zj2 (r:PV) (body:List PV→Bs→Prop):Zz:=fun args σ K=>match args,σ with
 | .ptr 0 0::rest,⟨[.cells t [p,.sl 0 e rows]],[0],1⟩=>∃l txt,rows=Zk l∧((p=.d .nilp∨p=.ptr 0 0)∧t=84∧e=5)∧body rest txt∧l.length+txt.length<70368744177664 ∧
   K (.ret r) ⟨[.cells t [.ptr 0 0,.sl 0 e (Zk (l++txt))]],[0],1⟩
 | _,_=>False
theorem VR (r:PV) (body:List PV→Bs→Prop):Zc (Zj2 r body):=fun args σ K K' hK h=>by
 unfold Zj2 at h ⊢
 split at h
 ·obtain ⟨l,txt,h1,h2,h3,h4,h5⟩:=h;exact ⟨l,txt,h1,h2,h3,h4,hK _ _ h5⟩
 ·exact h.elim
noncomputable def Ze9 {α:Type} (val:Pl→α→PV) (may:α→Bool) (txt:α→Bs) (w:α→Nat) (n:Nat):Zz:=fun args σ K=>match args,σ with
 | [v,.ptr 0 0],⟨[.cells tp [.ptr 1 0],.cells t [.ptr 1 0,.sl 0 e rows]],[0],1⟩=>∃l pl x,rows=Zk l∧v=val pl x∧(t=84∧e=5)∧(may x=true∧w x≤n∧n≤1073741824)∧l.length+(txt x).length<70368744177664 ∧
   K (.ret (.tuple [])) ⟨[.cells tp [.ptr 1 0],.cells t [.ptr 1 0,.sl 0 e (Zk (l++txt x))]],[0],1⟩
 | _,_=>False
theorem Zc2 {α:Type} (val:Pl→α→PV) (may:α→Bool) (txt:α→Bs) (w:α→Nat) (n:Nat):Zc (Ze9 val may txt w n):=fun args σ K K' hK h=>by
 unfold Ze9 at h ⊢
 exact m84
noncomputable def Zn5 {α:Type} (g0:FuncId) (enc:Pl→α→List D) (may:α→Bool) (txt:α→Bs) (w:α→Nat) (n:Nat):Zz:=fun args σ K=>match args,σ with
 | [.ptr 0 0,.d (.sl r),.d (.str bt),.func g [] [.ptr 1 0]],⟨[.cells t [.ptr 0 0,.sl 0 e rows],.cells tp [.ptr 0 0]],[0],1⟩=>∃l pl xs,rows=Zk l∧r=xs.map (enc pl)∧(t=84∧e=5∧g=g0)∧(xs.all may=true∧szS w xs≤n∧n≤1073741824)∧l.length+(Zf bt (xs.map txt)).length<70368744177664 ∧
   K (.ret (.tuple [])) ⟨[.cells t [.ptr 0 0,.sl 0 e (Zk (l++Zf bt (xs.map txt)))],.cells tp [.ptr 0 0]],[0],1⟩
 | _,_=>False
theorem Zci {α:Type} (g0:FuncId) (enc:Pl→α→List D) (may:α→Bool) (txt:α→Bs) (w:α→Nat) (n:Nat):Zc (Zn5 g0 enc may txt w n):=fun args σ K K' hK h=>by
 unfold Zn5 at h ⊢
 exact m84
noncomputable def ZDv (s:Bs):Zz:=Zj2 (.tuple [.d (.int .i64 s.length),.d .nili]) fun rest txt=>rest=[.d (.str s)]∧txt=s
noncomputable def ZhO:Zz:=fun args σ K=>match args with
 | [.ptr 0 0,.d (.str s)]=>ZDv s args σ K
 | _=>False
theorem UQ:Zc ZhO:=fun args σ K K' hK h=>by
 unfold ZhO at h ⊢
 split at h
 ·exact VR _ _ _ _ _ _ hK h
 ·exact h.elim
noncomputable def ZAd:Tbl:=[(214,W6)]
theorem Zqm:PCalls (GG w0 nG) 155 ZhO:=by
 refine pc (tbl:=ZAd) ⟨⟨ZhN,Zc1⟩,trivial⟩ Tryz.func155 ?_
 intro args σ K h
 unfold ZhO at h
 split at h
 ·rename_i s
  unfold ZDv Zj2 at h
  split at h
  ·rename_i rest t p e rows hargs
   obtain ⟨l,txt,rfl,⟨hp,rfl,rfl⟩,⟨hrest,rfl⟩,hlen,h⟩:=h
   simp only [List.cons.injEq,true_and] at hargs
   have hb:∀x:Bs,(Zk x).length=x.length:=fun x=>by simp [Zk]
   rw [UH] at h
   refine ⟨Za [],1,true,by simp,Tb rfl,?_⟩
   rcases hp with rfl | rfl
   all_goals
    conv=>whnf
    first | refine ⟨⟨.inl rfl,rfl⟩,?_⟩ | refine ⟨⟨.inr rfl,rfl⟩,?_⟩
    conv=>whnf
    refine ⟨fun r hr=>?_,?_,?_,?_⟩
    ·obtain ⟨b,_,rfl⟩:=Sf.1 hr;rfl
    ·show ((Zk l).length+(Zk txt).length) * 1≤2 ^ 47;rw [hb,hb];omega
    ·show (Zk l).length+(Zk txt).length≤2 ^ 47;rw [hb,hb];omega
    ·exact m31
  ·exact h.elim
 ·exact h.elim
noncomputable def ZfY:Zz:=Zj2 (.tuple []) fun rest txt=>∃ps:List Bs,rest=[.d (.sl (ps.map ZC))]∧ps≠[]∧ps.length≤1073741824∧txt=ps.flatten
theorem Y2:Zc ZfY:=VR _ _
noncomputable def Zqn:Tbl:=[(155,ZhO)]
theorem Zjs:TblOK (GG w0 nG) Zqn:=⟨⟨Zqm,UQ⟩,trivial⟩
theorem Za2:PCalls (GG w0 nG) 75 ZfY:=by
 refine ZiK XI mixed (tbl:=Zqn) Zjs Tryz.func75 rfl (by kernel_rfl) (by kernel_rfl) ?_
 intro args σ K h
 unfold ZfY Zj2 at h
 split at h
 ·rename_i rest t p e rows
  obtain ⟨l,txt,rfl,⟨hp,rfl,rfl⟩,⟨ps,rfl,hne,hpl,rfl⟩,hlen,h⟩:=h
  have hl1:(ps.map ZC).length=ps.length:=Tf ..
  refine ⟨Za [(1,⟨[8],[0,6,7],fun vs σ=>∃(i:Nat) (P:PV),vs=[.d (.int .i64 i)]∧σ=⟨[.cells 84 [P,.sl 0 5 (Zk (l++(ps.take i).flatten))]],[0],1⟩∧(P=.d .nilp∨P=.ptr 0 0)∧(0<i→P=.ptr 0 0)∧i≤ps.length,fun vs _=>match vs with | [.d (.int _ i)]=>((ps.length:Int) - i).toNat | _=>0⟩)],1,true,by simp,Tb rfl,?_⟩
  rcases hp with rfl | rfl
  all_goals
   conv=>whnf
   refine ⟨⟨0,_,rfl,(by simp only [T6,Sp,TA];rfl),(by first | exact .inl rfl | exact .inr rfl),fun g=>absurd g (by omega),by omega⟩,?_⟩
   intro vs σ hI
   obtain ⟨i,P,rfl,rfl,hP,hP0,hi⟩:=hI
   conv=>whnf
   refine ZEb (fun hi2=>?_) (fun hi2=>?_)
   ·have hi2:i<ps.length:=by have hi2:(i:Int)<(ps.map ZC).length:=hi2;rw [hl1] at hi2;omega
    obtain ⟨s,hs⟩:∃s,ps[i]=s:=⟨_,rfl⟩
    have hr1:(ps.map ZC)[((i:Nat):Int).toNat]?=some (ZC s):=by simp [hi2,hs]
    have htk:(ps.take (i+1)).flatten=(ps.take i).flatten++s:=by rw [List.take_succ_eq_append_getElem hi2,List.flatten_append,hs];simp
    have hle:(ps.take (i+1)).flatten.length≤ps.flatten.length:=by
     have e:ps.flatten=(ps.take (i+1)).flatten++(ps.drop (i+1)).flatten:=by rw [← List.flatten_append,List.take_append_drop]
     rw [e,Ta];omega
    rw [htk,Ta] at hle
    rcases hP with rfl | rfl
    all_goals
     conv=>whnf
     refine ⟨_,by omega,hr1,?_⟩
     conv=>whnf
     refine ⟨l++(ps.take i).flatten,s,rfl,⟨(by first | exact .inl rfl | exact .inr rfl),rfl,rfl⟩,⟨rfl,rfl⟩,by rw [Ta];omega,?_⟩
     conv=>whnf
     refine oiO ?_
     conv=>whnf
     refine ⟨⟨i+1,_,rfl,(by rw [htk,Tg];rfl),.inr rfl,fun _=>rfl,by omega⟩,?_⟩
     show ((ps.length:Int) - ((i:Int)+1)).toNat<((ps.length:Int) - (i:Int)).toNat
     omega
   ·have hi2:i=ps.length:=by have hi2:¬(i:Int)<(ps.map ZC).length:=hi2;rw [hl1] at hi2;omega
    subst hi2
    obtain rfl:=hP0 (TT.2 hne)
    rw [Sd]
    exact m31
 ·exact h.elim
theorem Zfa (bt:Bs):∀(l:List Bs) (x:Bs),Zf bt (l++[x])=if l=[] then x else Zf bt l++(bt++x)
 | [],x=>rfl
 | [y],x=>by simp [Zf]
 | y::z::l,x=>by
  have ih:=Zfa bt (z::l) x
  simp only [Tm] at ih ⊢
  rw [Zf,ih] <;> simp [Zf]
theorem Jq {α:Type} (bt:Bs) (f:α→Bs) {xs:List α} {i:Nat} (h:i<xs.length):Zf bt ((xs.take (i+1)).map f)=if i=0 then f xs[i] else Zf bt ((xs.take i).map f)++(bt++f xs[i]):=by
 rw [List.take_succ_eq_append_getElem h,List.map_append,Tw,TF,Zfa]
 have e:((xs.take i).map f=[])↔i=0:=by
  rw [← SD,Tf,Se];omega
 by_cases h0:i=0
 ·rw [Th (e.2 h0),Th h0]
 ·rw [Te (fun g=>h0 (e.1 g)),Te h0]
theorem Zcj (bt:Bs):∀(l m:List Bs),(Zf bt l).length≤(Zf bt (l++m)).length
 | [],m=>Sa _
 | [x],[]=>Tr _
 | [x],y::m=>by simp only [Tm,To,Zf,Ta];omega
 | x::y::l,m=>by
  have ih:=Zcj bt (y::l) m
  simp only [Tm,Zf,Ta] at ih ⊢;omega
theorem Zck {α:Type} (bt:Bs) (f:α→Bs) (xs:List α) (i:Nat):(Zf bt ((xs.take i).map f)).length≤(Zf bt (xs.map f)).length:=by
 have h:=Zcj bt ((xs.take i).map f) ((xs.drop i).map f)
 rwa [← List.map_append,List.take_append_drop] at h
noncomputable def Zw3 (n:Nat):Tbl:=[(155,ZhO),(196,Ze9 (Xd (fun _=>ZA)) YG fiT wFi n)]
theorem Zw4 {n:Nat} (ht:TblOK (GG w0 nG) (Zw3 n)):PCalls (GG w0 nG) 195 (Zn5 196 (fun _=>ZA) YG fiT wFi n):=by
 refine pc ht Tryz.func195 ?_
 intro args σ K h
 unfold Zn5 at h
 split at h
 ·rename_i r bt g t e rows tp
  obtain ⟨l,pl,xs,rfl,rfl,⟨rfl,rfl,rfl⟩,⟨hmay,hz,hn⟩,hlen,h⟩:=h
  have hl1:(xs.map ((fun _=>ZA) pl)).length=xs.length:=Tf ..
  have hsz:=ZH wFi xs
  refine ⟨Za [(1,⟨[12],[0,1,2,3,10,11],fun vs σ=>∃i:Nat,vs=[.d (.int .i64 i)]∧σ=⟨[.cells 84 [.ptr 0 0,.sl 0 5 (Zk (l++Zf bt ((xs.take i).map fiT)))],.cells tp [.ptr 0 0]],[0],1⟩∧i≤xs.length,fun vs _=>match vs with | [.d (.int _ i)]=>((xs.length:Int) - i).toNat | _=>0⟩)],2,true,by simp,Tb rfl,?_⟩
  conv=>whnf
  refine ⟨⟨0,rfl,(by simp only [T6,TF,Zf,TA];rfl),by omega⟩,?_⟩
  intro vs σ hI
  obtain ⟨i,rfl,rfl,hi⟩:=hI
  conv=>whnf
  refine ZEb (fun hi2=>?_) (fun hi2=>?_)
  ·have hi2:i<xs.length:=by have hi2:(i:Int)<(xs.map ((fun _=>ZA) pl)).length:=hi2;rw [hl1] at hi2;omega
   have hg:=ZD wFi xs i hi2
   have hmx:YG xs[i]=true:=Tl.1 hmay _ (TV hi2)
   have htk:=Jq bt fiT hi2
   have hle:=Zck bt fiT xs (i+1)
   obtain ⟨eA,hA⟩:∃x,xs[i]=x:=⟨_,rfl⟩
   obtain ⟨a1,a2⟩:=eA
   rw [hA] at hg hmx htk
   have hr1:(xs.map ((fun _=>ZA) pl))[((i:Nat):Int).toNat]?=some ((fun _=>ZA) pl ⟨a1,a2⟩):=by simp [hi2,hA]
   conv=>whnf
   refine ⟨_,by omega,hr1,?_⟩
   conv=>whnf
   refine ZEb (fun h0=>?_) (fun h0=>?_)
   ·have h0:0<i:=by omega
    rw [Te (by omega)] at htk
    rw [htk] at hle
    simp only [Ta] at hle
    conv=>whnf
    refine ⟨l++Zf bt ((xs.take i).map fiT),bt,rfl,⟨.inr rfl,rfl,rfl⟩,⟨rfl,rfl⟩,by simp only [Ta];omega,?_⟩
    conv=>whnf
    refine ⟨l++Zf bt ((xs.take i).map fiT)++bt,pl,⟨a1,a2⟩,rfl,rfl,⟨rfl,rfl⟩,⟨hmx,by omega,by omega⟩,by simp only [Ta];omega,?_⟩
    exact m39
   ·obtain rfl:i=0:=by omega
    rw [Th rfl] at htk
    rw [htk] at hle
    conv=>whnf
    refine ⟨l++Zf bt ((xs.take 0).map fiT),pl,⟨a1,a2⟩,rfl,rfl,⟨rfl,rfl⟩,⟨hmx,by omega,by omega⟩,by simp only [T6,TF,Zf,Ta,Td];omega,?_⟩
    exact m37
  ·have hi2:i=xs.length:=by have hi2:¬(i:Int)<(xs.map ((fun _=>ZA) pl)).length:=hi2;rw [hl1] at hi2;omega
   subst hi2
   rw [Sd]
   exact m31
 ·exact h.elim
noncomputable def Zw5 (n:Nat):Tbl:=[(155,ZhO),(134,Ze9 (Xd (fun _=>ZI)) Xz caT wCa n)]
theorem Zw6 {n:Nat} (ht:TblOK (GG w0 nG) (Zw5 n)):PCalls (GG w0 nG) 133 (Zn5 134 (fun _=>ZI) Xz caT wCa n):=by
 refine pc ht Tryz.func133 ?_
 intro args σ K h
 unfold Zn5 at h
 split at h
 ·rename_i r bt g t e rows tp
  obtain ⟨l,pl,xs,rfl,rfl,⟨rfl,rfl,rfl⟩,⟨hmay,hz,hn⟩,hlen,h⟩:=h
  have hl1:(xs.map ((fun _=>ZI) pl)).length=xs.length:=Tf ..
  have hsz:=ZH wCa xs
  refine ⟨Za [(1,⟨[12],[0,1,2,3,10,11],fun vs σ=>∃i:Nat,vs=[.d (.int .i64 i)]∧σ=⟨[.cells 84 [.ptr 0 0,.sl 0 5 (Zk (l++Zf bt ((xs.take i).map caT)))],.cells tp [.ptr 0 0]],[0],1⟩∧i≤xs.length,fun vs _=>match vs with | [.d (.int _ i)]=>((xs.length:Int) - i).toNat | _=>0⟩)],2,true,by simp,Tb rfl,?_⟩
  conv=>whnf
  refine ⟨⟨0,rfl,(by simp only [T6,TF,Zf,TA];rfl),by omega⟩,?_⟩
  intro vs σ hI
  obtain ⟨i,rfl,rfl,hi⟩:=hI
  conv=>whnf
  refine ZEb (fun hi2=>?_) (fun hi2=>?_)
  ·have hi2:i<xs.length:=by have hi2:(i:Int)<(xs.map ((fun _=>ZI) pl)).length:=hi2;rw [hl1] at hi2;omega
   have hg:=ZD wCa xs i hi2
   have hmx:Xz xs[i]=true:=Tl.1 hmay _ (TV hi2)
   have htk:=Jq bt caT hi2
   have hle:=Zck bt caT xs (i+1)
   obtain ⟨eA,hA⟩:∃x,xs[i]=x:=⟨_,rfl⟩
   obtain ⟨a1,a2⟩:=eA
   rw [hA] at hg hmx htk
   have hr1:(xs.map ((fun _=>ZI) pl))[((i:Nat):Int).toNat]?=some ((fun _=>ZI) pl ⟨a1,a2⟩):=by simp [hi2,hA]
   conv=>whnf
   refine ⟨_,by omega,hr1,?_⟩
   conv=>whnf
   refine ZEb (fun h0=>?_) (fun h0=>?_)
   ·have h0:0<i:=by omega
    rw [Te (by omega)] at htk
    rw [htk] at hle
    simp only [Ta] at hle
    conv=>whnf
    refine ⟨l++Zf bt ((xs.take i).map caT),bt,rfl,⟨.inr rfl,rfl,rfl⟩,⟨rfl,rfl⟩,by simp only [Ta];omega,?_⟩
    conv=>whnf
    refine ⟨l++Zf bt ((xs.take i).map caT)++bt,pl,⟨a1,a2⟩,rfl,rfl,⟨rfl,rfl⟩,⟨hmx,by omega,by omega⟩,by simp only [Ta];omega,?_⟩
    exact m39
   ·obtain rfl:i=0:=by omega
    rw [Th rfl] at htk
    rw [htk] at hle
    conv=>whnf
    refine ⟨l++Zf bt ((xs.take 0).map caT),pl,⟨a1,a2⟩,rfl,rfl,⟨rfl,rfl⟩,⟨hmx,by omega,by omega⟩,by simp only [T6,TF,Zf,Ta,Td];omega,?_⟩
    exact m37
  ·have hi2:i=xs.length:=by have hi2:¬(i:Int)<(xs.map ((fun _=>ZI) pl)).length:=hi2;rw [hl1] at hi2;omega
   subst hi2
   rw [Sd]
   exact m31
 ·exact h.elim
end Go.PM.Lex
end

section
namespace Go.PM.Lex
open Go.Proofs
def ZCI:Tab:=(.node (.node (.node (.node .leaf 3 ⟨1,8,.int .i64,[.d (.int .i64 (0))],true⟩ .leaf) 4 ⟨1,1,.bool,[.d (.bool false)],false⟩ .leaf) 5 ⟨1,1,.int .u8,[.d (.int .u8 (0))],true⟩ (.node .leaf 9 ⟨1,16,.string,[.d (.str [])],false⟩ .leaf)) 80 ⟨1,24,.slice 5,[.nils 5],false⟩ (.node (.node .leaf 131 ⟨1,8,.int .u64,[.d (.int .u64 (0))],true⟩ .leaf) 261 ⟨1,8,.int .u64,[.d (.int .u64 (0))],true⟩ (.node .leaf 305 ⟨65,65,.array 65 5,[.d (.int .u8 (0)),.d (.int .u8 (0)),.d (.int .u8 (0)),.d (.int .u8 (0)),.d (.int .u8 (0)),.d (.int .u8 (0)),.d (.int .u8 (0)),.d (.int .u8 (0)),.d (.int .u8 (0)),.d (.int .u8 (0)),.d (.int .u8 (0)),.d (.int .u8 (0)),.d (.int .u8 (0)),.d (.int .u8 (0)),.d (.int .u8 (0)),.d (.int .u8 (0)),.d (.int .u8 (0)),.d (.int .u8 (0)),.d (.int .u8 (0)),.d (.int .u8 (0)),.d (.int .u8 (0)),.d (.int .u8 (0)),.d (.int .u8 (0)),.d (.int .u8 (0)),.d (.int .u8 (0)),.d (.int .u8 (0)),.d (.int .u8 (0)),.d (.int .u8 (0)),.d (.int .u8 (0)),.d (.int .u8 (0)),.d (.int .u8 (0)),.d (.int .u8 (0)),.d (.int .u8 (0)),.d (.int .u8 (0)),.d (.int .u8 (0)),.d (.int .u8 (0)),.d (.int .u8 (0)),.d (.int .u8 (0)),.d (.int .u8 (0)),.d (.int .u8 (0)),.d (.int .u8 (0)),.d (.int .u8 (0)),.d (.int .u8 (0)),.d (.int .u8 (0)),.d (.int .u8 (0)),.d (.int .u8 (0)),.d (.int .u8 (0)),.d (.int .u8 (0)),.d (.int .u8 (0)),.d (.int .u8 (0)),.d (.int .u8 (0)),.d (.int .u8 (0)),.d (.int .u8 (0)),.d (.int .u8 (0)),.d (.int .u8 (0)),.d (.int .u8 (0)),.d (.int .u8 (0)),.d (.int .u8 (0)),.d (.int .u8 (0)),.d (.int .u8 (0)),.d (.int .u8 (0)),.d (.int .u8 (0)),.d (.int .u8 (0)),.d (.int .u8 (0)),.d (.int .u8 (0))],false⟩ .leaf)))
theorem ZsH:TabOK ZCI Tryz.prog:=by unfold TabOK;kernel_rfl
end Go.PM.Lex
end

section
namespace Go.PM.Lex
open Go.Proofs Go.Shelf Go.RowKit
variable {w0:World} {nG:Nat}
structure NumOK (w0:World) (nG:Nat):Prop where
 big:7<nG
 pow : Lib.TabIs Tryz.prog w0 "internal/strconv.uint64pow10" .u64 Lib.pow10Tab
 bru:w0.cell? ⟨5,15,none⟩=some (.int .u8 4)
theorem ZAe:IntKind.u64.wrap (bits BinOp.and IntKind.u64 (16:Int) (IntKind.u64.wrap (-(16:Int))) * 285870213051353865) / 288230376151711744=(15:Int):=by decide +kernel
theorem Zw7 (w:World) (hcell:w.cell? ⟨5,15,none⟩=some (.int .u8 4)):Calls Tryz.prog 306 #[.int .u64 16] w fun e w'=>e=.returned (.int .i64 4)∧w'=w:=by
 go_enter Tryz.func306,Tryz.ntmps306
 go_wp2_with (simp only [ZAe])
 go_ret
 exact ⟨rfl,rfl⟩
theorem ZdF:∀(f n:Nat),n<f→Lib.decDigits n=ZbB 10 f n
 | 0,n,h=>by omega
 | f+1,n,h=>by
  rw [Lib.decDigits,ZbB]
  by_cases c:n<10
  ·rw [dif_pos c,Th c,Zj0,Th c]
  ·rw [dif_neg c,Te c,ZdF f (n / 10) (by omega),Zj0,Th (by omega)]
theorem Zqo {n:Int} (h:0≤n):Lib.itoa n=Zd1 n:=by
 rw [Lib.itoa,Te (by omega),Zd1,Te (by omega),Yx]
 exact ZdF _ _ (by omega)
theorem ZsI {e:Env} {σ:St} {w:World} {name:String} {k:IntKind} {zs:List Int} {g:Nat} (hS:SRel (GG w0 nG) e σ w) (h:Lib.TabIs Tryz.prog w0 name k zs) (hg:Tryz.prog.globalNamed name=some g) (hlt:g<nG):Lib.TabIs Tryz.prog w name k zs:=by
 unfold Lib.TabIs World.var? at h ⊢
 rw [hg] at h ⊢
 simp only [Option.bind_some] at h ⊢
 rw [hS.glob g hlt];exact h
theorem Zw8 {e:Env} {σ:St} {w:World} {k i:Nat} {u:Value} (hS:SRel (GG w0 nG) e σ w) (hk:k<nG) (h:w0.cell? ⟨k,i,none⟩=some u):w.cell? ⟨k,i,none⟩=some u:=by
 have:=hS.glob k hk
 simpa [World.cell?,this] using h
noncomputable def Zjt:Zz:=fun args σ K=>match args,σ with
 | [.d (.int .i64 n),.d (.int .i64 b)],⟨[],[],0⟩=>(b=10∧0≤n∧n<9223372036854775808)∧K (.ret (.d (.str (Zd1 n)))) ⟨[],[],0⟩
 | _,_=>False
theorem Zfb:Zc Zjt:=fun args σ K K' hK h=>by
 unfold Zjt at h ⊢;split at h <;> first | exact ⟨h.1,hK _ _ h.2⟩ | exact h.elim
theorem Zqp (hN:NumOK w0 nG):PCalls (GG w0 nG) 78 Zjt:=Y1 (Zi Tryz.func78 (by kernel_rfl) rfl) fun args σ K h e w vs hS ha=>by
 unfold Zjt at h
 split at h
 ·rename_i n b
  obtain ⟨⟨rfl,h0,h1⟩,h⟩:=h
  obtain ⟨u,v,rfl,hu,hv⟩:=ZiP ha
  cases hu.dint;cases hv.dint
  have ht:=ZsI hS hN.pow (g:=3) (by kernel_rfl) (by have:=hN.big;omega)
  have hc:=Tryz.strconv_FormatInt_10 n (by omega) (by omega) w ht
  rw [Zqo h0] at hc
  exact ⟨_,h,_,fun _ _=>.mkstr,hc.mono fun en w' ⟨h1,k,os,h2⟩=>⟨h1,ZEi (by rw [h2];exact Lib.below_grow w.heap.size w (Tr _) k os)⟩⟩
 ·exact h.elim
noncomputable def Zt2:Zz:=fun args σ K=>match args,σ with
 | [.d (.int .u64 n)],⟨[],[],0⟩=>n=16∧K (.ret (.d (.int .i64 4))) ⟨[],[],0⟩
 | _,_=>False
theorem Zju:Zc Zt2:=fun args σ K K' hK h=>by
 unfold Zt2 at h ⊢;split at h <;> first | exact ⟨h.1,hK _ _ h.2⟩ | exact h.elim
theorem Zw9 (hN:NumOK w0 nG):PCalls (GG w0 nG) 306 Zt2:=Y1 (Zi Tryz.func306 (by kernel_rfl) rfl) fun args σ K h e w vs hS ha=>by
 unfold Zt2 at h
 split at h
 ·rename_i n
  obtain ⟨rfl,h⟩:=h
  obtain ⟨u,rfl,hu⟩:=ZiO ha
  cases hu.dint
  exact ⟨_,h,_,fun _ _=>.d _ _ (.int _ _),(Zw7 w (Zw8 hS (k:=5) (by have:=hN.big;omega) hN.bru)).mono fun en w' ⟨h1,h2⟩=>⟨h1,by rw [h2];exact Grows.refl _⟩⟩
 ·exact h.elim
noncomputable def ZCJ:Tbl:=[(306,Zt2)]
theorem ZCK (hN:NumOK w0 nG):PCalls (GG w0 nG) 276 Zt2:=by
 refine pc (tbl:=ZCJ) ⟨⟨Zw9 hN,Zju⟩,trivial⟩ Tryz.func276 ?_
 intro args σ K h
 unfold Zt2 at h
 split at h
 ·obtain ⟨rfl,h⟩:=h
  refine ⟨Za [],0,false,by simp,Tb rfl,?_⟩
  conv=>whnf
  refine ⟨rfl,?_⟩
  exact m31
 ·exact h.elim
noncomputable def Zqq:Zz:=fun args σ K=>match args,σ with
 | [.d (.int .i64 n)],⟨[],[],0⟩=>n=16∧K (.ret (.d (.bool true))) ⟨[],[],0⟩
 | _,_=>False
theorem Zn6:Zc Zqq:=fun args σ K K' hK h=>by
 unfold Zqq at h ⊢;split at h <;> first | exact ⟨h.1,hK _ _ h.2⟩ | exact h.elim
theorem Zxa:Zj .and .i64 16 15=0:=by rw [YT];decide +kernel
theorem ZAf:PCalls (GG w0 nG) 275 Zqq:=by
 refine pc (tbl:=[]) trivial Tryz.func275 ?_
 intro args σ K h
 unfold Zqq at h
 split at h
 ·obtain ⟨rfl,h⟩:=h
  refine ⟨Za [],0,false,by simp,Tb rfl,?_⟩
  conv=>whnf
  refine oiO ?_
  conv=>whnf
  have e:(Zj .and .i64 16 (16 - 1))=0:=Zxa
  rw [e]
  exact h
 ·exact h.elim
theorem ZsJ {n:Nat} (h:16≤n):Yx 16 n=Yx 16 (n / 16)++[Zj0 (n % 16)]:=by
 have key:∀(f g m:Nat),m<f→m<g→ZbB 16 f m=ZbB 16 g m:=by
  intro f
  induction f with
  | zero=>intro g m h;omega
  | succ f ih =>
   intro g m h1 h2
   obtain ⟨g,rfl⟩:∃k,g=k+1:=⟨g - 1,by omega⟩
   rw [ZbB,ZbB]
   split
   ·rfl
   ·rw [ih g (m / 16) (by omega) (by omega)]
 rw [Yx,ZbB,Te (by omega),Yx,key n (n / 16+1) (n / 16) (by omega) (by omega)]
theorem ZsK {n:Nat} (h:n<16):Yx 16 n=[Zj0 n]:=by rw [Yx,ZbB,Th h]
def digs36:Bs:=[48,49,50,51,52,53,54,55,56,57,97,98,99,100,101,102,103,104,105,106,107,108,109,110,111,112,113,114,115,116,117,118,119,120,121,122]
theorem Zqr:∀d:Fin 16,digs36.getD d.val 0=Zj0 d.val:=by decide +kernel
theorem Zxb {u:Nat} (h:u<18446744073709551616):Zj .and .u64 (u:Int) 15=((u % 16:Nat):Int):=by
 have e:Zj .and .u64 (u:Int) 15=bits .and .u64 (u:Int) ((15:Nat):Int):=by rw [YT];rfl
 rw [e,bits_and_u64_nat u 15 h (by decide)]
 have:u &&& 15=u % 16:=Nat.and_two_pow_sub_one_eq_mod u 4
 rw [this]
def sh4 (n:Int):Int:=n.fdiv (2 ^ (min (Int.toNat 4) (IntKind.bits .u64)))
theorem Zxc (u:Nat):sh4 (u:Int)=((u / 16:Nat):Int):=by
 show (u:Int).fdiv ((2:Int) ^ 4)=_
 rw [show ((2:Int) ^ 4)=((16:Nat):Int) by decide,Int.fdiv_eq_ediv_of_nonneg _ (by decide)]
 omega
theorem ZsL {u:Nat} (h:u<18446744073709551616):digs36.getD (Zj .and .u64 (u:Int) 15).toNat 0=Zj0 (u % 16):=by
 rw [Zxb h,TN]
 exact Zqr ⟨u % 16,Nat.mod_lt _ (by decide)⟩
theorem ZsM {u:Nat} (h:u<16):digs36.getD (u:Int).toNat 0=Zj0 u:=by
 rw [TN]
 exact Zqr ⟨u,h⟩
theorem ZsN {u:Nat} (h:u<18446744073709551616):0≤Zj .and .u64 (u:Int) 15:=by rw [Zxb h];omega
theorem ZsO {u:Nat} (h:u<18446744073709551616):Zj .and .u64 (u:Int) 15<36:=by rw [Zxb h];omega
def shN:Nat→Int→Int
 | 0,n=>n
 | j+1,n=>sh4 (shN j n)
noncomputable def ZAg:Nat→Int→Bs
 | 0,_=>[]
 | j+1,n=>digs36.getD (Zj .and .u64 (shN j n) 15).toNat 0::ZAg j n
theorem Zc3 (u:Nat):∀j,shN j (u:Int)=((u / 16 ^ j:Nat):Int)
 | 0=>by rw [shN,Nat.pow_zero,Nat.div_one]
 | j+1=>by rw [shN,Zc3 u j,Zxc,Nat.div_div_eq_div_mul,Nat.pow_succ]
theorem Zqs {u:Nat} (hu:u<18446744073709551616) (j:Nat):u / 16 ^ j<18446744073709551616:=Nat.lt_of_le_of_lt (Nat.div_le_self _ _) hu
theorem ZDw {u:Nat} (hu:u<18446744073709551616):∀j,(∀k,k<j→16≤u / 16 ^ k)→Yx 16 u=Yx 16 (u / 16 ^ j)++ZAg j (u:Int)
 | 0,_=>by rw [ZAg,Nat.pow_zero,Nat.div_one,TA]
 | j+1,h=>by
  rw [ZDw hu j fun k hk=>h k (by omega),ZsJ (h j (by omega)),ZAg,Zc3,ZsL (Zqs hu j),Tg,Nat.div_div_eq_div_mul,Nat.pow_succ];rfl
theorem ZDx {u j:Nat} (G:∀k,k<j→16≤u / 16 ^ k) (g:(16:Int)≤shN j (u:Int)):∀k,k<j+1→16≤u / 16 ^ k:=fun k hk=>by
 rw [Zc3] at g
 by_cases c:k=j
 ·subst c;omega
 ·exact G k (by omega)
theorem ZDy {u j:Nat} (hu:u<18446744073709551616) (G:∀k,k<j→16≤u / 16 ^ k) (g:¬(16:Int)≤shN j (u:Int)):Yx 16 u=digs36.getD (shN j (u:Int)).toNat 0::ZAg j (u:Int):=by
 rw [Zc3] at g ⊢
 rw [ZDw hu j G,ZsK (by omega),ZsM (by omega)];rfl
theorem ZDQ {u j:Nat} (hu:u<18446744073709551616) (G:∀k,k<j→16≤u / 16 ^ k):0≤Zj .and .u64 (shN j (u:Int)) 15∧Zj .and .u64 (shN j (u:Int)) 15<36:=by
 rw [Zc3];exact ⟨ZsN (Zqs hu j),ZsO (Zqs hu j)⟩
theorem ZDz {u j:Nat} (G:∀k,k<j→16≤u / 16 ^ k) (g:¬(16:Int)≤shN j (u:Int)):0≤shN j (u:Int)∧shN j (u:Int)<36:=by
 rw [Zc3] at g ⊢
 generalize u / 16 ^ j=v at g ⊢
 omega
noncomputable def ZAh:Zz:=fun args σ K=>match args,σ with
 | [.sl 0 e [],.d (.int .u64 n),.d (.int .i64 b),.d (.bool ng),.d (.bool ap)],⟨[],[0],1⟩=>(b=16∧ng=false∧ap=false∧0≤n∧n<18446744073709551616)∧K (.ret (.tuple [.d (.sl []),.d (.str (Yx 16 n.toNat))])) ⟨[],[],0⟩
 | _,_=>False
theorem Zqt:Zc ZAh:=fun args σ K K' hK h=>by
 unfold ZAh at h ⊢;split at h <;> first | exact ⟨h.1,hK _ _ h.2⟩ | exact h.elim
noncomputable def ZCL:Tbl:=[(275,Zqq),(276,Zt2)]
theorem ZCM (hN:NumOK w0 nG):PCalls (GG w0 nG) 224 ZAh:=by
 refine Zkt ZsH mixed (tbl:=ZCL) ⟨⟨ZAf,Zn6⟩,⟨ZCK hN,Zju⟩,trivial⟩ Tryz.func224 rfl (by kernel_rfl) (by kernel_rfl) ?_
 intro args σ K h
 unfold ZAh at h
 split at h
 all_goals first | exact h.elim | skip
 all_goals
  obtain ⟨⟨rfl,rfl,rfl,h0,h1⟩,h⟩:=h
  rename_i e n
  obtain ⟨u0,rfl⟩:∃u:Nat,n=u:=⟨n.toNat,by omega⟩
  rw [TN] at h
  have hu0:u0<18446744073709551616:=by omega
  refine ⟨Za [],ZbX [(11,17)],VW [],VW [101],VW [],0,false,by simp,Tb rfl,?_⟩
  conv=>whnf
  refine ⟨rfl,?_⟩
  conv=>whnf
  refine oiU ?_
  conv=>whnf
  refine ⟨rfl,?_⟩
  conv=>whnf
  refine oiU ?_
  conv=>whnf
  refine oiU ?_
  conv=>whnf
  refine oiU ?_
  conv=>whnf
  refine oiU ?_
  conv=>whnf
  have G:∀k,k<0→16≤u0 / 16 ^ k:=fun k hk=>by omega
  iterate 15
   refine ZEb (fun g=>?_) (fun g=>?_)
   rotate_left
   ·exact m154
   have B:=ZDQ hu0 G
   have G:=ZDx G g
   conv=>whnf
   refine oiD ?_
   conv=>whnf
   refine ⟨B.1,B.2,?_⟩
   conv=>whnf
   refine ⟨by decide,by decide,?_⟩
   conv=>whnf
   refine ⟨by decide,?_⟩
   conv=>whnf
  refine ZEb (fun g=>?_) (fun g=>?_)
  ·exact absurd (ZDx G g 15 (by decide)) (by omega)
  ·exact m154
noncomputable def ZdG:Zz:=fun args σ K=>match args,σ with
 | [.d (.int .u64 n),.d (.int .i64 b)],⟨[],[],0⟩=>(b=16∧0≤n∧n<18446744073709551616)∧K (.ret (.d (.str (Yx 16 n.toNat)))) ⟨[],[],0⟩
 | _,_=>False
theorem ZbC:Zc ZdG:=fun args σ K K' hK h=>by
 unfold ZdG at h ⊢;split at h <;> first | exact ⟨h.1,hK _ _ h.2⟩ | exact h.elim
noncomputable def ZCN:Tbl:=[(224,ZAh)]
theorem ZCO (hN:NumOK w0 nG):PCalls (GG w0 nG) 158 ZdG:=by
 refine pc (tbl:=ZCN) ⟨⟨ZCM hN,Zqt⟩,trivial⟩ Tryz.func158 ?_
 intro args σ K h
 unfold ZdG at h
 split at h
 ·obtain ⟨⟨rfl,h0,h1⟩,h⟩:=h
  refine ⟨Za [],0,false,by simp,Tb rfl,?_⟩
  conv=>whnf
  refine ⟨⟨rfl,rfl,rfl,h0,h1⟩,?_⟩
  exact m31
 ·exact h.elim
noncomputable def Zxd:Tbl:=[(158,ZdG)]
theorem Zqu (hN:NumOK w0 nG):PCalls (GG w0 nG) 77 ZdG:=by
 refine pc (tbl:=Zxd) ⟨⟨ZCO hN,ZbC⟩,trivial⟩ Tryz.func77 ?_
 intro args σ K h
 unfold ZdG at h
 split at h
 ·rename_i n b
  obtain ⟨⟨rfl,h0,h1⟩,h⟩:=h
  refine ⟨Za [],0,false,by simp,Tb rfl,?_⟩
  conv=>whnf
  refine ⟨⟨rfl,h0,h1⟩,?_⟩
  generalize Yx 16 n.toNat=T at h ⊢
  exact m31
 ·exact h.elim
theorem Zmt {n:Int} (h:n<0) (h0:-9223372036854775808≤n):0≤IntKind.u64.wrap n∧IntKind.u64.wrap n<18446744073709551616∧Zd1 n=[48,120]++Yx 16 (IntKind.u64.wrap n).toNat:=by
 have e:IntKind.u64.wrap n=n+18446744073709551616:=by
  exact m141
 refine ⟨by omega,by omega,?_⟩
 rw [Zd1,Th h,e]
end Go.PM.Lex
end

section
namespace Go.PM.Lex
def ZsP (n:Int):Bool:=decide (-9223372036854775808≤n) && decide (n<9223372036854775808)
mutual
def Zcl:Ex→Bool
 | .mk _ _ n l _=>ZsP n && Zfc l
def Zfc:List Ex→Bool
 | []=>true
 | x::l=>Zcl x && Zfc l
end
theorem WM (l:List Ex):Zfc l=l.all Zcl:=by induction l with | nil=>rfl | cons x l ih=>simp [Zfc,ih]
theorem Zc4 {op:Nat} {t:Bs} {n:Int} {l:List Ex} {a:Nat} (h:Zcl (.mk op t n l a)=true):(-9223372036854775808≤n∧n<9223372036854775808)∧∀x∈l,Zcl x=true:=by
 simp only [Zcl,WM,ZsP,Tj,TJ] at h
 exact ⟨h.1,Tl.1 h.2⟩
mutual
def Zfd:Li→Bool
 | .mk _ _ args body _=>Zfc args && ZfZ body
def ZfZ:List Li→Bool
 | []=>true
 | x::l=>Zfd x && ZfZ l
end
theorem Uf (l:List Li):ZfZ l=l.all Zfd:=by induction l with | nil=>rfl | cons x l ih=>simp [ZfZ,ih]
theorem Zk1 {op:Nat} {rel:Bs} {args:List Ex} {body:List Li} {a:Nat} (h:Zfd (.mk op rel args body a)=true):(∀x∈args,Zcl x=true)∧∀x∈body,Zfd x=true:=by
 simp only [Zfd,WM,Uf,Tj] at h
 exact ⟨Tl.1 h.1,Tl.1 h.2⟩
def Zaf (r:Ru):Bool:=r.args.all Zcl && r.body.all Zfd
mutual
def ZgJ:Un→Bool
 | .mk _ _ rules comps _ _=>rules.all Zaf && Za3 comps
def ZaK:Co→Bool
 | .mk _ _ _ _ u _=>ZgJ u
def Za3:List Co→Bool
 | []=>true
 | c::l=>ZaK c && Za3 l
end
theorem VS (l:List Co):Za3 l=l.all ZaK:=by induction l with | nil=>rfl | cons x l ih=>simp [Za3,ih]
end Go.PM.Lex
end

section
namespace Go.PM.Lex
open Go.Proofs
variable {w0:World} {nG:Nat}
def Zj3 (e:Ex):Bool:=ZW e && Zcl e
theorem Zxe {op:Nat} {t:Bs} {n:Int} {l:List Ex} {a:Nat} (h:Zj3 (.mk op t n l a)=true):-2<Z2 op∧(Z2 op<0∨(l.length:Int)=Z2 op)∧XM op t=true∧(-9223372036854775808≤n∧n<9223372036854775808)∧l.all Zj3=true:=by
 simp only [Zj3,Tj] at h
 obtain ⟨h1,h2⟩:=h
 obtain ⟨r1,r2⟩:=Zc4 h2
 simp only [ZW,Zq,Tj,Sn,TJ] at h1
 obtain ⟨h1,h3,h4,h5,h6⟩:=h1
 refine ⟨h1,h3,h5,r1,?_⟩
 rw [Tl] at h6 ⊢
 exact fun x hx=>by rw [Zj3,h6 x hx,r2 x hx];rfl
theorem ZsQ {op:Nat} (h:-2<Z2 op):op<26:=by
 by_cases hc:op<26
 ·exact hc
 ·unfold Z2 at h
  (repeat rw [Te (by omega)] at h)
  omega
theorem Zxf {op:Nat} (h:-2<Z2 op):(Zl op<5→Z2 op=2)∧(Zl op=5→Z2 op=1)∧Zl op≤6∧(op=5→Z2 op=0):=by
 have hk:∀o:Fin 26,-2<Z2 o.val→(Zl o.val<5→Z2 o.val=2)∧(Zl o.val=5→Z2 o.val=1)∧Zl o.val≤6∧(o.val=5→Z2 o.val=0):=by decide
 exact hk ⟨op,ZsQ h⟩ h
noncomputable def ZrM (n:Nat):Zz:=Zj2 (.tuple []) fun rest txt=>∃pl e want,rest=[Xd YE pl e,.d (.int .i64 want)]∧(Zj3 e=true∧wE e≤n∧n≤1073741824∧0≤want∧want≤6)∧txt=exW want.toNat e
theorem UR (n:Nat):Zc (ZrM n):=VR _ _
noncomputable def ZsR (n:Nat):Zz:=Zj2 (.tuple []) fun rest txt=>∃fr fin pl xs,rest=[.d (.str fr),.d (.sl (XF pl xs)),.d (.str fin)]∧(xs.all Zj3=true∧szS wE xs≤n∧n≤1073741824)∧txt=Wt fr fin xs
theorem Zag (n:Nat):Zc (ZsR n):=VR _ _
theorem VX (e:Ex):exW 0 e=exT e:=by rw [exW,Zqg,Te (by simp)]
noncomputable def ZAi (n:Nat):Tbl:=[(30,ZrM n)]
theorem ZAj {n:Nat} (ht:TblOK (GG w0 nG) (ZAi n)):PCalls (GG w0 nG) 157 (Ze9 (Xd YE) Zj3 exT wE n):=by
 refine pc ht Tryz.func157 ?_
 intro args σ K h
 unfold Ze9 at h
 split at h
 ·obtain ⟨l,pl,⟨op,tx,nn,xs,at'⟩,rfl,rfl,⟨rfl,rfl⟩,⟨hmay,hz,hn⟩,hlen,h⟩:=h
  refine ⟨Za [],2,true,by simp,Tb rfl,?_⟩
  conv=>whnf
  refine ⟨l,exT (.mk op tx nn xs at'),rfl,⟨.inr rfl,rfl,rfl⟩,⟨pl,.mk op tx nn xs at',0,rfl,⟨hmay,hz,hn,by omega,by omega⟩,(VX _).symm⟩,hlen,?_⟩
  exact m31
 ·exact h.elim
noncomputable def ZCP (n:Nat):Tbl:=[(75,ZfY),(156,Zn5 157 YE Zj3 exT wE n)]
theorem ZCQ {n:Nat} (ht:TblOK (GG w0 nG) (ZCP n)):PCalls (GG w0 nG) 76 (ZsR n):=by
 refine pc ht Tryz.func76 ?_
 intro args σ K h
 unfold ZsR Zj2 at h
 split at h
 ·rename_i rest t p e rows
  obtain ⟨l,txt,rfl,⟨hp,rfl,rfl⟩,⟨fr,fin,pl,xs,rfl,⟨hmay,hz,hn⟩,rfl⟩,hlen,h⟩:=h
  have key:l++Wt fr fin xs=l++fr++Zf cmm (xs.map exT)++fin:=by simp only [Wt,Zt0,Tg]
  rw [key] at h
  have hlen:l.length+(fr.length+((Zf cmm (xs.map exT)).length+fin.length))<70368744177664:=by have:=hlen;simp only [Wt,Zt0,Ta] at this;exact this
  refine ⟨Za [],1,true,by simp,Tb rfl,?_⟩
  rcases hp with rfl | rfl
  all_goals
   conv=>whnf
   refine ⟨l,fr,rfl,⟨(by first | exact .inl rfl | exact .inr rfl),rfl,rfl⟩,⟨[fr],rfl,by simp,by simp,by simp⟩,by omega,?_⟩
   conv=>whnf
   refine ⟨l++fr,pl,xs,rfl,Zh pl xs,⟨rfl,rfl,rfl⟩,⟨hmay,hz,hn⟩,by rw [Ta];show _+(Zf cmm (xs.map exT)).length<_;omega,?_⟩
   conv=>whnf
   refine ⟨l++fr++Zf cmm (xs.map exT),fin,rfl,⟨.inr rfl,rfl,rfl⟩,⟨[fin],rfl,by simp,by simp,by simp⟩,by simp only [Ta];omega,?_⟩
   conv=>whnf
   exact h
 ·exact h.elim
noncomputable def ZAk:List PV→St→(St→Prop)→Prop:=fun args σ K=>args.length≤Tryz.f75.ntmps∧W (Zno Zkv Zqn WT (Za []) (ZbX [(1,3)]) (fun _=>false)) (VY Tryz.f75) (ZAb Zkv Tryz.f75 σ.bx.length K) (ZfH 0 args) σ
theorem ZDR:PDef (GG w0 nG) 75 ZAk (fun _ _ _ _=>False) :=
 Zn3 XI mixed Zjs Tryz.func75 rfl (by kernel_rfl) (by kernel_rfl) fun args σ K h=>⟨Za [],ZbX [(1,3)],σ.bx.length,Tr _,h.1,h.2⟩
noncomputable def ZAl (n:Nat):Tbl:=[(71,ZyC),(75,ZfY),(30,spB ZrM n),(76,spB ZsR n),(78,Zjt),(77,ZdG),(73,ZbA)]
end Go.PM.Lex
end

section
namespace Go.PM.Lex
open Go.Proofs
variable {w0:World} {nG:Nat}
theorem ZAm {n:Nat} (ht:TblOK (GG w0 nG) (ZAl n)):PCalls (GG w0 nG) 30 (ZrM n):=by
 refine ZsF XI mixed (tbl:=ZAl n) ht Tryz.func30 rfl (by kernel_rfl) (by kernel_rfl) ZDR ?_
 intro args σ K h
 unfold ZrM Zj2 at h
 split at h
 ·rename_i rest t p e rows
  obtain ⟨l,txt,rfl,⟨hp,rfl,rfl⟩,⟨pl,⟨op,tx,nn,xs,at'⟩,want,rfl,⟨hmay,hz,hn,hw0,hw6⟩,rfl⟩,hlen,h⟩:=h
  obtain ⟨m1,m2,m3,m4,m5⟩:=Zxe hmay
  obtain ⟨k1,k2,k3,k5⟩:=Zxf m1
  have hzx:szS wE xs+tx.length+1≤n:=by rw [wE,VP] at hz;omega
  rw [Tl] at m5
  refine ⟨Za [],ZbX [],VW [],1,true,by simp,Tb rfl,?_⟩
  rcases hp with rfl | rfl
  all_goals
   conv=>whnf
   refine ⟨op,rfl,fun l1 w1 a1 e1 e2 e3=>?_⟩
   subst e1
   conv=>whnf
   refine ZEb (fun hlt=>?_) (fun hlt=>?_)
   ·have hW:exW want.toNat (.mk op tx nn xs at')=[40]++(exT (.mk op tx nn xs at')++[41]):=by rw [exW,Zqg,Th (by show Zl op<_;omega)]
    rw [hW] at h hlen
    have hlen0:l.length+1<70368744177664:=by simp only [Ta,Tc,Td] at hlen;omega
    conv=>whnf
    refine ⟨l,[40],rfl,⟨(by first | exact .inl rfl | exact .inr rfl),rfl,rfl⟩,⟨[[40]],rfl,by simp,by simp,by simp⟩,by simp only [Tc,Td];omega,?_⟩
    conv=>whnf
    refine ZEb (fun c1=>?_) (fun c1=>?_)
    ·have c1:Zl op<5:=by omega
     have hl2:xs.length=2:=by have:=k1 c1;omega
     obtain ⟨x0,x1,rfl⟩:∃x0 x1,xs=[x0,x1]:=by match xs,hl2 with | [a,b],_=>exact ⟨a,b,rfl⟩
     simp only [szS] at hzx
     have g0:=m5 x0 (by simp)
     have g1:=m5 x1 (by simp)
     have z0:wE x0≤n - 1:=by omega
     have z1:wE x1≤n - 1:=by omega
     obtain ⟨o0,t0,n0,y0,q0⟩:=x0
     obtain ⟨o1,t1,n1,y1,q1⟩:=x1
     have hx:exT (.mk op tx nn [(.mk o0 t0 n0 y0 q0),(.mk o1 t1 n1 y1 q1)] at')=exW (Zl op) (.mk o0 t0 n0 y0 q0)++(([32]++(w1++[32]))++exW (Zl op+1) (.mk o1 t1 n1 y1 q1)):=by rw [exT,exN,Th c1,e2];rfl
     rw [hx] at h hlen
     (try simp only [Ta,Tc,Td] at hlen)
     conv=>whnf
     refine ⟨_,by decide,rfl,?_⟩
     conv=>whnf
     refine ⟨by omega,(l++[40]),exW (Zl op) (.mk o0 t0 n0 y0 q0),rfl,⟨(by first | exact .inl rfl | exact .inr rfl),rfl,rfl⟩,⟨pl,(.mk o0 t0 n0 y0 q0),(Zl op:Int),rfl,⟨g0,by omega,by omega,by omega,by omega⟩,rfl⟩,by (try simp only [Ta,Tc,Td]);omega,?_⟩
     conv=>whnf
     refine ⟨(l++[40])++exW (Zl op) (.mk o0 t0 n0 y0 q0),[32]++(w1++[32]),rfl,⟨(by first | exact .inl rfl | exact .inr rfl),rfl,rfl⟩,⟨[[32],w1,[32]],rfl,by simp,by simp,by simp⟩,by (try simp only [Ta,Tc,Td]);omega,?_⟩
     conv=>whnf
     refine ⟨_,by decide,rfl,?_⟩
     conv=>whnf
     refine oiO ?_
     conv=>whnf
     refine ⟨by omega,(l++[40])++exW (Zl op) (.mk o0 t0 n0 y0 q0)++([32]++(w1++[32])),exW (Zl op+1) (.mk o1 t1 n1 y1 q1),rfl,⟨(by first | exact .inl rfl | exact .inr rfl),rfl,rfl⟩,⟨pl,(.mk o1 t1 n1 y1 q1),((Zl op:Int)+1),rfl,⟨g1,by omega,by omega,by omega,by omega⟩,rfl⟩,by (try simp only [Ta,Tc,Td]);omega,?_⟩
     conv=>whnf
     refine ⟨Tb rfl,?_⟩
     conv=>whnf
     refine ⟨_,by decide,rfl,?_⟩
     conv=>whnf
     refine ⟨(l++[40])++exW (Zl op) (.mk o0 t0 n0 y0 q0)++([32]++(w1++[32]))++exW (Zl op+1) (.mk o1 t1 n1 y1 q1),[41],rfl,⟨.inr rfl,rfl,rfl⟩,⟨rfl,rfl⟩,by (try simp only [Ta,Tc,Td]);omega,?_⟩
     conv=>whnf
     refine oiO ?_
     rw [show l++([40]++(exW (Zl op) (.mk o0 t0 n0 y0 q0)++(([32]++(w1++[32]))++exW (Zl op+1) (.mk o1 t1 n1 y1 q1))++[41]))=(l++[40])++exW (Zl op) (.mk o0 t0 n0 y0 q0)++([32]++(w1++[32]))++exW (Zl op+1) (.mk o1 t1 n1 y1 q1)++[41] by first | rfl | simp only [Tg]] at h
     exact m31
    have c1:¬Zl op<5:=by omega
    conv=>whnf
    refine ZEb (fun c2=>?_) (fun c2=>?_)
    ·have c2:Zl op=5:=by omega
     have hl2:xs.length=1:=by have:=k2 c2;omega
     obtain ⟨x0,rfl⟩:∃x0,xs=[x0]:=by match xs,hl2 with | [a],_=>exact ⟨a,rfl⟩
     simp only [szS] at hzx
     have g0:=m5 x0 (by simp)
     have z0:wE x0≤n - 1:=by omega
     obtain ⟨o0,t0,n0,y0,q0⟩:=x0
     have hx:exT (.mk op tx nn [(.mk o0 t0 n0 y0 q0)] at')=w1++exW 5 (.mk o0 t0 n0 y0 q0):=by rw [exT,exN,Te c1,Th c2,e2];rfl
     rw [hx] at h hlen
     (try simp only [Ta,Tc,Td] at hlen)
     conv=>whnf
     refine ⟨(l++[40]),w1,rfl,⟨(by first | exact .inl rfl | exact .inr rfl),rfl,rfl⟩,⟨[w1],rfl,by simp,by simp,by simp⟩,by (try simp only [Ta,Tc,Td]);omega,?_⟩
     conv=>whnf
     refine ⟨_,by decide,rfl,?_⟩
     conv=>whnf
     refine ⟨by omega,(l++[40])++w1,exW 5 (.mk o0 t0 n0 y0 q0),rfl,⟨(by first | exact .inl rfl | exact .inr rfl),rfl,rfl⟩,⟨pl,(.mk o0 t0 n0 y0 q0),5,rfl,⟨g0,by omega,by omega,by omega,by omega⟩,rfl⟩,by (try simp only [Ta,Tc,Td]);omega,?_⟩
     conv=>whnf
     refine ⟨Tb rfl,?_⟩
     conv=>whnf
     refine ⟨_,by decide,rfl,?_⟩
     conv=>whnf
     refine ⟨(l++[40])++w1++exW 5 (.mk o0 t0 n0 y0 q0),[41],rfl,⟨.inr rfl,rfl,rfl⟩,⟨rfl,rfl⟩,by (try simp only [Ta,Tc,Td]);omega,?_⟩
     conv=>whnf
     refine oiO ?_
     rw [show l++([40]++(w1++exW 5 (.mk o0 t0 n0 y0 q0)++[41]))=(l++[40])++w1++exW 5 (.mk o0 t0 n0 y0 q0)++[41] by first | rfl | simp only [Tg]] at h
     exact m31
    have c2:¬Zl op=5:=by omega
    conv=>whnf
    refine ZEf (fun c3=>?_) (fun c3=>?_)
    ·have c3:ZE op≠[]:=by rw [e2];exact c3
     have hx:exT (.mk op tx nn xs at')=w1++Wt [40] [41] xs:=by rw [exT,exN,Te c1,Te c2,Th c3,e2,Zaz];rfl
     rw [hx] at h hlen
     (try simp only [Ta,Tc,Td] at hlen)
     conv=>whnf
     refine ⟨(l++[40]),w1,rfl,⟨(by first | exact .inl rfl | exact .inr rfl),rfl,rfl⟩,⟨[w1],rfl,by simp,by simp,by simp⟩,by (try simp only [Ta,Tc,Td]);omega,?_⟩
     conv=>whnf
     refine ⟨by omega,(l++[40])++w1,Wt [40] [41] xs,rfl,⟨(by first | exact .inl rfl | exact .inr rfl),rfl,rfl⟩,⟨[40],[41],pl,xs,rfl,⟨Tl.2 m5,by omega,by omega⟩,rfl⟩,by (try simp only [Ta,Tc,Td]);omega,?_⟩
     conv=>whnf
     refine ⟨Tb rfl,?_⟩
     conv=>whnf
     refine ⟨_,by decide,rfl,?_⟩
     conv=>whnf
     refine ⟨(l++[40])++w1++Wt [40] [41] xs,[41],rfl,⟨.inr rfl,rfl,rfl⟩,⟨rfl,rfl⟩,by (try simp only [Ta,Tc,Td]);omega,?_⟩
     conv=>whnf
     refine oiO ?_
     rw [show l++([40]++(w1++Wt [40] [41] xs++[41]))=(l++[40])++w1++Wt [40] [41] xs++[41] by first | rfl | simp only [Tg]] at h
     exact m31
    have c3:¬ZE op≠[]:=by rw [e2];exact fun g=>g c3
    conv=>whnf
    refine ZEb (fun c4=>?_) (fun c4=>?_)
    ·have c4:op=6:=by omega
     have hx:exT (.mk op tx nn xs at')=Wt [91] [93] xs:=by rw [exT,exN,Te c1,Te c2,Te c3,Th c4,Zaz];rfl
     rw [hx] at h hlen
     (try simp only [Ta,Tc,Td] at hlen)
     conv=>whnf
     refine ⟨by omega,(l++[40]),Wt [91] [93] xs,rfl,⟨(by first | exact .inl rfl | exact .inr rfl),rfl,rfl⟩,⟨[91],[93],pl,xs,rfl,⟨Tl.2 m5,by omega,by omega⟩,rfl⟩,by (try simp only [Ta,Tc,Td]);omega,?_⟩
     conv=>whnf
     refine ⟨Tb rfl,?_⟩
     conv=>whnf
     refine ⟨_,by decide,rfl,?_⟩
     conv=>whnf
     refine ⟨(l++[40])++Wt [91] [93] xs,[41],rfl,⟨.inr rfl,rfl,rfl⟩,⟨rfl,rfl⟩,by (try simp only [Ta,Tc,Td]);omega,?_⟩
     conv=>whnf
     refine oiO ?_
     rw [show l++([40]++(Wt [91] [93] xs++[41]))=(l++[40])++Wt [91] [93] xs++[41] by first | rfl | simp only [Tg]] at h
     exact m31
    have c4:¬op=6:=by omega
    conv=>whnf
    refine ZEb (fun c5=>?_) (fun c5=>?_)
    ·have c5:op=7:=by omega
     have hxl:(XF pl xs).length=xs.length:=by rw [Zh,Tf]
     by_cases hx0:xs.length=0
     ·have hx:exT (.mk op tx nn xs at')=[36]++tx:=by rw [exT,exN,Te c1,Te c2,Te c3,Te c4,Th c5,Zd2,Th hx0,TA]
      rw [hx] at h hlen
      (try simp only [Ta,Tc,Td] at hlen)
      conv=>whnf
      refine ⟨(l++[40]),[36]++tx,rfl,⟨(by first | exact .inl rfl | exact .inr rfl),rfl,rfl⟩,⟨[[36],tx],rfl,by simp,by simp,by simp⟩,by (try simp only [Ta,Tc,Td]);omega,?_⟩
      conv=>whnf
      refine ZEb (fun g=>?_) (fun g=>?_)
      case refine_1=>exact absurd (show ((XF pl xs).length:Int)>0 from g) (by omega)
      conv=>whnf
      refine ⟨Tb rfl,?_⟩
      conv=>whnf
      refine ⟨_,by decide,rfl,?_⟩
      conv=>whnf
      refine ⟨(l++[40])++([36]++tx),[41],rfl,⟨.inr rfl,rfl,rfl⟩,⟨rfl,rfl⟩,by (try simp only [Ta,Tc,Td]);omega,?_⟩
      conv=>whnf
      refine oiO ?_
      rw [show l++([40]++([36]++tx++[41]))=(l++[40])++([36]++tx)++[41] by first | rfl | simp only [Tg]] at h
      exact m31
     have hx:exT (.mk op tx nn xs at')=([36]++tx)++Wt [40] [41] xs:=by rw [exT,exN,Te c1,Te c2,Te c3,Te c4,Th c5,Zd2,Te hx0,Zaz,Tg];rfl
     rw [hx] at h hlen
     (try simp only [Ta,Tc,Td] at hlen)
     conv=>whnf
     refine ⟨(l++[40]),[36]++tx,rfl,⟨(by first | exact .inl rfl | exact .inr rfl),rfl,rfl⟩,⟨[[36],tx],rfl,by simp,by simp,by simp⟩,by (try simp only [Ta,Tc,Td]);omega,?_⟩
     conv=>whnf
     refine ZEb (fun g=>?_) (fun g=>?_)
     case refine_2=>exact absurd (show ((XF pl xs).length:Int)>0 by omega) g
     conv=>whnf
     refine ⟨by omega,(l++[40])++([36]++tx),Wt [40] [41] xs,rfl,⟨(by first | exact .inl rfl | exact .inr rfl),rfl,rfl⟩,⟨[40],[41],pl,xs,rfl,⟨Tl.2 m5,by omega,by omega⟩,rfl⟩,by (try simp only [Ta,Tc,Td]);omega,?_⟩
     conv=>whnf
     refine ⟨Tb rfl,?_⟩
     conv=>whnf
     refine ⟨_,by decide,rfl,?_⟩
     conv=>whnf
     refine ⟨(l++[40])++([36]++tx)++Wt [40] [41] xs,[41],rfl,⟨.inr rfl,rfl,rfl⟩,⟨rfl,rfl⟩,by (try simp only [Ta,Tc,Td]);omega,?_⟩
     conv=>whnf
     refine oiO ?_
     rw [show l++([40]++(([36]++tx)++Wt [40] [41] xs++[41]))=(l++[40])++([36]++tx)++Wt [40] [41] xs++[41] by first | rfl | simp only [Tg]] at h
     exact m31
    have c5:¬op=7:=by omega
    conv=>whnf
    refine ZEb (fun c6=>?_) (fun c6=>?_)
    ·have c6':op=3:=by omega
     obtain ⟨i0,i1⟩:=m4
     conv=>whnf
     refine ZEb (fun gn=>?_) (fun gn=>?_)
     ·obtain ⟨j0,j1,j2⟩:=Zmt gn i0
      obtain ⟨wn,hwn⟩:∃wn,IntKind.u64.wrap nn=wn:=⟨_,rfl⟩
      rw [hwn] at j0 j1 j2
      conv=>whnf
      refine Or.inr ?_
      rw [hwn]
      have hx:exT (.mk op tx nn xs at')=Zd1 nn:=by rw [exT,exN,Te c1,Te c2,Te c3,Te c4,Te c5,Th c6']
      rw [hx] at h hlen
      (try simp only [Ta,Tc,Td] at hlen)
      conv=>whnf
      refine ⟨⟨rfl,j0,j1⟩,?_⟩
      obtain ⟨T,hT⟩:∃T,Yx 16 wn.toNat=T:=⟨_,rfl⟩
      rw [hT] at j2 ⊢
      rw [j2] at h hlen
      (try simp only [Ta,Tc,Td] at hlen)
      conv=>whnf
      refine ⟨(l++[40]),[48,120]++T,rfl,⟨(by first | exact .inl rfl | exact .inr rfl),rfl,rfl⟩,⟨[[48,120],T],rfl,by simp,by simp,by simp⟩,by (try simp only [Ta,Tc,Td]);omega,?_⟩
      conv=>whnf
      refine ⟨Tb rfl,?_⟩
      conv=>whnf
      refine ⟨_,by decide,rfl,?_⟩
      conv=>whnf
      refine ⟨(l++[40])++([48,120]++T),[41],rfl,⟨.inr rfl,rfl,rfl⟩,⟨rfl,rfl⟩,by (try simp only [Ta,Tc,Td]);omega,?_⟩
      conv=>whnf
      refine oiO ?_
      rw [show l++([40]++(([48,120]++T)++[41]))=(l++[40])++([48,120]++T)++[41] by first | rfl | simp only [Tg]] at h
      exact m31
     conv=>whnf
     refine ZEb (fun _=>?_) (fun g=>absurd c6 g)
     have hx:exT (.mk op tx nn xs at')=Zd1 nn:=by rw [exT,exN,Te c1,Te c2,Te c3,Te c4,Te c5,Th c6']
     rw [hx] at h hlen
     (try simp only [Ta,Tc,Td] at hlen)
     conv=>whnf
     refine ⟨⟨rfl,by omega,i1⟩,?_⟩
     conv=>whnf
     refine ⟨(l++[40]),Zd1 nn,rfl,⟨(by first | exact .inl rfl | exact .inr rfl),rfl,rfl⟩,⟨[Zd1 nn],rfl,by simp,by simp,by simp⟩,by (try simp only [Ta,Tc,Td]);omega,?_⟩
     conv=>whnf
     refine ⟨Tb rfl,?_⟩
     conv=>whnf
     refine ⟨_,by decide,rfl,?_⟩
     conv=>whnf
     refine ⟨(l++[40])++Zd1 nn,[41],rfl,⟨.inr rfl,rfl,rfl⟩,⟨rfl,rfl⟩,by (try simp only [Ta,Tc,Td]);omega,?_⟩
     conv=>whnf
     refine oiO ?_
     rw [show l++([40]++(Zd1 nn++[41]))=(l++[40])++Zd1 nn++[41] by first | rfl | simp only [Tg]] at h
     exact m31
    have c6':¬op=3:=by omega
    conv=>whnf
    refine ZEb (fun g=>absurd g c6) (fun _=>?_)
    conv=>whnf
    refine ZEb (fun c7=>?_) (fun c7=>?_)
    ·have c7':op=4:=by omega
     have hq:(Vj tx).isSome=true:=by unfold XM at m3;rw [Te (by omega),Th c7'] at m3;exact m3
     obtain ⟨q,hq⟩:=Option.isSome_iff_exists.1 hq
     have hqT:Zqf tx=q:=by rw [Zqf,hq];rfl
     have hx:exT (.mk op tx nn xs at')=q:=by rw [exT,exN,Te c1,Te c2,Te c3,Te c4,Te c5,Te c6',Th c7',hqT]
     rw [hx] at h hlen
     (try simp only [Ta,Tc,Td] at hlen)
     conv=>whnf
     refine ⟨by omega,?_⟩
     conv=>whnf
     refine ⟨fun g=>?_,fun q' hq'=>?_⟩
     case refine_1=>exact absurd (hq.symm.trans g) (by simp)
     obtain rfl:q=q':=by rw [hq] at hq';exact Option.some.inj hq'
     conv=>whnf
     refine ⟨(l++[40]),q,rfl,⟨(by first | exact .inl rfl | exact .inr rfl),rfl,rfl⟩,⟨[q],rfl,by simp,by simp,by simp⟩,by (try simp only [Ta,Tc,Td]);omega,?_⟩
     conv=>whnf
     refine ⟨Tb rfl,?_⟩
     conv=>whnf
     refine ⟨_,by decide,rfl,?_⟩
     conv=>whnf
     refine ⟨(l++[40])++q,[41],rfl,⟨.inr rfl,rfl,rfl⟩,⟨rfl,rfl⟩,by (try simp only [Ta,Tc,Td]);omega,?_⟩
     conv=>whnf
     refine oiO ?_
     rw [show l++([40]++(q++[41]))=(l++[40])++q++[41] by first | rfl | simp only [Tg]] at h
     exact m31
    have c7':¬op=4:=by omega
    conv=>whnf
    refine ZEb (fun c8=>?_) (fun c8=>?_)
    ·have c8':op=5:=by omega
     have hx:exT (.mk op tx nn xs at')=[110,105,108]:=by rw [exT,exN,Te c1,Te c2,Te c3,Te c4,Te c5,Te c6',Te c7',Th c8']
     rw [hx] at h hlen
     (try simp only [Ta,Tc,Td] at hlen)
     conv=>whnf
     refine ⟨(l++[40]),[110,105,108],rfl,⟨(by first | exact .inl rfl | exact .inr rfl),rfl,rfl⟩,⟨[[110,105,108]],rfl,by simp,by simp,by simp⟩,by (try simp only [Ta,Tc,Td]);omega,?_⟩
     conv=>whnf
     refine ⟨Tb rfl,?_⟩
     conv=>whnf
     refine ⟨_,by decide,rfl,?_⟩
     conv=>whnf
     refine ⟨(l++[40])++[110,105,108],[41],rfl,⟨.inr rfl,rfl,rfl⟩,⟨rfl,rfl⟩,by (try simp only [Ta,Tc,Td]);omega,?_⟩
     conv=>whnf
     refine oiO ?_
     rw [show l++([40]++([110,105,108]++[41]))=(l++[40])++[110,105,108]++[41] by first | rfl | simp only [Tg]] at h
     exact m31
    have c8':¬op=5:=by omega
    conv=>whnf
    refine ZEb (fun c9=>?_) (fun c9=>?_)
    ·have c9':op=2:=by omega
     have hx:exT (.mk op tx nn xs at')=[95]:=by rw [exT,exN,Te c1,Te c2,Te c3,Te c4,Te c5,Te c6',Te c7',Te c8',Th c9']
     rw [hx] at h hlen
     (try simp only [Ta,Tc,Td] at hlen)
     conv=>whnf
     refine ⟨(l++[40]),[95],rfl,⟨(by first | exact .inl rfl | exact .inr rfl),rfl,rfl⟩,⟨[[95]],rfl,by simp,by simp,by simp⟩,by (try simp only [Ta,Tc,Td]);omega,?_⟩
     conv=>whnf
     refine ⟨Tb rfl,?_⟩
     conv=>whnf
     refine ⟨_,by decide,rfl,?_⟩
     conv=>whnf
     refine ⟨(l++[40])++[95],[41],rfl,⟨.inr rfl,rfl,rfl⟩,⟨rfl,rfl⟩,by (try simp only [Ta,Tc,Td]);omega,?_⟩
     conv=>whnf
     refine oiO ?_
     rw [show l++([40]++([95]++[41]))=(l++[40])++[95]++[41] by first | rfl | simp only [Tg]] at h
     exact m31
    have c9':¬op=2:=by omega
    have hx:exT (.mk op tx nn xs at')=tx:=by rw [exT,exN,Te c1,Te c2,Te c3,Te c4,Te c5,Te c6',Te c7',Te c8',Te c9']
    rw [hx] at h hlen
    (try simp only [Ta,Tc,Td] at hlen)
    conv=>whnf
    refine ⟨(l++[40]),tx,rfl,⟨(by first | exact .inl rfl | exact .inr rfl),rfl,rfl⟩,⟨[tx],rfl,by simp,by simp,by simp⟩,by (try simp only [Ta,Tc,Td]);omega,?_⟩
    conv=>whnf
    refine ⟨Tb rfl,?_⟩
    conv=>whnf
    refine ⟨_,by decide,rfl,?_⟩
    conv=>whnf
    refine ⟨(l++[40])++tx,[41],rfl,⟨.inr rfl,rfl,rfl⟩,⟨rfl,rfl⟩,by (try simp only [Ta,Tc,Td]);omega,?_⟩
    conv=>whnf
    refine oiO ?_
    rw [show l++([40]++(tx++[41]))=(l++[40])++tx++[41] by first | rfl | simp only [Tg]] at h
    exact m31
   ·have hW:exW want.toNat (.mk op tx nn xs at')=exT (.mk op tx nn xs at'):=by rw [exW,Zqg,Te (by show ¬Zl op<_;omega)]
    rw [hW] at h hlen
    conv=>whnf
    refine ZEb (fun c1=>?_) (fun c1=>?_)
    ·have c1:Zl op<5:=by omega
     have hl2:xs.length=2:=by have:=k1 c1;omega
     obtain ⟨x0,x1,rfl⟩:∃x0 x1,xs=[x0,x1]:=by match xs,hl2 with | [a,b],_=>exact ⟨a,b,rfl⟩
     simp only [szS] at hzx
     have g0:=m5 x0 (by simp)
     have g1:=m5 x1 (by simp)
     have z0:wE x0≤n - 1:=by omega
     have z1:wE x1≤n - 1:=by omega
     obtain ⟨o0,t0,n0,y0,q0⟩:=x0
     obtain ⟨o1,t1,n1,y1,q1⟩:=x1
     have hx:exT (.mk op tx nn [(.mk o0 t0 n0 y0 q0),(.mk o1 t1 n1 y1 q1)] at')=exW (Zl op) (.mk o0 t0 n0 y0 q0)++(([32]++(w1++[32]))++exW (Zl op+1) (.mk o1 t1 n1 y1 q1)):=by rw [exT,exN,Th c1,e2];rfl
     rw [hx] at h hlen
     (try simp only [Ta,Tc,Td] at hlen)
     conv=>whnf
     refine ⟨_,by decide,rfl,?_⟩
     conv=>whnf
     refine ⟨by omega,l,exW (Zl op) (.mk o0 t0 n0 y0 q0),rfl,⟨(by first | exact .inl rfl | exact .inr rfl),rfl,rfl⟩,⟨pl,(.mk o0 t0 n0 y0 q0),(Zl op:Int),rfl,⟨g0,by omega,by omega,by omega,by omega⟩,rfl⟩,by (try simp only [Ta,Tc,Td]);omega,?_⟩
     conv=>whnf
     refine ⟨l++exW (Zl op) (.mk o0 t0 n0 y0 q0),[32]++(w1++[32]),rfl,⟨(by first | exact .inl rfl | exact .inr rfl),rfl,rfl⟩,⟨[[32],w1,[32]],rfl,by simp,by simp,by simp⟩,by (try simp only [Ta,Tc,Td]);omega,?_⟩
     conv=>whnf
     refine ⟨_,by decide,rfl,?_⟩
     conv=>whnf
     refine oiO ?_
     conv=>whnf
     refine ⟨by omega,l++exW (Zl op) (.mk o0 t0 n0 y0 q0)++([32]++(w1++[32])),exW (Zl op+1) (.mk o1 t1 n1 y1 q1),rfl,⟨(by first | exact .inl rfl | exact .inr rfl),rfl,rfl⟩,⟨pl,(.mk o1 t1 n1 y1 q1),((Zl op:Int)+1),rfl,⟨g1,by omega,by omega,by omega,by omega⟩,rfl⟩,by (try simp only [Ta,Tc,Td]);omega,?_⟩
     rw [show l++(exW (Zl op) (.mk o0 t0 n0 y0 q0)++(([32]++(w1++[32]))++exW (Zl op+1) (.mk o1 t1 n1 y1 q1)))=l++exW (Zl op) (.mk o0 t0 n0 y0 q0)++([32]++(w1++[32]))++exW (Zl op+1) (.mk o1 t1 n1 y1 q1) by first | rfl | simp only [Tg]] at h
     exact m31
    have c1:¬Zl op<5:=by omega
    conv=>whnf
    refine ZEb (fun c2=>?_) (fun c2=>?_)
    ·have c2:Zl op=5:=by omega
     have hl2:xs.length=1:=by have:=k2 c2;omega
     obtain ⟨x0,rfl⟩:∃x0,xs=[x0]:=by match xs,hl2 with | [a],_=>exact ⟨a,rfl⟩
     simp only [szS] at hzx
     have g0:=m5 x0 (by simp)
     have z0:wE x0≤n - 1:=by omega
     obtain ⟨o0,t0,n0,y0,q0⟩:=x0
     have hx:exT (.mk op tx nn [(.mk o0 t0 n0 y0 q0)] at')=w1++exW 5 (.mk o0 t0 n0 y0 q0):=by rw [exT,exN,Te c1,Th c2,e2];rfl
     rw [hx] at h hlen
     (try simp only [Ta,Tc,Td] at hlen)
     conv=>whnf
     refine ⟨l,w1,rfl,⟨(by first | exact .inl rfl | exact .inr rfl),rfl,rfl⟩,⟨[w1],rfl,by simp,by simp,by simp⟩,by (try simp only [Ta,Tc,Td]);omega,?_⟩
     conv=>whnf
     refine ⟨_,by decide,rfl,?_⟩
     conv=>whnf
     refine ⟨by omega,l++w1,exW 5 (.mk o0 t0 n0 y0 q0),rfl,⟨(by first | exact .inl rfl | exact .inr rfl),rfl,rfl⟩,⟨pl,(.mk o0 t0 n0 y0 q0),5,rfl,⟨g0,by omega,by omega,by omega,by omega⟩,rfl⟩,by (try simp only [Ta,Tc,Td]);omega,?_⟩
     rw [show l++(w1++exW 5 (.mk o0 t0 n0 y0 q0))=l++w1++exW 5 (.mk o0 t0 n0 y0 q0) by first | rfl | simp only [Tg]] at h
     exact m31
    have c2:¬Zl op=5:=by omega
    conv=>whnf
    refine ZEf (fun c3=>?_) (fun c3=>?_)
    ·have c3:ZE op≠[]:=by rw [e2];exact c3
     have hx:exT (.mk op tx nn xs at')=w1++Wt [40] [41] xs:=by rw [exT,exN,Te c1,Te c2,Th c3,e2,Zaz];rfl
     rw [hx] at h hlen
     (try simp only [Ta,Tc,Td] at hlen)
     conv=>whnf
     refine ⟨l,w1,rfl,⟨(by first | exact .inl rfl | exact .inr rfl),rfl,rfl⟩,⟨[w1],rfl,by simp,by simp,by simp⟩,by (try simp only [Ta,Tc,Td]);omega,?_⟩
     conv=>whnf
     refine ⟨by omega,l++w1,Wt [40] [41] xs,rfl,⟨(by first | exact .inl rfl | exact .inr rfl),rfl,rfl⟩,⟨[40],[41],pl,xs,rfl,⟨Tl.2 m5,by omega,by omega⟩,rfl⟩,by (try simp only [Ta,Tc,Td]);omega,?_⟩
     rw [show l++(w1++Wt [40] [41] xs)=l++w1++Wt [40] [41] xs by first | rfl | simp only [Tg]] at h
     exact m31
    have c3:¬ZE op≠[]:=by rw [e2];exact fun g=>g c3
    conv=>whnf
    refine ZEb (fun c4=>?_) (fun c4=>?_)
    ·have c4:op=6:=by omega
     have hx:exT (.mk op tx nn xs at')=Wt [91] [93] xs:=by rw [exT,exN,Te c1,Te c2,Te c3,Th c4,Zaz];rfl
     rw [hx] at h hlen
     (try simp only [Ta,Tc,Td] at hlen)
     conv=>whnf
     refine ⟨by omega,l,Wt [91] [93] xs,rfl,⟨(by first | exact .inl rfl | exact .inr rfl),rfl,rfl⟩,⟨[91],[93],pl,xs,rfl,⟨Tl.2 m5,by omega,by omega⟩,rfl⟩,by (try simp only [Ta,Tc,Td]);omega,?_⟩
     rw [show l++(Wt [91] [93] xs)=l++Wt [91] [93] xs by first | rfl | simp only [Tg]] at h
     exact m31
    have c4:¬op=6:=by omega
    conv=>whnf
    refine ZEb (fun c5=>?_) (fun c5=>?_)
    ·have c5:op=7:=by omega
     have hxl:(XF pl xs).length=xs.length:=by rw [Zh,Tf]
     by_cases hx0:xs.length=0
     ·have hx:exT (.mk op tx nn xs at')=[36]++tx:=by rw [exT,exN,Te c1,Te c2,Te c3,Te c4,Th c5,Zd2,Th hx0,TA]
      rw [hx] at h hlen
      (try simp only [Ta,Tc,Td] at hlen)
      conv=>whnf
      refine ⟨l,[36]++tx,rfl,⟨(by first | exact .inl rfl | exact .inr rfl),rfl,rfl⟩,⟨[[36],tx],rfl,by simp,by simp,by simp⟩,by (try simp only [Ta,Tc,Td]);omega,?_⟩
      conv=>whnf
      refine ZEb (fun g=>?_) (fun g=>?_)
      case refine_1=>exact absurd (show ((XF pl xs).length:Int)>0 from g) (by omega)
      rw [show l++([36]++tx)=l++([36]++tx) by first | rfl | simp only [Tg]] at h
      exact m31
     have hx:exT (.mk op tx nn xs at')=([36]++tx)++Wt [40] [41] xs:=by rw [exT,exN,Te c1,Te c2,Te c3,Te c4,Th c5,Zd2,Te hx0,Zaz,Tg];rfl
     rw [hx] at h hlen
     (try simp only [Ta,Tc,Td] at hlen)
     conv=>whnf
     refine ⟨l,[36]++tx,rfl,⟨(by first | exact .inl rfl | exact .inr rfl),rfl,rfl⟩,⟨[[36],tx],rfl,by simp,by simp,by simp⟩,by (try simp only [Ta,Tc,Td]);omega,?_⟩
     conv=>whnf
     refine ZEb (fun g=>?_) (fun g=>?_)
     case refine_2=>exact absurd (show ((XF pl xs).length:Int)>0 by omega) g
     conv=>whnf
     refine ⟨by omega,l++([36]++tx),Wt [40] [41] xs,rfl,⟨(by first | exact .inl rfl | exact .inr rfl),rfl,rfl⟩,⟨[40],[41],pl,xs,rfl,⟨Tl.2 m5,by omega,by omega⟩,rfl⟩,by (try simp only [Ta,Tc,Td]);omega,?_⟩
     rw [show l++(([36]++tx)++Wt [40] [41] xs)=l++([36]++tx)++Wt [40] [41] xs by first | rfl | simp only [Tg]] at h
     exact m31
    have c5:¬op=7:=by omega
    conv=>whnf
    refine ZEb (fun c6=>?_) (fun c6=>?_)
    ·have c6':op=3:=by omega
     obtain ⟨i0,i1⟩:=m4
     conv=>whnf
     refine ZEb (fun gn=>?_) (fun gn=>?_)
     ·obtain ⟨j0,j1,j2⟩:=Zmt gn i0
      obtain ⟨wn,hwn⟩:∃wn,IntKind.u64.wrap nn=wn:=⟨_,rfl⟩
      rw [hwn] at j0 j1 j2
      conv=>whnf
      refine Or.inr ?_
      rw [hwn]
      have hx:exT (.mk op tx nn xs at')=Zd1 nn:=by rw [exT,exN,Te c1,Te c2,Te c3,Te c4,Te c5,Th c6']
      rw [hx] at h hlen
      (try simp only [Ta,Tc,Td] at hlen)
      conv=>whnf
      refine ⟨⟨rfl,j0,j1⟩,?_⟩
      obtain ⟨T,hT⟩:∃T,Yx 16 wn.toNat=T:=⟨_,rfl⟩
      rw [hT] at j2 ⊢
      rw [j2] at h hlen
      (try simp only [Ta,Tc,Td] at hlen)
      conv=>whnf
      refine ⟨l,[48,120]++T,rfl,⟨(by first | exact .inl rfl | exact .inr rfl),rfl,rfl⟩,⟨[[48,120],T],rfl,by simp,by simp,by simp⟩,by (try simp only [Ta,Tc,Td]);omega,?_⟩
      rw [show l++(([48,120]++T))=l++([48,120]++T) by first | rfl | simp only [Tg]] at h
      exact m31
     conv=>whnf
     refine ZEb (fun _=>?_) (fun g=>absurd c6 g)
     have hx:exT (.mk op tx nn xs at')=Zd1 nn:=by rw [exT,exN,Te c1,Te c2,Te c3,Te c4,Te c5,Th c6']
     rw [hx] at h hlen
     (try simp only [Ta,Tc,Td] at hlen)
     conv=>whnf
     refine ⟨⟨rfl,by omega,i1⟩,?_⟩
     conv=>whnf
     refine ⟨l,Zd1 nn,rfl,⟨(by first | exact .inl rfl | exact .inr rfl),rfl,rfl⟩,⟨[Zd1 nn],rfl,by simp,by simp,by simp⟩,by (try simp only [Ta,Tc,Td]);omega,?_⟩
     rw [show l++(Zd1 nn)=l++Zd1 nn by first | rfl | simp only [Tg]] at h
     exact m31
    have c6':¬op=3:=by omega
    conv=>whnf
    refine ZEb (fun g=>absurd g c6) (fun _=>?_)
    conv=>whnf
    refine ZEb (fun c7=>?_) (fun c7=>?_)
    ·have c7':op=4:=by omega
     have hq:(Vj tx).isSome=true:=by unfold XM at m3;rw [Te (by omega),Th c7'] at m3;exact m3
     obtain ⟨q,hq⟩:=Option.isSome_iff_exists.1 hq
     have hqT:Zqf tx=q:=by rw [Zqf,hq];rfl
     have hx:exT (.mk op tx nn xs at')=q:=by rw [exT,exN,Te c1,Te c2,Te c3,Te c4,Te c5,Te c6',Th c7',hqT]
     rw [hx] at h hlen
     (try simp only [Ta,Tc,Td] at hlen)
     conv=>whnf
     refine ⟨by omega,?_⟩
     conv=>whnf
     refine ⟨fun g=>?_,fun q' hq'=>?_⟩
     case refine_1=>exact absurd (hq.symm.trans g) (by simp)
     obtain rfl:q=q':=by rw [hq] at hq';exact Option.some.inj hq'
     conv=>whnf
     refine ⟨l,q,rfl,⟨(by first | exact .inl rfl | exact .inr rfl),rfl,rfl⟩,⟨[q],rfl,by simp,by simp,by simp⟩,by (try simp only [Ta,Tc,Td]);omega,?_⟩
     rw [show l++(q)=l++q by first | rfl | simp only [Tg]] at h
     exact m31
    have c7':¬op=4:=by omega
    conv=>whnf
    refine ZEb (fun c8=>?_) (fun c8=>?_)
    ·have c8':op=5:=by omega
     have hx:exT (.mk op tx nn xs at')=[110,105,108]:=by rw [exT,exN,Te c1,Te c2,Te c3,Te c4,Te c5,Te c6',Te c7',Th c8']
     rw [hx] at h hlen
     (try simp only [Ta,Tc,Td] at hlen)
     conv=>whnf
     refine ⟨l,[110,105,108],rfl,⟨(by first | exact .inl rfl | exact .inr rfl),rfl,rfl⟩,⟨[[110,105,108]],rfl,by simp,by simp,by simp⟩,by (try simp only [Ta,Tc,Td]);omega,?_⟩
     rw [show l++([110,105,108])=l++[110,105,108] by first | rfl | simp only [Tg]] at h
     exact m31
    have c8':¬op=5:=by omega
    conv=>whnf
    refine ZEb (fun c9=>?_) (fun c9=>?_)
    ·have c9':op=2:=by omega
     have hx:exT (.mk op tx nn xs at')=[95]:=by rw [exT,exN,Te c1,Te c2,Te c3,Te c4,Te c5,Te c6',Te c7',Te c8',Th c9']
     rw [hx] at h hlen
     (try simp only [Ta,Tc,Td] at hlen)
     conv=>whnf
     refine ⟨l,[95],rfl,⟨(by first | exact .inl rfl | exact .inr rfl),rfl,rfl⟩,⟨[[95]],rfl,by simp,by simp,by simp⟩,by (try simp only [Ta,Tc,Td]);omega,?_⟩
     rw [show l++([95])=l++[95] by first | rfl | simp only [Tg]] at h
     exact m31
    have c9':¬op=2:=by omega
    have hx:exT (.mk op tx nn xs at')=tx:=by rw [exT,exN,Te c1,Te c2,Te c3,Te c4,Te c5,Te c6',Te c7',Te c8',Te c9']
    rw [hx] at h hlen
    (try simp only [Ta,Tc,Td] at hlen)
    conv=>whnf
    refine ⟨l,tx,rfl,⟨(by first | exact .inl rfl | exact .inr rfl),rfl,rfl⟩,⟨[tx],rfl,by simp,by simp,by simp⟩,by (try simp only [Ta,Tc,Td]);omega,?_⟩
    rw [show l++(tx)=l++tx by first | rfl | simp only [Tg]] at h
    exact m31
 ·exact h.elim
end Go.PM.Lex
end
