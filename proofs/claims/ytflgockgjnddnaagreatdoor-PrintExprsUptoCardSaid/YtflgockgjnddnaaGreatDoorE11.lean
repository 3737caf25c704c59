/- A part of the proof: plain logic, contracts and laws over the given program. -/
import Derived.Lib.LaidTab
import Derived.Test.YtflgockgjnddnaaGreatDoorE10
set_option linter.unusedVariables false
set_option linter.unusedSimpArgs false
set_option linter.all false
set_option maxRecDepth 100000
set_option maxHeartbeats 16000000
section
namespace Go.PM.Lex
open Go.Proofs
variable {w0:World} {nG:Nat}
def Zlm (n:Nat):Zr:=qSp fun rest S K=>match rest with
 | []=>dLt n S∧∀S',ZF Ue S=S'→∀rows,K (.d (.sl rows)) S'
 | _=>False
theorem ZnX (n:Nat):Za (Zlm n):=ZI fun rest S K K' hK h=>by
 exact m139
theorem ZsO:PCalls (GG w0 nG) 297 (Zlm 0):=by
 refine pc (tbl:=[]) trivial Tryz.func297 ?_;intro args σ K h
 unfold Zlm qSp at h
 split at h
 ·rename_i rest t rows a en dp w pl
  obtain ⟨L,S,rfl,ho,h⟩:=h;split at h
  ·obtain ⟨hdn,h⟩:=h
   replace h:=h _ rfl
   cases S with
   | ok d ts=>have:=hdn _ _ rfl;omega
   | bad e =>
    refine ⟨Zb [(2,⟨[3],[0],fun vs σ=>vs=[.sl 0 60 []]∧σ=⟨[UG t L a en dp w pl],[0],1⟩,fun _ _=>0⟩)],1,false,by simp,Ta rfl,?_⟩;have hw:¬w=0:=by have:=ho.1;have:=ho.2.1;omega
    conv=>whnf
    refine ⟨⟨rfl,rfl⟩,?_⟩;intro vs σ hI
    obtain ⟨rfl,rfl⟩:=hI;(conv=>whnf);refine ZAf (fun g=>absurd g hw) (fun _=>?_);(conv=>whnf);exact h _ _ _ _ _ ho
  ·exact h.elim
 ·exact h.elim
def ZvY (op:Int) (S:SS):SS:=Zcb [125] (ZF Ue (Wp [123] (Ye [58] (if op=9 then S else ZF ZW S))))
noncomputable def ZgR (n:Nat):Zr:=fun args σ K=>match args,σ with
 | [.ptr 0 0,.agg [.d (.int .u8 o),.d (.str s),.sl 0 e1 rows1,.sl 1 e2 rows2,.d (.int .i64 p)],.d (.int .u8 op)],⟨[.cells t [.d (.sl rows),.d (.int .i64 a),.d (.int .i64 en),.d (.int .i64 dp),.d (.int .i64 w),.d (.int .i64 pl)]],[1,0],2⟩ =>
   (e1=24∧e2=60∧rows1.length≤1)∧∃L d ts,rows=Zv L∧SOK L a dp w (.ok d ts)∧ts≠[]∧d<n+1 ∧
    ∀S',ZvY op (.ok d ts.tail)=S'→∀o s x y q a' dp' w' pl',SOK L a' dp' w' S'→K (.ret (Zwj o s x y q)) ⟨[UG t L a' en dp' w' pl'],[],0⟩
 | _,_=>False
theorem Zln (n:Nat):Za (ZgR n):=fun args σ K K' hK h=>by
 unfold ZgR at h ⊢
 split at h
 ·obtain ⟨h0,L,d,ts,h1,h2,h3,h4,h5⟩:=h;exact ⟨h0,L,d,ts,h1,h2,h3,h4,fun S' hS o s x y q a' dp' w' pl' hs=>hK _ _ (h5 S' hS o s x y q a' dp' w' pl' hs)⟩
 ·exact h.elim
theorem Zd4 {w:Bs} {n:Nat} {S:SS} (h:dLt n S):dLt n (Ye w S):=by rw [← Zaq];exact Yg h
noncomputable def ZvZ (n:Nat):Tbl:=[(103,Ud (n+1) 6),(294,VD),(236,Jf),(297,Zlm n),(290,JY)]
theorem ZqC {n:Nat} (hb:PCalls (GG w0 nG) 297 (Zlm n)):PCalls (GG w0 nG) 327 (ZgR n):=by
 refine pc (tbl:=ZvZ n) ⟨⟨ZxG _,XX _ _⟩,⟨VY,YM⟩,⟨Zan,XW⟩,⟨hb,ZnX _⟩,⟨Zcd,W0⟩,trivial⟩ Tryz.func327 ?_;intro args σ K h
 unfold ZgR at h
 split at h
 ·rename_i o s e1 rows1 e2 rows2 p op t rows a en dp w pl
  obtain ⟨⟨rfl,rfl,hr1⟩,L,d,ts,rfl,ho,hne,hdn,h⟩:=h
  replace h:=h _ rfl
  unfold ZvY at h
  have hdn0:dLt (n+1) (.ok d ts.tail):=fun d' ts' hq=>by cases hq;exact hdn
  have h65:dLt 65 (.ok d ts.tail):=fun d' ts' hq=>by cases hq;have:=ho.2.2.2;omega
  obtain ⟨rfl,hr2,rfl,hd2⟩:=ho;have hr3:=hr2.tlq hne;have q1:=hr3.lo;have q2:=hr3.hi;have q3:=hr3.big;refine ⟨Zb [],1,false,by simp,Ta rfl,?_⟩;(conv=>whnf);refine oiO ?_;(conv=>whnf);refine ZAh (fun hc=>?_) (fun hc=>?_)
  ·rw [Tc hc] at h;(conv=>whnf);refine ⟨L,_,rfl,SOK.mk hr3 rfl hd2,0,rfl,by omega,(fun d' ts' hq=>Or.inl (hdn0 d' ts' hq)),fun S1 hS1=>?_⟩;have hS1:ZF (fun d=>dsK (Zp d) 5) (.ok d ts.tail)=S1:=hS1;rw [funext Zbj] at hS1;have hdn1:=Yg (P:=fun d=>ZW d) hdn0;have h651:=Yg (P:=fun d=>ZW d) h65;rw [hS1] at hdn1 h651;have h:∀(o:Int) (s:List UInt8) (x y:List (List D)) (q a' dp' w' pl':Int),SOK L a' dp' w' (Zcb [125] (ZF Ue (Wp [123] (Ye [58] S1))))→K (.ret (Zwj o s x y q)) ⟨[UG t L a' en dp' w' pl'],[],0⟩:=by rw [← hS1];exact h
   intro eo es em er ep a1 dp1 w1 pl1 ho1
   conv=>whnf
   refine ⟨Tn.2 rfl,(show (rows1.length+1) * 64≤2 ^ 47 by omega),(show rows1.length+1≤2 ^ 47 by omega),?_⟩;(conv=>whnf)
   (repeat (refine ⟨rfl,?_⟩;conv=>whnf))
   refine ⟨L,_,rfl,ho1,fun S2 hS2=>?_⟩;exact m42
  ·rw [Tf hc] at h;have hdn1:=hdn0;have h651:=h65;(conv=>whnf);refine ⟨L,_,rfl,(SOK.mk hr3 rfl hd2),fun S2 hS2=>?_⟩;exact m42
 ·exact h.elim
end Go.PM.Lex
end

section
namespace Go.PM.Lex
open Go.Proofs
variable {w0:World} {nG:Nat}
theorem ZmI {ts:Ts}:∀(ws:List Bs) (i:Nat),(∀u∈ws,isW ts [u]=false)→UL ts i ws=none
 | [],_,_=>rfl
 | w::ws,i,h=>by
  rw [UL,Tc (by rw [h w (List.mem_cons_self ..)];simp)];exact ZmI ws _ fun u hu=>h u (Tw _ hu)
theorem ZmJ {ts:Ts}:∀(ws:List Bs) (i j:Nat) (hj:j<ws.length),ws.Nodup→isW ts [ws[j]]=true→UL ts i ws=some (i+j)
 | [],_,_,hj,_,_=>by simp at hj
 | w::ws,i,0,hj,hn,h=>by rw [UL,Tf (by simpa using h)];simp
 | w::ws,i,j+1,hj,hn,h=>by
  have hj2:j<ws.length:=by simpa using hj
  have h2:isW ts [ws[j]]=true:=by simpa using h
  have hne:¬isW ts [w]=true:=fun g=>by
   have:=Zbk g h2;rw [List.nodup_cons] at hn;exact hn.1 (this ▸ TP hj2)
  rw [UL,Tc hne,ZmJ ws (i+1) j hj2 (List.nodup_cons.1 hn).2 h2]
  congr 1;omega
theorem ZtP {ts:Ts}:∀(ws:List Bs) (i j:Nat),UL ts i ws=some j→j<i+ws.length
 | [],_,_,h=>by cases h
 | w::ws,i,j,h=>by
  rw [UL] at h;split at h
  ·cases h;simp
  ·have:=ZtP ws (i+1) j h;simp only [Td];omega
def Zze (S1:SS) (k:Option Nat) (j:Option Nat):SS:=match k with
 | none=>Zk5 150 S1
 | some 0=>match j with
  | some j=>ZvY (9+(j:Int)) (Xb (Xb S1))
  | none=>ZF ZW (Xb S1)
 | some _=>ZF ZW (Xb S1)
def Zwk (S:SS) (ws:List Bs):Option Nat:=match S with
 | .ok _ ts=>UL ts 0 ws
 | .bad _=>none
def Zzf (S:SS):SS :=
 if YT 0 [33] S=true then ZF (fun d=>XY d (Yi d) [40] [41]) (YU (Xb S))
 else if ZgO S=true∧YT 1 [40] S=true then ZF (fun d=>XY d (Yi d) [40] [41]) (YU S)
 else Zze (ZF ZW S) (Zwk (ZF ZW S) relWords) (Zwk (Xb (ZF ZW S)) aggWords)
theorem ZqD (d a op:Nat) (l:List Ex) (ts:Ts) (h:9≤op):V0 d (XC d (W2 d) a op l ts)=Zcb [125] (ZF Ue (Wp [123] (Ye [58] (.ok d ts)))):=by
 rw [XC,Tf h,ZO,Ye]
 by_cases hb:isW ts [[58]]=true
 ·rw [Tf hb,Tf hb,R.bind_ok,VF];have:=UI W2 [123] [125] (by decide) (.ok d ts.tail);rw [Zh] at this;rw [this];rfl
 ·rw [Tc hb,Tc hb];rfl
theorem Zv0 (S:SS) (hS:∀d ts,S=.ok d ts→(hd ts.tail).kind=1→(hd ts.tail).text≠[40]):ZF (fun d=>Zbr d (W2 d)) S=Zzf S:=by
 cases S with
 | bad e=>rfl
 | ok d ts =>
  have hS:=hS _ _ rfl;rw [Zh];unfold Zbr Zzf
  by_cases h1:isW ts [[33]]=true
  ·rw [Tf h1,Tf (show YT 0 [33] (.ok d ts)=true from h1)];have:=ZmF 2 ts.length (.ok d ts.tail);rw [Zh] at this;exact this
  rw [Tc h1,Tc (show ¬YT 0 [33] (.ok d ts)=true from h1)];have hq:(Zn ts=true∧(hd ts.tail).kind=4∧(hd ts.tail).text=[40])↔(ZgO (.ok d ts)=true∧YT 1 [40] (.ok d ts)=true):=by
   show _↔Zn ts=true∧isW (ts.drop 1) [[40]]=true;rw [List.drop_one,ZhM]
   constructor
   ·rintro ⟨a,b,c⟩;exact ⟨a,Or.inr b,c⟩
   ·rintro ⟨a,b | b,c⟩
    ·exact absurd c (hS b)
    ·exact ⟨a,b,c⟩
  by_cases h2:Zn ts=true∧(hd ts.tail).kind=4∧(hd ts.tail).text=[40]
  ·rw [Tf h2,Tf (hq.1 h2)];have:=ZmF 1 ts.length (.ok d ts);rw [Zh] at this;exact this
  rw [Tc h2,Tc (fun g=>h2 (hq.2 g)),Zga];rw [Zh]
  cases hx:ZW d ts with
  | err r e=>rfl
  | ok v ts1 =>
   rw [R.bind_ok,Zbq];show _=Zze (.ok d ts1) (UL ts1 0 relWords) (UL ts1.tail 0 aggWords);have hex:∀(op:Nat),op≠9→¬9≤op→V0 d ((ZW d ts1.tail).bind fun g ts'=>XC d (W2 d) ts.length op [v,g] ts')=ZF ZW (.ok d ts1.tail):=fun op _ h9=>by
    rw [Zh]
    cases ZW d ts1.tail with
    | err r e=>rfl
    | ok g ts2=>rw [R.bind_ok,XC,Tc h9];rfl
   cases hk:UL ts1 0 relWords with
   | none=>rfl
   | some k =>
    have hk6:=ZtP _ _ _ hk
    cases k with
    | zero =>
     cases hj:UL ts1.tail 0 aggWords with
     | none =>
      show V0 d ((R.ok 3 ts1.tail).bind _)=ZF ZW (.ok d ts1.tail);rw [R.bind_ok,Tc (by decide)];exact hex 3 (by decide) (by decide)
     | some j =>
      show V0 d ((R.ok (9+j) ts1.tail.tail).bind _)=ZvY (9+(j:Int)) (.ok d ts1.tail.tail);rw [R.bind_ok,ZvY]
      by_cases h0:j=0
      ·subst h0;rw [Tf rfl,Tf (by rfl)];exact ZqD d _ _ _ _ (by omega)
      ·rw [Tc (by omega),Tc (by omega),Zh]
       cases ZW d ts1.tail.tail with
       | err r e=>rfl
       | ok g ts2=>rw [R.bind_ok];exact ZqD d _ _ _ _ (by omega)
    | succ k =>
     have hk6:k+1<0+6:=hk6;show V0 d ((R.ok (3+(k+1)) ts1.tail).bind _)=ZF ZW (.ok d ts1.tail);rw [R.bind_ok,Tc (by omega)];exact hex _ (by omega) (by omega)
end Go.PM.Lex
end

section
namespace Go.PM.Lex
open Go.Proofs
variable {w0:World} {nG:Nat}
structure Cn where
 a:Nat
 b:Nat
 c:Nat
 d:Nat
 e:Nat
 f:Nat
def cnU:Un→Cn
 | .mk ty re ru co i o=>⟨ty.length,re.length,ru.length,co.length,i.length,o.length⟩
def Cn.ok (c:Cn):Prop:=(c.a≤256∧c.b≤256∧c.c≤1024)∧c.d≤64∧c.e≤256∧c.f≤256
def Zbn (ts:Ts) (c:Cn):Cn :=
 if isW ts [[116,121,112,101]]=true then { c with a:=c.a+1 }
 else if isW ts [[100,101,99,108]]=true then { c with b:=c.b+1 }
 else if isW ts [[99,111,109,112]]=true then { c with d:=c.d+1 }
 else if isW ts [[105,110,105,116]]=true then { c with e:=c.e+1 }
 else if isW ts [[111,118,101,114,114,105,100,101]]=true then { c with f:=c.f+1 }
 else { c with c:=c.c+1 }
def VJ (d:Nat) (ts:Ts) (c:Cn):SS :=
 if isW ts [[116,121,112,101]]=true then (if c.a=256 then .bad 3 else ZF (fun _=>Jw) (.ok d ts.tail))
 else if isW ts [[100,101,99,108]]=true then (if c.b=256 then .bad 3 else ZF (fun _=>Zd6) (.ok d ts.tail))
 else if isW ts [[99,111,109,112]]=true then (if c.d=64 then .bad 3 else ZF (fun d=>Zd8 d (Zax d)) (.ok d ts.tail))
 else if isW ts [[105,110,105,116]]=true then (if c.e=256 then .bad 3 else ZF (fun _=>Zd9) (.ok d ts.tail))
 else if isW ts [[111,118,101,114,114,105,100,101]]=true then (if c.f=256 then .bad 3 else ZF (fun _=>ZfF) (.ok d ts.tail))
 else if Zn ts=true then (if c.c=1024 then .bad 3 else ZF (fun d=>Zd7 d true) (.ok d ts))
 else .bad 150
theorem ZjL:∀d,Zx9 (Zax d)
 | 0=>fun _ _ _ h=>by cases h
 | d+1=>Zjm d
def LU (b:Bool) (X:SS):SS→Cn→Prop
 | .bad e,c=>X=.bad e
 | .ok d ts,c=>∃f u,X=V0 d (X3 b d (Zax d) f u ts)∧ts.length<f∧cnU u=c∧c.ok
theorem LU.bind {b:Bool} {X:SS} {d g:Nat} {α:Type} {x:R α} {k:α→Un} {c:Cn} {m:Nat} (h:X=V0 d (x.bind fun v ts=>X3 b d (Zax d) g (k v) ts)) (hx:∀v ts',x=.ok v ts'→ts'.length<m) (hm:m≤g) (hk:∀v,cnU (k v)=c) (hc:c.ok):LU b X (V0 d x) c:=by
 cases x with
 | err r e=>exact h
 | ok v ts'=>rw [R.bind_ok] at h;exact ⟨g,k v,h,TD (hx v ts' rfl) hm,hk v,hc⟩
theorem LU.step {b:Bool} {X:SS} {d:Nat} {ts:Ts} {c:Cn} (h:LU b X (.ok d ts) c) (hs:¬(ts=[]∨(b=true∧isW ts [[125]]=true))):LU b X (VJ d ts c) (Zbn ts c):=by
 obtain ⟨f,u,h,hf,hu,hc⟩:=h;obtain ⟨g,rfl⟩:∃g,f=g+1:=⟨f - 1,by omega⟩
 obtain ⟨ty,re,ru,co,i,o⟩:=u;subst hu;obtain ⟨⟨c1,c2,c3⟩,c4,c5,c6⟩:=hc;rw [JU,Tc hs] at h;have hne:ts≠[]:=fun g=>hs (.inl g)
 have htl:ts.tail.length+1=ts.length:=by cases ts with | nil=>exact absurd rfl hne | cons t l=>simp
 unfold VJ Zbn
 have c1:ty.length≤256:=c1;have c2:re.length≤256:=c2;have c3:ru.length≤1024:=c3;have c4:co.length≤64:=c4;have c5:i.length≤256:=c5;have c6:o.length≤256:=c6
 by_cases h1:isW ts [[116,121,112,101]]=true
 ·rw [Tf h1] at h ⊢;rw [Tf h1]
  by_cases hl:ty.length=256
  ·rw [Tf hl] at h;rw [Tf (show (cnU (.mk ty re ru co i o)).a=256 from hl)];exact h
  ·rw [Tc hl] at h;rw [Tc (show ¬(cnU (.mk ty re ru co i o)).a=256 from hl),Zh];exact LU.bind (m:=ts.length) h (fun v ts' e=>by have:=Zfm _ _ _ e;dsimp only at this;omega) (by omega) (fun v=>by simp [cnU]) ⟨⟨by show _+1≤_;simp only [cnU];omega,c2,c3⟩,c4,c5,c6⟩
 rw [Tc h1] at h ⊢;rw [Tc h1]
 by_cases h2:isW ts [[100,101,99,108]]=true
 ·rw [Tf h2] at h ⊢;rw [Tf h2]
  by_cases hl:re.length=256
  ·rw [Tf hl] at h;rw [Tf (show (cnU (.mk ty re ru co i o)).b=256 from hl)];exact h
  ·rw [Tc hl] at h;rw [Tc (show ¬(cnU (.mk ty re ru co i o)).b=256 from hl),Zh];exact LU.bind (m:=ts.length) h (fun v ts' e=>by have:=ZhB _ _ _ e;dsimp only at this;omega) (by omega) (fun v=>by simp [cnU]) ⟨⟨c1,by show _+1≤_;simp only [cnU];omega,c3⟩,c4,c5,c6⟩
 rw [Tc h2] at h ⊢;rw [Tc h2]
 by_cases h3:isW ts [[99,111,109,112]]=true
 ·rw [Tf h3] at h ⊢;rw [Tf h3]
  by_cases hl:co.length=64
  ·rw [Tf hl] at h;rw [Tf (show (cnU (.mk ty re ru co i o)).d=64 from hl)];exact h
  ·rw [Tc hl] at h;rw [Tc (show ¬(cnU (.mk ty re ru co i o)).d=64 from hl),Zh];exact LU.bind (m:=ts.length) h (fun v ts' e=>by have:=ZhE (ZjL d) _ _ _ e;dsimp only at this;omega) (by omega) (fun v=>by simp [cnU]) ⟨⟨c1,c2,c3⟩,by show _+1≤_;simp only [cnU];omega,c5,c6⟩
 rw [Tc h3] at h ⊢;rw [Tc h3]
 by_cases h4:isW ts [[105,110,105,116]]=true
 ·rw [Tf h4] at h ⊢;rw [Tf h4]
  by_cases hl:i.length=256
  ·rw [Tf hl] at h;rw [Tf (show (cnU (.mk ty re ru co i o)).e=256 from hl)];exact h
  ·rw [Tc hl] at h;rw [Tc (show ¬(cnU (.mk ty re ru co i o)).e=256 from hl),Zh];exact LU.bind (m:=ts.length) h (fun v ts' e=>by have:=ZhF _ _ _ e;dsimp only at this;omega) (by omega) (fun v=>by simp [cnU]) ⟨⟨c1,c2,c3⟩,c4,by show _+1≤_;simp only [cnU];omega,c6⟩
 rw [Tc h4] at h ⊢;rw [Tc h4]
 by_cases h5:isW ts [[111,118,101,114,114,105,100,101]]=true
 ·rw [Tf h5] at h ⊢;rw [Tf h5]
  by_cases hl:o.length=256
  ·rw [Tf hl] at h;rw [Tf (show (cnU (.mk ty re ru co i o)).f=256 from hl)];exact h
  ·rw [Tc hl] at h;rw [Tc (show ¬(cnU (.mk ty re ru co i o)).f=256 from hl),Zh];exact LU.bind (m:=ts.length) h (fun v ts' e=>by have:=ZhG _ _ _ e;dsimp only at this;omega) (by omega) (fun v=>by simp [cnU]) ⟨⟨c1,c2,c3⟩,c4,c5,by show _+1≤_;simp only [cnU];omega⟩
 rw [Tc h5] at h ⊢;rw [Tc h5]
 by_cases h6:Zn ts=true
 ·rw [Tf h6] at h ⊢
  by_cases hl:ru.length=1024
  ·rw [Tf hl] at h;rw [Tf (show (cnU (.mk ty re ru co i o)).c=1024 from hl)];exact h
  ·rw [Tc hl] at h;rw [Tc (show ¬(cnU (.mk ty re ru co i o)).c=1024 from hl),Zh];exact LU.bind (m:=ts.length) h (fun v ts' e=>by have:=ZhD _ _ _ _ _ e;dsimp only at this;omega) (by omega) (fun v=>by simp [cnU]) ⟨⟨c1,c2,by show _+1≤_;simp only [cnU];omega⟩,c4,c5,c6⟩
 ·rw [Tc h6] at h ⊢;exact h
theorem LU.stop {b:Bool} {X:SS} {d:Nat} {ts:Ts} {c:Cn} (h:LU b X (.ok d ts) c) (hs:ts=[]∨(b=true∧isW ts [[125]]=true)):X=.ok d ts:=by
 obtain ⟨f,u,h,hf,hu,hc⟩:=h;obtain ⟨g,rfl⟩:∃g,f=g+1:=⟨f - 1,by omega⟩
 obtain ⟨ty,re,ru,co,i,o⟩:=u;rw [JU,Tf hs] at h;exact h
theorem LU.start (b:Bool) (S:SS):LU b (ZF (fun d=>ZfS b d) S) S ⟨0,0,0,0,0,0⟩:=by
 cases S with
 | bad e=>rfl
 | ok d ts =>
  refine ⟨ts.length+1,.nil,?_,by omega,rfl,⟨by decide,by decide,by decide⟩,by decide,by decide,by decide⟩;rw [Zh];rfl
theorem ZmK {n d:Nat} {ts:Ts} {c:Cn} (h:d<n):dLt n (VJ d ts c):=by
 have h0:dLt n (.ok d ts.tail):=fun d' ts' e=>by cases e;exact h
 have h1:dLt n (.ok d ts):=fun d' ts' e=>by cases e;exact h
 have hb:∀e,dLt n (.bad e):=fun e d' ts' g=>by cases g
 unfold VJ
 repeat' split
 all_goals first | exact hb _ | exact Yg h0 | exact Yg h1
end Go.PM.Lex
end

section
namespace Go.PM.Lex
open Go.Proofs
variable {w0:World} {nG:Nat}
theorem ZqE (S:SS):ZF (fun _=>YG) S=YU (Ye [58] (YU S)):=by
 have h1:(fun (_:Nat)=>YG)=fun d ts=>((fun _=>Z1) d ts).bind fun a ts=>(ZO [58] ts).bind fun _ ts=>(Z1 ts).bind fun b ts=>.ok ⟨a,b⟩ ts:=rfl
 cases S with
 | bad e=>rfl
 | ok d ts =>
  rw [← V3,← Zaq,← V3,Zh,YG,Zh (fun _=>Z1)]
  cases Z1 ts with
  | err r e=>rfl
  | ok a t1 =>
   rw [R.bind_ok];show _=ZF (fun _=>Z1) (ZF (fun _=>ZO [58]) (.ok d t1));rw [Zh]
   cases ZO [58] t1 with
   | err r e=>rfl
   | ok u t2 =>
    rw [R.bind_ok];show _=ZF (fun _=>Z1) (.ok d t2);rw [Zh]
    cases Z1 t2 <;> rfl
theorem ZnY (w:Bs) (S:SS):ZF (fun _=>Yn w) S=if YT 0 w S=true then S else ZF (fun _=>YE [44] 12 Zn YG) S:=by
 cases S with
 | bad e=>rw [Tc (by simp [YT])];rfl
 | ok d ts =>
  rw [Zh,Yn];show _=if isW ts [w]=true then _ else _
  by_cases h:isW ts [w]=true
  ·rw [Tf h,Tf h];rfl
  ·rw [Tc h,Tc h,Zh]
theorem ZqF (S:SS):ZF (fun _=>Y2) S=if YT 0 [60] S=true then Ye [62] (ZF (fun _=>YE [44] 12 Zn Z1) (Xb S)) else S:=by
 cases S with
 | bad e=>rw [Tc (by simp [YT])];rfl
 | ok d ts =>
  rw [Zh,Y2];show _=if isW ts [[60]]=true then _ else _
  by_cases h:isW ts [[60]]=true
  ·rw [Tf h,Tf h,← Zaq];show _=ZF (fun _=>ZO [62]) (ZF (fun _=>YE [44] 12 Zn Z1) (.ok d ts.tail));rw [Zh]
   cases YE [44] 12 Zn Z1 ts.tail with
   | err r e=>rfl
   | ok l t1 =>
    rw [R.bind_ok];show _=ZF (fun _=>ZO [62]) (.ok d t1);rw [Zh]
    cases ZO [62] t1 <;> rfl
  ·rw [Tc h,Tc h];rfl
theorem Zlo (d:Nat) (ts:Ts) (v:Fi) (ts':Ts) (h:(fun (_:Nat)=>YG) d ts=.ok v ts'):ts'.length+1≤ts.length:=by
 have:=Zjj _ _ _ h;dsimp only at this;omega
theorem ZjM (d:Nat) (ts:Ts) (h:Zn ts=false):∃r e,(fun (_:Nat)=>YG) d ts=.err r e:=by
 refine ⟨ts.length,150,?_⟩;show YG ts=_;rw [YG,Z1,Tc (by rw [h];simp),R.bind_err]
theorem ZnZ (d:Nat) (ts:Ts) (v:Bs) (ts':Ts) (h:(fun (_:Nat)=>Z1) d ts=.ok v ts'):ts'.length+1≤ts.length:=by
 have:=YA h;omega
theorem Zlp (d:Nat) (ts:Ts) (h:Zn ts=false):∃r e,(fun (_:Nat)=>Z1) d ts=.err r e:=by
 refine ⟨ts.length,150,?_⟩;show Z1 ts=_;rw [Z1,Tc (by rw [h];simp)]
def J2:Zr:=qSp fun rest S K=>match rest with
 | [.d (.str w)]=>∀S',ZF (fun _=>Yn w) S=S'→∀rows,K (.d (.sl rows)) S'
 | _=>False
theorem ZaP:Za J2:=ZI fun rest S K K' hK h=>by
 split at h
 ·exact fun S' hS rows=>hK _ _ (h S' hS rows)
 ·exact h.elim
def Zci:Zr:=qSp fun rest S K=>match rest with
 | []=>∀S',ZF (fun _=>Y2) S=S'→∀rows,K (.d (.sl rows)) S'
 | _=>False
theorem Zcj:Za Zci:=ZI fun rest S K K' hK h=>by
 split at h
 ·exact fun S' hS rows=>hK _ _ (h S' hS rows)
 ·exact h.elim
theorem ZsP {L:List Tok} {a dp w:Int} {S:SS} (h:SOK L a dp w S):dLt 65 S:=by
 rintro d ts rfl;have:=h.2.2.2;omega
theorem Zzg {L:List Tok} {a dp w:Int} {S:SS} (h:SOK L a dp w S):∀d ts,S=.ok d ts→d≤64∧ts.length≤L.length:=by
 rintro d ts rfl
 obtain ⟨q1,q2,q3,q4⟩:=h;have:=q2.len;have:=q2.lo;exact ⟨q4,by omega⟩
noncomputable def Zas:Tbl:=[(170,Xz),(237,Je),(238,Zbi),(243,VE),(294,VD)]
theorem Jh:TblOK (GG w0 nG) Zas:=⟨⟨Xv,ZT⟩,⟨Zcc,Vh⟩,⟨Zd3,VV⟩,⟨VZ,YN⟩,⟨VY,YM⟩,trivial⟩
theorem ZgS:PCalls (GG w0 nG) 295 J2:=by
 refine ZbE Z8 mixed (tbl:=Zas) Jh Tryz.func295 rfl (by kernel_rfl) (by kernel_rfl) ?_;intro args σ K h
 unfold J2 qSp at h
 split at h
 ·rename_i rest t rows a en dp w pl
  obtain ⟨L,S,rfl,ho,h⟩:=h;split at h
  ·rename_i wd
   replace h:=h _ rfl
   rw [ZnY] at h;have hlr:=LRg.start (sg:=[44]) (most:=12) (st:=Zn) (one:=fun _=>YG) (ZsP ho) (Zzg ho);obtain ⟨X,hX⟩:∃x,ZF (fun _=>YE [44] 12 Zn YG) S=x:=⟨_,rfl⟩
   have hlr:LRg [44] 12 Zn (fun _=>YG) 65 L.length X S 0:=by rw [← hX];exact hlr
   rw [hX] at h
   clear hX
   refine ⟨Zb [(4,⟨[5],[0],fun vs σ=>∃(rows:List (List D)) (a' dp' w' pl':Int) (S':SS),vs=[.sl 0 66 rows]∧σ=⟨[UG t L a' en dp' w' pl'],[0],1⟩∧SOK L a' dp' w' S'∧LRg [44] 12 Zn (fun _=>YG) 65 L.length X S' rows.length,
    fun _ σ=>match σ with | ⟨.cells _ [_,.d (.int _ i),_,_,.d (.int _ w),_]::_,_,_⟩=>if w=0 then ((L.length:Int) - i).toNat+1 else 0 | _=>0⟩)],1,false,by simp,Ta rfl,?_⟩
   conv=>whnf
   refine ⟨L,S,rfl,ho,0,rfl,by omega,fun b0 hb0=>?_⟩;intro a dp w pl ho
   cases b0 with
   | true =>
    rw [Tf hb0] at h;(conv=>whnf);exact h _ _ _ _ _ ho
   | false =>
   rw [Tc (by rw [hb0];simp)] at h;(conv=>whnf);refine ⟨⟨[],a,dp,w,pl,S,rfl,rfl,ho,hlr⟩,?_⟩;intro vs σ hI
   obtain ⟨rows,a3,dp3,w3,pl3,S3,rfl,rfl,ho3,hlr⟩:=hI;(conv=>whnf);refine ZAf (fun hw=>?_) (fun hw=>?_)
   ·obtain ⟨d3,ts3,rfl,hr3,hdp3,hd3⟩:=ho3.wz hw;have hlen3:=hr3.len;have hlo3:=hr3.lo;have hhi3:=hr3.hi;have hwide:=hlr.wide;have hq:∀b,Zn ts3=b→PRg [44] 12 Zn (fun _=>YG) 65 (rows.length+ts3.length) X (if b=true then Wq rows.length 12 (.ok d3 ts3) else .ok d3 ts3) rows.length:=fun b hb=>hlr.tight.room (by omega) hb
    conv=>whnf
    refine ⟨L,_,rfl,ho3,rfl,fun b1 hb1=>?_⟩;have hpr:=hq b1 hb1;intro a4 dp4 w4 pl4 ho4
    cases b1
    case' true =>
     rw [Tf rfl] at hpr;(conv=>whnf);refine ⟨L,_,rfl,ho4,fun S4 hS4=>?_⟩;have hpr:PRg [44] 12 Zn (fun _=>YG) 65 (rows.length+ts3.length) X S4 rows.length:=by rw [← hS4];exact hpr
     intro a4 dp4 w4 pl4 ho4
    case' false =>
     rw [Tc (by simp)] at hpr;obtain ⟨S4,hS4⟩:∃x,SS.ok d3 ts3=x:=⟨_,rfl⟩
     rw [hS4] at hpr ho4
    all_goals
     have her:=PRg.next (by omega) Zlo ZjM hpr;have hk:=ZAt (by omega) hpr;rw [ZqE] at her;(conv=>whnf);refine ⟨L,_,rfl,ho4,fun S5 nm hS5=>?_⟩;rw [hS5] at her;intro a4 dp4 w4 pl4 ho4
     conv=>whnf
     refine ⟨L,_,rfl,ho4,fun S6 hS6=>?_⟩;rw [hS6] at her;intro a4 dp4 w4 pl4 ho4
     conv=>whnf
     refine ⟨L,_,rfl,ho4,fun S7 ty hS7=>?_⟩;rw [hS7] at her;intro a4 dp4 w4 pl4 ho4
     conv=>whnf
     refine ⟨Tn.2 rfl,(show (rows.length+1) * 32≤2 ^ 47 by omega),(show rows.length+1≤2 ^ 47 by omega),?_⟩;(conv=>whnf);refine ⟨L,_,rfl,ho4,0,rfl,by omega,fun b hb6=>?_⟩;intro a7 dp7 w7 pl7 ho7
     cases b with
     | true =>
      have hmr:=her.more hb6
      cases S7 with
      | bad e=>cases hb6
      | ok d6 ts6 =>
       have hb6:isW ts6 [[44]]=true:=hb6;obtain ⟨rfl,hr6,hdp6,hd6⟩:=ho7;have hr7:=hr6.tlq (ZN hb6);have q1:=hr7.lo;have q2:=hr7.hi;have q3:=hr7.len;have q5:=hr7.big;(conv=>whnf);refine oiO ?_;(conv=>whnf);refine ⟨⟨_,_,_,_,_,.ok d6 ts6.tail,rfl,rfl,SOK.mk hr7 hdp6 hd6,?_⟩,?_⟩
       ·rw [Tb];exact hmr.le hwide
       ·obtain ⟨_,_,_,_,_,_,_,hle⟩:=her;show (if (0:Int)=0 then ((L.length:Int) - (a7+1)).toNat+1 else 0)<(if w3=0 then ((L.length:Int) - a3).toNat+1 else 0);rw [Tf rfl,Tf hw];have q4:=hr6.len;omega
     | false =>
      have hst:=her.stop hb6;subst hst;(conv=>whnf);exact h _ _ _ _ _ ho7
   ·obtain ⟨e,rfl,hw2,hw3⟩:=ho3.w1 hw;obtain ⟨rfl,_⟩:=hlr;(conv=>whnf);exact h _ _ _ _ _ ho3
  ·exact h.elim
 ·exact h.elim
theorem ZjN:PCalls (GG w0 nG) 296 Zci:=by
 refine ZbE Z8 mixed (tbl:=Zas) Jh Tryz.func296 rfl (by kernel_rfl) (by kernel_rfl) ?_;intro args σ K h
 unfold Zci qSp at h
 split at h
 ·rename_i rest t rows a en dp w pl
  obtain ⟨L,S,rfl,ho,h⟩:=h;split at h
  ·replace h:=h _ rfl
   rw [ZqF] at h;obtain ⟨X,hX⟩:∃x,ZF (fun _=>YE [44] 12 Zn Z1) (Xb S)=x:=⟨_,rfl⟩
   rw [hX] at h;refine ⟨Zb [(5,⟨[3],[0],fun vs σ=>∃(rows:List (List D)) (a' dp' w' pl':Int) (S':SS),vs=[.sl 0 9 rows]∧σ=⟨[UG t L a' en dp' w' pl'],[0],1⟩∧SOK L a' dp' w' S'∧LRg [44] 12 Zn (fun _=>Z1) 65 L.length X S' rows.length,
    fun _ σ=>match σ with | ⟨.cells _ [_,.d (.int _ i),_,_,.d (.int _ w),_]::_,_,_⟩=>if w=0 then ((L.length:Int) - i).toNat+1 else 0 | _=>0⟩)],1,false,by simp,Ta rfl,?_⟩
   conv=>whnf
   refine ⟨L,S,rfl,ho,0,rfl,by omega,fun b0 hb0=>?_⟩;intro a dp w pl ho
   cases b0 with
   | false =>
    rw [Tc (by rw [hb0];simp)] at h;(conv=>whnf);exact h _ _ _ _ _ ho
   | true =>
   rw [Tf hb0] at h
   cases S with
   | bad e=>cases hb0
   | ok d0 ts0 =>
   have hb0:isW ts0 [[60]]=true:=hb0;obtain ⟨rfl,hr,hdp,hd⟩:=ho;have hr0:=hr.tlq (ZN hb0);have ho:=SOK.mk hr0 hdp hd;have hlr:=LRg.start (sg:=[44]) (most:=12) (st:=Zn) (one:=fun _=>Z1) (ZsP ho) (Zzg ho);have hlr:LRg [44] 12 Zn (fun _=>Z1) 65 L.length X (.ok d0 ts0.tail) 0:=by rw [← hX];exact hlr
   have q1:=hr0.lo;have q2:=hr0.hi;have q3:=hr0.big;(conv=>whnf);refine oiO ?_;(conv=>whnf);refine ⟨⟨[],_,_,_,_,_,rfl,rfl,ho,hlr⟩,?_⟩
   clear hlr ho hr0 hr q1 q2 q3
   intro vs σ hI
   obtain ⟨rows,a3,dp3,w3,pl3,S3,rfl,rfl,ho3,hlr⟩:=hI;(conv=>whnf);refine ZAf (fun hw=>?_) (fun hw=>?_)
   ·obtain ⟨d3,ts3,rfl,hr3,hdp3,hd3⟩:=ho3.wz hw;have hlen3:=hr3.len;have hlo3:=hr3.lo;have hhi3:=hr3.hi;have hwide:=hlr.wide;have hq:∀b,Zn ts3=b→PRg [44] 12 Zn (fun _=>Z1) 65 (rows.length+ts3.length) X (if b=true then Wq rows.length 12 (.ok d3 ts3) else .ok d3 ts3) rows.length:=fun b hb=>hlr.tight.room (by omega) hb
    conv=>whnf
    refine ⟨L,_,rfl,ho3,rfl,fun b1 hb1=>?_⟩;have hpr:=hq b1 hb1;intro a4 dp4 w4 pl4 ho4
    cases b1
    case' true =>
     rw [Tf rfl] at hpr;(conv=>whnf);refine ⟨L,_,rfl,ho4,fun S4 hS4=>?_⟩;have hpr:PRg [44] 12 Zn (fun _=>Z1) 65 (rows.length+ts3.length) X S4 rows.length:=by rw [← hS4];exact hpr
     intro a4 dp4 w4 pl4 ho4
    case' false =>
     rw [Tc (by simp)] at hpr;obtain ⟨S4,hS4⟩:∃x,SS.ok d3 ts3=x:=⟨_,rfl⟩
     rw [hS4] at hpr ho4
    all_goals
     have her:=PRg.next (by omega) ZnZ Zlp hpr;have hk:=ZAt (by omega) hpr;rw [V3] at her;(conv=>whnf);refine ⟨L,_,rfl,ho4,fun S7 nm hS7=>?_⟩;rw [hS7] at her;intro a4 dp4 w4 pl4 ho4
     conv=>whnf
     refine ⟨Tn.2 rfl,(show (rows.length+1) * 16≤2 ^ 47 by omega),(show rows.length+1≤2 ^ 47 by omega),?_⟩;(conv=>whnf);refine ⟨L,_,rfl,ho4,0,rfl,by omega,fun b hb6=>?_⟩;intro a7 dp7 w7 pl7 ho7
     cases b with
     | true =>
      have hmr:=her.more hb6
      cases S7 with
      | bad e=>cases hb6
      | ok d6 ts6 =>
       have hb6:isW ts6 [[44]]=true:=hb6;obtain ⟨rfl,hr6,hdp6,hd6⟩:=ho7;have hr7:=hr6.tlq (ZN hb6);have q1:=hr7.lo;have q2:=hr7.hi;have q3:=hr7.len;have q5:=hr7.big;(conv=>whnf);refine oiO ?_;(conv=>whnf);refine ⟨⟨_,_,_,_,_,.ok d6 ts6.tail,rfl,rfl,SOK.mk hr7 hdp6 hd6,?_⟩,?_⟩
       ·rw [Tb];exact hmr.le hwide
       ·obtain ⟨_,_,_,_,_,_,_,hle⟩:=her;show (if (0:Int)=0 then ((L.length:Int) - (a7+1)).toNat+1 else 0)<(if w3=0 then ((L.length:Int) - a3).toNat+1 else 0);rw [Tf rfl,Tf hw];have q4:=hr6.len;omega
     | false =>
      have hst:=her.stop hb6;subst hst;(conv=>whnf);refine ⟨L,_,rfl,ho7,fun S8 hS8=>?_⟩;rw [hS8] at h;intro a8 dp8 w8 pl8 ho8
      conv=>whnf
      exact h _ _ _ _ _ ho8
   ·obtain ⟨e,rfl,hw2,hw3⟩:=ho3.w1 hw;obtain ⟨rfl,_⟩:=hlr;(conv=>whnf);refine ⟨L,_,rfl,ho3,fun S8 hS8=>?_⟩;rw [hS8] at h;intro a8 dp8 w8 pl8 ho8
    conv=>whnf
    exact h _ _ _ _ _ ho8
  ·exact h.elim
 ·exact h.elim
end Go.PM.Lex
end

section
namespace Go.PM.Lex
open Go.Proofs
variable {w0:World} {nG:Nat}
theorem Xa {α β:Type} {d:Nat} {x:R α} {f:α→Ts→R β} {F:SS→SS} (hb:∀e,F (.bad e)=.bad e) (h:∀v ts,V0 d (f v ts)=F (.ok d ts)):V0 d (x.bind f)=F (V0 d x):=by
 cases x with
 | err r e=>exact (hb e).symm
 | ok v ts=>rw [R.bind_ok];exact h v ts
theorem Ji (w:Bs) (d:Nat) (ts:Ts):V0 d (ZO w ts)=Ye w (.ok d ts):=by rw [← Zaq,Zh]
theorem Vi (d:Nat) (ts:Ts):V0 d (Z1 ts)=YU (.ok d ts):=by rw [← V3,Zh]
theorem ZsQ (S:SS):ZF (fun _=>Wv) S=Ye [125] (ZF (fun _=>Yn [125]) (Ye [123] (YU S))):=by
 cases S with
 | bad e=>rfl
 | ok d ts =>
  rw [Zh,Wv,← Vi];refine Xa (F:=fun S=>Ye [125] (ZF (fun _=>Yn [125]) (Ye [123] S))) (fun e=>rfl) fun v ts=>?_
  try dsimp only
  rw [← Ji];refine Xa (F:=fun S=>Ye [125] (ZF (fun _=>Yn [125]) S)) (fun e=>rfl) fun v ts=>?_
  try dsimp only
  rw [Zh];refine Xa (F:=fun S=>Ye [125] S) (fun e=>rfl) fun v ts=>?_
  try dsimp only
  rw [← Ji];exact m106
def ZqG (S:SS):SS :=
 if YT 0 [60,58] S=true then YU (Xb S)
 else if YT 0 [91] (Ye [61] S)=true then Ye [93] (ZF (fun _=>Yn [93]) (Xb (Ye [61] S)))
 else ZF (fun _=>YE [124] 64 Zn Wv) (Ye [61] S)
theorem ZqH (S:SS):ZF (fun _=>Jw) S=ZqG (YU S):=by
 cases S with
 | bad e=>rfl
 | ok d ts =>
  rw [Zh,Jw,← Vi];refine Xa (fun e=>rfl) fun v ts=>?_
  unfold ZqG
  show _=if isW ts [[60,58]]=true then _ else _
  by_cases h1:isW ts [[60,58]]=true
  ·rw [Tf h1,Tf h1];show _=YU (.ok d ts.tail);rw [← Vi];exact m106
  ·rw [Tc h1,Tc h1,← Ji];refine Xa (F:=fun S=>if YT 0 [91] S=true then Ye [93] (ZF (fun _=>Yn [93]) (Xb S)) else ZF (fun _=>YE [124] 64 Zn Wv) S) (fun e=>rfl) fun v ts=>?_
   show _=if isW ts [[91]]=true then _ else _
   by_cases h2:isW ts [[91]]=true
   ·rw [Tf h2,Tf h2];show _=Ye [93] (ZF (fun _=>Yn [93]) (.ok d ts.tail));rw [Zh];refine Xa (F:=fun S=>Ye [93] S) (fun e=>rfl) fun v ts=>?_
    try dsimp only
    rw [← Ji];exact m106
   ·rw [Tc h2,Tc h2,Zh];exact m106
def ZfB:SS→SS
 | .ok d ts=>.ok d (YO 4 false false false ts).2
 | .bad e=>.bad e
theorem ZsR (S:SS):ZF (fun _=>Zd6) S=ZfB (Ye [41] (ZF (fun _=>Yn [41]) (Ye [40] (YU S)))):=by
 cases S with
 | bad e=>rfl
 | ok d ts =>
  rw [Zh,Zd6,← Vi];refine Xa (F:=fun S=>ZfB (Ye [41] (ZF (fun _=>Yn [41]) (Ye [40] S)))) (fun e=>rfl) fun v ts=>?_
  try dsimp only
  rw [← Ji];refine Xa (F:=fun S=>ZfB (Ye [41] (ZF (fun _=>Yn [41]) S))) (fun e=>rfl) fun v ts=>?_
  try dsimp only
  rw [Zh];refine Xa (F:=fun S=>ZfB (Ye [41] S)) (fun e=>rfl) fun v ts=>?_
  try dsimp only
  rw [← Ji];exact Xa (F:=ZfB) (fun e=>rfl) fun v ts=>rfl
theorem ZsS (S:SS):ZF (fun _=>Zd9) S=ZF (fun _=>Y2) (YU (Ye [61] (YU S))):=by
 cases S with
 | bad e=>rfl
 | ok d ts =>
  rw [Zh,Zd9,← Vi];refine Xa (F:=fun S=>ZF (fun _=>Y2) (YU (Ye [61] S))) (fun e=>rfl) fun v ts=>?_
  try dsimp only
  rw [← Ji];refine Xa (F:=fun S=>ZF (fun _=>Y2) (YU S)) (fun e=>rfl) fun v ts=>?_
  try dsimp only
  rw [← Vi];refine Xa (F:=fun S=>ZF (fun _=>Y2) S) (fun e=>rfl) fun v ts=>?_
  try dsimp only
  rw [Zh];exact m106
theorem ZsT (S:SS):ZF (fun _=>ZfF) S=YU S:=by
 cases S with
 | bad e=>rfl
 | ok d ts =>
  rw [Zh,ZfF,← Vi];exact m106
theorem Zn0 (d:Nat) (ts:Ts) (v:Ca) (ts':Ts) (h:(fun (_:Nat)=>Wv) d ts=.ok v ts'):ts'.length+1≤ts.length:=by
 have:=Zmq _ _ _ h;dsimp only at this;omega
theorem Zlq (d:Nat) (ts:Ts) (h:Zn ts=false):∃r e,(fun (_:Nat)=>Wv) d ts=.err r e:=by
 refine ⟨ts.length,150,?_⟩;show Wv ts=_;rw [Wv,Z1,Tc (by rw [h];simp),R.bind_err]
def Zd5:Zr:=qSp fun rest S K=>match rest with
 | []=>∀S',ZF (fun _=>Jw) S=S'→∀k n b fs cs p,K (.agg [.d (.int .u8 k),.d (.str n),.d (.str b),.d (.sl fs),.d (.sl cs),.d (.int .i64 p)]) S'
 | _=>False
theorem ZhR:Za Zd5:=ZI fun rest S K K' hK h=>by
 split at h
 ·exact fun S' hS k n b fs cs p=>hK _ _ (h S' hS k n b fs cs p)
 ·exact h.elim
noncomputable def ZqI:Tbl:=(234,VC)::(295,J2)::Zas
theorem ZqJ:PCalls (GG w0 nG) 239 Zd5:=by
 refine pc (tbl:=ZqI) ⟨⟨VX,YL⟩,⟨ZgS,ZaP⟩,Jh⟩ Tryz.func239 ?_;intro args σ K h
 unfold Zd5 qSp at h
 split at h
 ·rename_i rest t rows a en dp w pl
  obtain ⟨L,S,rfl,ho,h⟩:=h;split at h
  ·replace h:=h _ rfl
   rw [ZqH] at h;obtain ⟨S1,hS1⟩:∃x,YU S=x:=⟨_,rfl⟩
   rw [hS1] at h;unfold ZqG at h
   obtain ⟨X,hX⟩:∃x,ZF (fun _=>YE [124] 64 Zn Wv) (Ye [61] S1)=x:=⟨_,rfl⟩
   rw [hX] at h;refine ⟨Zb [(16,⟨[],[0,2,3],fun vs σ=>∃(rows:List (List D)) (nm:Bs) (p a' dp' w' pl':Int) (S':SS),vs=[] ∧
     σ=⟨[UG t L a' en dp' w' pl',.cells 64 [.d (.int .u8 0),.d (.str []),.d (.str []),.sl 0 66 [],.sl 1 148 [],.d (.int .i64 0)],
      .cells 64 [.d (.int .u8 3),.d (.str nm),.d (.str []),.sl 2 66 [],.sl 3 148 rows,.d (.int .i64 p)]],[3,2,1,0],4⟩∧SOK L a' dp' w' S'∧LRg [124] 64 Zn (fun _=>Wv) 65 L.length X S' rows.length,
    fun _ σ=>match σ with | ⟨.cells _ [_,.d (.int _ i),_,_,.d (.int _ w),_]::_,_,_⟩=>if w=0 then ((L.length:Int) - i).toNat+1 else 0 | _=>0⟩)],1,false,by simp,Ta rfl,?_⟩
   conv=>whnf
   refine ⟨L,S,rfl,ho,fun p=>?_⟩;intro a1 dp1 w1 pl1 ho1
   conv=>whnf
   refine ⟨L,S,rfl,ho1,fun S1' nm hS1'=>?_⟩;obtain rfl:S1=S1':=hS1.symm.trans hS1';intro a2 dp2 w2 pl2 ho2
   conv=>whnf
   refine ⟨L,S1,rfl,ho2,0,rfl,by omega,fun b1 hb1=>?_⟩;intro a3 dp3 w3 pl3 ho3
   cases b1 with
   | true =>
    rw [Tf hb1] at h
    cases S1 with
    | bad e=>cases hb1
    | ok d ts =>
     have hb1:isW ts [[60,58]]=true:=hb1;obtain ⟨rfl,hr,hdp,hd⟩:=ho3;have hr7:=hr.tlq (ZN hb1);have q1:=hr7.lo;have q2:=hr7.hi;have q3:=hr7.big;(conv=>whnf);refine oiO ?_;(conv=>whnf);refine ⟨L,_,rfl,SOK.mk hr7 hdp hd,fun S2 bs hS2=>?_⟩;rw [show YU (Xb (.ok d ts))=S2 from hS2] at h;intro a4 dp4 w4 pl4 ho4
     conv=>whnf
     exact h _ _ _ _ _ _ _ _ _ _ ho4
   | false =>
   rw [Tc (by rw [hb1];simp)] at h;(conv=>whnf);refine ⟨L,S1,rfl,ho3,fun S2 hS2=>?_⟩;rw [hS2] at h hX;intro a4 dp4 w4 pl4 ho4
   conv=>whnf
   refine ⟨L,S2,rfl,ho4,0,rfl,by omega,fun b2 hb2=>?_⟩;intro a5 dp5 w5 pl5 ho5
   cases b2 with
   | true =>
    rw [Tf hb2] at h
    cases S2 with
    | bad e=>cases hb2
    | ok d ts =>
     have hb2:isW ts [[91]]=true:=hb2;obtain ⟨rfl,hr,hdp,hd⟩:=ho5;have hr7:=hr.tlq (ZN hb2);have q1:=hr7.lo;have q2:=hr7.hi;have q3:=hr7.big;(conv=>whnf);refine oiO ?_;(conv=>whnf);refine ⟨L,_,rfl,SOK.mk hr7 hdp hd,fun S3 hS3 rows3=>?_⟩;rw [show ZF (fun _=>Yn [93]) (Xb (.ok d ts))=S3 from hS3] at h;intro a6 dp6 w6 pl6 ho6
     conv=>whnf
     refine ⟨L,_,rfl,ho6,fun S4 hS4=>?_⟩;rw [hS4] at h;intro a7 dp7 w7 pl7 ho7
     conv=>whnf
     exact h _ _ _ _ _ _ _ _ _ _ ho7
   | false =>
   rw [Tc (by rw [hb2];simp)] at h;have hlr:=LRg.start (sg:=[124]) (most:=64) (st:=Zn) (one:=fun _=>Wv) (ZsP ho5) (Zzg ho5);have hlr:LRg [124] 64 Zn (fun _=>Wv) 65 L.length X S2 0:=by rw [← hX];exact hlr
   conv=>whnf
   refine ⟨⟨[],_,_,_,_,_,_,_,rfl,rfl,ho5,hlr⟩,?_⟩
   clear hlr hX
   intro vs σ hI
   obtain ⟨rows,nm,p,a3,dp3,w3,pl3,S3,rfl,rfl,ho3,hlr⟩:=hI;(conv=>whnf);refine ZAf (fun hw=>?_) (fun hw=>?_)
   ·obtain ⟨d3,ts3,rfl,hr3,hdp3,hd3⟩:=ho3.wz hw;have hlen3:=hr3.len;have hlo3:=hr3.lo;have hhi3:=hr3.hi;have hwide:=hlr.wide;have hq:∀b,Zn ts3=b→PRg [124] 64 Zn (fun _=>Wv) 65 (rows.length+ts3.length) X (if b=true then Wq rows.length 64 (.ok d3 ts3) else .ok d3 ts3) rows.length:=fun b hb=>hlr.tight.room (by omega) hb
    conv=>whnf
    refine ⟨L,_,rfl,ho3,rfl,fun b1 hb1=>?_⟩;have hpr:=hq b1 hb1;intro a4 dp4 w4 pl4 ho4
    cases b1
    case' true =>
     rw [Tf rfl] at hpr;(conv=>whnf);refine ⟨L,_,rfl,ho4,fun S4 hS4=>?_⟩;have hpr:PRg [124] 64 Zn (fun _=>Wv) 65 (rows.length+ts3.length) X S4 rows.length:=by rw [← hS4];exact hpr
     intro a4 dp4 w4 pl4 ho4
    case' false =>
     rw [Tc (by simp)] at hpr;obtain ⟨S4,hS4⟩:∃x,SS.ok d3 ts3=x:=⟨_,rfl⟩
     rw [hS4] at hpr ho4
    all_goals
     have her:=PRg.next (by omega) Zn0 Zlq hpr;have hk:=ZAt (by omega) hpr;rw [ZsQ] at her;(conv=>whnf);refine ⟨L,_,rfl,ho4,fun S5 nm hS5=>?_⟩;rw [hS5] at her;intro a4 dp4 w4 pl4 ho4
     conv=>whnf
     refine ⟨L,_,rfl,ho4,fun S6 hS6=>?_⟩;rw [hS6] at her;intro a4 dp4 w4 pl4 ho4
     conv=>whnf
     refine ⟨L,_,rfl,ho4,fun S8 hS8 rows8=>?_⟩;rw [hS8] at her;intro a4 dp4 w4 pl4 ho4
     conv=>whnf
     refine ⟨L,_,rfl,ho4,fun S7 hS7=>?_⟩;rw [hS7] at her;intro a4 dp4 w4 pl4 ho4
     conv=>whnf
     refine ⟨Tn.2 rfl,(show (rows.length+1) * 40≤2 ^ 47 by omega),(show rows.length+1≤2 ^ 47 by omega),?_⟩;(conv=>whnf);refine ⟨L,_,rfl,ho4,0,rfl,by omega,fun b hb6=>?_⟩;intro a7 dp7 w7 pl7 ho7
     cases b with
     | true =>
      have hmr:=her.more hb6
      cases S7 with
      | bad e=>cases hb6
      | ok d6 ts6 =>
       have hb6:isW ts6 [[124]]=true:=hb6;obtain ⟨rfl,hr6,hdp6,hd6⟩:=ho7;have hr7:=hr6.tlq (ZN hb6);have q1:=hr7.lo;have q2:=hr7.hi;have q3:=hr7.len;have q5:=hr7.big;(conv=>whnf);refine oiO ?_;(conv=>whnf);refine ⟨⟨_,_,_,_,_,_,_,.ok d6 ts6.tail,rfl,rfl,SOK.mk hr7 hdp6 hd6,?_⟩,?_⟩
       ·rw [Tb];exact hmr.le hwide
       ·obtain ⟨_,_,_,_,_,_,_,hle⟩:=her;show (if (0:Int)=0 then ((L.length:Int) - (a7+1)).toNat+1 else 0)<(if w3=0 then ((L.length:Int) - a3).toNat+1 else 0);rw [Tf rfl,Tf hw];have q4:=hr6.len;omega
     | false =>
      have hst:=her.stop hb6;subst hst;(conv=>whnf);exact h _ _ _ _ _ _ _ _ _ _ ho7
   ·obtain ⟨e,rfl,hw2,hw3⟩:=ho3.w1 hw;obtain ⟨rfl,_⟩:=hlr;(conv=>whnf);exact h _ _ _ _ _ _ _ _ _ _ ho3
  ·exact h.elim
 ·exact h.elim
def ZhS:Zr:=qSp fun rest S K=>match rest with
 | []=>∀S',ZF (fun _=>Zd9) S=S'→∀n c ts p,K (.agg [.d (.str n),.d (.str c),.d (.sl ts),.d (.int .i64 p)]) S'
 | _=>False
theorem ZjO:Za ZhS:=ZI fun rest S K K' hK h=>by
 split at h
 ·exact fun S' hS n c ts p=>hK _ _ (h S' hS n c ts p)
 ·exact h.elim
noncomputable def ZsU:Tbl:=[(234,VC),(243,VE),(294,VD),(296,Zci)]
theorem ZsV:PCalls (GG w0 nG) 242 ZhS:=by
 refine pc (tbl:=ZsU) ⟨⟨VX,YL⟩,⟨VZ,YN⟩,⟨VY,YM⟩,⟨ZjN,Zcj⟩,trivial⟩ Tryz.func242 ?_;intro args σ K h
 unfold ZhS qSp at h
 split at h
 ·rename_i rest t rows a en dp w pl
  obtain ⟨L,S,rfl,ho,h⟩:=h;split at h
  ·replace h:=h _ rfl
   rw [ZsS] at h;refine ⟨Zb [],1,false,by simp,Ta rfl,?_⟩;(conv=>whnf);refine ⟨L,S,rfl,ho,fun p=>?_⟩;intro a1 dp1 w1 pl1 ho1
   conv=>whnf
   refine ⟨L,S,rfl,ho1,fun S1 nm hS1=>?_⟩;rw [hS1] at h;intro a2 dp2 w2 pl2 ho2
   conv=>whnf
   refine ⟨L,S1,rfl,ho2,fun S2 hS2=>?_⟩;rw [hS2] at h;intro a3 dp3 w3 pl3 ho3
   conv=>whnf
   refine ⟨L,S2,rfl,ho3,fun S3 nm3 hS3=>?_⟩;rw [hS3] at h;intro a4 dp4 w4 pl4 ho4
   conv=>whnf
   refine ⟨L,S3,rfl,ho4,fun S4 hS4 rows4=>?_⟩;rw [hS4] at h;intro a5 dp5 w5 pl5 ho5
   conv=>whnf
   exact h _ _ _ _ _ _ _ _ ho5
  ·exact h.elim
 ·exact h.elim
end Go.PM.Lex
end

section
namespace Go.PM.Lex
open Go.Proofs
variable {w0:World} {nG:Nat}
def ZhT:Zr:=qSp fun rest S K=>match rest with
 | []=>∀S',ZF (fun _=>Zd6) S=S'→∀n fs i o l p,K (.agg [.d (.str n),.d (.sl fs),.d (.bool i),.d (.bool o),.d (.bool l),.d (.int .i64 p)]) S'
 | _=>False
theorem ZjP:Za ZhT:=ZI fun rest S K K' hK h=>by
 split at h
 ·exact fun S' hS n fs i o l p=>hK _ _ (h S' hS n fs i o l p)
 ·exact h.elim
def FL (X:SS) (i o n:Bool):SS→Prop
 | .bad e=>X=.bad e
 | .ok d ts=>∃f,W1 i o n<f∧X=.ok d (YO f i o n ts).2
theorem FL.stop {X:SS} {i o n:Bool} {S:SS} (h:FL X i o n S) (h1:i=false→YT 0 [105,110,112,117,116] S=false) (h2:o=false→YT 0 [111,117,116,112,117,116] S=false) (h3:n=false→YT 0 [105,110,108,105,110,101] S=false):X=S:=by
 cases S with
 | bad e=>exact h
 | ok d ts =>
  obtain ⟨f,hf,h⟩:=h;obtain ⟨f,rfl⟩:∃g,f=g+1:=⟨f - 1,by omega⟩
  have g1:¬(i=false∧isW ts [[105,110,112,117,116]]=true):=fun g=>by have:=h1 g.1;rw [show isW ts [[105,110,112,117,116]]=false from this] at g;exact absurd g.2 (by simp)
  have g2:¬(o=false∧isW ts [[111,117,116,112,117,116]]=true):=fun g=>by have:=h2 g.1;rw [show isW ts [[111,117,116,112,117,116]]=false from this] at g;exact absurd g.2 (by simp)
  have g3:¬(n=false∧isW ts [[105,110,108,105,110,101]]=true):=fun g=>by have:=h3 g.1;rw [show isW ts [[105,110,108,105,110,101]]=false from this] at g;exact absurd g.2 (by simp)
  rw [Uy,Tc g1,Tc g2,Tc g3] at h;exact h
theorem FL.in' {X:SS} {o n:Bool} {d:Nat} {ts:Ts} (h:FL X false o n (.ok d ts)) (h1:isW ts [[105,110,112,117,116]]=true):FL X true o n (.ok d ts.tail):=by
 obtain ⟨f,hf,h⟩:=h;obtain ⟨f,rfl⟩:∃g,f=g+1:=⟨f - 1,by omega⟩
 rw [Uy,Tf ⟨rfl,h1⟩] at h;exact ⟨f,by simp only [W1] at hf ⊢;omega,h⟩
theorem FL.out {X:SS} {i n:Bool} {d:Nat} {ts:Ts} (h:FL X i false n (.ok d ts)) (h1:i=false→isW ts [[105,110,112,117,116]]=false) (h2:isW ts [[111,117,116,112,117,116]]=true):FL X i true n (.ok d ts.tail):=by
 obtain ⟨f,hf,h⟩:=h;obtain ⟨f,rfl⟩:∃g,f=g+1:=⟨f - 1,by omega⟩
 rw [Uy,Tc (fun g=>by rw [h1 g.1] at g;exact absurd g.2 (by simp)),Tf ⟨rfl,h2⟩] at h;exact ⟨f,by simp only [W1] at hf ⊢;omega,h⟩
theorem FL.inl {X:SS} {i o:Bool} {d:Nat} {ts:Ts} (h:FL X i o false (.ok d ts)) (h1:i=false→isW ts [[105,110,112,117,116]]=false) (h2:o=false→isW ts [[111,117,116,112,117,116]]=false) (h3:isW ts [[105,110,108,105,110,101]]=true):FL X i o true (.ok d ts.tail):=by
 obtain ⟨f,hf,h⟩:=h;obtain ⟨f,rfl⟩:∃g,f=g+1:=⟨f - 1,by omega⟩
 rw [Uy,Tc (fun g=>by rw [h1 g.1] at g;exact absurd g.2 (by simp)),Tc (fun g=>by rw [h2 g.1] at g;exact absurd g.2 (by simp)),Tf ⟨rfl,h3⟩] at h;exact ⟨f,by simp only [W1] at hf ⊢;omega,h⟩
theorem FL.start (S:SS):FL (ZfB S) false false false S:=by
 cases S with
 | bad e=>rfl
 | ok d ts=>exact ⟨4,by decide,rfl⟩
noncomputable def ZsW:Tbl:=[(234,VC),(243,VE),(294,VD),(295,J2),(170,Xz)]
theorem ZsX:PCalls (GG w0 nG) 240 ZhT:=by
 refine pc (tbl:=ZsW) ⟨⟨VX,YL⟩,⟨VZ,YN⟩,⟨VY,YM⟩,⟨ZgS,ZaP⟩,⟨Xv,ZT⟩,trivial⟩ Tryz.func240 ?_;intro args σ K h
 unfold ZhT qSp at h
 split at h
 ·rename_i rest t rows a en dp w pl
  obtain ⟨L,S,rfl,ho,h⟩:=h;split at h
  ·replace h:=h _ rfl
   rw [ZsR] at h;obtain ⟨X,hX⟩:∃x,ZfB (Ye [41] (ZF (fun _=>Yn [41]) (Ye [40] (YU S))))=x:=⟨_,rfl⟩
   rw [hX] at h;refine ⟨Zb [(6,⟨[],[0,2,3],fun vs σ=>∃(nm:Bs) (fl:List (List D)) (i o n:Bool) (p a' dp' w' pl':Int) (S':SS),vs=[] ∧
     σ=⟨[UG t L a' en dp' w' pl',.cells 68 [.d (.str []),.sl 0 66 [],.d (.bool false),.d (.bool false),.d (.bool false),.d (.int .i64 0)],
      .cells 68 [.d (.str nm),.d (.sl fl),.d (.bool i),.d (.bool o),.d (.bool n),.d (.int .i64 p)]],[0],1⟩∧SOK L a' dp' w' S'∧FL X i o n S',
    fun _ σ=>match σ with | ⟨[_,_,.cells _ [_,_,.d (.bool i),.d (.bool o),.d (.bool n),_]],_,_⟩=>W1 i o n | _=>0⟩)],1,false,by simp,Ta rfl,?_⟩
   conv=>whnf
   refine ⟨L,S,rfl,ho,fun p=>?_⟩;intro a1 dp1 w1 pl1 ho1
   conv=>whnf
   refine ⟨L,S,rfl,ho1,fun S1 nm hS1=>?_⟩;rw [hS1] at hX;intro a2 dp2 w2 pl2 ho2
   conv=>whnf
   refine ⟨L,S1,rfl,ho2,fun S2 hS2=>?_⟩;rw [hS2] at hX;intro a3 dp3 w3 pl3 ho3
   conv=>whnf
   refine ⟨L,S2,rfl,ho3,fun S3 hS3 fl=>?_⟩;rw [hS3] at hX;intro a4 dp4 w4 pl4 ho4
   conv=>whnf
   refine ⟨L,S3,rfl,ho4,fun S4 hS4=>?_⟩;rw [hS4] at hX;intro a5 dp5 w5 pl5 ho5
   have hfl:=FL.start S4;rw [hX] at hfl;(conv=>whnf);refine ⟨⟨nm,fl,false,false,false,p,_,_,_,_,S4,rfl,rfl,ho5,hfl⟩,?_⟩
   clear hfl hX
   intro vs σ hI
   obtain ⟨nm,fl,i,o,n,p,a3,dp3,w3,pl3,S3,rfl,rfl,ho3,hfl⟩:=hI;(conv=>whnf);refine ZAf (fun hw=>?_) (fun hw=>?_)
   ·obtain ⟨d3,ts3,rfl,hr3,hdp3,hd3⟩:=ho3.wz hw;(conv=>whnf);refine ⟨L,_,rfl,ho3,0,rfl,by omega,fun b1 hb1=>?_⟩;have hb1:isW ts3 [[105,110,112,117,116]]=b1:=hb1;intro a4 dp4 w4 pl4 ho4
    by_cases h1:b1=true∧i=false
    ·obtain ⟨rfl,rfl⟩:=h1;obtain ⟨rfl,hr4,hdp4,hd4⟩:=ho4;have hr7:=hr4.tlq (ZN hb1);have q1:=hr7.lo;have q2:=hr7.hi;have q5:=hr7.big;(conv=>whnf);refine oiO ?_;(conv=>whnf);refine ⟨⟨nm,fl,true,o,n,p,_,_,_,_,_,rfl,rfl,SOK.mk hr7 hdp4 hd4,hfl.in' hb1⟩,?_⟩;show W1 true o n<W1 false o n;simp only [W1];omega
    have g1:i=false→isW ts3 [[105,110,112,117,116]]=false:=fun hi=>by rw [hb1];cases b1 with | false=>rfl | true=>exact absurd ⟨rfl,hi⟩ h1
    cases b1
    case' true=>obtain rfl:i=true:=by cases i with | true=>rfl | false=>exact absurd ⟨rfl,rfl⟩ h1
    all_goals
     conv=>whnf
     refine ⟨L,_,rfl,ho4,0,rfl,by omega,fun b2 hb2=>?_⟩;have hb2:isW ts3 [[111,117,116,112,117,116]]=b2:=hb2;intro a5 dp5 w5 pl5 ho5
     by_cases h2:b2=true∧o=false
     ·obtain ⟨rfl,rfl⟩:=h2;obtain ⟨rfl,hr4,hdp4,hd4⟩:=ho5;have hr7:=hr4.tlq (ZN hb2);have q1:=hr7.lo;have q2:=hr7.hi;have q5:=hr7.big;(conv=>whnf);refine oiO ?_;(conv=>whnf);refine ⟨⟨nm,fl,_,true,n,p,_,_,_,_,_,rfl,rfl,SOK.mk hr7 hdp4 hd4,hfl.out g1 hb2⟩,?_⟩
      first | show W1 i true n<W1 i false n | show W1 true true n<W1 true false n
      simp only [W1];omega
     have g2:o=false→isW ts3 [[111,117,116,112,117,116]]=false:=fun hi=>by rw [hb2];cases b2 with | false=>rfl | true=>exact absurd ⟨rfl,hi⟩ h2
     cases b2
     case' true=>obtain rfl:o=true:=by cases o with | true=>rfl | false=>exact absurd ⟨rfl,rfl⟩ h2
     all_goals
      conv=>whnf
      refine ⟨L,_,rfl,ho5,0,rfl,by omega,fun b3 hb3=>?_⟩;have hb3:isW ts3 [[105,110,108,105,110,101]]=b3:=hb3;intro a6 dp6 w6 pl6 ho6
      by_cases h3:b3=true∧n=false
      ·obtain ⟨rfl,rfl⟩:=h3;obtain ⟨rfl,hr4,hdp4,hd4⟩:=ho6;have hr7:=hr4.tlq (ZN hb3);have q1:=hr7.lo;have q2:=hr7.hi;have q5:=hr7.big;(conv=>whnf);refine oiO ?_;(conv=>whnf);refine ⟨⟨nm,fl,_,_,true,p,_,_,_,_,_,rfl,rfl,SOK.mk hr7 hdp4 hd4,hfl.inl g1 g2 hb3⟩,?_⟩
       first | show W1 i o true<W1 i o false | show W1 true o true<W1 true o false | show W1 i true true<W1 i true false | show W1 true true true<W1 true true false
       simp only [W1];omega
      have g3:n=false→isW ts3 [[105,110,108,105,110,101]]=false:=fun hi=>by rw [hb3];cases b3 with | false=>rfl | true=>exact absurd ⟨rfl,hi⟩ h3
      have hst:=hfl.stop g1 g2 g3;subst hst
      cases b3
      case' true=>obtain rfl:n=true:=by cases n with | true=>rfl | false=>exact absurd ⟨rfl,rfl⟩ h3
      all_goals
       conv=>whnf
       exact h _ _ _ _ _ _ _ _ _ _ ho6
   ·obtain ⟨e,rfl,hw2,hw3⟩:=ho3.w1 hw;have hfl:X=.bad e:=hfl;subst hfl;exact m184
  ·exact h.elim
 ·exact h.elim
end Go.PM.Lex
end

section
namespace Go.PM.Lex
open Go.Proofs
variable {w0:World} {nG:Nat}
def WI (ws:List Bs) (S:SS) (i:Nat):Option Nat→Prop
 | none=>∀k u,k<i→ws[k]?=some u→YT 0 u S=false
 | some k=>∃u,ws[k]?=some u∧YT 0 u S=true
section
variable {ws:List Bs} {S:SS} {i:Nat} {r:Option Nat} {u:Bs}
theorem WI.no (h:WI ws S i r) (hu:ws[i]?=some u) (hs:YT 0 u S=false):WI ws S (i+1) r:=by
 cases r with
 | some k=>exact h
 | none =>
  intro k v hk hv
  by_cases hki:k=i
  ·subst hki;rw [hu] at hv;cases hv;exact hs
  ·exact h k v (by omega) hv
theorem WI.yes (hu:ws[i]?=some u) (hs:YT 0 u S=true):WI ws S (i+1) (some i):=⟨u,hu,hs⟩
theorem WI.fin (h:WI ws S ws.length r) (hn:ws.Nodup):Zwk S ws=r:=by
 cases S with
 | bad e =>
  cases r with
  | none=>rfl
  | some k=>obtain ⟨u,_,hs⟩:=h;cases hs
 | ok d ts =>
  cases r with
  | none =>
   exact ZmI ws 0 fun u hu=>by
    obtain ⟨k,hk,rfl⟩:=TW hu;exact h k _ hk (Tg hk)
  | some k =>
   obtain ⟨u,hu,hs⟩:=h;obtain ⟨hk,rfl⟩:=Th.1 hu;have:=ZmJ (ts:=ts) ws 0 k hk hn hs
   rwa [T7] at this
theorem WI.okS {k:Nat} (h:WI ws S i (some k)):∃d ts,S=.ok d ts∧ts≠[]∧k<ws.length:=by
 obtain ⟨u,hu,hs⟩:=h
 cases S with
 | bad e=>cases hs
 | ok d ts=>exact ⟨d,ts,rfl,ZN (show isW ts [u]=true from hs),(Th.1 hu).1⟩
end
def opR:Option Nat→Nat
 | none=>0
 | some k=>3+k
theorem Zzh:relWords.length=6:=rfl
theorem ZzO:aggWords.length=4:=rfl
noncomputable def Zv1 (n:Nat):Tbl:=[(234,VC),(170,Xz),(237,Je),(326,Zfy n),(103,Ud (n+1) 6),(171,VB),(327,ZgR n)]
theorem ZqK {n:Nat} (ha:PCalls (GG w0 nG) 326 (Zfy n)) (hg:PCalls (GG w0 nG) 327 (ZgR n)):PCalls (GG w0 nG) 317 (ZjH n):=by
 refine Zll Z8 mixed (tbl:=Zv1 n) ⟨⟨VX,YL⟩,⟨Xv,ZT⟩,⟨Zcc,Vh⟩,⟨ha,ZjE _⟩,⟨ZxG _,XX _ _⟩,⟨VW,YK⟩,⟨hg,Zln _⟩,trivial⟩ Tryz.func317 rfl (by kernel_rfl) (by kernel_rfl) ?_;intro args σ K h
 unfold ZjH qSp at h
 split at h
 ·rename_i rest t rows a en dp w pl
  obtain ⟨L,S,rfl,ho,h⟩:=h;split at h
  ·obtain ⟨hdn,h⟩:=h
   replace h:=h _ rfl
   have hS:∀d ts,S=.ok d ts→(hd ts.tail).kind=1→(hd ts.tail).text≠[40]:=fun d ts g=>by
    subst g;have:=ho.2.1.nam 1
    rwa [List.drop_one] at this
   rw [Zv0 S hS] at h
   clear hS
   unfold Zzf at h
   obtain ⟨S1,hS1⟩:∃x,ZF ZW S=x:=⟨_,rfl⟩
   rw [hS1] at h;have hdn1:=Yg (P:=fun d=>ZW d) hdn;rw [show ZF (fun d=>ZW d) S=S1 from hS1] at hdn1;have hdn2:dLt (n+1) (Xb S1):=by
    cases S1 with
    | bad e=>intro d ts hq;cases hq
    | ok d ts=>intro d' ts' hq;cases hq;exact hdn1 _ _ rfl
   refine ⟨Zb [(11,⟨[7],[0,2,4,5,6],fun vs σ=>∃(i:Nat) (r:Option Nat) (a' dp' w' pl' p eo:Int) (es:List UInt8) (em:Int) (er:List (List D)) (ep:Int),vs=[.d (.int .i64 i)] ∧
     σ=⟨[UG t L a' en dp' w' pl',.cells 60 [.d (.int .u8 0),.d (.str []),.sl 0 24 [],.sl 1 60 [],.d (.int .i64 0)],
      .cells 60 [.d (.int .u8 (opR r)),.d (.str []),.sl 2 24 [],.sl 3 60 [],.d (.int .i64 p)],
      .cells 24 [.d (.int .u8 eo),.d (.str es),.d (.int .i64 em),.d (.sl er),.d (.int .i64 ep)]],[3,2,1,0],4⟩∧(i≤6∧SOK L a' dp' w' S1∧WI relWords S1 i r),
     fun vs _=>match vs with | [.d (.int _ i)]=>(6 - i).toNat | _=>0⟩),
    (22,⟨[9],[0,2,4,8],fun vs σ=>∃(i k:Nat) (r:Option Nat) (a' dp' w' pl' p:Int) (row:List D) (eo:Int) (es:List UInt8) (em:Int) (er:List (List D)) (ep:Int),vs=[.d (.int .i64 i)] ∧
     σ=⟨[UG t L a' en dp' w' pl',.cells 60 [.d (.int .u8 0),.d (.str []),.sl 0 24 [],.sl 1 60 [],.d (.int .i64 0)],
      .cells 60 [.d (.int .u8 (3+(k:Int))),.d (.str []),.sl 2 24 [row],.sl 3 60 [],.d (.int .i64 p)],
      .cells 24 [.d (.int .u8 eo),.d (.str es),.d (.int .i64 em),.d (.sl er),.d (.int .i64 ep)]],[3,2,1,0],4⟩∧(i≤4∧k<6∧Zwk S1 relWords=some k∧SOK L a' dp' w' (Xb S1)∧(k=0→WI aggWords (Xb S1) i none)),
     fun vs _=>match vs with | [.d (.int _ i)]=>(4 - i).toNat | _=>0⟩)],W4 [],Yu [],Yu [],Yu [327],Yu [],1,false,by simp,Ta rfl,?_⟩
   conv=>whnf
   refine ⟨L,S,rfl,ho,fun p=>?_⟩;intro a1 dp1 w1 pl1 ho1
   conv=>whnf
   refine ⟨L,S,rfl,ho1,0,rfl,by omega,fun b0 hb0=>?_⟩;intro a2 dp2 w2 pl2 ho2
   cases b0 with
   | true =>
    rw [Tf hb0] at h
    cases S with
    | bad e=>cases hb0
    | ok d ts =>
     have hb0:isW ts [[33]]=true:=hb0;obtain ⟨rfl,hr,hdp,hd⟩:=ho2;have hr7:=hr.tlq (ZN hb0);have q1:=hr7.lo;have q2:=hr7.hi;have q3:=hr7.big;(conv=>whnf);refine oiO ?_;(conv=>whnf);refine ⟨L,_,rfl,SOK.mk hr7 hdp hd,⟨fun d' ts' hq=>(by cases hq;exact hdn _ _ rfl),fun S2 hS2=>?_⟩⟩;rw [show ZF (fun d=>XY d (Yi d) [40] [41]) (YU (Xb (.ok d ts)))=S2 from hS2] at h;intro o2 s2 x2 y2 p2 a3 dp3 w3 pl3 ho3
     conv=>whnf
     exact h _ _ _ _ _ _ _ _ _ ho3
   | false =>
   rw [Tc (by rw [hb0];simp)] at h;(conv=>whnf);refine ⟨L,S,rfl,ho2,rfl,fun b1 hb1=>?_⟩;intro a3 dp3 w3 pl3 ho3
   by_cases hq:ZgO S=true∧YT 1 [40] S=true
   ·rw [Tf hq] at h;obtain rfl:b1=true:=hb1.symm.trans hq.1;(conv=>whnf);refine ⟨L,S,rfl,ho3,1,rfl,by omega,fun b2 hb2=>?_⟩;obtain rfl:b2=true:=hb2.symm.trans hq.2;intro a4 dp4 w4 pl4 ho4
    conv=>whnf
    refine ⟨L,S,rfl,ho4,⟨hdn,fun S2 hS2=>?_⟩⟩;rw [hS2] at h;intro o2 s2 x2 y2 p2 a5 dp5 w5 pl5 ho5
    conv=>whnf
    exact h _ _ _ _ _ _ _ _ _ ho5
   rw [Tc hq] at h
   cases b1
   case' true =>
    conv=>whnf
    refine ⟨L,S,rfl,ho3,1,rfl,by omega,fun b2 hb2=>?_⟩;obtain rfl:b2=false:=by cases b2 with | false=>rfl | true=>exact absurd ⟨hb1,hb2⟩ hq
    intro a4 dp4 w4 pl4 ho4
   all_goals
    conv=>whnf
    refine ⟨L,S,rfl,by assumption,0,rfl,by omega,(fun d' ts' hq=>Or.inl (hdn _ _ hq)),fun S1' hS1'=>?_⟩;obtain rfl:S1=S1':=by
     rw [← hS1,← hS1'];show ZF (fun d=>ZW d) S=ZF (fun d=>dsK (Zp d) 5) S;rw [funext Zbj]
    intro eo es em er ep a5 dp5 w5 pl5 ho5
    conv=>whnf
    refine ⟨⟨0,none,a5,dp5,w5,pl5,p,eo,es,em,er,ep,rfl,rfl,by omega,ho5,fun k u hk _=>absurd hk (by omega)⟩,?_⟩;intro vs σ hI
    obtain ⟨i,r,a,dp,w,pl,p,eo,es,em,er,ep,rfl,rfl,hi,ho,hw⟩:=hI;(conv=>whnf);refine ZAf (fun hi2=>?_) (fun hi2=>?_)
    ·have hi2:i<6:=by have hi2:(i:Int)<6:=hi2;omega
     obtain ⟨u,hu⟩:∃u,relWords[i]?=some u:=⟨_,Tg (by rw [Zzh];exact hi2)⟩
     have hr1:(relWords.map fun w=>[D.str w])[((i:Nat):Int).toNat]?=some [D.str u]:=by simp [hu]
     conv=>whnf
     refine ⟨_,by omega,hr1,?_⟩;(conv=>whnf);refine ⟨L,S1,rfl,ho,0,rfl,by omega,fun b hb=>?_⟩;intro a2 dp2 w2 pl2 ho2
     cases b with
     | true =>
      conv=>whnf
      refine oiB ?_;(conv=>whnf);refine oiB ?_;(conv=>whnf);refine oiO ?_;(conv=>whnf);refine ⟨⟨i+1,some i,_,_,_,_,_,_,_,_,_,_,rfl,rfl,by omega,ho2,WI.yes hu hb⟩,?_⟩;show (6 - ((i:Int)+1)).toNat<(6 - (i:Int)).toNat;omega
     | false =>
      conv=>whnf
      refine oiO ?_;(conv=>whnf);refine ⟨⟨i+1,r,_,_,_,_,_,_,_,_,_,_,rfl,rfl,by omega,ho2,hw.no hu hb⟩,?_⟩;show (6 - ((i:Int)+1)).toNat<(6 - (i:Int)).toNat;omega
    obtain rfl:i=relWords.length:=by have hi2:¬(i:Int)<6:=hi2;rw [Zzh];omega
    have hix:=hw.fin (by decide)
    cases r with
    | none =>
     rw [hix] at h;(conv=>whnf);refine ⟨L,S1,rfl,ho,150,rfl,by omega,?_⟩;exact m125
    | some k =>
     obtain ⟨d,ts,rfl,hne,hk⟩:=hw.okS;rw [Zzh] at hk;rw [hix] at h;(conv=>whnf);refine ZAf (fun g=>absurd g (show ¬((3+k:Nat):Int)=0 by omega)) (fun _=>?_);obtain ⟨rfl,hr,hdp,hd⟩:=ho;have hr7:=hr.tlq hne;have q1:=hr7.lo;have q2:=hr7.hi;have q3:=hr7.big;(conv=>whnf);refine oiO ?_;(conv=>whnf);refine ⟨Tn.2 rfl,(show (0+1) * 64≤2 ^ 47 by omega),(show 0+1≤2 ^ 47 by omega),?_⟩;(conv=>whnf);refine ⟨⟨0,k,none,_,_,_,_,_,_,_,_,_,_,_,rfl,rfl,by omega,hk,hix,SOK.mk hr7 hdp hd,fun _ k u hk _=>absurd hk (by omega)⟩,?_⟩;intro vs σ hI
     obtain ⟨i,k2,r,a,dp,w,pl,p,row,eo,es,em,er,ep,rfl,rfl,hi,hk2,hix2,ho,hw⟩:=hI;obtain rfl:k=k2:=by rw [hix] at hix2;cases hix2;rfl
     conv=>whnf
     refine ZAf (fun hi2=>?_) (fun hi2=>?_)
     ·have hi2:i<4:=by have hi2:(i:Int)<4:=hi2;omega
      obtain ⟨u,hu⟩:∃u,aggWords[i]?=some u:=⟨_,Tg (by rw [ZzO];exact hi2)⟩
      have hr1:(aggWords.map fun w=>[D.str w])[((i:Nat):Int).toNat]?=some [D.str u]:=by simp [hu]
      conv=>whnf
      refine ZAf (fun h3=>?_) (fun h3=>?_)
      ·obtain rfl:k=0:=by have h3:3+(k:Int)=3:=h3;omega
       conv=>whnf
       refine ⟨_,by omega,hr1,?_⟩;(conv=>whnf);refine ⟨L,_,rfl,ho,0,rfl,by omega,fun b hb=>?_⟩;intro a2 dp2 w2 pl2 ho2
       cases b with
       | true =>
        have hj:Zwk (Xb (.ok d ts)) aggWords=some i:=by
         have hy:=WI.yes (ws:=aggWords) (S:=Xb (.ok d ts)) hu hb;obtain ⟨u2,hu2,hs2⟩:=hy;exact WI.fin (ws:=aggWords) (r:=some i) ⟨u2,hu2,hs2⟩ (by decide)
        rw [hj] at h;(conv=>whnf);refine oiB ?_;(conv=>whnf);refine oiB ?_;(conv=>whnf);refine ⟨⟨rfl,rfl,(by simp)⟩,L,d,ts.tail,rfl,ho2,ZN (show isW ts.tail [u]=true from hb),hdn1 _ _ rfl,fun S3 hS3=>?_⟩;have hS3:ZvY (9+(i:Int)) (Xb (Xb (.ok d ts)))=S3:=hS3;have h:∀o s x y q a' dp' w' pl',SOK L a' dp' w' (ZvY (9+(i:Int)) (Xb (Xb (.ok d ts))))→K (.ret (Zwj o s x y q)) ⟨[UG t L a' en dp' w' pl'],[],0⟩:=h;rw [hS3] at h;intro o3 s3 x3 y3 p3 a3 dp3 w3 pl3 ho3
        conv=>whnf
        exact h _ _ _ _ _ _ _ _ _ ho3
       | false =>
        conv=>whnf
        refine oiO ?_;(conv=>whnf);refine ⟨⟨i+1,0,none,_,_,_,_,_,_,_,_,_,_,_,rfl,rfl,by omega,hk,hix,ho2,fun _=>(hw rfl).no hu hb⟩,?_⟩;show (4 - ((i:Int)+1)).toNat<(4 - (i:Int)).toNat;omega
      ·have h3:¬k=0:=by have h3:¬3+(k:Int)=3:=h3;omega
       conv=>whnf
       refine oiO ?_;(conv=>whnf);refine ⟨⟨i+1,k,none,_,_,_,_,_,_,_,_,_,_,_,rfl,rfl,by omega,hk,hix,ho,fun g=>absurd g h3⟩,?_⟩;show (4 - ((i:Int)+1)).toNat<(4 - (i:Int)).toNat;omega
     ·obtain rfl:i=aggWords.length:=by have hi2:¬(i:Int)<4:=hi2;rw [ZzO];omega
      have hre:Zze (.ok d ts) (some k) (Zwk (Xb (.ok d ts)) aggWords)=ZF ZW (Xb (.ok d ts)):=by
       cases k with
       | zero=>rw [(hw rfl).fin (by decide)];rfl
       | succ k=>rfl
      rw [hre] at h;(conv=>whnf);refine ⟨L,_,rfl,ho,0,rfl,by omega,(fun d' ts' hq=>Or.inl (hdn2 _ _ hq)),fun S3 hS3=>?_⟩;have hS3:ZF (fun d=>dsK (Zp d) 5) (Xb (.ok d ts))=S3:=hS3;rw [funext Zbj] at hS3;have h:∀o s x y q a' dp' w' pl',SOK L a' dp' w' (ZF (fun d=>ZW d) (Xb (.ok d ts)))→K (.ret (Zwj o s x y q)) ⟨[UG t L a' en dp' w' pl'],[],0⟩:=h;rw [hS3] at h;intro eo3 es3 em3 er3 ep3 a3 dp3 w3 pl3 ho3
      conv=>whnf
      refine ⟨Tn.2 rfl,(show (1+1) * 64≤2 ^ 47 by omega),(show 1+1≤2 ^ 47 by omega),?_⟩;(conv=>whnf);exact h _ _ _ _ _ _ _ _ _ ho3
  ·exact h.elim
 ·exact h.elim
end Go.PM.Lex
end

section
namespace Go.PM.Lex
open Go.Proofs
variable {w0:World} {nG:Nat}
theorem ZqL (n:Nat):PCalls (GG w0 nG) 291 (Jg n):=Zmx (ZxG n)
theorem ZzP:∀n,PCalls (GG w0 nG) 297 (Zlm n)
 | 0=>ZsO
 | n+1=>(ZmH (ZqK (ZmG (ZqL n)) (ZqC (ZzP n)))).weaken1 fun args σ K h=>by
  unfold Zlm qSp at h
  unfold Zbl qSp
  split at h
  ·obtain ⟨L,S,h1,h2,h⟩:=h;refine ⟨L,S,h1,h2,?_⟩;split at h
   ·exact h
   ·exact h.elim
  ·exact h.elim
theorem ZxI (n:Nat):PCalls (GG w0 nG) 297 (Zbl n):=ZmH (ZqK (ZmG (ZqL n)) (ZqC (ZzP n)))
theorem ZxJ (n:Nat):PCalls (GG w0 nG) 244 (Zfz n):=ZsM (ZqL n) (ZxI n)
theorem Zn1 {ts:Ts} (h:Zn ts=true):(hd ts).kind=1:=by
 simp only [Zn,Tl,TG] at h;exact h.1
end Go.PM.Lex
end

section
namespace Go.PM.Lex
open Go.Proofs
variable {w0:World} {nG:Nat}
def Zlr (S:SS):SS:=Zcb [125] (ZF (fun d=>ZfS true d) (Wp [123] S))
def ZqM (S:SS):SS:=Zlr (if YT 0 [58] S=true then ZF (fun _=>Y2) (YU (Xb S)) else S)
theorem ZmL {d:Nat} {ts:Ts} {f:Un→Ts→R Co} (hf:∀v ts,V0 d (f v ts)=.ok d ts):V0 d ((Zq d [123] [125] (Zax d) ts).bind f)=Zlr (.ok d ts):=by
 have h:=UI (fun d=>Zax d) [123] [125] (by decide) (.ok d ts);rw [Zh] at h;have h2:ZF (fun d=>Zax (d+1)) (Wp [123] (.ok d ts))=ZF (fun d=>ZfS true d) (Wp [123] (.ok d ts)):=by
  congr 1;funext d;exact Zl1 d
 rw [h2] at h;rw [Xa (F:=fun S=>S) (fun e=>rfl) hf];exact h
theorem ZsY (S:SS):ZF (fun d=>Zd8 d (Zax d)) S=ZqM (ZF (fun _=>Y2) (YU S)):=by
 cases S with
 | bad e=>rfl
 | ok d ts =>
  rw [Zh,Zd8,← Vi];refine Xa (F:=fun S=>ZqM (ZF (fun _=>Y2) S)) (fun e=>rfl) fun v ts=>?_
  try dsimp only
  rw [Zh];refine Xa (F:=ZqM) (fun e=>rfl) fun v ts=>?_
  unfold ZqM
  show _=Zlr (if isW ts [[58]]=true then _ else _)
  by_cases h1:isW ts [[58]]=true
  ·rw [Tf h1,Tf h1];show _=Zlr (ZF (fun _=>Y2) (YU (.ok d ts.tail)));rw [← Vi];refine Xa (F:=fun S=>Zlr (ZF (fun _=>Y2) S)) (fun e=>rfl) fun v ts=>?_
   try dsimp only
   rw [Zh];refine Xa (F:=Zlr) (fun e=>rfl) fun v ts=>?_
   exact ZmL fun v ts=>rfl
  ·rw [Tc h1,Tc h1];exact ZmL fun v ts=>rfl
def Jj (n:Nat):Zr:=qSp fun rest S K=>match rest with
 | [.d (.bool b)]=>dLt n S∧∀S',ZF (fun d=>ZfS b d) S=S'→∀r0 r1 r2 r3 r4 r5,K (.agg [.d (.sl r0),.d (.sl r1),.d (.sl r2),.d (.sl r3),.d (.sl r4),.d (.sl r5)]) S'
 | _=>False
theorem ZdG (n:Nat):Za (Jj n):=ZI fun rest S K K' hK h=>by
 split at h
 ·exact ⟨h.1,fun S' hS r0 r1 r2 r3 r4 r5=>hK _ _ (h.2 S' hS r0 r1 r2 r3 r4 r5)⟩
 ·exact h.elim
def ZfC (n:Nat):Zr:=qSp fun rest S K=>match rest with
 | []=>dLt (n+1) S∧∀S',ZF (fun d=>Zd8 d (Zax d)) S=S'→∀nm ps bs tys r0 r1 r2 r3 r4 r5 p,K (.agg [.d (.str nm),.d (.sl ps),.d (.str bs),.d (.sl tys),.d (.sl r0),.d (.sl r1),.d (.sl r2),.d (.sl r3),.d (.sl r4),.d (.sl r5),.d (.int .i64 p)]) S'
 | _=>False
theorem ZjQ (n:Nat):Za (ZfC n):=ZI fun rest S K K' hK h=>by
 split at h
 ·exact ⟨h.1,fun S' hS a b c d e f g i j k l=>hK _ _ (h.2 S' hS a b c d e f g i j k l)⟩
 ·exact h.elim
noncomputable def ZsZ (n:Nat):Tbl:=[(234,VC),(243,VE),(296,Zci),(170,Xz),(236,Jf),(107,Jj n),(290,JY)]
theorem Zs0 {n:Nat} (hu:PCalls (GG w0 nG) 107 (Jj n)):PCalls (GG w0 nG) 241 (ZfC n):=by
 refine pc (tbl:=ZsZ n) ⟨⟨VX,YL⟩,⟨VZ,YN⟩,⟨ZjN,Zcj⟩,⟨Xv,ZT⟩,⟨Zan,XW⟩,⟨hu,ZdG _⟩,⟨Zcd,W0⟩,trivial⟩ Tryz.func241 ?_;intro args σ K h
 unfold ZfC qSp at h
 split at h
 ·rename_i rest t rows a en dp w pl
  obtain ⟨L,S,rfl,ho,h⟩:=h;split at h
  ·obtain ⟨hdn,h⟩:=h
   replace h:=h _ rfl
   rw [ZsY] at h;have h65:=ZsP ho;refine ⟨Zb [],1,false,by simp,Ta rfl,?_⟩;(conv=>whnf);refine ⟨L,S,rfl,ho,fun p=>?_⟩;intro a1 dp1 w1 pl1 ho1
   conv=>whnf
   refine ⟨L,S,rfl,ho1,fun S1 nm hS1=>?_⟩;have hdn:=Zar hdn;have h65:=Zar h65;rw [hS1] at h hdn h65;intro a2 dp2 w2 pl2 ho2
   conv=>whnf
   refine ⟨L,S1,rfl,ho2,fun S2 hS2 ps=>?_⟩;have hdn:=Yg (P:=fun _=>Y2) hdn;have h65:=Yg (P:=fun _=>Y2) h65;rw [hS2] at h hdn h65;unfold ZqM at h
   intro a3 dp3 w3 pl3 ho3
   conv=>whnf
   refine ⟨L,S2,rfl,ho3,0,rfl,by omega,fun b hb=>?_⟩;intro a4 dp4 w4 pl4 ho4
   cases b
   case' true =>
    rw [Tf hb] at h;obtain ⟨d,ts,rfl⟩:∃d ts,S2=.ok d ts:=by cases S2 with | bad e=>cases hb | ok d ts=>exact ⟨d,ts,rfl⟩
    have hb:isW ts [[58]]=true:=hb;obtain ⟨rfl,hr,hdp,hd⟩:=ho4;have hr7:=hr.tlq (ZN hb);have q1:=hr7.lo;have q2:=hr7.hi;have q3:=hr7.big;have hdn:dLt (n+1) (Xb (.ok d ts)):=fun d' ts' hq=>by cases hq;exact hdn _ _ rfl
    have h65:dLt 65 (Xb (.ok d ts)):=fun d' ts' hq=>by cases hq;exact h65 _ _ rfl
    conv=>whnf
    refine oiO ?_;(conv=>whnf);refine ⟨L,_,rfl,SOK.mk hr7 hdp hd,fun S3 bs hS3=>?_⟩;have hS3:YU (Xb (.ok d ts))=S3:=hS3;have hdn:=Zar hdn;have h65:=Zar h65;rw [hS3] at h hdn h65;intro a5 dp5 w5 pl5 ho5
    conv=>whnf
    refine ⟨L,S3,rfl,ho5,fun S4 hS4 tys=>?_⟩;have hdn:=Yg (P:=fun _=>Y2) hdn;have h65:=Yg (P:=fun _=>Y2) h65;rw [hS4] at h hdn h65;intro a6 dp6 w6 pl6 ho6
   case' false =>
    rw [Tc (by rw [hb];simp)] at h;obtain ⟨S4,hS4⟩:∃x,S2=x:=⟨_,rfl⟩
    rw [hS4] at h hdn h65 ho4;have ho6:=ho4
   all_goals
    unfold Zlr at h
    conv=>whnf
    refine ⟨L,S4,rfl,ho6,fun S5 hS5=>?_⟩;have hdn:=Y9 (fr:=[123]) hdn;have h65:=Y9 (fr:=[123]) h65;rw [hS5] at h hdn h65;intro a7 dp7 w7 pl7 ho7
    conv=>whnf
    refine ⟨L,S5,rfl,ho7,⟨hdn,fun S6 hS6 v0 v1 v2 v3 v4 v5=>?_⟩⟩;have h65:=Yg (P:=fun d=>ZfS true d) h65;rw [hS6] at h h65;intro a8 dp8 w8 pl8 ho8
    conv=>whnf
    refine ⟨L,S6,rfl,ho8,⟨h65,fun S7 hS7=>?_⟩⟩;rw [hS7] at h;intro a9 dp9 w9 pl9 ho9
    conv=>whnf
    exact h _ _ _ _ _ _ _ _ _ _ _ _ _ _ _ ho9
  ·exact h.elim
 ·exact h.elim
theorem RQ.sgn {L:List Tok} {a:Int} {ts:Ts} (hr:RQ L a ts):(hd ts).kind=4→(hd ts).text.length≤2:=by
 by_cases h:a<L.length
 ·have h0:=hr.lo;have hlt:a.toNat<L.length:=by omega
  have hq:ts=L[a.toNat].t0::ts.drop 1:=by
   have he:=hr.eq;simp only [tz] at he;rw [← he,← List.map_drop,Tu,TM hlt,TJ]
  rw [hq];exact hr.signs _ (TP hlt)
 ·have hlen:=hr.len;rw [show ts=[] from TN (by omega)];intro h;exact absurd h (by decide)
theorem Zs1 {L:List Tok} {a:Int} {ts:Ts} (hr:RQ L a ts) {w:Bs} (hw:2<w.length):isW ts [w]=true↔(hd ts).kind=1∧(hd ts).text=w:=by
 rw [ZhM]
 constructor
 ·rintro ⟨h1 | h1,h2⟩
  ·exact ⟨h1,h2⟩
  ·have:=hr.sgn h1;rw [h2] at this;omega
 ·rintro ⟨h1,h2⟩;exact ⟨.inl h1,h2⟩
noncomputable def Zc5 (n:Nat):Zr:=fun args σ K=>match args,σ with
 | [.ptr 0 0,.agg [.sl 0 e0 r0,.sl 1 e1 r1,.sl 2 e2 r2,.sl 3 e3 r3,.sl 4 e4 r4,.sl 5 e5 r5]],⟨[.cells t [.d (.sl rows),.d (.int .i64 a),.d (.int .i64 en),.d (.int .i64 dp),.d (.int .i64 w),.d (.int .i64 pl)]],[5,4,3,2,1,0],6⟩ =>
   ((e0=64∧e1=68∧e2=50)∧e3=71∧e4=73∧e5=75)∧∃L d ts,rows=Zv L∧SOK L a dp w (.ok d ts)∧ts≠[]∧d<n+1∧(Cn.mk r0.length r1.length r2.length r3.length r4.length r5.length).ok ∧
    ∀S',VJ d ts ⟨r0.length,r1.length,r2.length,r3.length,r4.length,r5.length⟩=S'→∀q0 q1 q2 q3 q4 q5,((∃d' ts',S'=.ok d' ts')→(⟨q0.length,q1.length,q2.length,q3.length,q4.length,q5.length⟩:Cn)=Zbn ts ⟨r0.length,r1.length,r2.length,r3.length,r4.length,r5.length⟩) →
    ∀a' dp' w' pl',SOK L a' dp' w' S'→K (.ret (.agg [.sl 0 e0 q0,.sl 1 e1 q1,.sl 2 e2 q2,.sl 3 e3 q3,.sl 4 e4 q4,.sl 5 e5 q5])) ⟨[UG t L a' en dp' w' pl'],[5,4,3,2,1,0],6⟩
 | _,_=>False
theorem ZjR (n:Nat):Za (Zc5 n):=fun args σ K K' hK h=>by
 unfold Zc5 at h ⊢
 split at h
 ·obtain ⟨h0,L,d,ts,h1,h2,h3,h4,h5,h6⟩:=h;exact ⟨h0,L,d,ts,h1,h2,h3,h4,h5,fun S' hS q0 q1 q2 q3 q4 q5 hq a' dp' w' pl' hs=>hK _ _ (h6 S' hS q0 q1 q2 q3 q4 q5 hq a' dp' w' pl' hs)⟩
 ·exact h.elim
noncomputable def Zs2 (n:Nat):Tbl:=[(237,Je),(171,VB),(238,Zbi),(239,Zd5),(240,ZhT),(241,ZfC n),(242,ZhS),(234,VC),(243,VE),(244,Zfz n)]
theorem Zs3 {n:Nat} (hc:PCalls (GG w0 nG) 241 (ZfC n)):PCalls (GG w0 nG) 173 (Zc5 n):=by
 refine Zll Z8 mixed (tbl:=Zs2 n) ⟨⟨Zcc,Vh⟩,⟨VW,YK⟩,⟨Zd3,VV⟩,⟨ZqJ,ZhR⟩,⟨ZsX,ZjP⟩,⟨hc,ZjQ _⟩,⟨ZsV,ZjO⟩,⟨VX,YL⟩,⟨VZ,YN⟩,⟨ZxJ n,ZjG _⟩,trivial⟩ Tryz.func173 rfl (by kernel_rfl) (by kernel_rfl) ?_;intro args σ K h
 unfold Zc5 at h
 split at h
 ·rename_i e0 r0 e1 r1 e2 r2 e3 r3 e4 r4 e5 r5 t rows a en dp w pl
  obtain ⟨⟨⟨rfl,rfl,rfl⟩,rfl,rfl,rfl⟩,L,d,ts,rfl,ho,hne,hdn,hcn,h⟩:=h
  replace h:=h _ rfl
  obtain ⟨⟨k0,k1,k2⟩,k3,k4,k5⟩:=hcn;simp only at k0 k1 k2 k3 k4 k5;have ho0:=ho;obtain ⟨rfl,hr,hdp,hd⟩:=ho;have hlen:=hr.len;have z1:=hr.lo;have z2:=hr.hi;have z3:=hr.big;have hlt:a<L.length:=by
   cases ts with
   | nil=>exact absurd rfl hne
   | cons x l=>simp only [Td] at hlen;omega
  obtain ⟨x,hx,hd0,_,hkk⟩:=hr.at0 hlt;have hwd:∀{u:Bs},2<u.length→(isW ts [u]=true↔x.kind=1∧x.text=u):=fun {u} hu=>by have:=Zs1 hr hu;rw [hd0] at this;exact this
  have hlc:a<((Zv L).length:Int):=by rw [ZC];exact hlt
  have hnx:∀a1 dp1,RQ L a1 ts→dp1=64 - (d:Int)→SOK L (a1+1) dp1 0 (.ok d ts.tail)∧0≤a1+1∧a1+1≤1048577:=fun a1 dp1 hr1 h1=>by
   have hr7:=hr1.tlq hne;have q1:=hr7.lo;have q2:=hr7.hi;have q3:=hr7.big;exact ⟨SOK.mk hr7 h1 hd,by omega,by omega⟩
  refine ⟨Zb [],W4 [],Yu [],Yu [],Yu [],Yu [],1,true,by simp,Ta rfl,?_⟩
  by_cases hk1:x.kind=1
  rotate_left
  ·have hno:∀{u:Bs},2<u.length→¬isW ts [u]=true:=fun hu g=>hk1 ((hwd hu).1 g).1
   have hnn:¬Zn ts=true:=fun g=>hk1 (by have:=Zn1 g;rw [hd0] at this;exact this)
   have hS:VJ d ts ⟨r0.length,r1.length,r2.length,r3.length,r4.length,r5.length⟩=.bad 150:=by
    unfold VJ
    rw [Tc (hno (by decide)),Tc (hno (by decide)),Tc (hno (by decide)),Tc (hno (by decide)),Tc (hno (by decide)),Tc hnn]
   rw [hS] at h;(conv=>whnf);refine ZAf (fun hc=>?_) (fun hc=>absurd hlc hc);(conv=>whnf);refine ⟨_,by omega,hx,?_⟩;(conv=>whnf);refine ZAf (fun hc1=>absurd (show x.kind=1 by have hc1:(x.kind:Int)=1:=hc1;omega) hk1) (fun hc1=>?_);(conv=>whnf);refine ⟨L,_,rfl,ho0,rfl,fun b hb=>?_⟩;obtain rfl:b=false:=by cases b with | false=>rfl | true=>exact absurd hb hnn
   intro a1 dp1 w1 pl1 ho1
   exact m140
  conv=>whnf
  refine ZAf (fun hc=>?_) (fun hc=>absurd hlc hc);(conv=>whnf);refine ⟨_,by omega,hx,?_⟩;(conv=>whnf);refine ZAf (fun hc1=>?_) (fun hc1=>absurd (show (x.kind:Int)=1 by omega) hc1);(conv=>whnf);refine ⟨_,by omega,hx,?_⟩;(conv=>whnf)
  by_cases t0:x.text=[116,121,112,101]
  ·have hS:VJ d ts ⟨r0.length,r1.length,r2.length,r3.length,r4.length,r5.length⟩=if r0.length=256 then .bad 3 else ZF (fun _=>Jw) (.ok d ts.tail):=by
    unfold VJ
    rw [Tf ((hwd (by decide)).2 ⟨hk1,t0⟩)]
   have hC:Zbn ts ⟨r0.length,r1.length,r2.length,r3.length,r4.length,r5.length⟩=⟨r0.length+1,r1.length,r2.length,r3.length,r4.length,r5.length⟩:=by
    unfold Zbn
    rw [Tf ((hwd (by decide)).2 ⟨hk1,t0⟩)]
   rw [hS,hC] at h;refine ZAf (fun _=>?_) (fun g=>absurd t0 g);(conv=>whnf);refine ⟨L,_,rfl,ho0,fun S2 hS2=>?_⟩;intro a1 dp1 w1 pl1 ho1
   by_cases hl:r0.length=256
   ·exact m25
   rw [Tc hl] at h;obtain rfl:S2=.ok d ts:=by rw [← hS2,Wq,Tc (by omega)]
   obtain ⟨rfl,hr1,hdp1,hd1⟩:=ho1;obtain ⟨ho7,p1,p2⟩:=hnx _ _ hr1 hdp1;(conv=>whnf);refine oiO ?_;(conv=>whnf);refine ZAf (fun _=>?_) (fun g=>absurd t0 g);(conv=>whnf);refine ⟨L,_,rfl,ho7,fun S3 hS3 k n b fs cs p=>?_⟩;rw [hS3] at h;intro a3 dp3 w3 pl3 ho3
   conv=>whnf
   (repeat (refine ⟨rfl,?_⟩;conv=>whnf))
   refine ⟨Tn.2 rfl,(show (r0.length+1) * 96≤2 ^ 47 by omega),(show r0.length+1≤2 ^ 47 by omega),?_⟩;exact m55
  by_cases t1:x.text=[100,101,99,108]
  ·have hS:VJ d ts ⟨r0.length,r1.length,r2.length,r3.length,r4.length,r5.length⟩=if r1.length=256 then .bad 3 else ZF (fun _=>Zd6) (.ok d ts.tail):=by
    unfold VJ
    rw [Tc (fun g=>t0 ((hwd (by decide)).1 g).2),Tf ((hwd (by decide)).2 ⟨hk1,t1⟩)]
   have hC:Zbn ts ⟨r0.length,r1.length,r2.length,r3.length,r4.length,r5.length⟩=⟨r0.length,r1.length+1,r2.length,r3.length,r4.length,r5.length⟩:=by
    unfold Zbn
    rw [Tc (fun g=>t0 ((hwd (by decide)).1 g).2),Tf ((hwd (by decide)).2 ⟨hk1,t1⟩)]
   rw [hS,hC] at h;refine ZAf (fun g=>absurd g t0) (fun _=>?_);(conv=>whnf);refine ZAf (fun _=>?_) (fun g=>absurd t1 g);(conv=>whnf);refine ⟨L,_,rfl,ho0,fun S2 hS2=>?_⟩;intro a1 dp1 w1 pl1 ho1
   by_cases hl:r1.length=256
   ·exact m25
   rw [Tc hl] at h;obtain rfl:S2=.ok d ts:=by rw [← hS2,Wq,Tc (by omega)]
   obtain ⟨rfl,hr1,hdp1,hd1⟩:=ho1;obtain ⟨ho7,p1,p2⟩:=hnx _ _ hr1 hdp1;(conv=>whnf);refine oiO ?_;(conv=>whnf);refine ZAf (fun g=>absurd g t0) (fun _=>?_);(conv=>whnf);refine ZAf (fun _=>?_) (fun g=>absurd t1 g);(conv=>whnf);refine ⟨L,_,rfl,ho7,fun S3 hS3 nm fs i o l p=>?_⟩;rw [hS3] at h;intro a3 dp3 w3 pl3 ho3
   conv=>whnf
   (repeat (refine ⟨rfl,?_⟩;conv=>whnf))
   refine ⟨Tn.2 rfl,(show (r1.length+1) * 56≤2 ^ 47 by omega),(show r1.length+1≤2 ^ 47 by omega),?_⟩;exact m55
  by_cases t2:x.text=[99,111,109,112]
  ·have hS:VJ d ts ⟨r0.length,r1.length,r2.length,r3.length,r4.length,r5.length⟩=if r3.length=64 then .bad 3 else ZF (fun d=>Zd8 d (Zax d)) (.ok d ts.tail):=by
    unfold VJ
    exact m167
   have hC:Zbn ts ⟨r0.length,r1.length,r2.length,r3.length,r4.length,r5.length⟩=⟨r0.length,r1.length,r2.length,r3.length+1,r4.length,r5.length⟩:=by
    unfold Zbn
    exact m167
   rw [hS,hC] at h;refine ZAf (fun g=>absurd g t0) (fun _=>?_);(conv=>whnf);refine ZAf (fun g=>absurd g t1) (fun _=>?_);(conv=>whnf);refine ZAf (fun _=>?_) (fun g=>absurd t2 g);(conv=>whnf);refine ⟨L,_,rfl,ho0,fun S2 hS2=>?_⟩;intro a1 dp1 w1 pl1 ho1
   by_cases hl:r3.length=64
   ·exact m25
   rw [Tc hl] at h;obtain rfl:S2=.ok d ts:=by rw [← hS2,Wq,Tc (by omega)]
   obtain ⟨rfl,hr1,hdp1,hd1⟩:=ho1;obtain ⟨ho7,p1,p2⟩:=hnx _ _ hr1 hdp1;(conv=>whnf);refine oiO ?_;(conv=>whnf);refine ZAf (fun g=>absurd g t0) (fun _=>?_);(conv=>whnf);refine ZAf (fun g=>absurd g t1) (fun _=>?_);(conv=>whnf);refine ZAf (fun _=>?_) (fun g=>absurd t2 g);(conv=>whnf);refine ⟨L,_,rfl,ho7,⟨fun d' ts' hq=>(by cases hq;exact hdn),fun S3 hS3 nm ps bs tys v0 v1 v2 v3 v4 v5 p=>?_⟩⟩;rw [hS3] at h;intro a3 dp3 w3 pl3 ho3
   conv=>whnf
   (repeat (refine ⟨rfl,?_⟩;conv=>whnf))
   refine ⟨Tn.2 rfl,(show (r3.length+1) * 232≤2 ^ 47 by omega),(show r3.length+1≤2 ^ 47 by omega),?_⟩;exact m55
  by_cases t3:x.text=[105,110,105,116]
  ·have hS:VJ d ts ⟨r0.length,r1.length,r2.length,r3.length,r4.length,r5.length⟩=if r4.length=256 then .bad 3 else ZF (fun _=>Zd9) (.ok d ts.tail):=by
    unfold VJ
    exact m136
   have hC:Zbn ts ⟨r0.length,r1.length,r2.length,r3.length,r4.length,r5.length⟩=⟨r0.length,r1.length,r2.length,r3.length,r4.length+1,r5.length⟩:=by
    unfold Zbn
    exact m136
   rw [hS,hC] at h;refine ZAf (fun g=>absurd g t0) (fun _=>?_);(conv=>whnf);refine ZAf (fun g=>absurd g t1) (fun _=>?_);(conv=>whnf);refine ZAf (fun g=>absurd g t2) (fun _=>?_);(conv=>whnf);refine ZAf (fun _=>?_) (fun g=>absurd t3 g);(conv=>whnf);refine ⟨L,_,rfl,ho0,fun S2 hS2=>?_⟩;intro a1 dp1 w1 pl1 ho1
   by_cases hl:r4.length=256
   ·exact m25
   rw [Tc hl] at h;obtain rfl:S2=.ok d ts:=by rw [← hS2,Wq,Tc (by omega)]
   obtain ⟨rfl,hr1,hdp1,hd1⟩:=ho1;obtain ⟨ho7,p1,p2⟩:=hnx _ _ hr1 hdp1;(conv=>whnf);refine oiO ?_;(conv=>whnf);refine ZAf (fun g=>absurd g t0) (fun _=>?_);(conv=>whnf);refine ZAf (fun g=>absurd g t1) (fun _=>?_);(conv=>whnf);refine ZAf (fun g=>absurd g t2) (fun _=>?_);(conv=>whnf);refine ZAf (fun _=>?_) (fun g=>absurd t3 g);(conv=>whnf);refine ⟨L,_,rfl,ho7,fun S3 hS3 nm c tys p=>?_⟩;rw [hS3] at h;intro a3 dp3 w3 pl3 ho3
   conv=>whnf
   (repeat (refine ⟨rfl,?_⟩;conv=>whnf))
   refine ⟨Tn.2 rfl,(show (r4.length+1) * 64≤2 ^ 47 by omega),(show r4.length+1≤2 ^ 47 by omega),?_⟩;exact m55
  by_cases t4:x.text=[111,118,101,114,114,105,100,101]
  ·have hS:VJ d ts ⟨r0.length,r1.length,r2.length,r3.length,r4.length,r5.length⟩=if r5.length=256 then .bad 3 else ZF (fun _=>ZfF) (.ok d ts.tail):=by
    unfold VJ
    exact m108
   have hC:Zbn ts ⟨r0.length,r1.length,r2.length,r3.length,r4.length,r5.length⟩=⟨r0.length,r1.length,r2.length,r3.length,r4.length,r5.length+1⟩:=by
    unfold Zbn
    exact m108
   rw [hS,hC] at h;refine ZAf (fun g=>absurd g t0) (fun _=>?_);(conv=>whnf);refine ZAf (fun g=>absurd g t1) (fun _=>?_);(conv=>whnf);refine ZAf (fun g=>absurd g t2) (fun _=>?_);(conv=>whnf);refine ZAf (fun g=>absurd g t3) (fun _=>?_);(conv=>whnf);refine ZAf (fun _=>?_) (fun g=>absurd t4 g);(conv=>whnf);refine ⟨L,_,rfl,ho0,fun S2 hS2=>?_⟩;intro a1 dp1 w1 pl1 ho1
   by_cases hl:r5.length=256
   ·exact m25
   rw [Tc hl] at h;obtain rfl:S2=.ok d ts:=by rw [← hS2,Wq,Tc (by omega)]
   obtain ⟨rfl,hr1,hdp1,hd1⟩:=ho1;obtain ⟨ho7,p1,p2⟩:=hnx _ _ hr1 hdp1;(conv=>whnf);refine oiO ?_;(conv=>whnf);refine ZAf (fun g=>absurd g t0) (fun _=>?_);(conv=>whnf);refine ZAf (fun g=>absurd g t1) (fun _=>?_);(conv=>whnf);refine ZAf (fun g=>absurd g t2) (fun _=>?_);(conv=>whnf);refine ZAf (fun g=>absurd g t3) (fun _=>?_);(conv=>whnf);refine ZAf (fun _=>?_) (fun g=>absurd t4 g);(conv=>whnf);refine ⟨L,_,rfl,ho7,fun p=>?_⟩;intro a2 dp2 w2 pl2 ho2
   conv=>whnf
   refine ⟨L,_,rfl,ho2,fun S3 nm hS3=>?_⟩;rw [ZsT,hS3] at h;intro a3 dp3 w3 pl3 ho3
   conv=>whnf
   refine ⟨Tn.2 rfl,(show (r5.length+1) * 24≤2 ^ 47 by omega),(show r5.length+1≤2 ^ 47 by omega),?_⟩;exact m55
  have hS:VJ d ts ⟨r0.length,r1.length,r2.length,r3.length,r4.length,r5.length⟩=if Zn ts=true then (if r2.length=1024 then .bad 3 else ZF (fun d=>Zd7 d true) (.ok d ts)) else .bad 150:=by
   unfold VJ
   exact m105
  have hC:Zbn ts ⟨r0.length,r1.length,r2.length,r3.length,r4.length,r5.length⟩=⟨r0.length,r1.length,r2.length+1,r3.length,r4.length,r5.length⟩:=by
   unfold Zbn
   exact m105
  rw [hS,hC] at h;refine ZAf (fun g=>absurd g t0) (fun _=>?_);(conv=>whnf);refine ZAf (fun g=>absurd g t1) (fun _=>?_);(conv=>whnf);refine ZAf (fun g=>absurd g t2) (fun _=>?_);(conv=>whnf);refine ZAf (fun g=>absurd g t3) (fun _=>?_);(conv=>whnf);refine ZAf (fun g=>absurd g t4) (fun _=>?_);(conv=>whnf);refine ⟨L,_,rfl,ho0,rfl,fun b hb=>?_⟩;intro a1 dp1 w1 pl1 ho1
  have hb:Zn ts=b:=hb
  cases b with
  | false =>
   rw [Tc (by rw [hb];simp)] at h;exact m140
  | true =>
  rw [Tf hb] at h;(conv=>whnf);refine ⟨L,_,rfl,ho1,fun S2 hS2=>?_⟩;intro a2 dp2 w2 pl2 ho2
  by_cases hl:r2.length=1024
  ·rw [Tf hl] at h;obtain rfl:S2=.bad 3:=by rw [← hS2,Wq,Tf (by omega)];rfl
   have hw:¬w2=0:=by have:=ho2.1;omega
   conv=>whnf
   refine ZAh (fun _=>?_) (fun g=>absurd (by simpa using g) hw);(conv=>whnf);exact h _ _ _ _ _ _ (fun ⟨_,_,g⟩=>by cases g) _ _ _ _ ho2
  rw [Tc hl] at h;obtain rfl:S2=.ok d ts:=by rw [← hS2,Wq,Tc (by omega)]
  obtain ⟨rfl,hr2,hdp2,hd2⟩:=ho2;obtain ⟨ho7,p1,p2⟩:=hnx _ _ hr2 hdp2;(conv=>whnf);refine oiO ?_;(conv=>whnf);refine ZAf (fun g=>absurd g t0) (fun _=>?_);(conv=>whnf);refine ZAf (fun g=>absurd g t1) (fun _=>?_);(conv=>whnf);refine ZAf (fun g=>absurd g t2) (fun _=>?_);(conv=>whnf);refine ZAf (fun g=>absurd g t3) (fun _=>?_);(conv=>whnf);refine ZAf (fun g=>absurd g t4) (fun _=>?_);(conv=>whnf);refine ⟨L,_,rfl,SOK.mk hr hdp2 hd2,⟨fun d' ts' hq=>(by cases hq;exact hdn),fun S3 hS3 s x y q=>?_⟩⟩;rw [hS3] at h;intro a3 dp3 w3 pl3 ho3
  conv=>whnf
  (repeat (refine ⟨rfl,?_⟩;conv=>whnf))
  refine ⟨Tn.2 rfl,(show (r2.length+1) * 72≤2 ^ 47 by omega),(show r2.length+1≤2 ^ 47 by omega),?_⟩;exact m55
 ·exact h.elim
end Go.PM.Lex
end

section
namespace Go.PM.Lex
open Go.Proofs
variable {w0:World} {nG:Nat}
theorem Zn2 {d d':Nat} {ts ts':Ts} {c:Cn} (hne:ts≠[]) (h:VJ d ts c=.ok d' ts'):ts'.length<ts.length:=by
 have htl:ts.tail.length+1=ts.length:=by cases ts with | nil=>exact absurd rfl hne | cons t l=>simp
 have key:∀{α:Type} (P:Nat→Ts→R α) (t0:Ts),(∀v t',P d t0=.ok v t'→t'.length<ts.length)→ZF P (.ok d t0)=.ok d' ts'→ts'.length<ts.length:=fun P t0 hp hq=>by
  rw [Zh] at hq
  cases hx:P d t0 with
  | err r e=>rw [hx] at hq;cases hq
  | ok v t'=>rw [hx] at hq;cases hq;exact hp v _ hx
 unfold VJ at h
 split at h
 ·split at h
  ·cases h
  ·exact key _ _ (fun v t' e=>by have:=Zfm _ _ _ e;dsimp only at this;omega) h
 split at h
 ·split at h
  ·cases h
  ·exact key _ _ (fun v t' e=>by have:=ZhB _ _ _ e;dsimp only at this;omega) h
 split at h
 ·split at h
  ·cases h
  ·exact key _ _ (fun v t' e=>by have:=ZhE (ZjL d) _ _ _ e;dsimp only at this;omega) h
 split at h
 ·split at h
  ·cases h
  ·exact key _ _ (fun v t' e=>by have:=ZhF _ _ _ e;dsimp only at this;omega) h
 split at h
 ·split at h
  ·cases h
  ·exact key _ _ (fun v t' e=>by have:=ZhG _ _ _ e;dsimp only at this;omega) h
 split at h
 ·split at h
  ·cases h
  ·exact key _ _ (fun v t' e=>by have:=ZhD _ _ _ _ _ e;dsimp only at this;omega) h
 ·cases h
theorem LU.cn {b:Bool} {X:SS} {d:Nat} {ts:Ts} {c:Cn} (h:LU b X (.ok d ts) c):c.ok:=by
 obtain ⟨f,u,_,_,rfl,h⟩:=h;exact h
noncomputable def Zs4 (n:Nat):Tbl:=[(173,Zc5 n),(170,Xz)]
theorem Zs5 {n:Nat} (hi:PCalls (GG w0 nG) 173 (Zc5 n)):PCalls (GG w0 nG) 107 (Jj (n+1)):=by
 refine Zll Z8 mixed (tbl:=Zs4 n) ⟨⟨hi,ZjR _⟩,⟨Xv,ZT⟩,trivial⟩ Tryz.func107 rfl (by kernel_rfl) (by kernel_rfl) ?_;intro args σ K h
 unfold Jj qSp at h
 split at h
 ·rename_i rest t rows a en dp w pl
  obtain ⟨L,S,rfl,ho,h⟩:=h;split at h
  ·rename_i b
   obtain ⟨hdn,h⟩:=h
   replace h:=h _ rfl
   have hlu:=LU.start b S;obtain ⟨X,hX⟩:∃x,ZF (fun d=>ZfS b d) S=x:=⟨_,rfl⟩
   rw [hX] at h hlu
   clear hX
   refine ⟨Zb [(2,⟨[],[0,1,4,5],fun vs σ=>∃(r0 r1 r2 r3 r4 r5:List (List D)) (a' dp' w' pl':Int) (S':SS),vs=[] ∧
     σ=⟨[UG t L a' en dp' w' pl',.cells 44 [.sl 0 64 [],.sl 1 68 [],.sl 2 50 [],.sl 3 71 [],.sl 4 73 [],.sl 5 75 []],
      .cells 44 [.sl 6 64 r0,.sl 7 68 r1,.sl 8 50 r2,.sl 9 71 r3,.sl 10 73 r4,.sl 11 75 r5]],[11,10,9,8,7,6,5,4,3,2,1,0],12⟩∧SOK L a' dp' w' S'∧dLt (n+1) S'∧((∃d ts,S'=.ok d ts)→LU b X S' ⟨r0.length,r1.length,r2.length,r3.length,r4.length,r5.length⟩)∧(∀e,S'=.bad e→X=.bad e),
    fun _ σ=>match σ with | ⟨.cells _ [_,.d (.int _ i),_,_,.d (.int _ w),_]::_,_,_⟩=>if w=0 then ((L.length:Int) - i).toNat+1 else 0 | _=>0⟩)],W4 [],Yu [],Yu [],Yu [173],Yu [],1,false,by simp,Ta rfl,?_⟩
   conv=>whnf
   refine ⟨⟨[],[],[],[],[],[],a,dp,w,pl,S,rfl,rfl,ho,hdn,fun _=>hlu,fun e he=>by subst he;exact hlu⟩,?_⟩
   clear hlu ho hdn
   intro vs σ hI
   obtain ⟨r0,r1,r2,r3,r4,r5,a3,dp3,w3,pl3,S3,rfl,rfl,ho3,hdn3,hlu,hbad⟩:=hI;(conv=>whnf);refine ZAf (fun hw=>?_) (fun hw=>?_)
   ·obtain ⟨d3,ts3,rfl,hr3,hdp3,hd3⟩:=ho3.wz hw;have hlu:=hlu ⟨_,_,rfl⟩;have hlen3:=hr3.len;have hlo3:=hr3.lo;have hhi3:=hr3.hi;have hcn:=hlu.cn;(conv=>whnf);refine ZAf (fun hc=>?_) (fun hc=>?_)
    ·have hc:a3<L.length:=by have hc:a3<((Zv L).length:Int):=hc;rw [ZC] at hc;exact hc
     have hne:ts3≠[]:=by rintro rfl;simp only [Te] at hlen3;omega
     have hitem:∀S4,VJ d3 ts3 ⟨r0.length,r1.length,r2.length,r3.length,r4.length,r5.length⟩=S4→∀a4 dp4 w4:Int,SOK L a4 dp4 w4 S4→(if w4=0 then ((L.length:Int) - a4).toNat+1 else 0)<(if w3=0 then ((L.length:Int) - a3).toNat+1 else 0):=fun S4 hS4 a4 dp4 w4 ho4=>by
      rw [Tf hw];split
      ·rename_i h0
       obtain ⟨d4,ts4,rfl,hr4,_,_⟩:=ho4.wz h0;have:=Zn2 hne hS4;have:=hr4.len;omega
      ·omega
     cases b with
     | false =>
      have hst:=hlu.step (by rintro (g | g);exact hne g;exact absurd g.1 (by simp));(conv=>whnf);refine ⟨⟨⟨rfl,rfl,rfl⟩,rfl,rfl,rfl⟩,L,d3,ts3,rfl,ho3,hne,hdn3 _ _ rfl,hcn,fun S4 hS4 q0 q1 q2 q3 q4 q5 hq=>?_⟩;exact m74
     | true =>
      conv=>whnf
      refine ⟨L,_,rfl,ho3,0,rfl,by omega,fun b1 hb1=>?_⟩;have hb1:isW ts3 [[125]]=b1:=hb1;intro a5 dp5 w5 pl5 ho5
      cases b1 with
      | true =>
       have hX:=hlu.stop (.inr ⟨rfl,hb1⟩);subst hX;(conv=>whnf);exact h _ _ _ _ _ _ _ _ _ _ ho5
      | false =>
       have hst:=hlu.step (by rintro (g | g);exact hne g;rw [hb1] at g;exact absurd g.2 (by simp));have hw5:w5=0:=ho5.1;have hlen5:=ho5.2.1.len;(conv=>whnf);refine ⟨⟨⟨rfl,rfl,rfl⟩,rfl,rfl,rfl⟩,L,d3,ts3,rfl,ho5,hne,hdn3 _ _ rfl,hcn,fun S4 hS4 q0 q1 q2 q3 q4 q5 hq=>?_⟩;exact m74
    ·have hc:¬a3<L.length:=by have hc:¬a3<((Zv L).length:Int):=hc;rw [ZC] at hc;exact hc
     have hn:ts3=[]:=TN (by omega);have hX:=hlu.stop (.inl hn);subst hX;exact m184
   ·obtain ⟨e,rfl,hw2,hw3⟩:=ho3.w1 hw;have hX:=hbad e rfl;subst hX;exact m184
  ·exact h.elim
 ·exact h.elim
theorem Zn3:PCalls (GG w0 nG) 107 (Jj 0):=by
 refine pc (tbl:=[]) trivial Tryz.func107 ?_;intro args σ K h
 unfold Jj qSp at h
 split at h
 ·rename_i rest t rows a en dp w pl
  obtain ⟨L,S,rfl,ho,h⟩:=h;split at h
  ·obtain ⟨hdn,h⟩:=h
   replace h:=h _ rfl
   cases S with
   | ok d ts=>have:=hdn _ _ rfl;omega
   | bad e =>
    refine ⟨Zb [(2,⟨[],[0,1,4,5],fun vs σ=>vs=[] ∧
     σ=⟨[UG t L a en dp w pl,.cells 44 [.sl 0 64 [],.sl 1 68 [],.sl 2 50 [],.sl 3 71 [],.sl 4 73 [],.sl 5 75 []],
      .cells 44 [.sl 6 64 [],.sl 7 68 [],.sl 8 50 [],.sl 9 71 [],.sl 10 73 [],.sl 11 75 []]],[11,10,9,8,7,6,5,4,3,2,1,0],12⟩,fun _ _=>0⟩)],1,false,by simp,Ta rfl,?_⟩
    have hw:¬w=0:=by have:=ho.1;have:=ho.2.1;omega
    conv=>whnf
    refine ⟨⟨rfl,rfl⟩,?_⟩;intro vs σ hI
    obtain ⟨rfl,rfl⟩:=hI;(conv=>whnf);refine ZAf (fun g=>absurd g hw) (fun _=>?_);(conv=>whnf);exact h _ _ _ _ _ _ _ _ _ _ ho
  ·exact h.elim
 ·exact h.elim
theorem ZtQ:∀n,PCalls (GG w0 nG) 107 (Jj n)
 | 0=>Zn3
 | n+1=>Zs5 (Zs3 (Zs0 (ZtQ n)))
noncomputable def ZjS:Zr:=fun args σ K=>match args,σ with
 | [.d (.str s)],⟨[],[],0⟩=>s.length<4294967281∧∀e:Nat,XQ (ZX 65536 16384 W3 s)=e→∀r0 r1 r2 r3 r4 r5 q,K (.ret (.tuple [.agg [.d (.sl r0),.d (.sl r1),.d (.sl r2),.d (.sl r3),.d (.sl r4),.d (.sl r5)],.d (.int .i64 q),.d (.int .i64 e)])) ⟨[],[],0⟩
 | _,_=>False
theorem Zls:Za ZjS:=fun args σ K K' hK h=>by
 unfold ZjS at h ⊢;split at h <;> first | exact ⟨h.1,fun e he r0 r1 r2 r3 r4 r5 q=>hK _ _ (h.2 e he r0 r1 r2 r3 r4 r5 q)⟩ | exact h.elim
noncomputable def Zv2:Tbl:=[(102,Zap),(107,Jj 65),(104,Zfx)]
theorem Zzi:PCalls (GG w0 nG) 62 ZjS:=by
 refine pc (tbl:=Zv2) ⟨⟨ZjD,Zcg⟩,⟨ZtQ 65,ZdG _⟩,⟨ZmE,ZdF⟩,trivial⟩ Tryz.func62 ?_;intro args σ K h
 unfold ZjS at h
 split at h
 ·rename_i s
  obtain ⟨hs,h⟩:=h
  replace h:=h _ rfl
  refine ⟨Zb [],0,false,by simp,Ta rfl,?_⟩;(conv=>whnf);refine ⟨hs,rfl,rfl,fun hl=>?_,fun hl l q c hc hq=>?_⟩
  ·have he:XQ (ZX 65536 16384 W3 s)=3:=by unfold ZX;rw [Tf hl];rfl
   rw [he] at h;(conv=>whnf);exact h _ _ _ _ _ _ _
  ·have hle:=Zhv s ((16384:Nat):Int);have hkd:∀y∈(VG s ((16384:Nat):Int)).1,1≤y.kind∧y.kind≤4:=ZhP _ _ _ _;have hnm:∀y∈(VG s ((16384:Nat):Int)).1,y.kind=1→y.text≠[40]:=Zlh _ _ _ _;have hsg:∀y∈(VG s ((16384:Nat):Int)).1,y.kind=4→y.text.length≤2:=Zli _ _ _ _
   cases c with
   | succ c =>
    have he:XQ (ZX 65536 16384 W3 s)=c+1:=by unfold ZX;rw [Tc hl,hc,Tf (by simp)];rfl
    rw [he] at h;(conv=>whnf);exact h _ _ _ _ _ _ _
   | zero =>
    have he:XQ (ZX 65536 16384 W3 s)=_:=ZqB (P:=fun d=>ZfS false d) hl hc;rw [he] at h;obtain rfl:=hq rfl;have ho:SOK (VG s ((16384:Nat):Int)).1 0 0 0 (.ok 64 ((VG s ((16384:Nat):Int)).1.map Tok.t0)):=SOK.mk ⟨⟨by omega,by omega,TO hle (by decide),by simp [tz]⟩,hkd,hnm,hsg⟩ (by omega) (by omega)
    clear he hc hle hkd hnm hsg
    generalize (VG s ((16384:Nat):Int)).1=l at h ho;(conv=>whnf);refine ⟨l,_,rfl,ho,⟨fun d' ts' hq=>(by cases hq;omega),fun S1 hS1 r0 r1 r2 r3 r4 r5=>?_⟩⟩;rw [hS1] at h;intro a1 dp1 w1 pl1 ho1
    conv=>whnf
    refine ⟨l,_,rfl,ho1,fun e he p=>?_⟩;rw [he] at h;intro a2 dp2 w2 pl2 ho2
    conv=>whnf
    refine ZAh (fun h0=>?_) (fun h0=>?_)
    ·conv=>whnf
     exact h _ _ _ _ _ _ _
    ·have h0:e=0:=by have h0:(e:Int)=0:=h0;omega
     subst h0;(conv=>whnf);exact h _ _ _ _ _ _ _
 ·exact h.elim
end Go.PM.Lex
end

section
namespace Go.PM.Lex
open Go.Proofs
variable {w0:World} {nG:Nat}
def Zs6 (x:Li):Bool:=ZZ x && Zj1 x
theorem Zv3 {op:Nat} {rel:Bs} {args:List Ex} {body:List Li} {a:Nat} (h:Zs6 (.mk op rel args body a)=true):ZY op rel args.length body.length=true∧(∀x∈args,Zj3 x=true)∧∀x∈body,Zs6 x=true:=by
 simp only [Zs6,Tl] at h;obtain ⟨h1,h2⟩:=h;obtain ⟨m1,m2,m3⟩:=Zpg h1;obtain ⟨r1,r2⟩:=ZkB h2;exact ⟨m1,fun x hx=>by rw [Zj3,m2 x hx,r1 x hx];rfl,fun x hx=>by rw [Zs6,m3 x hx,r2 x hx];rfl⟩
noncomputable def Zwl (n:Nat):Zr:=Zmj (.tuple []) fun rest txt=>∃pl x,rest=[ZfT Xi pl x]∧(Zs6 x=true∧wL x≤n∧n≤1073741824)∧txt=liT x
theorem ZqN (n:Nat):Za (Zwl n):=UC _ _
noncomputable def ZjT (n:Nat):Zr:=fun args σ K=>match args,σ with
 | [.ptr 0 0,.d (.sl r),.d (.str bt),.func g [.ptr 0 0] []],⟨[.cells t [p,.sl 0 e rows]],[0],1⟩=>∃l pl xs,rows=Zi l∧r=xs.map (Xi pl)∧(p=.ptr 0 0∧t=84∧e=5∧g=111)∧(xs.all Zs6=true∧szS wL xs≤n∧n≤1073741824)∧l.length+(Zl bt (xs.map liT)).length<70368744177664 ∧
   K (.ret (.tuple [])) ⟨[.cells t [.ptr 0 0,.sl 0 e (Zi (l++Zl bt (xs.map liT)))]],[0],1⟩
 | _,_=>False
theorem Zc6 (n:Nat):Za (ZjT n):=fun args σ K K' hK h=>by
 unfold ZjT at h ⊢
 exact m99
noncomputable def ZxK (n:Nat):Tbl:=[(155,ZkZ),(111,Zwl n)]
theorem ZxL {n:Nat} (ht:TblOK (GG w0 nG) (ZxK n)):PCalls (GG w0 nG) 110 (ZjT n):=by
 refine pc ht Tryz.func110 ?_;intro args σ K h
 unfold ZjT at h
 split at h
 ·rename_i r bt g t p e rows
  obtain ⟨l,pl,xs,rfl,rfl,⟨rfl,rfl,rfl,rfl⟩,⟨hmay,hz,hn⟩,hlen,h⟩:=h;have hl1:(xs.map (Xi pl)).length=xs.length:=Ti ..;have hsz:=Wn wL xs;refine ⟨Zb [(1,⟨[12],[0,1,2,3,10,11],fun vs σ=>∃i:Nat,vs=[.d (.int .i64 i)]∧σ=⟨[.cells 84 [.ptr 0 0,.sl 0 5 (Zi (l++Zl bt ((xs.take i).map liT)))]],[0],1⟩∧i≤xs.length,fun vs _=>match vs with | [.d (.int _ i)]=>((xs.length:Int) - i).toNat | _=>0⟩)],1,true,by simp,Ta rfl,?_⟩;(conv=>whnf);refine ⟨⟨0,rfl,(by simp only [Si,TX,Zl,T2];rfl),by omega⟩,?_⟩;intro vs σ hI
  obtain ⟨i,rfl,rfl,hi⟩:=hI;(conv=>whnf);refine ZAf (fun hi2=>?_) (fun hi2=>?_)
  ·have hi2:i<xs.length:=by have hi2:(i:Int)<(xs.map (Xi pl)).length:=hi2;rw [hl1] at hi2;omega
   have hg:=Wo wL xs i hi2;have hmx:Zs6 xs[i]=true:=Tv.1 hmay _ (TP hi2);have htk:=Jd bt liT hi2;have hle:=Zjg bt liT xs (i+1);obtain ⟨eA,hA⟩:∃x,xs[i]=x:=⟨_,rfl⟩
   obtain ⟨a1,a2,a3,a4,a5⟩:=eA;rw [hA] at hg hmx htk;have hr1:(xs.map (Xi pl))[((i:Nat):Int).toNat]?=some (Xi pl (.mk a1 a2 a3 a4 a5)):=by simp [hi2,hA]
   conv=>whnf
   refine ⟨_,by omega,hr1,?_⟩;(conv=>whnf);refine ZAf (fun h0=>?_) (fun h0=>?_)
   ·have h0:0<i:=by omega
    rw [Tc (by omega)] at htk;rw [htk] at hle;simp only [Tb] at hle;(conv=>whnf);refine ⟨l++Zl bt ((xs.take i).map liT),bt,rfl,⟨.inr rfl,rfl,rfl⟩,⟨rfl,rfl⟩,by simp only [Tb];omega,?_⟩;(conv=>whnf);refine ⟨l++Zl bt ((xs.take i).map liT)++bt,liT (.mk a1 a2 a3 a4 a5),rfl,⟨.inr rfl,rfl,rfl⟩,⟨pl,(.mk a1 a2 a3 a4 a5),rfl,⟨hmx,by omega,by omega⟩,rfl⟩,by simp only [Tb];omega,?_⟩;exact m109
   ·obtain rfl:i=0:=by omega
    rw [Tf rfl] at htk;rw [htk] at hle;(conv=>whnf);refine ⟨l++Zl bt ((xs.take 0).map liT),liT (.mk a1 a2 a3 a4 a5),rfl,⟨.inr rfl,rfl,rfl⟩,⟨pl,(.mk a1 a2 a3 a4 a5),rfl,⟨hmx,by omega,by omega⟩,rfl⟩,by simp only [Si,TX,Zl,Tb,Te];omega,?_⟩;exact m103
  ·have hi2:i=xs.length:=by have hi2:¬(i:Int)<(xs.map (Xi pl)).length:=hi2;rw [hl1] at hi2;omega
   subst hi2;rw [Sk];exact m54
 ·exact h.elim
noncomputable def ZxM (n:Nat):Tbl:=[(75,Zk0),(76,Zsc n),(30,Zq2 n),(110,spB ZjT n)]
theorem ZxN {n:Nat} (ht:TblOK (GG w0 nG) (ZxM n)):PCalls (GG w0 nG) 111 (Zwl n):=by
 refine ZoO Z8 mixed (tbl:=ZxM n) ht Y0 Tryz.func111 rfl (by kernel_rfl) (by kernel_rfl) ?_;intro args σ K h
 unfold Zwl Zmj at h
 split at h
 ·rename_i rest t p e rows
  obtain ⟨l,txt,rfl,⟨hp,rfl,rfl⟩,⟨pl,⟨op,rel,xs,body,at'⟩,rfl,⟨hmay,hz,hn⟩,rfl⟩,hlen,h⟩:=h;obtain ⟨m1,m2,m3⟩:=Zv3 hmay;have hzx:szS wE xs+szS wL body+rel.length+1≤n:=by rw [wL,Zdx] at hz;omega
  refine ⟨Zb [],W4 [(13,2)],Yu [],1,true,by simp,Ta rfl,?_⟩;have hcases:((op=1∨op=2)∧Zj0 rel=true∧body.length=0)∨(3≤op∧op≤8∧rel=[]∧xs.length=2∧body.length=0)∨(op=9∧rel=[]∧xs.length=1∧0<body.length)∨(9<op∧op≤12∧rel=[]∧xs.length=2∧0<body.length):=Zph m1;rcases hcases with ⟨hop,hnm,hb⟩ | ⟨c1,c2,rfl,hx2,hb⟩ | ⟨rfl,rfl,hx1,hb⟩ | ⟨c1,c2,rfl,hx2,hb⟩
  ·rcases hop with rfl | rfl
   ·rcases hp with rfl | rfl
    all_goals
     have hx:liT (.mk 1 rel xs body at')=rel++Wd [40] [41] xs:=by rw [liT];rfl
     rw [hx] at h hlen
     (try simp only [Tb,Td,Te] at hlen)
     conv=>whnf
     refine ⟨l,rel,rfl,⟨(by first | exact .inl rfl | exact .inr rfl),rfl,rfl⟩,⟨[rel],rfl,by simp,by simp,by simp⟩,by (try simp only [Tb,Td,Te]);omega,?_⟩;(conv=>whnf);refine ⟨l++rel,Wd [40] [41] xs,rfl,⟨(by first | exact .inl rfl | exact .inr rfl),rfl,rfl⟩,⟨[40],[41],pl,xs,rfl,⟨Tv.2 m2,by omega,by omega⟩,rfl⟩,by (try simp only [Tb,Td,Te]);omega,?_⟩;rw [show l++(rel++Wd [40] [41] xs)=l++rel++Wd [40] [41] xs by simp only [To]] at h;(conv=>whnf);exact h
   ·rcases hp with rfl | rfl
    all_goals
     have hx:liT (.mk 2 rel xs body at')=[33]++(rel++Wd [40] [41] xs):=by rw [liT];rfl
     rw [hx] at h hlen
     (try simp only [Tb,Td,Te] at hlen)
     conv=>whnf
     refine ⟨l,[33],rfl,⟨(by first | exact .inl rfl | exact .inr rfl),rfl,rfl⟩,⟨[[33]],rfl,by simp,by simp,by simp⟩,by (try simp only [Tb,Td,Te]);omega,?_⟩;(conv=>whnf);refine ⟨l++[33],rel,rfl,⟨(by first | exact .inl rfl | exact .inr rfl),rfl,rfl⟩,⟨[rel],rfl,by simp,by simp,by simp⟩,by (try simp only [Tb,Td,Te]);omega,?_⟩;(conv=>whnf);refine ⟨l++[33]++rel,Wd [40] [41] xs,rfl,⟨(by first | exact .inl rfl | exact .inr rfl),rfl,rfl⟩,⟨[40],[41],pl,xs,rfl,⟨Tv.2 m2,by omega,by omega⟩,rfl⟩,by (try simp only [Tb,Td,Te]);omega,?_⟩;rw [show l++([33]++(rel++Wd [40] [41] xs))=l++[33]++rel++Wd [40] [41] xs by simp only [To]] at h;(conv=>whnf);exact h
  ·obtain ⟨x0,x1,rfl⟩:=ZiO hx2;simp only [szS] at hzx;have g0:=m2 x0 (by simp);have g1:=m2 x1 (by simp);have z0:wE x0≤n:=by omega
   have z1:wE x1≤n:=by omega
   obtain ⟨o0,t0,n0,y0,q0⟩:=x0;obtain ⟨o1,t1,n1,y1,q1⟩:=x1;obtain rfl | rfl | rfl | rfl | rfl | rfl:op=3∨op=4∨op=5∨op=6∨op=7∨op=8:=by omega
   ·rcases hp with rfl | rfl
    all_goals
     have hx:liT (.mk 3 [] [(.mk o0 t0 n0 y0 q0),(.mk o1 t1 n1 y1 q1)] body at')=exW 0 (.mk o0 t0 n0 y0 q0)++([32,61,32]++exW 0 (.mk o1 t1 n1 y1 q1)):=by rw [liT,VI,VI];rfl
     rw [hx] at h hlen
     (try simp only [Tb,Td,Te] at hlen)
     conv=>whnf
     refine ⟨_,by decide,rfl,?_⟩;(conv=>whnf);refine ⟨l,exW 0 (.mk o0 t0 n0 y0 q0),rfl,⟨(by first | exact .inl rfl | exact .inr rfl),rfl,rfl⟩,⟨pl,(.mk o0 t0 n0 y0 q0),0,rfl,⟨g0,by omega,by omega,by omega,by omega⟩,rfl⟩,by (try simp only [Tb,Td,Te]);omega,?_⟩;(conv=>whnf);refine Or.inl ⟨InR.u8 (by decide) (by decide),?_⟩;(conv=>whnf);refine ⟨by decide,by decide,?_⟩;(conv=>whnf);refine ⟨l++exW 0 (.mk o0 t0 n0 y0 q0),[32,61,32],rfl,⟨(by first | exact .inl rfl | exact .inr rfl),rfl,rfl⟩,⟨[[32,61,32]],rfl,by simp,by simp,by simp⟩,by (try simp only [Tb,Td,Te]);omega,?_⟩;(conv=>whnf);refine ⟨_,by decide,rfl,?_⟩;(conv=>whnf);refine ⟨l++exW 0 (.mk o0 t0 n0 y0 q0)++[32,61,32],exW 0 (.mk o1 t1 n1 y1 q1),rfl,⟨(by first | exact .inl rfl | exact .inr rfl),rfl,rfl⟩,⟨pl,(.mk o1 t1 n1 y1 q1),0,rfl,⟨g1,by omega,by omega,by omega,by omega⟩,rfl⟩,by (try simp only [Tb,Td,Te]);omega,?_⟩;rw [show l++(exW 0 (.mk o0 t0 n0 y0 q0)++([32,61,32]++exW 0 (.mk o1 t1 n1 y1 q1)))=l++exW 0 (.mk o0 t0 n0 y0 q0)++[32,61,32]++exW 0 (.mk o1 t1 n1 y1 q1) by simp only [To]] at h;(conv=>whnf);exact h
   ·rcases hp with rfl | rfl
    all_goals
     have hx:liT (.mk 4 [] [(.mk o0 t0 n0 y0 q0),(.mk o1 t1 n1 y1 q1)] body at')=exW 0 (.mk o0 t0 n0 y0 q0)++([32,33,61,32]++exW 0 (.mk o1 t1 n1 y1 q1)):=by rw [liT,VI,VI];rfl
     rw [hx] at h hlen
     (try simp only [Tb,Td,Te] at hlen)
     conv=>whnf
     refine ⟨_,by decide,rfl,?_⟩;(conv=>whnf);refine ⟨l,exW 0 (.mk o0 t0 n0 y0 q0),rfl,⟨(by first | exact .inl rfl | exact .inr rfl),rfl,rfl⟩,⟨pl,(.mk o0 t0 n0 y0 q0),0,rfl,⟨g0,by omega,by omega,by omega,by omega⟩,rfl⟩,by (try simp only [Tb,Td,Te]);omega,?_⟩;(conv=>whnf);refine Or.inl ⟨InR.u8 (by decide) (by decide),?_⟩;(conv=>whnf);refine ⟨by decide,by decide,?_⟩;(conv=>whnf);refine ⟨l++exW 0 (.mk o0 t0 n0 y0 q0),[32,33,61,32],rfl,⟨(by first | exact .inl rfl | exact .inr rfl),rfl,rfl⟩,⟨[[32,33,61,32]],rfl,by simp,by simp,by simp⟩,by (try simp only [Tb,Td,Te]);omega,?_⟩;(conv=>whnf);refine ⟨_,by decide,rfl,?_⟩;(conv=>whnf);refine ⟨l++exW 0 (.mk o0 t0 n0 y0 q0)++[32,33,61,32],exW 0 (.mk o1 t1 n1 y1 q1),rfl,⟨(by first | exact .inl rfl | exact .inr rfl),rfl,rfl⟩,⟨pl,(.mk o1 t1 n1 y1 q1),0,rfl,⟨g1,by omega,by omega,by omega,by omega⟩,rfl⟩,by (try simp only [Tb,Td,Te]);omega,?_⟩;rw [show l++(exW 0 (.mk o0 t0 n0 y0 q0)++([32,33,61,32]++exW 0 (.mk o1 t1 n1 y1 q1)))=l++exW 0 (.mk o0 t0 n0 y0 q0)++[32,33,61,32]++exW 0 (.mk o1 t1 n1 y1 q1) by simp only [To]] at h;(conv=>whnf);exact h
   ·rcases hp with rfl | rfl
    all_goals
     have hx:liT (.mk 5 [] [(.mk o0 t0 n0 y0 q0),(.mk o1 t1 n1 y1 q1)] body at')=exW 0 (.mk o0 t0 n0 y0 q0)++([32,60,32]++exW 0 (.mk o1 t1 n1 y1 q1)):=by rw [liT,VI,VI];rfl
     rw [hx] at h hlen
     (try simp only [Tb,Td,Te] at hlen)
     conv=>whnf
     refine ⟨_,by decide,rfl,?_⟩;(conv=>whnf);refine ⟨l,exW 0 (.mk o0 t0 n0 y0 q0),rfl,⟨(by first | exact .inl rfl | exact .inr rfl),rfl,rfl⟩,⟨pl,(.mk o0 t0 n0 y0 q0),0,rfl,⟨g0,by omega,by omega,by omega,by omega⟩,rfl⟩,by (try simp only [Tb,Td,Te]);omega,?_⟩;(conv=>whnf);refine Or.inl ⟨InR.u8 (by decide) (by decide),?_⟩;(conv=>whnf);refine ⟨by decide,by decide,?_⟩;(conv=>whnf);refine ⟨l++exW 0 (.mk o0 t0 n0 y0 q0),[32,60,32],rfl,⟨(by first | exact .inl rfl | exact .inr rfl),rfl,rfl⟩,⟨[[32,60,32]],rfl,by simp,by simp,by simp⟩,by (try simp only [Tb,Td,Te]);omega,?_⟩;(conv=>whnf);refine ⟨_,by decide,rfl,?_⟩;(conv=>whnf);refine ⟨l++exW 0 (.mk o0 t0 n0 y0 q0)++[32,60,32],exW 0 (.mk o1 t1 n1 y1 q1),rfl,⟨(by first | exact .inl rfl | exact .inr rfl),rfl,rfl⟩,⟨pl,(.mk o1 t1 n1 y1 q1),0,rfl,⟨g1,by omega,by omega,by omega,by omega⟩,rfl⟩,by (try simp only [Tb,Td,Te]);omega,?_⟩;rw [show l++(exW 0 (.mk o0 t0 n0 y0 q0)++([32,60,32]++exW 0 (.mk o1 t1 n1 y1 q1)))=l++exW 0 (.mk o0 t0 n0 y0 q0)++[32,60,32]++exW 0 (.mk o1 t1 n1 y1 q1) by simp only [To]] at h;(conv=>whnf);exact h
   ·rcases hp with rfl | rfl
    all_goals
     have hx:liT (.mk 6 [] [(.mk o0 t0 n0 y0 q0),(.mk o1 t1 n1 y1 q1)] body at')=exW 0 (.mk o0 t0 n0 y0 q0)++([32,60,61,32]++exW 0 (.mk o1 t1 n1 y1 q1)):=by rw [liT,VI,VI];rfl
     rw [hx] at h hlen
     (try simp only [Tb,Td,Te] at hlen)
     conv=>whnf
     refine ⟨_,by decide,rfl,?_⟩;(conv=>whnf);refine ⟨l,exW 0 (.mk o0 t0 n0 y0 q0),rfl,⟨(by first | exact .inl rfl | exact .inr rfl),rfl,rfl⟩,⟨pl,(.mk o0 t0 n0 y0 q0),0,rfl,⟨g0,by omega,by omega,by omega,by omega⟩,rfl⟩,by (try simp only [Tb,Td,Te]);omega,?_⟩;(conv=>whnf);refine Or.inl ⟨InR.u8 (by decide) (by decide),?_⟩;(conv=>whnf);refine ⟨by decide,by decide,?_⟩;(conv=>whnf);refine ⟨l++exW 0 (.mk o0 t0 n0 y0 q0),[32,60,61,32],rfl,⟨(by first | exact .inl rfl | exact .inr rfl),rfl,rfl⟩,⟨[[32,60,61,32]],rfl,by simp,by simp,by simp⟩,by (try simp only [Tb,Td,Te]);omega,?_⟩;(conv=>whnf);refine ⟨_,by decide,rfl,?_⟩;(conv=>whnf);refine ⟨l++exW 0 (.mk o0 t0 n0 y0 q0)++[32,60,61,32],exW 0 (.mk o1 t1 n1 y1 q1),rfl,⟨(by first | exact .inl rfl | exact .inr rfl),rfl,rfl⟩,⟨pl,(.mk o1 t1 n1 y1 q1),0,rfl,⟨g1,by omega,by omega,by omega,by omega⟩,rfl⟩,by (try simp only [Tb,Td,Te]);omega,?_⟩;rw [show l++(exW 0 (.mk o0 t0 n0 y0 q0)++([32,60,61,32]++exW 0 (.mk o1 t1 n1 y1 q1)))=l++exW 0 (.mk o0 t0 n0 y0 q0)++[32,60,61,32]++exW 0 (.mk o1 t1 n1 y1 q1) by simp only [To]] at h;(conv=>whnf);exact h
   ·rcases hp with rfl | rfl
    all_goals
     have hx:liT (.mk 7 [] [(.mk o0 t0 n0 y0 q0),(.mk o1 t1 n1 y1 q1)] body at')=exW 0 (.mk o0 t0 n0 y0 q0)++([32,62,32]++exW 0 (.mk o1 t1 n1 y1 q1)):=by rw [liT,VI,VI];rfl
     rw [hx] at h hlen
     (try simp only [Tb,Td,Te] at hlen)
     conv=>whnf
     refine ⟨_,by decide,rfl,?_⟩;(conv=>whnf);refine ⟨l,exW 0 (.mk o0 t0 n0 y0 q0),rfl,⟨(by first | exact .inl rfl | exact .inr rfl),rfl,rfl⟩,⟨pl,(.mk o0 t0 n0 y0 q0),0,rfl,⟨g0,by omega,by omega,by omega,by omega⟩,rfl⟩,by (try simp only [Tb,Td,Te]);omega,?_⟩;(conv=>whnf);refine Or.inl ⟨InR.u8 (by decide) (by decide),?_⟩;(conv=>whnf);refine ⟨by decide,by decide,?_⟩;(conv=>whnf);refine ⟨l++exW 0 (.mk o0 t0 n0 y0 q0),[32,62,32],rfl,⟨(by first | exact .inl rfl | exact .inr rfl),rfl,rfl⟩,⟨[[32,62,32]],rfl,by simp,by simp,by simp⟩,by (try simp only [Tb,Td,Te]);omega,?_⟩;(conv=>whnf);refine ⟨_,by decide,rfl,?_⟩;(conv=>whnf);refine ⟨l++exW 0 (.mk o0 t0 n0 y0 q0)++[32,62,32],exW 0 (.mk o1 t1 n1 y1 q1),rfl,⟨(by first | exact .inl rfl | exact .inr rfl),rfl,rfl⟩,⟨pl,(.mk o1 t1 n1 y1 q1),0,rfl,⟨g1,by omega,by omega,by omega,by omega⟩,rfl⟩,by (try simp only [Tb,Td,Te]);omega,?_⟩;rw [show l++(exW 0 (.mk o0 t0 n0 y0 q0)++([32,62,32]++exW 0 (.mk o1 t1 n1 y1 q1)))=l++exW 0 (.mk o0 t0 n0 y0 q0)++[32,62,32]++exW 0 (.mk o1 t1 n1 y1 q1) by simp only [To]] at h;(conv=>whnf);exact h
   ·rcases hp with rfl | rfl
    all_goals
     have hx:liT (.mk 8 [] [(.mk o0 t0 n0 y0 q0),(.mk o1 t1 n1 y1 q1)] body at')=exW 0 (.mk o0 t0 n0 y0 q0)++([32,62,61,32]++exW 0 (.mk o1 t1 n1 y1 q1)):=by rw [liT,VI,VI];rfl
     rw [hx] at h hlen
     (try simp only [Tb,Td,Te] at hlen)
     conv=>whnf
     refine ⟨_,by decide,rfl,?_⟩;(conv=>whnf);refine ⟨l,exW 0 (.mk o0 t0 n0 y0 q0),rfl,⟨(by first | exact .inl rfl | exact .inr rfl),rfl,rfl⟩,⟨pl,(.mk o0 t0 n0 y0 q0),0,rfl,⟨g0,by omega,by omega,by omega,by omega⟩,rfl⟩,by (try simp only [Tb,Td,Te]);omega,?_⟩;(conv=>whnf);refine Or.inl ⟨InR.u8 (by decide) (by decide),?_⟩;(conv=>whnf);refine ⟨by decide,by decide,?_⟩;(conv=>whnf);refine ⟨l++exW 0 (.mk o0 t0 n0 y0 q0),[32,62,61,32],rfl,⟨(by first | exact .inl rfl | exact .inr rfl),rfl,rfl⟩,⟨[[32,62,61,32]],rfl,by simp,by simp,by simp⟩,by (try simp only [Tb,Td,Te]);omega,?_⟩;(conv=>whnf);refine ⟨_,by decide,rfl,?_⟩;(conv=>whnf);refine ⟨l++exW 0 (.mk o0 t0 n0 y0 q0)++[32,62,61,32],exW 0 (.mk o1 t1 n1 y1 q1),rfl,⟨(by first | exact .inl rfl | exact .inr rfl),rfl,rfl⟩,⟨pl,(.mk o1 t1 n1 y1 q1),0,rfl,⟨g1,by omega,by omega,by omega,by omega⟩,rfl⟩,by (try simp only [Tb,Td,Te]);omega,?_⟩;rw [show l++(exW 0 (.mk o0 t0 n0 y0 q0)++([32,62,61,32]++exW 0 (.mk o1 t1 n1 y1 q1)))=l++exW 0 (.mk o0 t0 n0 y0 q0)++[32,62,61,32]++exW 0 (.mk o1 t1 n1 y1 q1) by simp only [To]] at h;(conv=>whnf);exact h
  ·obtain ⟨x0,rfl⟩:=ZlL hx1;simp only [szS] at hzx;have g0:=m2 x0 (by simp);have z0:wE x0≤n:=by omega
   obtain ⟨o0,t0,n0,y0,q0⟩:=x0;rcases hp with rfl | rfl
   all_goals
    have hx:liT (.mk 9 [] [(.mk o0 t0 n0 y0 q0)] body at')=exW 0 (.mk o0 t0 n0 y0 q0)++(([32,61,32]++[99,111,117,110,116])++([32,58,32,123,32]++(Zl cmm (body.map liT)++([32,125])))):=by rw [liT,JQ,VI];simp [ZiM,Zpe,ZiL]
    rw [hx] at h hlen
    (try simp only [Tb,Td,Te] at hlen)
    conv=>whnf
    refine ⟨_,by decide,rfl,?_⟩;(conv=>whnf);refine ⟨l,exW 0 (.mk o0 t0 n0 y0 q0),rfl,⟨(by first | exact .inl rfl | exact .inr rfl),rfl,rfl⟩,⟨pl,(.mk o0 t0 n0 y0 q0),0,rfl,⟨g0,by omega,by omega,by omega,by omega⟩,rfl⟩,by (try simp only [Tb,Td,Te]);omega,?_⟩;(conv=>whnf);refine Or.inl ⟨InR.u8 (by decide) (by decide),?_⟩;(conv=>whnf);refine ⟨by decide,by decide,?_⟩;(conv=>whnf);refine ⟨l++exW 0 (.mk o0 t0 n0 y0 q0),([32,61,32]++[99,111,117,110,116]),rfl,⟨(by first | exact .inl rfl | exact .inr rfl),rfl,rfl⟩,⟨[[32,61,32],[99,111,117,110,116]],rfl,by simp,by simp,by simp⟩,by (try simp only [Tb,Td,Te]);omega,?_⟩;(conv=>whnf);refine ⟨fun r hr=>?_,by decide,by rw [Zg];simp,?_⟩
    ·rw [Zg] at hr;simp only [TJ,TX,Tt,Sn,or_false] at hr;rcases hr with rfl;rfl
    conv=>whnf
    refine ⟨l++exW 0 (.mk o0 t0 n0 y0 q0)++([32,61,32]++[99,111,117,110,116]),[32,58,32,123,32],rfl,⟨(by first | exact .inl rfl | exact .inr rfl),rfl,rfl⟩,⟨[[32,58,32,123,32]],rfl,by simp,by simp,by simp⟩,by (try simp only [Tb,Td,Te]);omega,?_⟩;(conv=>whnf);refine ⟨by omega,l++exW 0 (.mk o0 t0 n0 y0 q0)++([32,61,32]++[99,111,117,110,116])++[32,58,32,123,32],pl,body,rfl,Zs pl body,⟨rfl,rfl,rfl,rfl⟩,⟨Tv.2 m3,by omega,by omega⟩,(by (try simp only [Tb,Td,Te]);show _+(Zl cmm (body.map liT)).length<_;omega),?_⟩;(conv=>whnf);refine ⟨l++exW 0 (.mk o0 t0 n0 y0 q0)++([32,61,32]++[99,111,117,110,116])++[32,58,32,123,32]++Zl cmm (body.map liT),[32,125],rfl,⟨(by first | exact .inl rfl | exact .inr rfl),rfl,rfl⟩,⟨[[32,125]],rfl,by simp,by simp,by simp⟩,by (try simp only [Tb,Td,Te]);omega,?_⟩;rw [show l++(exW 0 (.mk o0 t0 n0 y0 q0)++(([32,61,32]++[99,111,117,110,116])++([32,58,32,123,32]++(Zl cmm (body.map liT)++([32,125])))))=l++exW 0 (.mk o0 t0 n0 y0 q0)++([32,61,32]++[99,111,117,110,116])++[32,58,32,123,32]++Zl cmm (body.map liT)++[32,125] by simp only [To]] at h;(conv=>whnf);exact h
  ·obtain ⟨x0,x1,rfl⟩:=ZiO hx2;simp only [szS] at hzx;have g0:=m2 x0 (by simp);have g1:=m2 x1 (by simp);have z0:wE x0≤n:=by omega
   have z1:wE x1≤n:=by omega
   obtain ⟨o0,t0,n0,y0,q0⟩:=x0;obtain ⟨o1,t1,n1,y1,q1⟩:=x1;obtain rfl | rfl | rfl:op=10∨op=11∨op=12:=by omega
   ·rcases hp with rfl | rfl
    all_goals
     have hx:liT (.mk 10 [] [(.mk o0 t0 n0 y0 q0),(.mk o1 t1 n1 y1 q1)] body at')=exW 0 (.mk o0 t0 n0 y0 q0)++(([32,61,32]++[115,117,109])++([32]++(exW 0 (.mk o1 t1 n1 y1 q1)++([32,58,32,123,32]++(Zl cmm (body.map liT)++([32,125])))))):=by rw [liT,JQ,VI,VI];simp [ZiM,Zpe,ZiL]
     rw [hx] at h hlen
     (try simp only [Tb,Td,Te] at hlen)
     conv=>whnf
     refine ⟨_,by decide,rfl,?_⟩;(conv=>whnf);refine ⟨l,exW 0 (.mk o0 t0 n0 y0 q0),rfl,⟨(by first | exact .inl rfl | exact .inr rfl),rfl,rfl⟩,⟨pl,(.mk o0 t0 n0 y0 q0),0,rfl,⟨g0,by omega,by omega,by omega,by omega⟩,rfl⟩,by (try simp only [Tb,Td,Te]);omega,?_⟩;(conv=>whnf);refine Or.inl ⟨InR.u8 (by decide) (by decide),?_⟩;(conv=>whnf);refine ⟨by decide,by decide,?_⟩;(conv=>whnf);refine ⟨l++exW 0 (.mk o0 t0 n0 y0 q0),([32,61,32]++[115,117,109]),rfl,⟨(by first | exact .inl rfl | exact .inr rfl),rfl,rfl⟩,⟨[[32,61,32],[115,117,109]],rfl,by simp,by simp,by simp⟩,by (try simp only [Tb,Td,Te]);omega,?_⟩;(conv=>whnf);refine ⟨fun r hr=>?_,by decide,by rw [Zg];simp,?_⟩
     ·exact m127
     conv=>whnf
     refine ⟨_,by decide,rfl,?_⟩;(conv=>whnf);refine ⟨l++exW 0 (.mk o0 t0 n0 y0 q0)++([32,61,32]++[115,117,109]),[32],rfl,⟨(by first | exact .inl rfl | exact .inr rfl),rfl,rfl⟩,⟨[[32]],rfl,by simp,by simp,by simp⟩,by (try simp only [Tb,Td,Te]);omega,?_⟩;(conv=>whnf);refine ⟨l++exW 0 (.mk o0 t0 n0 y0 q0)++([32,61,32]++[115,117,109])++[32],exW 0 (.mk o1 t1 n1 y1 q1),rfl,⟨(by first | exact .inl rfl | exact .inr rfl),rfl,rfl⟩,⟨pl,(.mk o1 t1 n1 y1 q1),0,rfl,⟨g1,by omega,by omega,by omega,by omega⟩,rfl⟩,by (try simp only [Tb,Td,Te]);omega,?_⟩;(conv=>whnf);refine oiD ?_;(conv=>whnf);refine ⟨l++exW 0 (.mk o0 t0 n0 y0 q0)++([32,61,32]++[115,117,109])++[32]++exW 0 (.mk o1 t1 n1 y1 q1),[32,58,32,123,32],rfl,⟨(by first | exact .inl rfl | exact .inr rfl),rfl,rfl⟩,⟨[[32,58,32,123,32]],rfl,by simp,by simp,by simp⟩,by (try simp only [Tb,Td,Te]);omega,?_⟩;(conv=>whnf);refine ⟨by omega,l++exW 0 (.mk o0 t0 n0 y0 q0)++([32,61,32]++[115,117,109])++[32]++exW 0 (.mk o1 t1 n1 y1 q1)++[32,58,32,123,32],pl,body,rfl,Zs pl body,⟨rfl,rfl,rfl,rfl⟩,⟨Tv.2 m3,by omega,by omega⟩,(by (try simp only [Tb,Td,Te]);show _+(Zl cmm (body.map liT)).length<_;omega),?_⟩;(conv=>whnf);refine ⟨l++exW 0 (.mk o0 t0 n0 y0 q0)++([32,61,32]++[115,117,109])++[32]++exW 0 (.mk o1 t1 n1 y1 q1)++[32,58,32,123,32]++Zl cmm (body.map liT),[32,125],rfl,⟨(by first | exact .inl rfl | exact .inr rfl),rfl,rfl⟩,⟨[[32,125]],rfl,by simp,by simp,by simp⟩,by (try simp only [Tb,Td,Te]);omega,?_⟩;rw [show l++(exW 0 (.mk o0 t0 n0 y0 q0)++(([32,61,32]++[115,117,109])++([32]++(exW 0 (.mk o1 t1 n1 y1 q1)++([32,58,32,123,32]++(Zl cmm (body.map liT)++([32,125])))))))=l++exW 0 (.mk o0 t0 n0 y0 q0)++([32,61,32]++[115,117,109])++[32]++exW 0 (.mk o1 t1 n1 y1 q1)++[32,58,32,123,32]++Zl cmm (body.map liT)++[32,125] by simp only [To]] at h;(conv=>whnf);exact h
   ·rcases hp with rfl | rfl
    all_goals
     have hx:liT (.mk 11 [] [(.mk o0 t0 n0 y0 q0),(.mk o1 t1 n1 y1 q1)] body at')=exW 0 (.mk o0 t0 n0 y0 q0)++(([32,61,32]++[109,105,110])++([32]++(exW 0 (.mk o1 t1 n1 y1 q1)++([32,58,32,123,32]++(Zl cmm (body.map liT)++([32,125])))))):=by rw [liT,JQ,VI,VI];simp [ZiM,Zpe,ZiL]
     rw [hx] at h hlen
     (try simp only [Tb,Td,Te] at hlen)
     conv=>whnf
     refine ⟨_,by decide,rfl,?_⟩;(conv=>whnf);refine ⟨l,exW 0 (.mk o0 t0 n0 y0 q0),rfl,⟨(by first | exact .inl rfl | exact .inr rfl),rfl,rfl⟩,⟨pl,(.mk o0 t0 n0 y0 q0),0,rfl,⟨g0,by omega,by omega,by omega,by omega⟩,rfl⟩,by (try simp only [Tb,Td,Te]);omega,?_⟩;(conv=>whnf);refine Or.inl ⟨InR.u8 (by decide) (by decide),?_⟩;(conv=>whnf);refine ⟨by decide,by decide,?_⟩;(conv=>whnf);refine ⟨l++exW 0 (.mk o0 t0 n0 y0 q0),([32,61,32]++[109,105,110]),rfl,⟨(by first | exact .inl rfl | exact .inr rfl),rfl,rfl⟩,⟨[[32,61,32],[109,105,110]],rfl,by simp,by simp,by simp⟩,by (try simp only [Tb,Td,Te]);omega,?_⟩;(conv=>whnf);refine ⟨fun r hr=>?_,by decide,by rw [Zg];simp,?_⟩
     ·exact m127
     conv=>whnf
     refine ⟨_,by decide,rfl,?_⟩;(conv=>whnf);refine ⟨l++exW 0 (.mk o0 t0 n0 y0 q0)++([32,61,32]++[109,105,110]),[32],rfl,⟨(by first | exact .inl rfl | exact .inr rfl),rfl,rfl⟩,⟨[[32]],rfl,by simp,by simp,by simp⟩,by (try simp only [Tb,Td,Te]);omega,?_⟩;(conv=>whnf);refine ⟨l++exW 0 (.mk o0 t0 n0 y0 q0)++([32,61,32]++[109,105,110])++[32],exW 0 (.mk o1 t1 n1 y1 q1),rfl,⟨(by first | exact .inl rfl | exact .inr rfl),rfl,rfl⟩,⟨pl,(.mk o1 t1 n1 y1 q1),0,rfl,⟨g1,by omega,by omega,by omega,by omega⟩,rfl⟩,by (try simp only [Tb,Td,Te]);omega,?_⟩;(conv=>whnf);refine oiD ?_;(conv=>whnf);refine ⟨l++exW 0 (.mk o0 t0 n0 y0 q0)++([32,61,32]++[109,105,110])++[32]++exW 0 (.mk o1 t1 n1 y1 q1),[32,58,32,123,32],rfl,⟨(by first | exact .inl rfl | exact .inr rfl),rfl,rfl⟩,⟨[[32,58,32,123,32]],rfl,by simp,by simp,by simp⟩,by (try simp only [Tb,Td,Te]);omega,?_⟩;(conv=>whnf);refine ⟨by omega,l++exW 0 (.mk o0 t0 n0 y0 q0)++([32,61,32]++[109,105,110])++[32]++exW 0 (.mk o1 t1 n1 y1 q1)++[32,58,32,123,32],pl,body,rfl,Zs pl body,⟨rfl,rfl,rfl,rfl⟩,⟨Tv.2 m3,by omega,by omega⟩,(by (try simp only [Tb,Td,Te]);show _+(Zl cmm (body.map liT)).length<_;omega),?_⟩;(conv=>whnf);refine ⟨l++exW 0 (.mk o0 t0 n0 y0 q0)++([32,61,32]++[109,105,110])++[32]++exW 0 (.mk o1 t1 n1 y1 q1)++[32,58,32,123,32]++Zl cmm (body.map liT),[32,125],rfl,⟨(by first | exact .inl rfl | exact .inr rfl),rfl,rfl⟩,⟨[[32,125]],rfl,by simp,by simp,by simp⟩,by (try simp only [Tb,Td,Te]);omega,?_⟩;rw [show l++(exW 0 (.mk o0 t0 n0 y0 q0)++(([32,61,32]++[109,105,110])++([32]++(exW 0 (.mk o1 t1 n1 y1 q1)++([32,58,32,123,32]++(Zl cmm (body.map liT)++([32,125])))))))=l++exW 0 (.mk o0 t0 n0 y0 q0)++([32,61,32]++[109,105,110])++[32]++exW 0 (.mk o1 t1 n1 y1 q1)++[32,58,32,123,32]++Zl cmm (body.map liT)++[32,125] by simp only [To]] at h;(conv=>whnf);exact h
   ·rcases hp with rfl | rfl
    all_goals
     have hx:liT (.mk 12 [] [(.mk o0 t0 n0 y0 q0),(.mk o1 t1 n1 y1 q1)] body at')=exW 0 (.mk o0 t0 n0 y0 q0)++(([32,61,32]++[109,97,120])++([32]++(exW 0 (.mk o1 t1 n1 y1 q1)++([32,58,32,123,32]++(Zl cmm (body.map liT)++([32,125])))))):=by rw [liT,JQ,VI,VI];simp [ZiM,Zpe,ZiL]
     rw [hx] at h hlen
     (try simp only [Tb,Td,Te] at hlen)
     conv=>whnf
     refine ⟨_,by decide,rfl,?_⟩;(conv=>whnf);refine ⟨l,exW 0 (.mk o0 t0 n0 y0 q0),rfl,⟨(by first | exact .inl rfl | exact .inr rfl),rfl,rfl⟩,⟨pl,(.mk o0 t0 n0 y0 q0),0,rfl,⟨g0,by omega,by omega,by omega,by omega⟩,rfl⟩,by (try simp only [Tb,Td,Te]);omega,?_⟩;(conv=>whnf);refine Or.inl ⟨InR.u8 (by decide) (by decide),?_⟩;(conv=>whnf);refine ⟨by decide,by decide,?_⟩;(conv=>whnf);refine ⟨l++exW 0 (.mk o0 t0 n0 y0 q0),([32,61,32]++[109,97,120]),rfl,⟨(by first | exact .inl rfl | exact .inr rfl),rfl,rfl⟩,⟨[[32,61,32],[109,97,120]],rfl,by simp,by simp,by simp⟩,by (try simp only [Tb,Td,Te]);omega,?_⟩;(conv=>whnf);refine ⟨fun r hr=>?_,by decide,by rw [Zg];simp,?_⟩
     ·exact m127
     conv=>whnf
     refine ⟨_,by decide,rfl,?_⟩;(conv=>whnf);refine ⟨l++exW 0 (.mk o0 t0 n0 y0 q0)++([32,61,32]++[109,97,120]),[32],rfl,⟨(by first | exact .inl rfl | exact .inr rfl),rfl,rfl⟩,⟨[[32]],rfl,by simp,by simp,by simp⟩,by (try simp only [Tb,Td,Te]);omega,?_⟩;(conv=>whnf);refine ⟨l++exW 0 (.mk o0 t0 n0 y0 q0)++([32,61,32]++[109,97,120])++[32],exW 0 (.mk o1 t1 n1 y1 q1),rfl,⟨(by first | exact .inl rfl | exact .inr rfl),rfl,rfl⟩,⟨pl,(.mk o1 t1 n1 y1 q1),0,rfl,⟨g1,by omega,by omega,by omega,by omega⟩,rfl⟩,by (try simp only [Tb,Td,Te]);omega,?_⟩;(conv=>whnf);refine oiD ?_;(conv=>whnf);refine ⟨l++exW 0 (.mk o0 t0 n0 y0 q0)++([32,61,32]++[109,97,120])++[32]++exW 0 (.mk o1 t1 n1 y1 q1),[32,58,32,123,32],rfl,⟨(by first | exact .inl rfl | exact .inr rfl),rfl,rfl⟩,⟨[[32,58,32,123,32]],rfl,by simp,by simp,by simp⟩,by (try simp only [Tb,Td,Te]);omega,?_⟩;(conv=>whnf);refine ⟨by omega,l++exW 0 (.mk o0 t0 n0 y0 q0)++([32,61,32]++[109,97,120])++[32]++exW 0 (.mk o1 t1 n1 y1 q1)++[32,58,32,123,32],pl,body,rfl,Zs pl body,⟨rfl,rfl,rfl,rfl⟩,⟨Tv.2 m3,by omega,by omega⟩,(by (try simp only [Tb,Td,Te]);show _+(Zl cmm (body.map liT)).length<_;omega),?_⟩;(conv=>whnf);refine ⟨l++exW 0 (.mk o0 t0 n0 y0 q0)++([32,61,32]++[109,97,120])++[32]++exW 0 (.mk o1 t1 n1 y1 q1)++[32,58,32,123,32]++Zl cmm (body.map liT),[32,125],rfl,⟨(by first | exact .inl rfl | exact .inr rfl),rfl,rfl⟩,⟨[[32,125]],rfl,by simp,by simp,by simp⟩,by (try simp only [Tb,Td,Te]);omega,?_⟩;rw [show l++(exW 0 (.mk o0 t0 n0 y0 q0)++(([32,61,32]++[109,97,120])++([32]++(exW 0 (.mk o1 t1 n1 y1 q1)++([32,58,32,123,32]++(Zl cmm (body.map liT)++([32,125])))))))=l++exW 0 (.mk o0 t0 n0 y0 q0)++([32,61,32]++[109,97,120])++[32]++exW 0 (.mk o1 t1 n1 y1 q1)++[32,58,32,123,32]++Zl cmm (body.map liT)++[32,125] by simp only [To]] at h;(conv=>whnf);exact h
 ·exact h.elim
theorem cWA (hN:NumOK w0 nG) (hL:LexC w0 nG) (n:Nat):PCalls (GG w0 nG) 76 (Zsc n):=ZtI (cWE hN hL n)
theorem ZqO {n:Nat} (h:PCalls (GG w0 nG) 111 (Zwl n)):PCalls (GG w0 nG) 110 (ZjT n):=ZxL ⟨⟨Zvc,ZcV⟩,⟨h,ZqN n⟩,trivial⟩
theorem cWL (hN:NumOK w0 nG) (hL:LexC w0 nG):∀n,PCalls (GG w0 nG) 111 (Zwl n)
 | 0=>ZxN ⟨⟨ZgI,Vm⟩,⟨cWA hN hL 0,JV 0⟩,⟨cWE hN hL 0,UD 0⟩,⟨Z5 (Zo Tryz.func110 (by kernel_rfl) rfl),ZK Zc6 _⟩,trivial⟩
 | n+1=>ZxN ⟨⟨ZgI,Vm⟩,⟨cWA hN hL (n+1),JV _⟩,⟨cWE hN hL (n+1),UD _⟩,⟨Z6 (sp:=ZjT) (ZqO (cWL hN hL n)),ZK Zc6 _⟩,trivial⟩
def Zya (r:Ru):Bool:=JP r && ZbT r
theorem Zv4 {r:Ru} (h:Zya r=true):(∀x∈r.args,Zj3 x=true)∧∀x∈r.body,Zs6 x=true:=by
 simp only [Zya,JP,ZbT,Tl] at h;obtain ⟨⟨_,h1,h2⟩,h3,h4⟩:=h;rw [Tv] at h1 h2 h3 h4;exact ⟨fun x hx=>by rw [Zj3,h1 x hx,h3 x hx];rfl,fun x hx=>by rw [Zs6,h2 x hx,h4 x hx];rfl⟩
noncomputable def ZxO (n:Nat):Zr:=Zmj (.tuple []) fun rest txt=>∃pl x,rest=[ZfT Xj pl x]∧(Zya x=true∧wRu x≤n∧n≤1073741824)∧txt=ruT x
theorem ZqP (n:Nat):Za (ZxO n):=UC _ _
noncomputable def ZxP (n:Nat):Tbl:=[(75,Zk0),(76,Zsc n),(110,ZjT n)]
theorem Zzj {n:Nat} (ht:TblOK (GG w0 nG) (ZxP n)):PCalls (GG w0 nG) 64 (ZxO n):=by
 refine pc ht Tryz.func64 ?_;intro args σ K h
 unfold ZxO Zmj at h
 split at h
 ·rename_i rest t p e rows
  obtain ⟨l,txt,rfl,⟨hp,rfl,rfl⟩,⟨pl,⟨head,xs,body,at'⟩,rfl,⟨hmay,hz,hn⟩,rfl⟩,hlen,h⟩:=h;obtain ⟨m2,m3⟩:=Zv4 hmay;simp only at m2 m3;have hzx:szS wE xs+szS wL body+head.length+1≤n:=by unfold wRu at hz;simp only at hz;omega
  have hbl:(Xy pl body).length=body.length:=by rw [Zs,Ti]
  refine ⟨Zb [],1,true,by simp,Ta rfl,?_⟩;have hl0:l.length+head.length+(Wd [40] [41] xs).length+10<70368744177664+10:=by
   have e:(ruT ⟨head,xs,body,at'⟩).length≥head.length+(Wd [40] [41] xs).length:=by rw [ruT];simp only [Tb];omega
   omega
  rcases hp with rfl | rfl
  all_goals
   conv=>whnf
   refine ⟨l,head,rfl,⟨(by first | exact .inl rfl | exact .inr rfl),rfl,rfl⟩,⟨[head],rfl,by simp,by simp,by simp⟩,by (try simp only [Tb,Td,Te]);omega,?_⟩;(conv=>whnf);refine ⟨l++head,Wd [40] [41] xs,rfl,⟨(by first | exact .inl rfl | exact .inr rfl),rfl,rfl⟩,⟨[40],[41],pl,xs,rfl,⟨Tv.2 m2,by omega,by omega⟩,rfl⟩,by (try simp only [Tb,Td,Te]);omega,?_⟩;(conv=>whnf);refine ZAf (fun c=>?_) (fun c=>?_)
   ·have c:0<body.length:=by have c:((Xy pl body).length:Int)>0:=c;omega
    have hx:ruT ⟨head,xs,body,at'⟩=head++(Wd [40] [41] xs++([32,58,45,32]++(Zl cmm (body.map liT)++[46]))):=by rw [ruT,Tf c,JQ];simp
    rw [hx] at h hlen;simp only [Tb,Td,Te] at hlen;(conv=>whnf);refine ⟨l++head++Wd [40] [41] xs,[32,58,45,32],rfl,⟨(by first | exact .inl rfl | exact .inr rfl),rfl,rfl⟩,⟨[[32,58,45,32]],rfl,by simp,by simp,by simp⟩,by (try simp only [Tb,Td,Te]);omega,?_⟩;(conv=>whnf);refine ⟨l++head++Wd [40] [41] xs++[32,58,45,32],pl,body,rfl,Zs pl body,⟨rfl,rfl,rfl,rfl⟩,⟨Tv.2 m3,by omega,by omega⟩,(by (try simp only [Tb,Td,Te]);show _+(Zl cmm (body.map liT)).length<_;omega),?_⟩;(conv=>whnf);refine ⟨l++head++Wd [40] [41] xs++[32,58,45,32]++Zl cmm (body.map liT),[46],rfl,⟨(by first | exact .inl rfl | exact .inr rfl),rfl,rfl⟩,⟨[[46]],rfl,by simp,by simp,by simp⟩,by (try simp only [Tb,Td,Te]);omega,?_⟩;simp only [← To] at h;exact m54
   ·have c:¬0<body.length:=by have c:¬((Xy pl body).length:Int)>0:=c;omega
    have hx:ruT ⟨head,xs,body,at'⟩=head++(Wd [40] [41] xs++[46]):=by rw [ruT,Tc c,Sx]
    rw [hx] at h hlen;simp only [Tb,Td,Te] at hlen;(conv=>whnf);refine ⟨l++head++Wd [40] [41] xs,[46],rfl,⟨(by first | exact .inl rfl | exact .inr rfl),rfl,rfl⟩,⟨[[46]],rfl,by simp,by simp,by simp⟩,by (try simp only [Tb,Td,Te]);omega,?_⟩;simp only [← To] at h;exact m54
 ·exact h.elim
theorem cWR (hN:NumOK w0 nG) (hL:LexC w0 nG) (n:Nat):PCalls (GG w0 nG) 64 (ZxO n):=Zzj ⟨⟨ZgI,Vm⟩,⟨cWA hN hL n,JV n⟩,⟨ZqO (cWL hN hL n),Zc6 n⟩,trivial⟩
end Go.PM.Lex
end

section
namespace Go.PM.Lex
open Go.Proofs Go.RowKit
variable {w0:World} {nG:Nat}
end Go.PM.Lex
end

section
namespace Go.PM.Lex
open Go.Proofs
variable {w0:World} {nG:Nat}
end Go.PM.Lex
end

section
namespace Go.PM.Lex
open Go.Proofs
variable {w0:World} {nG:Nat}
noncomputable def Zs7 (n:Nat):Zr:=fun args σ K=>match args,σ with
 | [.agg c],⟨[],[],0⟩=>∃pl x,c=(Xj pl x).map .d∧((JP x=true→ZbT x=true)∧wRu x≤n∧n≤16777216) ∧
   ((JP x=false→K (.ret (.tuple [.d (.str []),.d (.int .i64 160)])) ⟨[],[],0⟩)∧(JP x=true→∀r,ZX 65536 16384 W3 (ruT x)=r→K (.ret (.tuple [.d (.str (W9 (ruT x) r).1),.d (.int .i64 (W9 (ruT x) r).2)])) ⟨[],[],0⟩))
 | _,_=>False
noncomputable def ZxQ (n:Nat):Tbl:=[(63,Zfd (ZfT Xj) JP wRu n),(64,ZxO n),(31,VA),(28,ZgF),(32,ZgJ)]
theorem ZxR {n:Nat} (ht:TblOK (GG w0 nG) (ZxQ n)):PCalls (GG w0 nG) 24 (Zs7 n):=by
 refine pc ht Tryz.func24 ?_;intro args σ K h
 unfold Zs7 at h
 split at h
 ·obtain ⟨pl,⟨hd1,as1,bd1,at'⟩,rfl,⟨hab,hz,hn⟩,ha,hb⟩:=h;refine ⟨Zb [],0,true,by simp,Ta rfl,?_⟩;(conv=>whnf);refine ⟨pl,⟨hd1,as1,bd1,at'⟩,rfl,⟨hz,by omega⟩,fun b hb1=>?_⟩
  cases b with
  | false =>
   conv=>whnf
   exact ha hb1
  | true =>
   have h1:=hab hb1;have h2:=ZpV h1;have hb:=hb hb1;(conv=>whnf);refine ⟨[],ruT ⟨hd1,as1,bd1,at'⟩,rfl,⟨.inl rfl,rfl,rfl⟩,⟨pl,⟨hd1,as1,bd1,at'⟩,rfl,⟨by rw [Zya,hb1,h1];rfl,hz,by omega⟩,rfl⟩,by simp only [Te];omega,?_⟩;obtain ⟨T,hT⟩:∃T,ruT ⟨hd1,as1,bd1,at'⟩=T:=⟨_,rfl⟩
   rw [hT] at hb h2 ⊢
   all_goals
    conv=>whnf
    refine ⟨T,⟨rfl,rfl,rfl,(by first | exact .inl rfl | exact .inr rfl),by omega⟩,?_⟩;(conv=>whnf);refine ⟨by omega,fun x hx=>?_⟩;have hb:=hb x hx
    cases x with
    | ok v L =>
     obtain ⟨v1,v2,v3,v4,v5,v6⟩:=v;unfold Zwd
     dsimp only;(conv=>whnf);refine ⟨T,⟨rfl,rfl,rfl,(by first | exact .inl rfl | exact .inr rfl),by omega⟩,?_⟩;(conv=>whnf);refine ⟨fun g=>absurd g (by decide),fun _=>?_⟩;(conv=>whnf);exact hb
    | err p c =>
     conv=>whnf
     refine ⟨T,⟨rfl,rfl,rfl,(by first | exact .inl rfl | exact .inr rfl),by omega⟩,?_⟩;exact m129
 ·exact h.elim
theorem ZAb (hg:GlobOK w0 nG) (hN:NumOK w0 nG) (hL:LexC w0 nG) (n:Nat):PCalls (GG w0 nG) 24 (Zs7 n) :=
 ZxR ⟨⟨Zz5 hL n,Wc _ _ _ _⟩,⟨cWR hN hL n,ZqP n⟩,⟨ZcX,Ub⟩,⟨ZyH hg,ZkU⟩,⟨Zp7,Zfh⟩,trivial⟩
end Go.PM.Lex
end

section
namespace Go.PM.Lex
open Go.Proofs
variable {w0:World} {nG:Nat}
theorem ZdH {α:Type} (txt:Bs) (x:Top α):W9 txt x=if XQ x=3∨XQ x=151 then ([],3) else (txt,0):=by
 cases x with
 | ok v L=>rw [Tc (by simp [XQ])];rfl
 | err p e=>rfl
noncomputable def Zn4:Zr:=fun args σ K=>match args,σ with
 | [.d (.str s),.d (.int .i64 e)],⟨[],[],0⟩=>∃n:Nat,e=n∧(n=3∨n=151→K (.ret (.tuple [.d (.str []),.d (.int .i64 3)])) ⟨[],[],0⟩)∧(¬(n=3∨n=151)→K (.ret (.tuple [.d (.str s),.d (.int .i64 0)])) ⟨[],[],0⟩)
 | _,_=>False
theorem ZgT:Za Zn4:=fun args σ K K' hK h=>by
 unfold Zn4 at h ⊢
 split at h
 ·obtain ⟨n,h1,h2,h3⟩:=h;exact ⟨n,h1,fun g=>hK _ _ (h2 g),fun g=>hK _ _ (h3 g)⟩
 ·exact h.elim
theorem ZtR:PCalls (GG w0 nG) 59 Zn4:=by
 refine pc (tbl:=[]) trivial Tryz.func59 ?_;intro args σ K h
 unfold Zn4 at h
 split at h
 ·rename_i s e
  obtain ⟨n,rfl,ha,hb⟩:=h;refine ⟨Zb [],0,false,by simp,Ta rfl,?_⟩;(conv=>whnf);refine ZAf (fun h3=>?_) (fun h3=>?_)
  ·have h3':n=3:=by have h3:(n:Int)=3:=h3;omega
   conv=>whnf
   exact ha (.inl h3')
  ·have h3':¬n=3:=by have h3:¬(n:Int)=3:=h3;omega
   conv=>whnf
   refine ZAf (fun h4=>?_) (fun h4=>?_)
   ·have h4':n=151:=by have h4:(n:Int)=151:=h4;omega
    conv=>whnf
    exact ha (.inr h4')
   ·have h4':¬n=151:=by have h4:¬(n:Int)=151:=h4;omega
    conv=>whnf
    exact hb (by omega)
 ·exact h.elim
def Zs8 (e:Ex):Bs×Nat:=if ZQ e=true then W9 (exT e) (ZX 65536 16384 (ZW 64) (exT e)) else ([],160)
def Zs9 (x:Ru):Bs×Nat:=if JP x=true then W9 (ruT x) (ZX 65536 16384 W3 (ruT x)) else ([],160)
noncomputable def Zck {α:Type} (enc:Pl→α→List D) (c:Nat→α→Prop) (f:α→Bs×Nat) (n:Nat):Zr:=fun args σ K=>match args,σ with
 | [.agg cs],⟨[],[],0⟩=>∃pl e,cs=(enc pl e).map .d∧(c n e∧n≤16777216)∧∀s k,f e=(s,k)→K (.ret (.tuple [.d (.str s),.d (.int .i64 (k:Nat))])) ⟨[],[],0⟩
 | _,_=>False
theorem Zat {α:Type} (enc:Pl→α→List D) (c:Nat→α→Prop) (f:α→Bs×Nat) (n:Nat):Za (Zck enc c f n):=fun args σ K K' hK h=>by
 unfold Zck at h ⊢
 split at h
 ·obtain ⟨pl,e,h1,h2,h3⟩:=h;exact ⟨pl,e,h1,h2,fun s k g=>hK _ _ (h3 s k g)⟩
 ·exact h.elim
def ZqQ (n:Nat) (e:Ex):Prop:=Jv e=true∧wE e≤n∧(exT e).length<1073741824
def ZqR (n:Nat) (x:Ru):Prop:=ZbT x=true∧wRu x≤n∧(ruT x).length<1073741824
theorem ZAc (hg:GlobOK w0 nG) (hN:NumOK w0 nG) (hL:LexC w0 nG) (n:Nat):PCalls (GG w0 nG) 13 (Zck Yc ZqQ Zs8 n):=(cPE hg hN hL n).weaken1 fun args σ K h=>by
 unfold Zck at h
 unfold Zvp
 split at h
 ·obtain ⟨pl,e,h1,⟨⟨h2,h3,h4⟩,h5⟩,h⟩:=h;exact ⟨pl,e,h1,⟨fun _=>⟨h2,h4⟩,h3,by omega⟩,fun g=>h _ _ (by rw [Zs8,Tc (by rw [g];simp)]),fun g x hx=>h _ _ (by rw [Zs8,Tf g,hx])⟩
 ·exact h.elim
theorem Zzk (hg:GlobOK w0 nG) (hN:NumOK w0 nG) (hL:LexC w0 nG) (n:Nat):PCalls (GG w0 nG) 24 (Zck Xj ZqR Zs9 n):=(ZAb hg hN hL n).weaken1 fun args σ K h=>by
 unfold Zck at h
 unfold Zs7
 split at h
 ·obtain ⟨pl,e,h1,⟨⟨h2,h3,h4⟩,h5⟩,h⟩:=h;exact ⟨pl,e,h1,⟨fun _=>h2,h3,by omega⟩,fun g=>h _ _ (by rw [Zs9,Tc (by rw [g];simp)]),fun g x hx=>h _ _ (by rw [Zs9,Tf g,hx])⟩
 ·exact h.elim
noncomputable def Zzl (n:Nat):Tbl:=[(56,Zqg Yc ZQ wE n),(57,Zq4 n),(58,ZgP),(59,Zn4)]
theorem Zzm (n:Nat):PCalls (GG w0 nG) 22 (Zck Yc ZqQ Zs8 n):=by
 refine pc (tbl:=Zzl n) ⟨⟨cMy n,Zca _ _ _ _⟩,⟨cTx n,UF _⟩,⟨Zzd,Zlj⟩,⟨ZtR,ZgT⟩,trivial⟩ Tryz.func22 ?_;intro args σ K h
 unfold Zck at h
 split at h
 ·obtain ⟨pl,⟨op,tx,nn,xs,at'⟩,rfl,⟨⟨hr,hz,hln⟩,hn⟩,h⟩:=h;refine ⟨Zb [],0,false,by simp,Ta rfl,?_⟩;(conv=>whnf);refine ⟨pl,.mk op tx nn xs at',rfl,⟨hz,hn⟩,fun b hb1=>?_⟩
  cases b with
  | false =>
   conv=>whnf
   exact h _ _ (by rw [Zs8,Tc (by rw [hb1];simp)])
  | true =>
   have hout:Zs8 (.mk op tx nn xs at')=if XQ (ZX 65536 16384 (ZW 64) (exT (.mk op tx nn xs at')))=3∨XQ (ZX 65536 16384 (ZW 64) (exT (.mk op tx nn xs at')))=151 then ([],3) else (exT (.mk op tx nn xs at'),0):=by
    rw [Zs8,Tf hb1,ZdH]
   rw [hout] at h;(conv=>whnf);refine ⟨pl,.mk op tx nn xs at',rfl,⟨⟨hb1,hr⟩,hz,hn⟩,fun T hT=>?_⟩;rw [hT] at h hln;(conv=>whnf);refine ⟨by omega,fun e he o u m rows p q=>?_⟩;exact m128
 ·exact h.elim
noncomputable def Zzn (n:Nat):Tbl:=[(60,Zqg Xj JP wRu n),(61,Zwi n),(62,ZjS),(59,Zn4)]
theorem Zzo (n:Nat):PCalls (GG w0 nG) 23 (Zck Xj ZqR Zs9 n):=by
 refine pc (tbl:=Zzn n) ⟨⟨cMr n,Zca _ _ _ _⟩,⟨cRt n,Zql _⟩,⟨Zzi,Zls⟩,⟨ZtR,ZgT⟩,trivial⟩ Tryz.func23 ?_;intro args σ K h
 unfold Zck at h
 split at h
 ·obtain ⟨pl,⟨hd1,as1,bd1,at'⟩,rfl,⟨⟨hr,hz,hln⟩,hn⟩,h⟩:=h;refine ⟨Zb [],0,false,by simp,Ta rfl,?_⟩;(conv=>whnf);refine ⟨pl,⟨hd1,as1,bd1,at'⟩,rfl,⟨hz,hn⟩,fun b hb1=>?_⟩
  cases b with
  | false =>
   conv=>whnf
   exact h _ _ (by rw [Zs9,Tc (by rw [hb1];simp)])
  | true =>
   have hout:Zs9 ⟨hd1,as1,bd1,at'⟩=if XQ (ZX 65536 16384 W3 (ruT ⟨hd1,as1,bd1,at'⟩))=3∨XQ (ZX 65536 16384 W3 (ruT ⟨hd1,as1,bd1,at'⟩))=151 then ([],3) else (ruT ⟨hd1,as1,bd1,at'⟩,0):=by
    rw [Zs9,Tf hb1,ZdH]
   rw [hout] at h;(conv=>whnf);refine ⟨pl,⟨hd1,as1,bd1,at'⟩,rfl,⟨⟨hb1,hr⟩,hz,hn⟩,fun T hT=>?_⟩;rw [hT] at h hln;(conv=>whnf);refine ⟨by omega,fun e he r0 r1 r2 r3 r4 r5 q=>?_⟩;exact m128
 ·exact h.elim
end Go.PM.Lex
end
