/- A part of the proof: plain logic, contracts and laws over the given program. -/
import Derived.Test.YtflgockgjnddnaaGreatDoorB09
set_option linter.unusedVariables false
set_option linter.unusedSimpArgs false
set_option linter.all false
set_option maxRecDepth 100000
set_option maxHeartbeats 16000000
section
namespace Go.PM.Lex
open Go.Proofs
variable {w0:World} {nG:Nat}
def Zr5 (x:Li):Bool:=Xj x && ZgN x
theorem Zwt {op:Nat} {rel:Bs} {args:List Ex} {body:List Li} {a:Nat} (h:Zr5 (.mk op rel args body a)=true):XM op rel args.length body.length=true∧(∀x∈args,Zja x=true)∧∀x∈body,Zr5 x=true:=by
 simp only [Zr5,Tk] at h
 obtain ⟨h1,h2⟩:=h
 obtain ⟨m1,m2,m3⟩:=Zkl h1
 obtain ⟨r1,r2⟩:=Zkd h2
 exact ⟨m1,fun x hx=>by rw [Zja,m2 x hx,r1 x hx];rfl,fun x hx=>by rw [Zr5,m3 x hx,r2 x hx];rfl⟩
noncomputable def Zxn (n:Nat):ZA:=Zi9 (.tuple []) fun rest txt=>∃pl x,rest=[Xk Yt pl x]∧(Zr5 x=true∧wL x≤n∧n≤1073741824)∧txt=liT x
theorem ZpQ (n:Nat):Zc (Zxn n):=Vw _ _
noncomputable def ZiI (n:Nat):ZA:=fun args σ K=>match args,σ with
 | [.ptr 0 0,.d (.sl r),.d (.str bt),.func g [.ptr 0 0] []],⟨[.cells t [p,.sl 0 e rows]],[0],1⟩=>∃l pl xs,rows=Zl l∧r=xs.map (Yt pl)∧(p=.ptr 0 0∧t=84∧e=5∧g=111)∧(xs.all Zr5=true∧szS wL xs≤n∧n≤1073741824)∧l.length+(Zg bt (xs.map liT)).length<70368744177664 ∧
   K (.ret (.tuple [])) ⟨[.cells t [.ptr 0 0,.sl 0 e (Zl (l++Zg bt (xs.map liT)))]],[0],1⟩
 | _,_=>False
theorem ZcD (n:Nat):Zc (ZiI n):=fun args σ K K' hK h=>by
 unfold ZiI at h ⊢
 exact m91
noncomputable def Zzp (n:Nat):Tbl:=[(155,ZgM),(111,Zxn n)]
theorem Zzq {n:Nat} (ht:TblOK (GG w0 nG) (Zzp n)):PCalls (GG w0 nG) 110 (ZiI n):=by
 refine pc ht Tryz.func110 ?_
 intro args σ K h
 unfold ZiI at h
 split at h
 ·rename_i r bt g t p e rows
  obtain ⟨l,pl,xs,rfl,rfl,⟨rfl,rfl,rfl,rfl⟩,⟨hmay,hz,hn⟩,hlen,h⟩:=h
  have hl1:(xs.map (Yt pl)).length=xs.length:=Te ..
  have hsz:=Zj wL xs
  refine ⟨Za [(1,⟨[12],[0,1,2,3,10,11],fun vs σ=>∃i:Nat,vs=[.d (.int .i64 i)]∧σ=⟨[.cells 84 [.ptr 0 0,.sl 0 5 (Zl (l++Zg bt ((xs.take i).map liT)))]],[0],1⟩∧i≤xs.length,fun vs _=>match vs with | [.d (.int _ i)]=>((xs.length:Int) - i).toNat | _=>0⟩)],1,true,by simp,Tb rfl,?_⟩
  conv=>whnf
  refine ⟨⟨0,rfl,(by simp only [T6,TG,Zg,TC];rfl),by omega⟩,?_⟩
  intro vs σ hI
  obtain ⟨i,rfl,rfl,hi⟩:=hI
  conv=>whnf
  refine ZCX (fun hi2=>?_) (fun hi2=>?_)
  ·have hi2:i<xs.length:=by have hi2:(i:Int)<(xs.map (Yt pl)).length:=hi2;rw [hl1] at hi2;omega
   have hg:=Zn wL xs i hi2
   have hmx:Zr5 xs[i]=true:=Tl.1 hmay _ (TU hi2)
   have htk:=U5 bt liT hi2
   have hle:=ZbQ bt liT xs (i+1)
   obtain ⟨eA,hA⟩:∃x,xs[i]=x:=⟨_,rfl⟩
   obtain ⟨a1,a2,a3,a4,a5⟩:=eA
   rw [hA] at hg hmx htk
   have hr1:(xs.map (Yt pl))[((i:Nat):Int).toNat]?=some (Yt pl (.mk a1 a2 a3 a4 a5)):=by simp [hi2,hA]
   conv=>whnf
   refine ⟨_,by omega,hr1,?_⟩
   conv=>whnf
   refine ZCX (fun h0=>?_) (fun h0=>?_)
   ·have h0:0<i:=by omega
    rw [Tf (by omega)] at htk
    rw [htk] at hle
    simp only [Ta] at hle
    conv=>whnf
    refine ⟨l++Zg bt ((xs.take i).map liT),bt,rfl,⟨.inr rfl,rfl,rfl⟩,⟨rfl,rfl⟩,by simp only [Ta];omega,?_⟩
    conv=>whnf
    refine ⟨l++Zg bt ((xs.take i).map liT)++bt,liT (.mk a1 a2 a3 a4 a5),rfl,⟨.inr rfl,rfl,rfl⟩,⟨pl,(.mk a1 a2 a3 a4 a5),rfl,⟨hmx,by omega,by omega⟩,rfl⟩,by simp only [Ta];omega,?_⟩
    exact m47
   ·obtain rfl:i=0:=by omega
    rw [Th rfl] at htk
    rw [htk] at hle
    conv=>whnf
    refine ⟨l++Zg bt ((xs.take 0).map liT),liT (.mk a1 a2 a3 a4 a5),rfl,⟨.inr rfl,rfl,rfl⟩,⟨pl,(.mk a1 a2 a3 a4 a5),rfl,⟨hmx,by omega,by omega⟩,rfl⟩,by simp only [T6,TG,Zg,Ta,Td];omega,?_⟩
    exact m45
  ·have hi2:i=xs.length:=by have hi2:¬(i:Int)<(xs.map (Yt pl)).length:=hi2;rw [hl1] at hi2;omega
   subst hi2
   rw [Sc]
   exact m35
 ·exact h.elim
noncomputable def Zzr (n:Nat):Tbl:=[(75,Zfp),(76,ZrT n),(30,ZqJ n),(110,spB ZiI n)]
theorem Zzs {n:Nat} (ht:TblOK (GG w0 nG) (Zzr n)):PCalls (GG w0 nG) 111 (Zxn n):=by
 refine Zoc XG mixed (tbl:=Zzr n) ht Y9 Tryz.func111 rfl (by kernel_rfl) (by kernel_rfl) ?_
 intro args σ K h
 unfold Zxn Zi9 at h
 split at h
 ·rename_i rest t p e rows
  obtain ⟨l,txt,rfl,⟨hp,rfl,rfl⟩,⟨pl,⟨op,rel,xs,body,at'⟩,rfl,⟨hmay,hz,hn⟩,rfl⟩,hlen,h⟩:=h
  obtain ⟨m1,m2,m3⟩:=Zwt hmay
  have hzx:szS wE xs+szS wL body+rel.length+1≤n:=by rw [wL,Vu] at hz;omega
  refine ⟨Za [],ZaS [(13,2)],Vh [],1,true,by simp,Tb rfl,?_⟩
  have hcases:((op=1∨op=2)∧YF rel=true∧body.length=0)∨(3≤op∧op≤8∧rel=[]∧xs.length=2∧body.length=0)∨(op=9∧rel=[]∧xs.length=1∧0<body.length)∨(9<op∧op≤12∧rel=[]∧xs.length=2∧0<body.length):=Zkm m1
  rcases hcases with ⟨hop,hnm,hb⟩ | ⟨c1,c2,rfl,hx2,hb⟩ | ⟨rfl,rfl,hx1,hb⟩ | ⟨c1,c2,rfl,hx2,hb⟩
  ·rcases hop with rfl | rfl
   ·rcases hp with rfl | rfl
    all_goals
     have hx:liT (.mk 1 rel xs body at')=rel++Wl [40] [41] xs:=by rw [liT];rfl
     rw [hx] at h hlen
     (try simp only [Ta,Tc,Td] at hlen)
     conv=>whnf
     refine ⟨l,rel,rfl,⟨(by first | exact .inl rfl | exact .inr rfl),rfl,rfl⟩,⟨[rel],rfl,by simp,by simp,by simp⟩,by (try simp only [Ta,Tc,Td]);omega,?_⟩
     conv=>whnf
     refine ⟨l++rel,Wl [40] [41] xs,rfl,⟨(by first | exact .inl rfl | exact .inr rfl),rfl,rfl⟩,⟨[40],[41],pl,xs,rfl,⟨Tl.2 m2,by omega,by omega⟩,rfl⟩,by (try simp only [Ta,Tc,Td]);omega,?_⟩
     rw [show l++(rel++Wl [40] [41] xs)=l++rel++Wl [40] [41] xs by simp only [Tg]] at h
     conv=>whnf
     exact h
   ·rcases hp with rfl | rfl
    all_goals
     have hx:liT (.mk 2 rel xs body at')=[33]++(rel++Wl [40] [41] xs):=by rw [liT];rfl
     rw [hx] at h hlen
     (try simp only [Ta,Tc,Td] at hlen)
     conv=>whnf
     refine ⟨l,[33],rfl,⟨(by first | exact .inl rfl | exact .inr rfl),rfl,rfl⟩,⟨[[33]],rfl,by simp,by simp,by simp⟩,by (try simp only [Ta,Tc,Td]);omega,?_⟩
     conv=>whnf
     refine ⟨l++[33],rel,rfl,⟨(by first | exact .inl rfl | exact .inr rfl),rfl,rfl⟩,⟨[rel],rfl,by simp,by simp,by simp⟩,by (try simp only [Ta,Tc,Td]);omega,?_⟩
     conv=>whnf
     refine ⟨l++[33]++rel,Wl [40] [41] xs,rfl,⟨(by first | exact .inl rfl | exact .inr rfl),rfl,rfl⟩,⟨[40],[41],pl,xs,rfl,⟨Tl.2 m2,by omega,by omega⟩,rfl⟩,by (try simp only [Ta,Tc,Td]);omega,?_⟩
     rw [show l++([33]++(rel++Wl [40] [41] xs))=l++[33]++rel++Wl [40] [41] xs by simp only [Tg]] at h
     conv=>whnf
     exact h
  ·obtain ⟨x0,x1,rfl⟩:=ZaD hx2
   simp only [szS] at hzx
   have g0:=m2 x0 (by simp)
   have g1:=m2 x1 (by simp)
   have z0:wE x0≤n:=by omega
   have z1:wE x1≤n:=by omega
   obtain ⟨o0,t0,n0,y0,q0⟩:=x0
   obtain ⟨o1,t1,n1,y1,q1⟩:=x1
   obtain rfl | rfl | rfl | rfl | rfl | rfl:op=3∨op=4∨op=5∨op=6∨op=7∨op=8:=by omega
   ·rcases hp with rfl | rfl
    all_goals
     have hx:liT (.mk 3 [] [(.mk o0 t0 n0 y0 q0),(.mk o1 t1 n1 y1 q1)] body at')=exW 0 (.mk o0 t0 n0 y0 q0)++([32,61,32]++exW 0 (.mk o1 t1 n1 y1 q1)):=by rw [liT,VC,VC];rfl
     rw [hx] at h hlen
     (try simp only [Ta,Tc,Td] at hlen)
     conv=>whnf
     refine ⟨_,by decide,rfl,?_⟩
     conv=>whnf
     refine ⟨l,exW 0 (.mk o0 t0 n0 y0 q0),rfl,⟨(by first | exact .inl rfl | exact .inr rfl),rfl,rfl⟩,⟨pl,(.mk o0 t0 n0 y0 q0),0,rfl,⟨g0,by omega,by omega,by omega,by omega⟩,rfl⟩,by (try simp only [Ta,Tc,Td]);omega,?_⟩
     conv=>whnf
     refine Or.inl ⟨InR.u8 (by decide) (by decide),?_⟩
     conv=>whnf
     refine ⟨by decide,by decide,?_⟩
     conv=>whnf
     refine ⟨l++exW 0 (.mk o0 t0 n0 y0 q0),[32,61,32],rfl,⟨(by first | exact .inl rfl | exact .inr rfl),rfl,rfl⟩,⟨[[32,61,32]],rfl,by simp,by simp,by simp⟩,by (try simp only [Ta,Tc,Td]);omega,?_⟩
     conv=>whnf
     refine ⟨_,by decide,rfl,?_⟩
     conv=>whnf
     refine ⟨l++exW 0 (.mk o0 t0 n0 y0 q0)++[32,61,32],exW 0 (.mk o1 t1 n1 y1 q1),rfl,⟨(by first | exact .inl rfl | exact .inr rfl),rfl,rfl⟩,⟨pl,(.mk o1 t1 n1 y1 q1),0,rfl,⟨g1,by omega,by omega,by omega,by omega⟩,rfl⟩,by (try simp only [Ta,Tc,Td]);omega,?_⟩
     rw [show l++(exW 0 (.mk o0 t0 n0 y0 q0)++([32,61,32]++exW 0 (.mk o1 t1 n1 y1 q1)))=l++exW 0 (.mk o0 t0 n0 y0 q0)++[32,61,32]++exW 0 (.mk o1 t1 n1 y1 q1) by simp only [Tg]] at h
     conv=>whnf
     exact h
   ·rcases hp with rfl | rfl
    all_goals
     have hx:liT (.mk 4 [] [(.mk o0 t0 n0 y0 q0),(.mk o1 t1 n1 y1 q1)] body at')=exW 0 (.mk o0 t0 n0 y0 q0)++([32,33,61,32]++exW 0 (.mk o1 t1 n1 y1 q1)):=by rw [liT,VC,VC];rfl
     rw [hx] at h hlen
     (try simp only [Ta,Tc,Td] at hlen)
     conv=>whnf
     refine ⟨_,by decide,rfl,?_⟩
     conv=>whnf
     refine ⟨l,exW 0 (.mk o0 t0 n0 y0 q0),rfl,⟨(by first | exact .inl rfl | exact .inr rfl),rfl,rfl⟩,⟨pl,(.mk o0 t0 n0 y0 q0),0,rfl,⟨g0,by omega,by omega,by omega,by omega⟩,rfl⟩,by (try simp only [Ta,Tc,Td]);omega,?_⟩
     conv=>whnf
     refine Or.inl ⟨InR.u8 (by decide) (by decide),?_⟩
     conv=>whnf
     refine ⟨by decide,by decide,?_⟩
     conv=>whnf
     refine ⟨l++exW 0 (.mk o0 t0 n0 y0 q0),[32,33,61,32],rfl,⟨(by first | exact .inl rfl | exact .inr rfl),rfl,rfl⟩,⟨[[32,33,61,32]],rfl,by simp,by simp,by simp⟩,by (try simp only [Ta,Tc,Td]);omega,?_⟩
     conv=>whnf
     refine ⟨_,by decide,rfl,?_⟩
     conv=>whnf
     refine ⟨l++exW 0 (.mk o0 t0 n0 y0 q0)++[32,33,61,32],exW 0 (.mk o1 t1 n1 y1 q1),rfl,⟨(by first | exact .inl rfl | exact .inr rfl),rfl,rfl⟩,⟨pl,(.mk o1 t1 n1 y1 q1),0,rfl,⟨g1,by omega,by omega,by omega,by omega⟩,rfl⟩,by (try simp only [Ta,Tc,Td]);omega,?_⟩
     rw [show l++(exW 0 (.mk o0 t0 n0 y0 q0)++([32,33,61,32]++exW 0 (.mk o1 t1 n1 y1 q1)))=l++exW 0 (.mk o0 t0 n0 y0 q0)++[32,33,61,32]++exW 0 (.mk o1 t1 n1 y1 q1) by simp only [Tg]] at h
     conv=>whnf
     exact h
   ·rcases hp with rfl | rfl
    all_goals
     have hx:liT (.mk 5 [] [(.mk o0 t0 n0 y0 q0),(.mk o1 t1 n1 y1 q1)] body at')=exW 0 (.mk o0 t0 n0 y0 q0)++([32,60,32]++exW 0 (.mk o1 t1 n1 y1 q1)):=by rw [liT,VC,VC];rfl
     rw [hx] at h hlen
     (try simp only [Ta,Tc,Td] at hlen)
     conv=>whnf
     refine ⟨_,by decide,rfl,?_⟩
     conv=>whnf
     refine ⟨l,exW 0 (.mk o0 t0 n0 y0 q0),rfl,⟨(by first | exact .inl rfl | exact .inr rfl),rfl,rfl⟩,⟨pl,(.mk o0 t0 n0 y0 q0),0,rfl,⟨g0,by omega,by omega,by omega,by omega⟩,rfl⟩,by (try simp only [Ta,Tc,Td]);omega,?_⟩
     conv=>whnf
     refine Or.inl ⟨InR.u8 (by decide) (by decide),?_⟩
     conv=>whnf
     refine ⟨by decide,by decide,?_⟩
     conv=>whnf
     refine ⟨l++exW 0 (.mk o0 t0 n0 y0 q0),[32,60,32],rfl,⟨(by first | exact .inl rfl | exact .inr rfl),rfl,rfl⟩,⟨[[32,60,32]],rfl,by simp,by simp,by simp⟩,by (try simp only [Ta,Tc,Td]);omega,?_⟩
     conv=>whnf
     refine ⟨_,by decide,rfl,?_⟩
     conv=>whnf
     refine ⟨l++exW 0 (.mk o0 t0 n0 y0 q0)++[32,60,32],exW 0 (.mk o1 t1 n1 y1 q1),rfl,⟨(by first | exact .inl rfl | exact .inr rfl),rfl,rfl⟩,⟨pl,(.mk o1 t1 n1 y1 q1),0,rfl,⟨g1,by omega,by omega,by omega,by omega⟩,rfl⟩,by (try simp only [Ta,Tc,Td]);omega,?_⟩
     rw [show l++(exW 0 (.mk o0 t0 n0 y0 q0)++([32,60,32]++exW 0 (.mk o1 t1 n1 y1 q1)))=l++exW 0 (.mk o0 t0 n0 y0 q0)++[32,60,32]++exW 0 (.mk o1 t1 n1 y1 q1) by simp only [Tg]] at h
     conv=>whnf
     exact h
   ·rcases hp with rfl | rfl
    all_goals
     have hx:liT (.mk 6 [] [(.mk o0 t0 n0 y0 q0),(.mk o1 t1 n1 y1 q1)] body at')=exW 0 (.mk o0 t0 n0 y0 q0)++([32,60,61,32]++exW 0 (.mk o1 t1 n1 y1 q1)):=by rw [liT,VC,VC];rfl
     rw [hx] at h hlen
     (try simp only [Ta,Tc,Td] at hlen)
     conv=>whnf
     refine ⟨_,by decide,rfl,?_⟩
     conv=>whnf
     refine ⟨l,exW 0 (.mk o0 t0 n0 y0 q0),rfl,⟨(by first | exact .inl rfl | exact .inr rfl),rfl,rfl⟩,⟨pl,(.mk o0 t0 n0 y0 q0),0,rfl,⟨g0,by omega,by omega,by omega,by omega⟩,rfl⟩,by (try simp only [Ta,Tc,Td]);omega,?_⟩
     conv=>whnf
     refine Or.inl ⟨InR.u8 (by decide) (by decide),?_⟩
     conv=>whnf
     refine ⟨by decide,by decide,?_⟩
     conv=>whnf
     refine ⟨l++exW 0 (.mk o0 t0 n0 y0 q0),[32,60,61,32],rfl,⟨(by first | exact .inl rfl | exact .inr rfl),rfl,rfl⟩,⟨[[32,60,61,32]],rfl,by simp,by simp,by simp⟩,by (try simp only [Ta,Tc,Td]);omega,?_⟩
     conv=>whnf
     refine ⟨_,by decide,rfl,?_⟩
     conv=>whnf
     refine ⟨l++exW 0 (.mk o0 t0 n0 y0 q0)++[32,60,61,32],exW 0 (.mk o1 t1 n1 y1 q1),rfl,⟨(by first | exact .inl rfl | exact .inr rfl),rfl,rfl⟩,⟨pl,(.mk o1 t1 n1 y1 q1),0,rfl,⟨g1,by omega,by omega,by omega,by omega⟩,rfl⟩,by (try simp only [Ta,Tc,Td]);omega,?_⟩
     rw [show l++(exW 0 (.mk o0 t0 n0 y0 q0)++([32,60,61,32]++exW 0 (.mk o1 t1 n1 y1 q1)))=l++exW 0 (.mk o0 t0 n0 y0 q0)++[32,60,61,32]++exW 0 (.mk o1 t1 n1 y1 q1) by simp only [Tg]] at h
     conv=>whnf
     exact h
   ·rcases hp with rfl | rfl
    all_goals
     have hx:liT (.mk 7 [] [(.mk o0 t0 n0 y0 q0),(.mk o1 t1 n1 y1 q1)] body at')=exW 0 (.mk o0 t0 n0 y0 q0)++([32,62,32]++exW 0 (.mk o1 t1 n1 y1 q1)):=by rw [liT,VC,VC];rfl
     rw [hx] at h hlen
     (try simp only [Ta,Tc,Td] at hlen)
     conv=>whnf
     refine ⟨_,by decide,rfl,?_⟩
     conv=>whnf
     refine ⟨l,exW 0 (.mk o0 t0 n0 y0 q0),rfl,⟨(by first | exact .inl rfl | exact .inr rfl),rfl,rfl⟩,⟨pl,(.mk o0 t0 n0 y0 q0),0,rfl,⟨g0,by omega,by omega,by omega,by omega⟩,rfl⟩,by (try simp only [Ta,Tc,Td]);omega,?_⟩
     conv=>whnf
     refine Or.inl ⟨InR.u8 (by decide) (by decide),?_⟩
     conv=>whnf
     refine ⟨by decide,by decide,?_⟩
     conv=>whnf
     refine ⟨l++exW 0 (.mk o0 t0 n0 y0 q0),[32,62,32],rfl,⟨(by first | exact .inl rfl | exact .inr rfl),rfl,rfl⟩,⟨[[32,62,32]],rfl,by simp,by simp,by simp⟩,by (try simp only [Ta,Tc,Td]);omega,?_⟩
     conv=>whnf
     refine ⟨_,by decide,rfl,?_⟩
     conv=>whnf
     refine ⟨l++exW 0 (.mk o0 t0 n0 y0 q0)++[32,62,32],exW 0 (.mk o1 t1 n1 y1 q1),rfl,⟨(by first | exact .inl rfl | exact .inr rfl),rfl,rfl⟩,⟨pl,(.mk o1 t1 n1 y1 q1),0,rfl,⟨g1,by omega,by omega,by omega,by omega⟩,rfl⟩,by (try simp only [Ta,Tc,Td]);omega,?_⟩
     rw [show l++(exW 0 (.mk o0 t0 n0 y0 q0)++([32,62,32]++exW 0 (.mk o1 t1 n1 y1 q1)))=l++exW 0 (.mk o0 t0 n0 y0 q0)++[32,62,32]++exW 0 (.mk o1 t1 n1 y1 q1) by simp only [Tg]] at h
     conv=>whnf
     exact h
   ·rcases hp with rfl | rfl
    all_goals
     have hx:liT (.mk 8 [] [(.mk o0 t0 n0 y0 q0),(.mk o1 t1 n1 y1 q1)] body at')=exW 0 (.mk o0 t0 n0 y0 q0)++([32,62,61,32]++exW 0 (.mk o1 t1 n1 y1 q1)):=by rw [liT,VC,VC];rfl
     rw [hx] at h hlen
     (try simp only [Ta,Tc,Td] at hlen)
     conv=>whnf
     refine ⟨_,by decide,rfl,?_⟩
     conv=>whnf
     refine ⟨l,exW 0 (.mk o0 t0 n0 y0 q0),rfl,⟨(by first | exact .inl rfl | exact .inr rfl),rfl,rfl⟩,⟨pl,(.mk o0 t0 n0 y0 q0),0,rfl,⟨g0,by omega,by omega,by omega,by omega⟩,rfl⟩,by (try simp only [Ta,Tc,Td]);omega,?_⟩
     conv=>whnf
     refine Or.inl ⟨InR.u8 (by decide) (by decide),?_⟩
     conv=>whnf
     refine ⟨by decide,by decide,?_⟩
     conv=>whnf
     refine ⟨l++exW 0 (.mk o0 t0 n0 y0 q0),[32,62,61,32],rfl,⟨(by first | exact .inl rfl | exact .inr rfl),rfl,rfl⟩,⟨[[32,62,61,32]],rfl,by simp,by simp,by simp⟩,by (try simp only [Ta,Tc,Td]);omega,?_⟩
     conv=>whnf
     refine ⟨_,by decide,rfl,?_⟩
     conv=>whnf
     refine ⟨l++exW 0 (.mk o0 t0 n0 y0 q0)++[32,62,61,32],exW 0 (.mk o1 t1 n1 y1 q1),rfl,⟨(by first | exact .inl rfl | exact .inr rfl),rfl,rfl⟩,⟨pl,(.mk o1 t1 n1 y1 q1),0,rfl,⟨g1,by omega,by omega,by omega,by omega⟩,rfl⟩,by (try simp only [Ta,Tc,Td]);omega,?_⟩
     rw [show l++(exW 0 (.mk o0 t0 n0 y0 q0)++([32,62,61,32]++exW 0 (.mk o1 t1 n1 y1 q1)))=l++exW 0 (.mk o0 t0 n0 y0 q0)++[32,62,61,32]++exW 0 (.mk o1 t1 n1 y1 q1) by simp only [Tg]] at h
     conv=>whnf
     exact h
  ·obtain ⟨x0,rfl⟩:=ZeP hx1
   simp only [szS] at hzx
   have g0:=m2 x0 (by simp)
   have z0:wE x0≤n:=by omega
   obtain ⟨o0,t0,n0,y0,q0⟩:=x0
   rcases hp with rfl | rfl
   all_goals
    have hx:liT (.mk 9 [] [(.mk o0 t0 n0 y0 q0)] body at')=exW 0 (.mk o0 t0 n0 y0 q0)++(([32,61,32]++[99,111,117,110,116])++([32,58,32,123,32]++(Zg cmm (body.map liT)++([32,125])))):=by rw [liT,ZeF,VC];simp [Ziy,Zlv,JO]
    rw [hx] at h hlen
    (try simp only [Ta,Tc,Td] at hlen)
    conv=>whnf
    refine ⟨_,by decide,rfl,?_⟩
    conv=>whnf
    refine ⟨l,exW 0 (.mk o0 t0 n0 y0 q0),rfl,⟨(by first | exact .inl rfl | exact .inr rfl),rfl,rfl⟩,⟨pl,(.mk o0 t0 n0 y0 q0),0,rfl,⟨g0,by omega,by omega,by omega,by omega⟩,rfl⟩,by (try simp only [Ta,Tc,Td]);omega,?_⟩
    conv=>whnf
    refine Or.inl ⟨InR.u8 (by decide) (by decide),?_⟩
    conv=>whnf
    refine ⟨by decide,by decide,?_⟩
    conv=>whnf
    refine ⟨l++exW 0 (.mk o0 t0 n0 y0 q0),([32,61,32]++[99,111,117,110,116]),rfl,⟨(by first | exact .inl rfl | exact .inr rfl),rfl,rfl⟩,⟨[[32,61,32],[99,111,117,110,116]],rfl,by simp,by simp,by simp⟩,by (try simp only [Ta,Tc,Td]);omega,?_⟩
    conv=>whnf
    refine ⟨fun r hr=>?_,by decide,by rw [Zf];simp,?_⟩
    ·rw [Zf] at hr
     simp only [Tz,TG,Tw,List.not_mem_nil,or_false] at hr
     rcases hr with rfl;rfl
    conv=>whnf
    refine ⟨l++exW 0 (.mk o0 t0 n0 y0 q0)++([32,61,32]++[99,111,117,110,116]),[32,58,32,123,32],rfl,⟨(by first | exact .inl rfl | exact .inr rfl),rfl,rfl⟩,⟨[[32,58,32,123,32]],rfl,by simp,by simp,by simp⟩,by (try simp only [Ta,Tc,Td]);omega,?_⟩
    conv=>whnf
    refine ⟨by omega,l++exW 0 (.mk o0 t0 n0 y0 q0)++([32,61,32]++[99,111,117,110,116])++[32,58,32,123,32],pl,body,rfl,Zp pl body,⟨rfl,rfl,rfl,rfl⟩,⟨Tl.2 m3,by omega,by omega⟩,(by (try simp only [Ta,Tc,Td]);show _+(Zg cmm (body.map liT)).length<_;omega),?_⟩
    conv=>whnf
    refine ⟨l++exW 0 (.mk o0 t0 n0 y0 q0)++([32,61,32]++[99,111,117,110,116])++[32,58,32,123,32]++Zg cmm (body.map liT),[32,125],rfl,⟨(by first | exact .inl rfl | exact .inr rfl),rfl,rfl⟩,⟨[[32,125]],rfl,by simp,by simp,by simp⟩,by (try simp only [Ta,Tc,Td]);omega,?_⟩
    rw [show l++(exW 0 (.mk o0 t0 n0 y0 q0)++(([32,61,32]++[99,111,117,110,116])++([32,58,32,123,32]++(Zg cmm (body.map liT)++([32,125])))))=l++exW 0 (.mk o0 t0 n0 y0 q0)++([32,61,32]++[99,111,117,110,116])++[32,58,32,123,32]++Zg cmm (body.map liT)++[32,125] by simp only [Tg]] at h
    conv=>whnf
    exact h
  ·obtain ⟨x0,x1,rfl⟩:=ZaD hx2
   simp only [szS] at hzx
   have g0:=m2 x0 (by simp)
   have g1:=m2 x1 (by simp)
   have z0:wE x0≤n:=by omega
   have z1:wE x1≤n:=by omega
   obtain ⟨o0,t0,n0,y0,q0⟩:=x0
   obtain ⟨o1,t1,n1,y1,q1⟩:=x1
   obtain rfl | rfl | rfl:op=10∨op=11∨op=12:=by omega
   ·rcases hp with rfl | rfl
    all_goals
     have hx:liT (.mk 10 [] [(.mk o0 t0 n0 y0 q0),(.mk o1 t1 n1 y1 q1)] body at')=exW 0 (.mk o0 t0 n0 y0 q0)++(([32,61,32]++[115,117,109])++([32]++(exW 0 (.mk o1 t1 n1 y1 q1)++([32,58,32,123,32]++(Zg cmm (body.map liT)++([32,125])))))):=by rw [liT,ZeF,VC,VC];simp [Ziy,Zlv,JO]
     rw [hx] at h hlen
     (try simp only [Ta,Tc,Td] at hlen)
     conv=>whnf
     refine ⟨_,by decide,rfl,?_⟩
     conv=>whnf
     refine ⟨l,exW 0 (.mk o0 t0 n0 y0 q0),rfl,⟨(by first | exact .inl rfl | exact .inr rfl),rfl,rfl⟩,⟨pl,(.mk o0 t0 n0 y0 q0),0,rfl,⟨g0,by omega,by omega,by omega,by omega⟩,rfl⟩,by (try simp only [Ta,Tc,Td]);omega,?_⟩
     conv=>whnf
     refine Or.inl ⟨InR.u8 (by decide) (by decide),?_⟩
     conv=>whnf
     refine ⟨by decide,by decide,?_⟩
     conv=>whnf
     refine ⟨l++exW 0 (.mk o0 t0 n0 y0 q0),([32,61,32]++[115,117,109]),rfl,⟨(by first | exact .inl rfl | exact .inr rfl),rfl,rfl⟩,⟨[[32,61,32],[115,117,109]],rfl,by simp,by simp,by simp⟩,by (try simp only [Ta,Tc,Td]);omega,?_⟩
     conv=>whnf
     refine ⟨fun r hr=>?_,by decide,by rw [Zf];simp,?_⟩
     ·exact m97
     conv=>whnf
     refine ⟨_,by decide,rfl,?_⟩
     conv=>whnf
     refine ⟨l++exW 0 (.mk o0 t0 n0 y0 q0)++([32,61,32]++[115,117,109]),[32],rfl,⟨(by first | exact .inl rfl | exact .inr rfl),rfl,rfl⟩,⟨[[32]],rfl,by simp,by simp,by simp⟩,by (try simp only [Ta,Tc,Td]);omega,?_⟩
     conv=>whnf
     refine ⟨l++exW 0 (.mk o0 t0 n0 y0 q0)++([32,61,32]++[115,117,109])++[32],exW 0 (.mk o1 t1 n1 y1 q1),rfl,⟨(by first | exact .inl rfl | exact .inr rfl),rfl,rfl⟩,⟨pl,(.mk o1 t1 n1 y1 q1),0,rfl,⟨g1,by omega,by omega,by omega,by omega⟩,rfl⟩,by (try simp only [Ta,Tc,Td]);omega,?_⟩
     conv=>whnf
     refine oiD ?_
     conv=>whnf
     refine ⟨l++exW 0 (.mk o0 t0 n0 y0 q0)++([32,61,32]++[115,117,109])++[32]++exW 0 (.mk o1 t1 n1 y1 q1),[32,58,32,123,32],rfl,⟨(by first | exact .inl rfl | exact .inr rfl),rfl,rfl⟩,⟨[[32,58,32,123,32]],rfl,by simp,by simp,by simp⟩,by (try simp only [Ta,Tc,Td]);omega,?_⟩
     conv=>whnf
     refine ⟨by omega,l++exW 0 (.mk o0 t0 n0 y0 q0)++([32,61,32]++[115,117,109])++[32]++exW 0 (.mk o1 t1 n1 y1 q1)++[32,58,32,123,32],pl,body,rfl,Zp pl body,⟨rfl,rfl,rfl,rfl⟩,⟨Tl.2 m3,by omega,by omega⟩,(by (try simp only [Ta,Tc,Td]);show _+(Zg cmm (body.map liT)).length<_;omega),?_⟩
     conv=>whnf
     refine ⟨l++exW 0 (.mk o0 t0 n0 y0 q0)++([32,61,32]++[115,117,109])++[32]++exW 0 (.mk o1 t1 n1 y1 q1)++[32,58,32,123,32]++Zg cmm (body.map liT),[32,125],rfl,⟨(by first | exact .inl rfl | exact .inr rfl),rfl,rfl⟩,⟨[[32,125]],rfl,by simp,by simp,by simp⟩,by (try simp only [Ta,Tc,Td]);omega,?_⟩
     rw [show l++(exW 0 (.mk o0 t0 n0 y0 q0)++(([32,61,32]++[115,117,109])++([32]++(exW 0 (.mk o1 t1 n1 y1 q1)++([32,58,32,123,32]++(Zg cmm (body.map liT)++([32,125])))))))=l++exW 0 (.mk o0 t0 n0 y0 q0)++([32,61,32]++[115,117,109])++[32]++exW 0 (.mk o1 t1 n1 y1 q1)++[32,58,32,123,32]++Zg cmm (body.map liT)++[32,125] by simp only [Tg]] at h
     conv=>whnf
     exact h
   ·rcases hp with rfl | rfl
    all_goals
     have hx:liT (.mk 11 [] [(.mk o0 t0 n0 y0 q0),(.mk o1 t1 n1 y1 q1)] body at')=exW 0 (.mk o0 t0 n0 y0 q0)++(([32,61,32]++[109,105,110])++([32]++(exW 0 (.mk o1 t1 n1 y1 q1)++([32,58,32,123,32]++(Zg cmm (body.map liT)++([32,125])))))):=by rw [liT,ZeF,VC,VC];simp [Ziy,Zlv,JO]
     rw [hx] at h hlen
     (try simp only [Ta,Tc,Td] at hlen)
     conv=>whnf
     refine ⟨_,by decide,rfl,?_⟩
     conv=>whnf
     refine ⟨l,exW 0 (.mk o0 t0 n0 y0 q0),rfl,⟨(by first | exact .inl rfl | exact .inr rfl),rfl,rfl⟩,⟨pl,(.mk o0 t0 n0 y0 q0),0,rfl,⟨g0,by omega,by omega,by omega,by omega⟩,rfl⟩,by (try simp only [Ta,Tc,Td]);omega,?_⟩
     conv=>whnf
     refine Or.inl ⟨InR.u8 (by decide) (by decide),?_⟩
     conv=>whnf
     refine ⟨by decide,by decide,?_⟩
     conv=>whnf
     refine ⟨l++exW 0 (.mk o0 t0 n0 y0 q0),([32,61,32]++[109,105,110]),rfl,⟨(by first | exact .inl rfl | exact .inr rfl),rfl,rfl⟩,⟨[[32,61,32],[109,105,110]],rfl,by simp,by simp,by simp⟩,by (try simp only [Ta,Tc,Td]);omega,?_⟩
     conv=>whnf
     refine ⟨fun r hr=>?_,by decide,by rw [Zf];simp,?_⟩
     ·exact m97
     conv=>whnf
     refine ⟨_,by decide,rfl,?_⟩
     conv=>whnf
     refine ⟨l++exW 0 (.mk o0 t0 n0 y0 q0)++([32,61,32]++[109,105,110]),[32],rfl,⟨(by first | exact .inl rfl | exact .inr rfl),rfl,rfl⟩,⟨[[32]],rfl,by simp,by simp,by simp⟩,by (try simp only [Ta,Tc,Td]);omega,?_⟩
     conv=>whnf
     refine ⟨l++exW 0 (.mk o0 t0 n0 y0 q0)++([32,61,32]++[109,105,110])++[32],exW 0 (.mk o1 t1 n1 y1 q1),rfl,⟨(by first | exact .inl rfl | exact .inr rfl),rfl,rfl⟩,⟨pl,(.mk o1 t1 n1 y1 q1),0,rfl,⟨g1,by omega,by omega,by omega,by omega⟩,rfl⟩,by (try simp only [Ta,Tc,Td]);omega,?_⟩
     conv=>whnf
     refine oiD ?_
     conv=>whnf
     refine ⟨l++exW 0 (.mk o0 t0 n0 y0 q0)++([32,61,32]++[109,105,110])++[32]++exW 0 (.mk o1 t1 n1 y1 q1),[32,58,32,123,32],rfl,⟨(by first | exact .inl rfl | exact .inr rfl),rfl,rfl⟩,⟨[[32,58,32,123,32]],rfl,by simp,by simp,by simp⟩,by (try simp only [Ta,Tc,Td]);omega,?_⟩
     conv=>whnf
     refine ⟨by omega,l++exW 0 (.mk o0 t0 n0 y0 q0)++([32,61,32]++[109,105,110])++[32]++exW 0 (.mk o1 t1 n1 y1 q1)++[32,58,32,123,32],pl,body,rfl,Zp pl body,⟨rfl,rfl,rfl,rfl⟩,⟨Tl.2 m3,by omega,by omega⟩,(by (try simp only [Ta,Tc,Td]);show _+(Zg cmm (body.map liT)).length<_;omega),?_⟩
     conv=>whnf
     refine ⟨l++exW 0 (.mk o0 t0 n0 y0 q0)++([32,61,32]++[109,105,110])++[32]++exW 0 (.mk o1 t1 n1 y1 q1)++[32,58,32,123,32]++Zg cmm (body.map liT),[32,125],rfl,⟨(by first | exact .inl rfl | exact .inr rfl),rfl,rfl⟩,⟨[[32,125]],rfl,by simp,by simp,by simp⟩,by (try simp only [Ta,Tc,Td]);omega,?_⟩
     rw [show l++(exW 0 (.mk o0 t0 n0 y0 q0)++(([32,61,32]++[109,105,110])++([32]++(exW 0 (.mk o1 t1 n1 y1 q1)++([32,58,32,123,32]++(Zg cmm (body.map liT)++([32,125])))))))=l++exW 0 (.mk o0 t0 n0 y0 q0)++([32,61,32]++[109,105,110])++[32]++exW 0 (.mk o1 t1 n1 y1 q1)++[32,58,32,123,32]++Zg cmm (body.map liT)++[32,125] by simp only [Tg]] at h
     conv=>whnf
     exact h
   ·rcases hp with rfl | rfl
    all_goals
     have hx:liT (.mk 12 [] [(.mk o0 t0 n0 y0 q0),(.mk o1 t1 n1 y1 q1)] body at')=exW 0 (.mk o0 t0 n0 y0 q0)++(([32,61,32]++[109,97,120])++([32]++(exW 0 (.mk o1 t1 n1 y1 q1)++([32,58,32,123,32]++(Zg cmm (body.map liT)++([32,125])))))):=by rw [liT,ZeF,VC,VC];simp [Ziy,Zlv,JO]
     rw [hx] at h hlen
     (try simp only [Ta,Tc,Td] at hlen)
     conv=>whnf
     refine ⟨_,by decide,rfl,?_⟩
     conv=>whnf
     refine ⟨l,exW 0 (.mk o0 t0 n0 y0 q0),rfl,⟨(by first | exact .inl rfl | exact .inr rfl),rfl,rfl⟩,⟨pl,(.mk o0 t0 n0 y0 q0),0,rfl,⟨g0,by omega,by omega,by omega,by omega⟩,rfl⟩,by (try simp only [Ta,Tc,Td]);omega,?_⟩
     conv=>whnf
     refine Or.inl ⟨InR.u8 (by decide) (by decide),?_⟩
     conv=>whnf
     refine ⟨by decide,by decide,?_⟩
     conv=>whnf
     refine ⟨l++exW 0 (.mk o0 t0 n0 y0 q0),([32,61,32]++[109,97,120]),rfl,⟨(by first | exact .inl rfl | exact .inr rfl),rfl,rfl⟩,⟨[[32,61,32],[109,97,120]],rfl,by simp,by simp,by simp⟩,by (try simp only [Ta,Tc,Td]);omega,?_⟩
     conv=>whnf
     refine ⟨fun r hr=>?_,by decide,by rw [Zf];simp,?_⟩
     ·exact m97
     conv=>whnf
     refine ⟨_,by decide,rfl,?_⟩
     conv=>whnf
     refine ⟨l++exW 0 (.mk o0 t0 n0 y0 q0)++([32,61,32]++[109,97,120]),[32],rfl,⟨(by first | exact .inl rfl | exact .inr rfl),rfl,rfl⟩,⟨[[32]],rfl,by simp,by simp,by simp⟩,by (try simp only [Ta,Tc,Td]);omega,?_⟩
     conv=>whnf
     refine ⟨l++exW 0 (.mk o0 t0 n0 y0 q0)++([32,61,32]++[109,97,120])++[32],exW 0 (.mk o1 t1 n1 y1 q1),rfl,⟨(by first | exact .inl rfl | exact .inr rfl),rfl,rfl⟩,⟨pl,(.mk o1 t1 n1 y1 q1),0,rfl,⟨g1,by omega,by omega,by omega,by omega⟩,rfl⟩,by (try simp only [Ta,Tc,Td]);omega,?_⟩
     conv=>whnf
     refine oiD ?_
     conv=>whnf
     refine ⟨l++exW 0 (.mk o0 t0 n0 y0 q0)++([32,61,32]++[109,97,120])++[32]++exW 0 (.mk o1 t1 n1 y1 q1),[32,58,32,123,32],rfl,⟨(by first | exact .inl rfl | exact .inr rfl),rfl,rfl⟩,⟨[[32,58,32,123,32]],rfl,by simp,by simp,by simp⟩,by (try simp only [Ta,Tc,Td]);omega,?_⟩
     conv=>whnf
     refine ⟨by omega,l++exW 0 (.mk o0 t0 n0 y0 q0)++([32,61,32]++[109,97,120])++[32]++exW 0 (.mk o1 t1 n1 y1 q1)++[32,58,32,123,32],pl,body,rfl,Zp pl body,⟨rfl,rfl,rfl,rfl⟩,⟨Tl.2 m3,by omega,by omega⟩,(by (try simp only [Ta,Tc,Td]);show _+(Zg cmm (body.map liT)).length<_;omega),?_⟩
     conv=>whnf
     refine ⟨l++exW 0 (.mk o0 t0 n0 y0 q0)++([32,61,32]++[109,97,120])++[32]++exW 0 (.mk o1 t1 n1 y1 q1)++[32,58,32,123,32]++Zg cmm (body.map liT),[32,125],rfl,⟨(by first | exact .inl rfl | exact .inr rfl),rfl,rfl⟩,⟨[[32,125]],rfl,by simp,by simp,by simp⟩,by (try simp only [Ta,Tc,Td]);omega,?_⟩
     rw [show l++(exW 0 (.mk o0 t0 n0 y0 q0)++(([32,61,32]++[109,97,120])++([32]++(exW 0 (.mk o1 t1 n1 y1 q1)++([32,58,32,123,32]++(Zg cmm (body.map liT)++([32,125])))))))=l++exW 0 (.mk o0 t0 n0 y0 q0)++([32,61,32]++[109,97,120])++[32]++exW 0 (.mk o1 t1 n1 y1 q1)++[32,58,32,123,32]++Zg cmm (body.map liT)++[32,125] by simp only [Tg]] at h
     conv=>whnf
     exact h
 ·exact h.elim
theorem cWA (hN:NumOK w0 nG) (hL:LexC w0 nG) (n:Nat):PCalls (GG w0 nG) 76 (ZrT n):=ZsZ (cWE hN hL n)
theorem ZpR {n:Nat} (h:PCalls (GG w0 nG) 111 (Zxn n)):PCalls (GG w0 nG) 110 (ZiI n):=Zzq ⟨⟨Zpm,Uw⟩,⟨h,ZpQ n⟩,trivial⟩
theorem cWL (hN:NumOK w0 nG) (hL:LexC w0 nG):∀n,PCalls (GG w0 nG) 111 (Zxn n)
 | 0=>Zzs ⟨⟨ZaA,Xc⟩,⟨cWA hN hL 0,JS 0⟩,⟨cWE hN hL 0,Uy 0⟩,⟨ZK (Zh Tryz.func110 (by kernel_rfl) rfl),Zy ZcD _⟩,trivial⟩
 | n+1=>Zzs ⟨⟨ZaA,Xc⟩,⟨cWA hN hL (n+1),JS _⟩,⟨cWE hN hL (n+1),Uy _⟩,⟨ZL (sp:=ZiI) (ZpR (cWL hN hL n)),Zy ZcD _⟩,trivial⟩
def Zzt (r:Ru):Bool:=XF r && ZbR r
theorem Zwu {r:Ru} (h:Zzt r=true):(∀x∈r.args,Zja x=true)∧∀x∈r.body,Zr5 x=true:=by
 simp only [Zzt,XF,ZbR,Tk] at h
 obtain ⟨⟨_,h1,h2⟩,h3,h4⟩:=h
 rw [Tl] at h1 h2 h3 h4
 exact ⟨fun x hx=>by rw [Zja,h1 x hx,h3 x hx];rfl,fun x hx=>by rw [Zr5,h2 x hx,h4 x hx];rfl⟩
noncomputable def Zzu (n:Nat):ZA:=Zi9 (.tuple []) fun rest txt=>∃pl x,rest=[Xk ZI pl x]∧(Zzt x=true∧wRu x≤n∧n≤1073741824)∧txt=ruT x
theorem ZiJ (n:Nat):Zc (Zzu n):=Vw _ _
noncomputable def Zzv (n:Nat):Tbl:=[(75,Zfp),(76,ZrT n),(110,ZiI n)]
theorem ZBL {n:Nat} (ht:TblOK (GG w0 nG) (Zzv n)):PCalls (GG w0 nG) 64 (Zzu n):=by
 refine pc ht Tryz.func64 ?_
 intro args σ K h
 unfold Zzu Zi9 at h
 split at h
 ·rename_i rest t p e rows
  obtain ⟨l,txt,rfl,⟨hp,rfl,rfl⟩,⟨pl,⟨head,xs,body,at'⟩,rfl,⟨hmay,hz,hn⟩,rfl⟩,hlen,h⟩:=h
  obtain ⟨m2,m3⟩:=Zwu hmay
  simp only at m2 m3
  have hzx:szS wE xs+szS wL body+head.length+1≤n:=by unfold wRu at hz;simp only at hz;omega
  have hbl:(Zfj pl body).length=body.length:=by rw [Zp,Te]
  refine ⟨Za [],1,true,by simp,Tb rfl,?_⟩
  have hl0:l.length+head.length+(Wl [40] [41] xs).length+10<70368744177664+10:=by
   have e:(ruT ⟨head,xs,body,at'⟩).length≥head.length+(Wl [40] [41] xs).length:=by rw [ruT];simp only [Ta];omega
   omega
  rcases hp with rfl | rfl
  all_goals
   conv=>whnf
   refine ⟨l,head,rfl,⟨(by first | exact .inl rfl | exact .inr rfl),rfl,rfl⟩,⟨[head],rfl,by simp,by simp,by simp⟩,by (try simp only [Ta,Tc,Td]);omega,?_⟩
   conv=>whnf
   refine ⟨l++head,Wl [40] [41] xs,rfl,⟨(by first | exact .inl rfl | exact .inr rfl),rfl,rfl⟩,⟨[40],[41],pl,xs,rfl,⟨Tl.2 m2,by omega,by omega⟩,rfl⟩,by (try simp only [Ta,Tc,Td]);omega,?_⟩
   conv=>whnf
   refine ZCX (fun c=>?_) (fun c=>?_)
   ·have c:0<body.length:=by have c:((Zfj pl body).length:Int)>0:=c;omega
    have hx:ruT ⟨head,xs,body,at'⟩=head++(Wl [40] [41] xs++([32,58,45,32]++(Zg cmm (body.map liT)++[46]))):=by rw [ruT,Th c,ZeF];simp
    rw [hx] at h hlen
    simp only [Ta,Tc,Td] at hlen
    conv=>whnf
    refine ⟨l++head++Wl [40] [41] xs,[32,58,45,32],rfl,⟨(by first | exact .inl rfl | exact .inr rfl),rfl,rfl⟩,⟨[[32,58,45,32]],rfl,by simp,by simp,by simp⟩,by (try simp only [Ta,Tc,Td]);omega,?_⟩
    conv=>whnf
    refine ⟨l++head++Wl [40] [41] xs++[32,58,45,32],pl,body,rfl,Zp pl body,⟨rfl,rfl,rfl,rfl⟩,⟨Tl.2 m3,by omega,by omega⟩,(by (try simp only [Ta,Tc,Td]);show _+(Zg cmm (body.map liT)).length<_;omega),?_⟩
    conv=>whnf
    refine ⟨l++head++Wl [40] [41] xs++[32,58,45,32]++Zg cmm (body.map liT),[46],rfl,⟨(by first | exact .inl rfl | exact .inr rfl),rfl,rfl⟩,⟨[[46]],rfl,by simp,by simp,by simp⟩,by (try simp only [Ta,Tc,Td]);omega,?_⟩
    simp only [← Tg] at h
    exact m35
   ·have c:¬0<body.length:=by have c:¬((Zfj pl body).length:Int)>0:=c;omega
    have hx:ruT ⟨head,xs,body,at'⟩=head++(Wl [40] [41] xs++[46]):=by rw [ruT,Tf c,To]
    rw [hx] at h hlen
    simp only [Ta,Tc,Td] at hlen
    conv=>whnf
    refine ⟨l++head++Wl [40] [41] xs,[46],rfl,⟨(by first | exact .inl rfl | exact .inr rfl),rfl,rfl⟩,⟨[[46]],rfl,by simp,by simp,by simp⟩,by (try simp only [Ta,Tc,Td]);omega,?_⟩
    simp only [← Tg] at h
    exact m35
 ·exact h.elim
theorem cWR (hN:NumOK w0 nG) (hL:LexC w0 nG) (n:Nat):PCalls (GG w0 nG) 64 (Zzu n):=ZBL ⟨⟨ZaA,Xc⟩,⟨cWA hN hL n,JS n⟩,⟨ZpR (cWL hN hL n),ZcD n⟩,trivial⟩
end Go.PM.Lex
end

section
namespace Go.PM.Lex
def ruK (r:Ru):Ts:=nmT r.head::(brK [40] [41] (r.args.map exK)++((if 0<r.body.length then sgT [58,45]::Ya [44] (r.body.map liK) else [])++[sgT [46]]))
theorem ZdD {r:Ru} (h:XF r=true):YF r.head=true∧(∀x∈r.args,Z7 x=true)∧∀x∈r.body,Xj x=true:=by
 simp only [XF,Tk] at h
 exact ⟨h.1,Tl.1 h.2.1,Tl.1 h.2.2⟩
theorem ZpS {x:Ru} (h:XF x=true) (d:Nat) (r:Ts):Rd ZfT x r (ZjL d true (ruK x++r)):=by
 obtain ⟨h1,h2,h3⟩:=ZdD h
 obtain ⟨hd',args,body,a⟩:=x
 simp only at h1 h2 h3
 rw [ZjL,ruK]
 simp only [Tm,Tg]
 rw [YB h1,R.bind_ok]
 refine (ZbY (by decide) h2 fun hd x hx t ht=>ZlI (h2 x hx) hd ht).bind fun l' e=>?_
 by_cases hb:0<body.length
 ·rw [Th hb]
  simp only [Tm,Tg,To]
  rw [Th ⟨trivial,W2 _ _⟩,TJ]
  refine (ZeV (T8.1 hb) (Zai (by decide) r) (Zu r (by decide)) fun z hz t ht=>Zr4 (h3 z hz) ht).bind fun b' eb=>?_
  rw [XI,R.bind_ok]
  exact Rd.ok (by simp [ZfT,e,eb])
 ·obtain rfl:body=[]:=TA (by omega)
  rw [Tf hb]
  simp only [To]
  rw [Tf (by rw [Zu _ (by decide)];simp),XI,R.bind_ok]
  exact Rd.ok (by simp [ZfT,e])
def fiK (f:Fi):Ts:=[nmT f.name,sgT [58],nmT f.typ]
def Zs5 (fr:Bs) (l:List Fi) (fin:Bs):Ts:=sgT fr::(Ya [44] (l.map fiK)++[sgT fin])
theorem ZgT {f:Fi} (h:YY f=true):YF f.name=true∧YF f.typ=true:=by simpa [YY] using h
theorem Znf {f:Fi} (h:YY f=true) (r:Ts):Rd (fun x:Fi=>x) f r (Uq (fiK f++r)):=by
 obtain ⟨h1,h2⟩:=ZgT h
 obtain ⟨nm,ty⟩:=f
 simp only [Uq,fiK,Tm,To]
 rw [YB h1,R.bind_ok,XI,R.bind_ok,YB h2,R.bind_ok]
 exact ZDc
theorem Rd.idl {α:Type} {l:List α} {r:Ts} {x:R (List α)} (h:Rd (List.map fun x:α=>x) l r x):Rd (fun x:List α=>x) l r x:=by
 rcases h with ⟨v,e,h⟩ | h
 ·exact .inl ⟨v,by simpa using e,h⟩
 ·exact .inr h
theorem Zba {l:List Fi} (h:∀f∈l,YY f=true) {fin:Bs} (hfin:fin∈[[41],[93],[125]]) (r:Ts):Rd (fun x:List Fi=>x) l (sgT fin::r) (JG fin (Ya [44] (l.map fiK)++(sgT fin::r))):=by
 have hk:∀w∈[[41],[93],[125]],YF w=false∧w≠[44]:=by decide +kernel
 obtain ⟨k1,k2⟩:=hk fin hfin
 unfold JG
 cases l with
 | nil =>
  simp only [TG,Ya,To]
  rw [Th (W2 _ _)]
  exact ZDc
 | cons f fs =>
  have hf:isW (Ya [44] ((f::fs).map fiK)++(sgT fin::r)) [fin]=false:=ZeS (ZgT (h f (by simp))).1 k1 _
  rw [Tf (by rw [hf];simp)]
  exact (UC (fun _=>True) (fun _=>trivial) trivial (Zu r (by simpa [sgT] using k2)) (by simp) fun y hy t _=>Znf (h y hy) t).idl
def Zr6 (l:List Bs):Ts:=if l.length=0 then [] else sgT [60]::(Ya [44] (l.map fun s=>[nmT s])++[sgT [62]])
theorem Zab {l:List Bs} (h:∀s∈l,YF s=true) {r:Ts} (hr:isW r [[60]]=false):Rd (fun x:List Bs=>x) l r (ZcY (Zr6 l++r)):=by
 unfold ZcY Zr6
 by_cases hl:l.length=0
 ·obtain rfl:=TA hl
  rw [Th hl,To,Tf (by rw [hr];simp)]
  exact ZDc
 ·rw [Tf hl]
  simp only [Tm,Tg,To]
  rw [Th (W2 _ _),TJ]
  refine (UC (er:=fun x:Bs=>x) (K:=fun s=>[nmT s]) (fun _=>True) (fun _=>trivial) trivial (Zu r (by decide)) (fun e=>hl (by rw [e];rfl)) fun y hy t _=>?_).idl.binds ?_
  ·rw [Tm,To,YB (h y hy)];exact ZDc
  ·rw [XI,R.bind_ok];exact ZDc
def Zng:List Bs:=[[116,121,112,101],[100,101,99,108],[99,111,109,112],[105,110,105,116],[111,118,101,114,114,105,100,101]]
def IHd (r:Ts):Prop:=r=[]∨(∃l,r=sgT [125]::l)∨(∃w l,w∈Zng∧r=nmT w::l)∨∃s l,YF s=true∧r=nmT s::l
theorem ZeW {r:Ts} (h:IHd r) {w:Bs} (hw:YF w=false∧w≠[125]∧w∉Zng):isW r [w]=false:=by
 rcases h with rfl | ⟨l,rfl⟩ | ⟨v,l,hv,rfl⟩ | ⟨s,l,hs,rfl⟩
 ·exact Zuv _
 ·exact Zu l fun e=>hw.2.1 e.symm
 ·exact Zu l fun e=>hw.2.2 (by have e:v=w:=e;rwa [← e])
 ·exact ZeS hs hw.1 l
theorem JU:∀w∈[[124],[60],[105,110,112,117,116],[111,117,116,112,117,116],[105,110,108,105,110,101]],YF w=false∧w≠[125]∧w∉Zng:=by decide +kernel
def caK (c:Ca):Ts:=nmT c.name::Zs5 [123] c.fields [125]
theorem ZgU {c:Ca} (h:XN c=true):YF c.name=true∧∀f∈c.fields,YY f=true:=by
 simp only [XN,Tk] at h
 exact ⟨h.1,Tl.1 h.2⟩
theorem ZpT {c:Ca} (h:XN c=true) (r:Ts):Rd (fun x:Ca=>x) c r (Zcm (caK c++r)):=by
 obtain ⟨h1,h2⟩:=ZgU h
 obtain ⟨nm,l⟩:=c
 simp only [Zcm,caK,Zs5,Tm,To,Tg]
 rw [YB h1,R.bind_ok,XI,R.bind_ok]
 refine (Zba h2 (by decide) r).binds ?_
 rw [XI,R.bind_ok]
 exact ZDc
def tyK (t:Ty):Ts:=nmT [116,121,112,101]::nmT t.name::(if t.kind=1 then [sgT [60,58],nmT t.base] else if t.kind=2 then sgT [61]::Zs5 [91] t.fields [93] else sgT [61]::Ya [124] (t.cases.map caK))
theorem ZgV {t:Ty} (h:YH t=true):YF t.name=true∧(∀f∈t.fields,YY f=true)∧(∀c∈t.cases,XN c=true) ∧
  ((t.kind=1∧YF t.base=true∧t.fields=[]∧t.cases=[])∨(t.kind=2∧t.base=[]∧t.cases=[])∨(t.kind=3∧t.base=[]∧t.fields=[]∧t.cases≠[])):=by
 simp only [YH,Tk] at h
 obtain ⟨h1,h2,h3,h4⟩:=h
 refine ⟨h2,Tl.1 h3,Tl.1 h4,?_⟩
 unfold Zc9 at h1
 split at h1
 ·rename_i c
  simp only [Tk,TT] at h1
  exact .inl ⟨c,h1.1,TA h1.2.1,TA h1.2.2⟩
 ·split at h1
  ·rename_i c
   simp only [Tk,TT] at h1
   exact .inr (.inl ⟨c,h1.1,TA h1.2⟩)
  ·split at h1
   ·rename_i c
    simp only [Tk,TT,TZ,decide_eq_false_iff_not] at h1
    exact .inr (.inr ⟨c,h1.1,TA h1.2.1,fun e=>h1.2.2 (by rw [e];rfl)⟩)
   ·cases h1
theorem Znh {t:Ty} (h:YH t=true) {r:Ts} (hr:IHd r):Rd ZmT t r (Zee ((tyK t).tail++r)):=by
 obtain ⟨h1,h2,h3,h4⟩:=ZgV h
 obtain ⟨kind,nm,base,fields,cases,a⟩:=t
 simp only at h1 h2 h3 h4
 simp only [Zee,tyK,TJ,Tm]
 rw [YB h1,R.bind_ok]
 rcases h4 with ⟨rfl,hb,rfl,rfl⟩ | ⟨rfl,rfl,rfl⟩ | ⟨rfl,rfl,rfl,hc⟩
 ·simp only [if_true,Tm,To]
  rw [Th (W2 _ _),TJ,YB hb,R.bind_ok]
  exact Rd.ok rfl
 ·simp only [show ((2:Nat)=1)=False by simp,if_false,if_true,Tm,To,Zs5,Tg]
  rw [Tf (by rw [Zu _ (by decide)];simp),XI,R.bind_ok,Th (W2 _ _),TJ]
  refine (Zba h2 (by decide) r).binds ?_
  rw [XI,R.bind_ok]
  exact Rd.ok rfl
 ·simp only [show ((3:Nat)=1)=False by simp,show ((3:Nat)=2)=False by simp,if_false,Tm,To]
  rw [Tf (by rw [Zu _ (by decide)];simp),XI,R.bind_ok]
  have hf:isW (Ya [124] (cases.map caK)++r) [[91]]=false:=by
   match cases,hc with
   | c::cs,_=>exact ZeS (ZgU (h3 c (by simp))).1 (by decide +kernel) _
  rw [Tf (by rw [hf];simp)]
  refine (UC (er:=fun x:Ca=>x) (fun _=>True) (fun _=>trivial) trivial (ZeW hr (JU _ (by decide))) hc fun y hy t _=>ZpT (h3 y hy) t).idl.binds ?_
  exact Rd.ok rfl
def ZlJ (i o n:Bool):Ts:=(if i then [nmT [105,110,112,117,116]] else [])++((if o then [nmT [111,117,116,112,117,116]] else [])++(if n then [nmT [105,110,108,105,110,101]] else []))
theorem Zni (i o n:Bool) {r:Ts} (hr:IHd r):Xo 4 false false false (ZlJ i o n++r)=((i,o,n),r):=by
 have h1:=ZeW hr (JU [105,110,112,117,116] (by decide))
 have h2:=ZeW hr (JU [111,117,116,112,117,116] (by decide))
 have h3:=ZeW hr (JU [105,110,108,105,110,101] (by decide))
 have a1:∀t:Ts,isW (nmT [105,110,112,117,116]::t) [[105,110,112,117,116]]=true:=fun t=>Zdd _ t
 have a2:∀t:Ts,isW (nmT [111,117,116,112,117,116]::t) [[111,117,116,112,117,116]]=true:=fun t=>Zdd _ t
 have a3:∀t:Ts,isW (nmT [105,110,108,105,110,101]::t) [[105,110,108,105,110,101]]=true:=fun t=>Zdd _ t
 have b1:∀t:Ts,isW (nmT [111,117,116,112,117,116]::t) [[105,110,112,117,116]]=false:=fun t=>Zu t (by decide)
 have b2:∀t:Ts,isW (nmT [105,110,108,105,110,101]::t) [[105,110,112,117,116]]=false:=fun t=>Zu t (by decide)
 have b3:∀t:Ts,isW (nmT [105,110,108,105,110,101]::t) [[111,117,116,112,117,116]]=false:=fun t=>Zu t (by decide)
 cases i <;> cases o <;> cases n <;> simp [ZlJ,Xo,h1,h2,h3,a1,a2,a3,b1,b2,b3]
def reK (d:Re):Ts:=nmT [100,101,99,108]::nmT d.name::(Zs5 [40] d.fields [41]++ZlJ d.inn d.out d.inl)
theorem ZpU {d:Re} (h:X3 d=true) {r:Ts} (hr:IHd r):Rd ZmU d r (ZjK ((reK d).tail++r)):=by
 simp only [X3,Tk] at h
 obtain ⟨h1,h2⟩:=h
 have h2:=Tl.1 h2
 obtain ⟨nm,fields,i,o,n,a⟩:=d
 simp only at h1 h2
 simp only [ZjK,reK,TJ,Tm,Zs5,Tg,To]
 rw [YB h1,R.bind_ok,XI,R.bind_ok]
 refine (Zba h2 (by decide) _).binds ?_
 rw [XI,R.bind_ok,Zni i o n hr]
 exact Rd.ok rfl
def inK (i:Ini):Ts:=nmT [105,110,105,116]::nmT i.name::sgT [61]::nmT i.comp::Zr6 i.types
theorem ZpV {i:Ini} (h:Wd i=true) {r:Ts} (hr:IHd r):Rd ZmV i r (ZjM ((inK i).tail++r)):=by
 simp only [Wd,Tk] at h
 obtain ⟨h1,h2,h3⟩:=h
 have h3:=Tl.1 h3
 obtain ⟨nm,c,ty,a⟩:=i
 simp only at h1 h2 h3
 simp only [ZjM,inK,TJ,Tm]
 rw [YB h1,R.bind_ok,XI,R.bind_ok,YB h2,R.bind_ok]
 refine (Zab h3 (ZeW hr (JU _ (by decide)))).binds ?_
 exact Rd.ok rfl
def ovK (o:Ov):Ts:=[nmT [111,118,101,114,114,105,100,101],nmT o.rel]
theorem ZpW {o:Ov} (h:WY o=true) (r:Ts):Rd ZmW o r (ZjN ((ovK o).tail++r)):=by
 obtain ⟨rel,a⟩:=o
 have h:YF rel=true:=h
 simp only [ZjN,ovK,TJ,Tm,To]
 rw [YB h,R.bind_ok]
 exact Rd.ok rfl
mutual
def unK:Un→Ts
 | .mk tys rels rules comps inits overs=>(tys.map tyK).flatten++((rels.map reK).flatten++((Zwv comps).flatten++((inits.map inK).flatten++((overs.map ovK).flatten++(rules.map ruK).flatten))))
def coK:Co→Ts
 | .mk nm ps base tys u _=>nmT [99,111,109,112]::nmT nm::(Zr6 ps++((if base=[] then [] else sgT [58]::nmT base::Zr6 tys)++(sgT [123]::(unK u++[sgT [125]]))))
def Zwv:List Co→List Ts
 | []=>[]
 | c::l=>coK c::Zwv l
end
theorem Zww (l:List Co):Zwv l=l.map coK:=by induction l with | nil=>rfl | cons x l ih=>simp [Zwv,ih]
theorem Zzw (tys:List Ty) (rels:List Re) (rules:List Ru) (comps:List Co) (inits:List Ini) (overs:List Ov):unK (.mk tys rels rules comps inits overs)=(tys.map tyK).flatten++((rels.map reK).flatten++((comps.map coK).flatten++((inits.map inK).flatten++((overs.map ovK).flatten++(rules.map ruK).flatten)))):=by rw [unK,Zww]
theorem ZiK (nm:Bs) (ps:List Bs) (base:Bs) (tys:List Bs) (u:Un) (a:Nat):coK (.mk nm ps base tys u a)=nmT [99,111,109,112]::nmT nm::(Zr6 ps++((if base=[] then [] else sgT [58]::nmT base::Zr6 tys)++(sgT [123]::(unK u++[sgT [125]])))):=by rw [coK]
theorem Zkn {tys:List Ty} {rels:List Re} {rules:List Ru} {comps:List Co} {inits:List Ini} {overs:List Ov} (h:Zbh (.mk tys rels rules comps inits overs)=true) :
  (∀x∈tys,YH x=true)∧(∀x∈rels,X3 x=true)∧(∀x∈rules,XF x=true)∧(∀x∈comps,Yr x=true)∧(∀x∈inits,Wd x=true)∧∀x∈overs,WY x=true:=by
 simp only [Zbh,Vt,Tk] at h
 obtain ⟨h1,h2,h3,h4,h5,h6⟩:=h
 exact ⟨Tl.1 h1,Tl.1 h2,Tl.1 h3,Tl.1 h4,Tl.1 h5,Tl.1 h6⟩
theorem ZdE {nm:Bs} {ps:List Bs} {base:Bs} {tys:List Bs} {u:Un} {a:Nat} (h:Yr (.mk nm ps base tys u a)=true):YF nm=true∧(∀x∈ps,YF x=true)∧(∀x∈tys,YF x=true)∧((base=[]∧tys=[])∨YF base=true)∧Zbh u=true:=by
 simp only [Yr,Tk,Sr,TT] at h
 obtain ⟨h1,h2,h3,h4,h5⟩:=h
 refine ⟨h1,Tl.1 h2,Tl.1 h3,?_,h5⟩
 rcases h4 with ⟨e1,e2⟩ | h4
 ·exact .inl ⟨e1,TA e2⟩
 ·exact .inr h4
theorem Zzx {s:Bs} (h:YF s=true):s≠[]:=fun e=>by subst e;revert h;decide +kernel
theorem ZpX {c:Co} {d:Nat} {un:Ts→R Un} (h:Yr c=true) {r:Ts} (hun:∀nm ps base tys u a,c=.mk nm ps base tys u a→d≠0→∀r,Rd UI u (sgT [125]::r) (un (unK u++(sgT [125]::r)))):Rd Zfn c r (Zh1 d un ((coK c).tail++r)):=by
 obtain ⟨nm,ps,base,tys,u,a⟩:=c
 obtain ⟨h1,h2,h3,h4,h5⟩:=ZdE h
 have hb:Rd UI u r (Zq d [123] [125] un (sgT [123]::(unK u++(sgT [125]::r)))):=Wy (by decide) fun hd=>hun _ _ _ _ _ _ rfl hd r
 rw [ZiK]
 simp only [Zh1,TJ,Tm,Tg,To]
 rw [YB h1,R.bind_ok]
 by_cases hbase:base=[]
 ·obtain rfl:tys=[]:=by
   rcases h4 with h4 | h4
   ·exact h4.2
   ·exact absurd hbase (Zzx h4)
  subst hbase
  rw [Th rfl,To]
  refine (Zab h2 (Zu _ (by decide))).binds ?_
  rw [Tf (by rw [Zu _ (by decide)];simp)]
  refine hb.bind fun u' e=>Rd.ok ?_
  rw [Zfn,Zfn,e]
 ·rw [Tf hbase]
  have hn:YF base=true:=h4.resolve_left fun g=>hbase g.1
  simp only [Tm]
  refine (Zab h2 (Zu _ (by decide))).binds ?_
  rw [Th (W2 _ _),TJ,YB hn,R.bind_ok]
  refine (Zab h3 (Zu _ (by decide))).binds ?_
  refine hb.bind fun u' e=>Rd.ok ?_
  rw [Zfn,Zfn,e]
def ZBM (inside:Bool) (r:Ts):Prop:=(inside=false∧r=[])∨(inside=true∧∃l,r=sgT [125]::l)
theorem Zr7 {inside:Bool} {r:Ts} (h:ZBM inside r):IHd r:=by
 rcases h with ⟨_,h⟩ | ⟨_,h⟩
 ·exact .inl h
 ·exact .inr (.inl h)
theorem U8 {α:Type} {K:α→Ts} (h:∀x:α,∃w l,w∈Zng∧K x=nmT w::l) {r:Ts} (hr:IHd r) (xs:List α):IHd ((xs.map K).flatten++r):=by
 cases xs with
 | nil=>exact hr
 | cons x xs =>
  obtain ⟨w,l,hw,e⟩:=h x
  refine .inr (.inr (.inl ⟨w,l++((xs.map K).flatten++r),hw,?_⟩))
  simp [e]
theorem Zzy {r:Ts} (hr:IHd r) {xs:List Ru} (h:∀x∈xs,XF x=true):IHd ((xs.map ruK).flatten++r):=by
 cases xs with
 | nil=>exact hr
 | cons x xs =>
  refine .inr (.inr (.inr ⟨x.head,(ruK x).tail++((xs.map ruK).flatten++r),(ZdD (h x (by simp))).1,?_⟩))
  simp [ruK]
theorem Zac {α:Type} {K:α→Ts} (h:∀x:α,1≤(K x).length) (xs:List α):xs.length≤((xs.map K).flatten).length:=by
 induction xs with
 | nil=>exact Tt _
 | cons x xs ih=>have:=h x;simp only [Tz,Sg,Ta,Tc];omega
theorem Zzz {inside:Bool} {d:Nat} {un:Ts→R Un} {f:Nat} {u:Un} {r:Ts} (h:ZBM inside r) (hf:0<f):Yc inside d un f u r=.ok u r:=by
 obtain ⟨f,rfl⟩:∃k,f=k+1:=⟨f - 1,by omega⟩
 obtain ⟨a1,a2,a3,a4,a5,a6⟩:=u
 rw [Yc,Th]
 rcases h with ⟨_,h⟩ | ⟨h1,l,rfl⟩
 ·exact .inl h
 ·exact .inr ⟨h1,W2 _ _⟩
theorem Znj {inside:Bool} {w:Bs} (h:w≠[125]) (r:Ts):¬(nmT w::r=[]∨(inside=true∧isW (nmT w::r) [[125]]=true)):=by
 rintro (g | ⟨_,g⟩)
 ·cases g
 ·rw [Zu r h] at g;cases g
theorem ZlK {inside:Bool} {d:Nat} {un:Ts→R Un} {v:Un} {r0 r:Ts} (rels:List Re) (rules:List Ru) (comps:List Co) (inits:List Ini) (overs:List Ov) (hr:IHd r) :
  ∀(xs:List Ty) (f:Nat) (acc acc':List Ty),(∀x∈xs,YH x=true)→xs.length<f→acc'.map ZmT=acc.map ZmT →
   (∀f' acc2,f - xs.length≤f'→acc2.map ZmT=(acc++xs).map ZmT→Rd UI v r0 (Yc inside d un f' (.mk acc2 rels rules comps inits overs) r)) →
   Rd UI v r0 (Yc inside d un f (.mk acc' rels rules comps inits overs) ((xs.map tyK).flatten++r))
 | [],f,acc,acc',h,hf,ha,hk=>by simpa using hk f acc' (by simp) (by simpa using ha)
 | x::xs,0,acc,acc',h,hf,ha,hk=>by omega
 | x::xs,f+1,acc,acc',h,hf,ha,hk=>by
  rw [Tz,Sg,Tg,tyK,Tm,Yc,Tf (Znj (by decide) _),Th (Zdd _ _)]
  split
  ·exact .lim Zs1
  ·have hx:=Znh (h x (by simp)) (r:=(xs.map tyK).flatten++r) (U8 (fun x=>⟨_,_,by decide,rfl⟩) hr xs)
   rw [TJ]
   rw [tyK,TJ] at hx
   refine hx.bind fun x' e=>?_
   refine ZlK rels rules comps inits overs hr xs f (acc++[x]) (acc'++[x']) (fun y hy=>h y (Tp _ hy)) (by simpa using hf) (by simp [ha,e]) fun f' acc2 h1 h2=>?_
   exact m83
theorem ZpY {inside:Bool} {d:Nat} {un:Ts→R Un} {v:Un} {r0 r:Ts} (tys:List Ty) (rules:List Ru) (comps:List Co) (inits:List Ini) (overs:List Ov) (hr:IHd r) :
  ∀(xs:List Re) (f:Nat) (acc acc':List Re),(∀x∈xs,X3 x=true)→xs.length<f→acc'.map ZmU=acc.map ZmU →
   (∀f' acc2,f - xs.length≤f'→acc2.map ZmU=(acc++xs).map ZmU→Rd UI v r0 (Yc inside d un f' (.mk tys acc2 rules comps inits overs) r)) →
   Rd UI v r0 (Yc inside d un f (.mk tys acc' rules comps inits overs) ((xs.map reK).flatten++r))
 | [],f,acc,acc',h,hf,ha,hk=>by simpa using hk f acc' (by simp) (by simpa using ha)
 | x::xs,0,acc,acc',h,hf,ha,hk=>by omega
 | x::xs,f+1,acc,acc',h,hf,ha,hk=>by
  rw [Tz,Sg,Tg,reK,Tm,Yc,Tf (Znj (by decide) _),Tf (by rw [Zu _ (by decide)];simp),Th (Zdd _ _)]
  split
  ·exact .lim Zs1
  ·have hx:=ZpU (h x (by simp)) (r:=(xs.map reK).flatten++r) (U8 (fun x=>⟨_,_,by decide,rfl⟩) hr xs)
   rw [TJ]
   rw [reK,TJ] at hx
   refine hx.bind fun x' e=>?_
   refine ZpY tys rules comps inits overs hr xs f (acc++[x]) (acc'++[x']) (fun y hy=>h y (Tp _ hy)) (by simpa using hf) (by simp [ha,e]) fun f' acc2 h1 h2=>?_
   exact m83
theorem ZlL {inside:Bool} {d:Nat} {un:Ts→R Un} {v:Un} {r0 r:Ts} (tys:List Ty) (rels:List Re) (rules:List Ru) (inits:List Ini) (overs:List Ov) (hr:IHd r) :
  ∀(xs:List Co) (f:Nat) (acc acc':List Co),(∀x∈xs,∀r,Rd Zfn x r (Zh1 d un ((coK x).tail++r)))→xs.length<f→acc'.map Zfn=acc.map Zfn →
   (∀f' acc2,f - xs.length≤f'→acc2.map Zfn=(acc++xs).map Zfn→Rd UI v r0 (Yc inside d un f' (.mk tys rels rules acc2 inits overs) r)) →
   Rd UI v r0 (Yc inside d un f (.mk tys rels rules acc' inits overs) ((xs.map coK).flatten++r))
 | [],f,acc,acc',h,hf,ha,hk=>by simpa using hk f acc' (by simp) (by simpa using ha)
 | x::xs,0,acc,acc',h,hf,ha,hk=>by omega
 | .mk nm ps base ty u a::xs,f+1,acc,acc',h,hf,ha,hk=>by
  have hx:=h (.mk nm ps base ty u a) (by simp) ((xs.map coK).flatten++r)
  rw [ZiK,TJ] at hx
  rw [Tz,Sg,Tg,ZiK,Tm,Yc,Tf (Znj (by decide) _),Tf (by rw [Zu _ (by decide)];simp),Tf (by rw [Zu _ (by decide)];simp),Th (Zdd _ _)]
  split
  ·exact .lim Zs1
  ·rw [TJ]
   refine hx.bind fun x' e=>?_
   refine ZlL tys rels rules inits overs hr xs f (acc++[.mk nm ps base ty u a]) (acc'++[x']) (fun y hy=>h y (Tp _ hy)) (by simpa using hf) (by simp [ha,e]) fun f' acc2 h1 h2=>?_
   exact m83
theorem ZlM {inside:Bool} {d:Nat} {un:Ts→R Un} {v:Un} {r0 r:Ts} (tys:List Ty) (rels:List Re) (rules:List Ru) (comps:List Co) (overs:List Ov) (hr:IHd r) :
  ∀(xs:List Ini) (f:Nat) (acc acc':List Ini),(∀x∈xs,Wd x=true)→xs.length<f→acc'.map ZmV=acc.map ZmV →
   (∀f' acc2,f - xs.length≤f'→acc2.map ZmV=(acc++xs).map ZmV→Rd UI v r0 (Yc inside d un f' (.mk tys rels rules comps acc2 overs) r)) →
   Rd UI v r0 (Yc inside d un f (.mk tys rels rules comps acc' overs) ((xs.map inK).flatten++r))
 | [],f,acc,acc',h,hf,ha,hk=>by simpa using hk f acc' (by simp) (by simpa using ha)
 | x::xs,0,acc,acc',h,hf,ha,hk=>by omega
 | x::xs,f+1,acc,acc',h,hf,ha,hk=>by
  rw [Tz,Sg,Tg,inK,Tm,Yc,Tf (Znj (by decide) _),Tf (by rw [Zu _ (by decide)];simp),Tf (by rw [Zu _ (by decide)];simp),Tf (by rw [Zu _ (by decide)];simp),Th (Zdd _ _)]
  split
  ·exact .lim Zs1
  ·have hx:=ZpV (h x (by simp)) (r:=(xs.map inK).flatten++r) (U8 (fun x=>⟨_,_,by decide,rfl⟩) hr xs)
   rw [TJ]
   rw [inK,TJ] at hx
   refine hx.bind fun x' e=>?_
   refine ZlM tys rels rules comps overs hr xs f (acc++[x]) (acc'++[x']) (fun y hy=>h y (Tp _ hy)) (by simpa using hf) (by simp [ha,e]) fun f' acc2 h1 h2=>?_
   exact m83
theorem ZlN {inside:Bool} {d:Nat} {un:Ts→R Un} {v:Un} {r0 r:Ts} (tys:List Ty) (rels:List Re) (rules:List Ru) (comps:List Co) (inits:List Ini) :
  ∀(xs:List Ov) (f:Nat) (acc acc':List Ov),(∀x∈xs,WY x=true)→xs.length<f→acc'.map ZmW=acc.map ZmW →
   (∀f' acc2,f - xs.length≤f'→acc2.map ZmW=(acc++xs).map ZmW→Rd UI v r0 (Yc inside d un f' (.mk tys rels rules comps inits acc2) r)) →
   Rd UI v r0 (Yc inside d un f (.mk tys rels rules comps inits acc') ((xs.map ovK).flatten++r))
 | [],f,acc,acc',h,hf,ha,hk=>by simpa using hk f acc' (by simp) (by simpa using ha)
 | x::xs,0,acc,acc',h,hf,ha,hk=>by omega
 | x::xs,f+1,acc,acc',h,hf,ha,hk=>by
  rw [Tz,Sg,Tg,ovK,Tm,Yc,Tf (Znj (by decide) _),Tf (by rw [Zu _ (by decide)];simp),Tf (by rw [Zu _ (by decide)];simp),Tf (by rw [Zu _ (by decide)];simp),Tf (by rw [Zu _ (by decide)];simp),Th (Zdd _ _)]
  split
  ·exact .lim Zs1
  ·have hx:=ZpW (h x (by simp)) ((xs.map ovK).flatten++r)
   rw [TJ]
   rw [ovK,TJ] at hx
   refine hx.bind fun x' e=>?_
   refine ZlN tys rels rules comps inits xs f (acc++[x]) (acc'++[x']) (fun y hy=>h y (Tp _ hy)) (by simpa using hf) (by simp [ha,e]) fun f' acc2 h1 h2=>?_
   exact m83
theorem Zr8:∀w∈Zng,YF w=false:=by decide +kernel
theorem ZlO {inside:Bool} {d:Nat} {un:Ts→R Un} {v:Un} {r0 r:Ts} (tys:List Ty) (rels:List Re) (comps:List Co) (inits:List Ini) (overs:List Ov) :
  ∀(xs:List Ru) (f:Nat) (acc acc':List Ru),(∀x∈xs,XF x=true)→xs.length<f→acc'.map ZfT=acc.map ZfT →
   (∀f' acc2,f - xs.length≤f'→acc2.map ZfT=(acc++xs).map ZfT→Rd UI v r0 (Yc inside d un f' (.mk tys rels acc2 comps inits overs) r)) →
   Rd UI v r0 (Yc inside d un f (.mk tys rels acc' comps inits overs) ((xs.map ruK).flatten++r))
 | [],f,acc,acc',h,hf,ha,hk=>by simpa using hk f acc' (by simp) (by simpa using ha)
 | x::xs,0,acc,acc',h,hf,ha,hk=>by omega
 | x::xs,f+1,acc,acc',h,hf,ha,hk=>by
  have hn:=(ZdD (h x (by simp))).1
  have hx:=ZpS (h x (by simp)) d ((xs.map ruK).flatten++r)
  have hw:∀w∈Zng,isW (nmT x.head::(brK [40] [41] (x.args.map exK)++((if 0<x.body.length then sgT [58,45]::Ya [44] (x.body.map liK) else [])++[sgT [46]])++((xs.map ruK).flatten++r))) [w]=false:=fun w hw=>ZeS hn (Zr8 w hw) _
  have hne:x.head≠[125]:=fun e=>by rw [e] at hn;revert hn;decide +kernel
  rw [Tz,Sg,Tg]
  rw [ruK,Tm] at hx ⊢
  rw [Yc,Tf (Znj hne _),Tf (by rw [hw _ (by decide)];simp),Tf (by rw [hw _ (by decide)];simp),Tf (by rw [hw _ (by decide)];simp),Tf (by rw [hw _ (by decide)];simp),Tf (by rw [hw _ (by decide)];simp),Th (nm_named hn _)]
  split
  ·exact .lim Zs1
  ·refine hx.bind fun x' e=>?_
   refine ZlO tys rels comps inits overs xs f (acc++[x]) (acc'++[x']) (fun y hy=>h y (Tp _ hy)) (by simpa using hf) (by simp [ha,e]) fun f' acc2 h1 h2=>?_
   exact m83
theorem ZpZ {tys:List Ty} {rels:List Re} {rules:List Ru} {comps:List Co} {inits:List Ini} {overs:List Ov} {k:Nat} (h:SizeOf.sizeOf (Un.mk tys rels rules comps inits overs)<k+1) {nm:Bs} {ps:List Bs} {base:Bs} {ty:List Bs} {u:Un} {a:Nat} (hx:Co.mk nm ps base ty u a∈comps):SizeOf.sizeOf u<k:=by
 have:=List.sizeOf_lt_of_mem hx
 simp only [Un.mk.sizeOf_spec,Co.mk.sizeOf_spec] at h this
 omega
theorem Zko:∀(n:Nat) (u:Un),SizeOf.sizeOf u<n→Zbh u=true→∀(inside:Bool) (d:Nat) (un:Ts→R Un) (r:Ts),ZBM inside r→(∀k,d=k+1→un=ZjO k)→Rd UI u r (Zh2 inside d un (unK u++r))
 | 0,u,h,_=>by omega
 | k+1,.mk tys rels rules comps inits overs,h,hm=>fun inside d un r hr hun=>by
  obtain ⟨m1,m2,m3,m4,m5,m6⟩:=Zkn hm
  have hi:=Zr7 hr
  have i6:IHd ((rules.map ruK).flatten++r):=Zzy hi m3
  have i5:IHd ((overs.map ovK).flatten++((rules.map ruK).flatten++r)):=U8 (fun x=>⟨_,_,by decide,rfl⟩) i6 overs
  have i4:IHd ((inits.map inK).flatten++((overs.map ovK).flatten++((rules.map ruK).flatten++r))):=U8 (fun x=>⟨_,_,by decide,rfl⟩) i5 inits
  have i3:IHd ((comps.map coK).flatten++((inits.map inK).flatten++((overs.map ovK).flatten++((rules.map ruK).flatten++r)))):=U8 (fun x=>by obtain ⟨a1,a2,a3,a4,a5,a6⟩:=x;exact ⟨_,_,by decide,ZiK _ _ _ _ _ _⟩) i4 comps
  have i2:IHd ((rels.map reK).flatten++((comps.map coK).flatten++((inits.map inK).flatten++((overs.map ovK).flatten++((rules.map ruK).flatten++r))))):=U8 (fun x=>⟨_,_,by decide,rfl⟩) i3 rels
  have l1:=Zac (K:=tyK) (fun x=>by rw [tyK];simp) tys
  have l2:=Zac (K:=reK) (fun x=>by rw [reK];simp) rels
  have l3:=Zac (K:=coK) (fun x=>by obtain ⟨a1,a2,a3,a4,a5,a6⟩:=x;rw [ZiK];simp) comps
  have l4:=Zac (K:=inK) (fun x=>by rw [inK];simp) inits
  have l5:=Zac (K:=ovK) (fun x=>by rw [ovK];simp) overs
  have l6:=Zac (K:=ruK) (fun x=>by rw [ruK];simp) rules
  rw [Zh2,Zzw]
  simp only [Tg]
  simp only [Ta]
  refine ZlK _ _ _ _ _ i2 tys _ [] [] m1 (by omega) rfl fun f1 a1 hf1 e1=>?_
  refine ZpY _ _ _ _ _ i3 rels _ [] [] m2 (by omega) rfl fun f2 a2 hf2 e2=>?_
  refine ZlL _ _ _ _ _ i4 comps _ [] [] ?_ (by omega) rfl fun f3 a3 hf3 e3=>?_
  ·intro x hx r'
   refine ZpX (m4 x hx) fun nm ps base ty u a e hd r2=>?_
   subst e
   obtain ⟨d,rfl⟩:∃k,d=k+1:=⟨d - 1,by omega⟩
   rw [hun d rfl]
   have hu:Zbh u=true:=(ZdE (m4 _ hx)).2.2.2.2
   cases d with
   | zero=>exact Zko k u (ZpZ h hx) hu true 0 _ _ (.inr ⟨rfl,_,rfl⟩) fun k hk=>by omega
   | succ d=>exact Zko k u (ZpZ h hx) hu true (d+1) _ _ (.inr ⟨rfl,_,rfl⟩) fun k hk=>by cases hk;rfl
  refine ZlM _ _ _ _ _ i5 inits _ [] [] m5 (by omega) rfl fun f4 a4 hf4 e4=>?_
  refine ZlN _ _ _ _ _ overs _ [] [] m6 (by omega) rfl fun f5 a5 hf5 e5=>?_
  refine ZlO _ _ _ _ _ rules _ [] [] m3 (by omega) rfl fun f6 a6 hf6 e6=>?_
  rw [Zzz hr (by omega)]
  refine Rd.ok ?_
  simp only [To] at e1 e2 e3 e4 e5 e6
  simp only [UI,Zlr,e1,e2,e3,e4,e5,e6]
theorem Zp0 {u:Un} (h:Zbh u=true):Rd UI u [] (ZaX (unK u)):=by
 have:=Zko _ u (Sf _) h false 64 (ZjO 63) [] (.inl ⟨rfl,rfl⟩) fun k hk=>by cases hk;rfl
 rwa [TC] at this
end Go.PM.Lex
end

section
namespace Go.PM.Lex
open Go.Proofs Go.RowKit
variable {w0:World} {nG:Nat}
noncomputable def ZzA:Tbl:=[(75,Zfp)]
theorem ZzB {n:Nat}:PCalls (GG w0 nG) 196 (ZeG (Xk (fun _=>Zt)) YY fiT wFi n):=by
 refine pc (tbl:=ZzA) ⟨⟨ZaA,Xc⟩,trivial⟩ Tryz.func196 ?_
 intro args σ K h
 unfold ZeG at h
 split at h
 ·obtain ⟨l,pl,⟨nm,ty⟩,rfl,rfl,⟨rfl,rfl⟩,⟨hmay,hz,hn⟩,hlen,h⟩:=h
  refine ⟨Za [],2,true,by simp,Tb rfl,?_⟩
  conv=>whnf
  refine ⟨l,fiT ⟨nm,ty⟩,rfl,⟨.inr rfl,rfl,rfl⟩,⟨[nm,[58,32],ty],rfl,by simp,by simp,by simp [fiT]⟩,hlen,?_⟩
  exact m35
 ·exact h.elim
theorem ZCE (n:Nat):PCalls (GG w0 nG) 195 (Zm4 196 (fun _=>Zt) YY fiT wFi n):=ZvZ ⟨⟨Zpm,Uw⟩,⟨ZzB,Zcy _ _ _ _ _⟩,trivial⟩
noncomputable def Zp1 (n:Nat):ZA:=Zi9 (.tuple []) fun rest txt=>∃(fr fin:Bs) (xs:List Fi),rest=[.d (.str fr),.d (.sl (xs.map Zt)),.d (.str fin)]∧(xs.all YY=true∧szS wFi xs≤n∧n≤1073741824)∧txt=V3 fr xs fin
theorem ZcE (n:Nat):Zc (Zp1 n):=Vw _ _
noncomputable def ZzC (n:Nat):Tbl:=[(75,Zfp),(195,Zm4 196 (fun _=>Zt) YY fiT wFi n)]
theorem Zp2 {n:Nat}:PCalls (GG w0 nG) 132 (Zp1 n):=by
 refine pc (tbl:=ZzC n) ⟨⟨ZaA,Xc⟩,⟨ZCE n,ZbO _ _ _ _ _ _⟩,trivial⟩ Tryz.func132 ?_
 intro args σ K h
 unfold Zp1 Zi9 at h
 split at h
 ·rename_i rest t p e rows
  obtain ⟨l,txt,rfl,⟨hp,rfl,rfl⟩,⟨fr,fin,xs,rfl,⟨hmay,hz,hn⟩,rfl⟩,hlen,h⟩:=h
  have key:l++V3 fr xs fin=l++fr++Zg cmm (xs.map fiT)++fin:=by simp only [V3,Tg]
  rw [key] at h
  have hlen:l.length+(fr.length+((Zg cmm (xs.map fiT)).length+fin.length))<70368744177664:=by have:=hlen;simp only [V3,Ta] at this;exact this
  refine ⟨Za [],1,true,by simp,Tb rfl,?_⟩
  rcases hp with rfl | rfl
  all_goals
   conv=>whnf
   refine ⟨l,fr,rfl,⟨(by first | exact .inl rfl | exact .inr rfl),rfl,rfl⟩,⟨[fr],rfl,by simp,by simp,by simp⟩,by omega,?_⟩
   conv=>whnf
   refine ⟨l++fr,fun _=>0,xs,rfl,rfl,⟨rfl,rfl,rfl⟩,⟨hmay,hz,hn⟩,by rw [Ta];show _+(Zg cmm (xs.map fiT)).length<_;omega,?_⟩
   conv=>whnf
   refine ⟨l++fr++Zg cmm (xs.map fiT),fin,rfl,⟨.inr rfl,rfl,rfl⟩,⟨[fin],rfl,by simp,by simp,by simp⟩,by simp only [Ta];omega,?_⟩
   conv=>whnf
   exact h
 ·exact h.elim
noncomputable def ZzD (n:Nat):Tbl:=[(132,Zp1 n)]
theorem ZzE {n:Nat}:PCalls (GG w0 nG) 134 (ZeG (Xk (fun _=>Zs)) XN caT wCa n):=by
 refine pc (tbl:=ZzD n) ⟨⟨Zp2,ZcE n⟩,trivial⟩ Tryz.func134 ?_
 intro args σ K h
 unfold ZeG at h
 split at h
 ·obtain ⟨l,pl,⟨nm,fs⟩,rfl,rfl,⟨rfl,rfl⟩,⟨hmay,hz,hn⟩,hlen,h⟩:=h
  have hm:fs.all YY=true:=by simp only [XN,Tk] at hmay;exact hmay.2
  have hz:nm.length+szS wFi fs≤n:=by unfold wCa at hz;simp only at hz;omega
  refine ⟨Za [],2,true,by simp,Tb rfl,?_⟩
  conv=>whnf
  refine ⟨by simp only [Tc,Td];omega,?_⟩
  conv=>whnf
  refine ⟨l,caT ⟨nm,fs⟩,rfl,⟨.inr rfl,rfl,rfl⟩,⟨nm++[32,123],[125],fs,rfl,⟨hm,by omega,hn⟩,rfl⟩,hlen,?_⟩
  exact m35
 ·exact h.elim
theorem ZCo (n:Nat):PCalls (GG w0 nG) 133 (Zm4 134 (fun _=>Zs) XN caT wCa n):=Zv1 ⟨⟨Zpm,Uw⟩,⟨ZzE,Zcy _ _ _ _ _⟩,trivial⟩
theorem Zbb (sep:Bs):∀l:List Bs,Lib.join l sep=Zg sep l
 | []=>rfl
 | [x]=>by simp [Lib.join,List.intercalate,Zg]
 | x::y::l=>by
  have ih:=Zbb sep (y::l)
  simp only [Lib.join,List.intercalate] at ih ⊢
  rw [Zg,← ih]
  ·simp
  ·intro h;cases h
theorem ZcF (l:List Bs):(Zg cmm l).length≤szS wBs l:=by
 match l with
 | []=>exact T7 _
 | [x]=>simp only [Zg,szS,wBs];omega
 | x::y::l =>
  have ih:=ZcF (y::l)
  rw [Zg]
  ·simp only [Ta,szS,wBs] at ih ⊢
   have:cmm.length=2:=rfl
   omega
  ·intro h;cases h
noncomputable def ZiL (n:Nat):ZA:=fun args σ K=>match args,σ with
 | [.d (.sl rows),.d (.str sp)],⟨[],[],0⟩=>∃l:List Bs,rows=l.map Zr∧(sp=cmm∧szS wBs l≤n∧n≤1073741824)∧K (.ret (.d (.str (Zg cmm l)))) ⟨[],[],0⟩
 | _,_=>False
theorem Zkp (n:Nat):Zc (ZiL n):=fun args σ K K' hK h=>by
 unfold ZiL at h ⊢
 split at h
 ·obtain ⟨l,h1,h2,h3⟩:=h;exact ⟨l,h1,h2,hK _ _ h3⟩
 ·exact h.elim
theorem Zwx {n:Nat}:PCalls (GG w0 nG) 197 (ZiL n):=Xa (Zh Tryz.func197 (by kernel_rfl) rfl) fun args σ K h e w vs hS ha=>by
 unfold ZiL at h
 split at h
 ·rename_i rows sp
  obtain ⟨l,rfl,⟨rfl,hz,hn⟩,h⟩:=h
  obtain ⟨u,v,rfl,hu,hv⟩:=ZhN ha
  cases hv.dstr
  have hcl:=ZcF l
  have hll:=Zj wBs l
  generalize hrows:l.map Zr=rows at hu
  have hnil:l=[]→Zg cmm l=[]:=fun e=>by rw [e];rfl
  have empty:∀a c,rows=[]→Calls Tryz.prog 197 #[.slice a 0 c,.string ⟨cmm.toArray⟩] w fun en w'=>en=.returned (.string ⟨(Zg cmm l).toArray⟩)∧Grows w w':=fun a c hr=>by
   have:l=[]:=by rw [hr] at hrows;simpa using hrows
   rw [hnil this]
   exact (Tryz.strings_Join_none a c _ w).mono fun en w' ⟨h1,h2⟩=>⟨h1,by rw [h2];exact Grows.refl _⟩
  refine ⟨_,h,.string ⟨(Zg cmm l).toArray⟩,fun _ _=>.mkstr,?_⟩
  cases hu with
  | d _ _ hd =>
   cases hd with
   | slnil=>exact empty _ _ rfl
   | slz a=>exact empty _ _ rfl
   | sl _ b off cap sz u hcap hsz hc ho hu =>
    have hlen:rows.length=l.length:=by rw [← hrows,Te]
    by_cases h0:l=[]
    ·have hr:rows=[]:=by rw [← hrows,h0];rfl
     rw [hr]
     exact empty _ _ hr
    ·have hpos:=T8.2 h0
     have hsz1:sz=1:=by
      have:=hsz (Zr l[0]) (by rw [← hrows];exact List.mem_map_of_mem (TU hpos))
      simpa [Zr] using this.symm
     subst hsz1
     have hcell:∀(j:Nat) x,(l.map fun s=>(⟨s.toArray⟩:ByteArray))[j]?=some x→w.cell? ⟨b,off+j,none⟩=some (.string x):=fun j x hx=>by
      rw [TN] at hx
      obtain ⟨s,hs,rfl⟩:=Option.map_eq_some_iff.1 hx
      have hj:=(Tj.1 hs).1
      have h1:=hc j 0 (by omega) (by omega)
      have h2:=hu j 0 (.str s) (by rw [← hrows,TN,hs];rfl)
      generalize huu:u j 0=uu at h1 h2
      cases h2
      simpa using h1
     have hmap:(l.map fun s=>(⟨s.toArray⟩:ByteArray)).map (·.data.toList)=l:=by rw [TL];simp [Function.comp_def]
     have hj:=Tryz.strings_Join b off cap (l.map fun s=>(⟨s.toArray⟩:ByteArray)) ⟨cmm.toArray⟩ w hcell (by
      have:=hc 0 0 (by omega) (by omega)
      exact World.block_lt_of_cell? w _ this) (by rw [Te];omega) (by rw [Te];omega) (by rw [hmap,Zbb];show (Zg cmm l).length≤_;omega)
     rw [hmap,Zbb,Te,← hlen] at hj
     exact hj.mono fun en w' ⟨h1,h2⟩=>⟨h1,ZC3 h2⟩
 ·exact h.elim
noncomputable def Zp3 (n:Nat):ZA:=fun args σ K=>match args,σ with
 | [.d (.sl rows)],⟨[],[],0⟩=>∃l:List Bs,rows=l.map Zr∧(szS wBs l≤n∧n≤1073741824)∧K (.ret (.d (.str (Jl l)))) ⟨[],[],0⟩
 | _,_=>False
theorem ZfY (n:Nat):Zc (Zp3 n):=fun args σ K K' hK h=>by
 unfold Zp3 at h ⊢
 split at h
 ·obtain ⟨l,h1,h2,h3⟩:=h;exact ⟨l,h1,h2,hK _ _ h3⟩
 ·exact h.elim
noncomputable def ZzF (n:Nat):Tbl:=[(197,ZiL n)]
theorem Zs6 {n:Nat}:PCalls (GG w0 nG) 135 (Zp3 n):=by
 refine pc (tbl:=ZzF n) ⟨⟨Zwx,Zkp n⟩,trivial⟩ Tryz.func135 ?_
 intro args σ K h
 unfold Zp3 at h
 split at h
 ·obtain ⟨l,rfl,⟨hz,hn⟩,h⟩:=h
  have hl:(l.map Zr).length=l.length:=Te ..
  have hcl:=ZcF l
  refine ⟨Za [],0,false,by simp,Tb rfl,?_⟩
  conv=>whnf
  refine ZCX (fun c=>?_) (fun c=>?_)
  ·have c:l.length=0:=by have c:((l.map Zr).length:Int)=0:=c;omega
   rw [Jl,Th c] at h
   exact m35
  ·have c:¬l.length=0:=by have c:¬((l.map Zr).length:Int)=0:=c;omega
   rw [Jl,Tf c] at h
   conv=>whnf
   refine ⟨l,rfl,⟨rfl,hz,hn⟩,?_⟩
   generalize Zg cmm l=T at h hcl ⊢
   conv=>whnf
   refine ⟨by simp only [Tc,Td];omega,?_⟩
   conv=>whnf
   refine ⟨by simp only [Ta,Tc,Td];omega,?_⟩
   exact m35
 ·exact h.elim
end Go.PM.Lex
end

section
namespace Go.PM.Lex
open Go.Proofs
variable {w0:World} {nG:Nat}
def Zxo (x:Un):Bool:=Zbh x && Zfa x
def Zr9 (x:Co):Bool:=Yr x && ZbS x
theorem Zwy {tys:List Ty} {rels:List Re} {rules:List Ru} {comps:List Co} {inits:List Ini} {overs:List Ov} (h:Zxo (.mk tys rels rules comps inits overs)=true) :
  (∀x∈tys,YH x=true)∧(∀x∈rels,X3 x=true)∧(∀x∈rules,Zzt x=true)∧∀x∈comps,Zr9 x=true:=by
 simp only [Zxo,Tk] at h
 obtain ⟨h,hr⟩:=h
 obtain ⟨m1,m2,m3,m4,m5,m6⟩:=Zkn h
 simp only [Zfa,Ux,Tk] at hr
 have r1:=Tl.1 hr.1
 have r2:=Tl.1 hr.2
 exact ⟨m1,m2,fun x hx=>by rw [Zzt,m3 x hx,r1 x hx];rfl,fun x hx=>by rw [Zr9,m4 x hx,r2 x hx];rfl⟩
theorem Zsa {nm:Bs} {ps:List Bs} {base:Bs} {tys:List Bs} {u:Un} {a:Nat} (h:Zr9 (.mk nm ps base tys u a)=true):Zxo u=true:=by
 simp only [Zr9,Tk] at h
 rw [Zxo,(ZdE h.1).2.2.2.2]
 have:=h.2
 rw [ZbS] at this
 rw [this];rfl
def ZqM (r:Ru):Bs:=ruT r++[10]
noncomputable def Zsb (body:List PV→Bs→Prop):ZA:=fun args σ K=>match args,σ with
 | .ptr 0 0::rest,⟨[.cells t [p,.sl 0 e rows]],[0],1⟩=>∃l txt,rows=Zl l∧((p=.d .nilp∨p=.ptr 0 0)∧t=84∧e=5)∧body rest txt∧l.length+txt.length<70368744177664 ∧
   ∀p',(p'=.d .nilp∨p'=.ptr 0 0)→K (.ret (.tuple [])) ⟨[.cells t [p',.sl 0 e (Zl (l++txt))]],[0],1⟩
 | _,_=>False
theorem Znk (body:List PV→Bs→Prop):Zc (Zsb body):=fun args σ K K' hK h=>by
 unfold Zsb at h ⊢
 split at h
 ·obtain ⟨l,txt,h1,h2,h3,h4,h5⟩:=h;exact ⟨l,txt,h1,h2,h3,h4,fun p' hp=>hK _ _ (h5 p' hp)⟩
 ·exact h.elim
noncomputable def Zwz (n:Nat):ZA:=Zsb fun rest txt=>∃pl x,rest=[Xk Yf pl x]∧(Zxo x=true∧wUn x≤n∧n≤1073741824)∧txt=unT x
theorem ZeX (n:Nat):Zc (Zwz n):=Znk _
theorem UE {α:Type} (T:α→Bs) {xs:List α} {i:Nat} (h:i<xs.length):((xs.take (i+1)).map T).flatten=((xs.take i).map T).flatten++T xs[i]:=by
 rw [List.take_succ_eq_append_getElem h,List.map_append,List.flatten_append];simp
theorem ZcG {α:Type} (T:α→Bs) (xs:List α) (i:Nat):((xs.take i).map T).flatten.length≤(xs.map T).flatten.length:=by
 have e:(xs.map T).flatten=((xs.take i).map T).flatten++((xs.drop i).map T).flatten:=by rw [← List.flatten_append,← List.map_append,Sw]
 rw [e,Ta];omega
noncomputable def ZzG (n:Nat):Tbl:=[(75,Zfp),(132,Zp1 n),(133,Zm4 134 (fun _=>Zs) XN caT wCa n),(135,Zp3 n),(64,Zzu n),(68,spB Zwz n)]
theorem ZzH {n:Nat} (ht:TblOK (GG w0 nG) (ZzG n)):PCalls (GG w0 nG) 68 (Zwz n):=by
 refine Ztv XG mixed (tbl:=ZzG n) ht Tryz.func68 rfl (by kernel_rfl) (by kernel_rfl) ?_
 intro args σ K h
 unfold Zwz Zsb at h
 split at h
 ·rename_i rest t p e rows
  obtain ⟨l,txt,rfl,⟨hp,rfl,rfl⟩,⟨pl,⟨tys,rels,rules,comps,inits,overs⟩,rfl,⟨hmay,hz,hn⟩,rfl⟩,hlen,h⟩:=h
  obtain ⟨m1,m2,m3,m4⟩:=Zwy hmay
  have hz:szS wTy tys+szS wRe rels+szS wRu rules+szS wCo comps+szS wIn inits+szS wOv overs+1≤n:=by rw [wUn,We] at hz;omega
  have hu:unT (.mk tys rels rules comps inits overs)=(tys.map tyT).flatten++((rels.map reT).flatten++((comps.map coT).flatten++((inits.map inT).flatten++((overs.map ovT).flatten++(rules.map ZqM).flatten)))):=by rw [unT,ZuN];rfl
  rw [hu] at hlen
  simp only [Ta] at hlen
  have h:∀p',(p'=.d .nilp∨p'=.ptr 0 0)→K (.ret (.tuple [])) ⟨[.cells 84 [p',.sl 0 5 (Zl (l++(tys.map tyT).flatten++(rels.map reT).flatten++(comps.map coT).flatten++(inits.map inT).flatten++(overs.map ovT).flatten++(rules.map ZqM).flatten))]],[0],1⟩:=by
   rw [hu] at h;simpa only [Tg] using h
  have ec:Xp pl comps=comps.map (ZW pl):=ZH pl comps
  have s1:=Zj wTy tys
  have s2:=Zj wRe rels
  have s3:=Zj wRu rules
  have s4:=Zj wCo comps
  have s5:=Zj wIn inits
  have s6:=Zj wOv overs
  refine ⟨Za [(2,⟨[21],[2,3,19,20],fun vs σ=>∃(i:Nat) (P:PV),vs=[.d (.int .i64 i)]∧σ=⟨[.cells 84 [P,.sl 0 5 (Zl (l++((tys.take i).map tyT).flatten))],.cells 78 [.ptr 0 0],.cells 44 ((Yf pl (.mk tys rels rules comps inits overs)).map .d)],[0],1⟩∧(P=.d .nilp∨P=.ptr 0 0)∧i≤tys.length,fun vs _=>match vs with | [.d (.int _ i)]=>((tys.length:Int) - i).toNat | _=>0⟩),(15,⟨[60],[2,3,58,59],fun vs σ=>∃(i:Nat) (P:PV),vs=[.d (.int .i64 i)]∧σ=⟨[.cells 84 [P,.sl 0 5 (Zl (l++(tys.map tyT).flatten++((rels.take i).map reT).flatten))],.cells 78 [.ptr 0 0],.cells 44 ((Yf pl (.mk tys rels rules comps inits overs)).map .d)],[0],1⟩∧(P=.d .nilp∨P=.ptr 0 0)∧i≤rels.length,fun vs _=>match vs with | [.d (.int _ i)]=>((rels.length:Int) - i).toNat | _=>0⟩),(27,⟨[98],[2,3,96,97],fun vs σ=>∃(i:Nat) (P:PV),vs=[.d (.int .i64 i)]∧σ=⟨[.cells 84 [P,.sl 0 5 (Zl (l++(tys.map tyT).flatten++(rels.map reT).flatten++((comps.take i).map coT).flatten))],.cells 78 [.ptr 0 0],.cells 44 ((Yf pl (.mk tys rels rules comps inits overs)).map .d)],[0],1⟩∧(P=.d .nilp∨P=.ptr 0 0)∧i≤comps.length,fun vs _=>match vs with | [.d (.int _ i)]=>((comps.length:Int) - i).toNat | _=>0⟩),(37,⟨[135],[2,3,133,134],fun vs σ=>∃(i:Nat) (P:PV),vs=[.d (.int .i64 i)]∧σ=⟨[.cells 84 [P,.sl 0 5 (Zl (l++(tys.map tyT).flatten++(rels.map reT).flatten++(comps.map coT).flatten++((inits.take i).map inT).flatten))],.cells 78 [.ptr 0 0],.cells 44 ((Yf pl (.mk tys rels rules comps inits overs)).map .d)],[0],1⟩∧(P=.d .nilp∨P=.ptr 0 0)∧i≤inits.length,fun vs _=>match vs with | [.d (.int _ i)]=>((inits.length:Int) - i).toNat | _=>0⟩),(42,⟨[153],[2,3,151,152],fun vs σ=>∃(i:Nat) (P:PV),vs=[.d (.int .i64 i)]∧σ=⟨[.cells 84 [P,.sl 0 5 (Zl (l++(tys.map tyT).flatten++(rels.map reT).flatten++(comps.map coT).flatten++(inits.map inT).flatten++((overs.take i).map ovT).flatten))],.cells 78 [.ptr 0 0],.cells 44 ((Yf pl (.mk tys rels rules comps inits overs)).map .d)],[0],1⟩∧(P=.d .nilp∨P=.ptr 0 0)∧i≤overs.length,fun vs _=>match vs with | [.d (.int _ i)]=>((overs.length:Int) - i).toNat | _=>0⟩),(47,⟨[166],[2,3,164,165],fun vs σ=>∃(i:Nat) (P:PV),vs=[.d (.int .i64 i)]∧σ=⟨[.cells 84 [P,.sl 0 5 (Zl (l++(tys.map tyT).flatten++(rels.map reT).flatten++(comps.map coT).flatten++(inits.map inT).flatten++(overs.map ovT).flatten++((rules.take i).map ZqM).flatten))],.cells 78 [.ptr 0 0],.cells 44 ((Yf pl (.mk tys rels rules comps inits overs)).map .d)],[0],1⟩∧(P=.d .nilp∨P=.ptr 0 0)∧i≤rules.length,fun vs _=>match vs with | [.d (.int _ i)]=>((rules.length:Int) - i).toNat | _=>0⟩)],ZaS [(19,4)],Vh [],Vh [],Vh [],Zxv [(14,([2,3],fun vs σ=>∃P:PV,vs=[.ptr 1 0,.ptr 2 0]∧σ=⟨[.cells 84 [P,.sl 0 5 (Zl (l++(tys.map tyT).flatten))],.cells 78 [.ptr 0 0],.cells 44 ((Yf pl (.mk tys rels rules comps inits overs)).map .d)],[0],1⟩∧(P=.d .nilp∨P=.ptr 0 0))),(26,([2,3],fun vs σ=>∃P:PV,vs=[.ptr 1 0,.ptr 2 0]∧σ=⟨[.cells 84 [P,.sl 0 5 (Zl (l++(tys.map tyT).flatten++(rels.map reT).flatten))],.cells 78 [.ptr 0 0],.cells 44 ((Yf pl (.mk tys rels rules comps inits overs)).map .d)],[0],1⟩∧(P=.d .nilp∨P=.ptr 0 0))),(36,([2,3],fun vs σ=>∃P:PV,vs=[.ptr 1 0,.ptr 2 0]∧σ=⟨[.cells 84 [P,.sl 0 5 (Zl (l++(tys.map tyT).flatten++(rels.map reT).flatten++(comps.map coT).flatten))],.cells 78 [.ptr 0 0],.cells 44 ((Yf pl (.mk tys rels rules comps inits overs)).map .d)],[0],1⟩∧(P=.d .nilp∨P=.ptr 0 0))),(41,([2,3],fun vs σ=>∃P:PV,vs=[.ptr 1 0,.ptr 2 0]∧σ=⟨[.cells 84 [P,.sl 0 5 (Zl (l++(tys.map tyT).flatten++(rels.map reT).flatten++(comps.map coT).flatten++(inits.map inT).flatten))],.cells 78 [.ptr 0 0],.cells 44 ((Yf pl (.mk tys rels rules comps inits overs)).map .d)],[0],1⟩∧(P=.d .nilp∨P=.ptr 0 0))),(46,([2,3],fun vs σ=>∃P:PV,vs=[.ptr 1 0,.ptr 2 0]∧σ=⟨[.cells 84 [P,.sl 0 5 (Zl (l++(tys.map tyT).flatten++(rels.map reT).flatten++(comps.map coT).flatten++(inits.map inT).flatten++(overs.map ovT).flatten))],.cells 78 [.ptr 0 0],.cells 44 ((Yf pl (.mk tys rels rules comps inits overs)).map .d)],[0],1⟩∧(P=.d .nilp∨P=.ptr 0 0)))],1,true,by simp,Tb rfl,?_⟩
  rcases hp with rfl | rfl
  all_goals
   conv=>whnf
   refine ⟨?_,?_⟩
   ·conv=>whnf
    refine ⟨⟨0,_,rfl,(by simp only [T6,TG,Sl,TC];rfl),(by first | exact .inl rfl | exact .inr rfl),by omega⟩,?_⟩
    intro vs σ hI
    obtain ⟨i,P,rfl,rfl,hP,hi⟩:=hI
    conv=>whnf
    refine ZCX (fun hi2=>?_) (fun hi2=>?_)
    ·have hl1:(tys.map (Zx pl)).length=tys.length:=Te ..
     have hi2:i<tys.length:=by have hi2:(i:Int)<(tys.map (Zx pl)).length:=hi2;rw [hl1] at hi2;omega
     have hg:=Zn wTy tys i hi2
     have htk:=UE tyT hi2
     have hle:=ZcG tyT tys (i+1)
     have hmem:=TU hi2
     obtain ⟨L,hL⟩:∃L,l++((tys.take i).map tyT).flatten=L:=⟨_,rfl⟩
     have hLl:L.length=(l).length+((tys.take i).map tyT).flatten.length:=by rw [← hL,Ta]
     (try simp only [Ta] at hLl)
     rw [htk,Ta] at hle
     rw [hL]
     obtain ⟨x,hX⟩:∃x,tys[i]=x:=⟨_,rfl⟩
     rw [hX] at hg hmem htk hle
     obtain ⟨kd,nm,base,fs,cs,at'⟩:=x
     have hfin:l++((tys.take (i+1)).map tyT).flatten=L++tyT ⟨kd,nm,base,fs,cs,at'⟩:=by rw [htk,← Tg,hL]
     have hr1:(tys.map (Zx pl))[((i:Nat):Int).toNat]?=some (Zx pl ⟨kd,nm,base,fs,cs,at'⟩):=by simp [hi2,hX]
     obtain ⟨q1,q2,q3,q4⟩:=ZgV (m1 _ hmem)
     simp only at q1 q2 q3 q4
     have hg2:wTy ⟨kd,nm,base,fs,cs,at'⟩=1+nm.length+base.length+szS wFi fs+szS wCa cs:=rfl
     have hw:nm.length+base.length+szS wFi fs+szS wCa cs≤n:=by omega
     conv=>whnf
     refine ⟨_,by omega,hr1,?_⟩
     by_cases k1:kd=1
     ·have hT:tyT ⟨kd,nm,base,fs,cs,at'⟩=[116,121,112,101,32]++(nm++(([32,60,58,32]++base)++[10])):=by rw [tyT,Th k1]
      rw [hT] at hle
      simp only [Ta,Tc,Td] at hle
      rcases hP with rfl | rfl
      all_goals
       conv=>whnf
       refine ⟨L,[116,121,112,101,32]++nm,rfl,⟨(by first | exact .inl rfl | exact .inr rfl),rfl,rfl⟩,⟨[[116,121,112,101,32],nm],rfl,by simp,by simp,by simp⟩,(by (try simp only [Ta,Tc,Td]);omega),?_⟩
       conv=>whnf
       refine ZCX (fun _=>?_) (fun g=>absurd (show (kd:Int)=1 by omega) g)
       conv=>whnf
       refine ⟨L++([116,121,112,101,32]++nm),[32,60,58,32]++base,rfl,⟨.inr rfl,rfl,rfl⟩,⟨[[32,60,58,32],base],rfl,by simp,by simp,by simp⟩,(by (try simp only [Ta,Tc,Td]);omega),?_⟩
       conv=>whnf
       refine ⟨L++([116,121,112,101,32]++nm)++([32,60,58,32]++base),[10],rfl,⟨.inr rfl,rfl,rfl⟩,⟨[[10]],rfl,by simp,by simp,by simp⟩,(by (try simp only [Ta,Tc,Td]);omega),?_⟩
       conv=>whnf
       refine oiO ?_
       conv=>whnf
       refine ⟨⟨i+1,_,rfl,(by rw [hfin,hT];simp only [Tg];rfl),.inr rfl,by omega⟩,?_⟩
       show ((tys.length:Int) - ((i:Int)+1)).toNat<((tys.length:Int) - (i:Int)).toNat
       omega
     by_cases k2:kd=2
     ·have hT:tyT ⟨kd,nm,base,fs,cs,at'⟩=[116,121,112,101,32]++(nm++(V3 [32,61,32,91] fs [93]++[10])):=by rw [tyT,Tf k1,Th k2]
      rw [hT] at hle
      simp only [Ta,Tc,Td] at hle
      rcases hP with rfl | rfl
      all_goals
       conv=>whnf
       refine ⟨L,[116,121,112,101,32]++nm,rfl,⟨(by first | exact .inl rfl | exact .inr rfl),rfl,rfl⟩,⟨[[116,121,112,101,32],nm],rfl,by simp,by simp,by simp⟩,(by (try simp only [Ta,Tc,Td]);omega),?_⟩
       conv=>whnf
       refine ZCX (fun g=>absurd (show kd=1 by have g:(kd:Int)=1:=g;omega) k1) (fun _=>?_)
       conv=>whnf
       refine ZCX (fun _=>?_) (fun g=>absurd (show (kd:Int)=2 by omega) g)
       conv=>whnf
       refine ⟨L++([116,121,112,101,32]++nm),V3 [32,61,32,91] fs [93],rfl,⟨.inr rfl,rfl,rfl⟩,⟨[32,61,32,91],[93],fs,rfl,⟨Tl.2 q2,by omega,by omega⟩,rfl⟩,(by (try simp only [Ta,Tc,Td]);omega),?_⟩
       conv=>whnf
       refine ⟨L++([116,121,112,101,32]++nm)++V3 [32,61,32,91] fs [93],[10],rfl,⟨.inr rfl,rfl,rfl⟩,⟨[[10]],rfl,by simp,by simp,by simp⟩,(by (try simp only [Ta,Tc,Td]);omega),?_⟩
       conv=>whnf
       refine oiO ?_
       conv=>whnf
       refine ⟨⟨i+1,_,rfl,(by rw [hfin,hT];simp only [Tg];rfl),.inr rfl,by omega⟩,?_⟩
       show ((tys.length:Int) - ((i:Int)+1)).toNat<((tys.length:Int) - (i:Int)).toNat
       omega
     have hT:tyT ⟨kd,nm,base,fs,cs,at'⟩=[116,121,112,101,32]++(nm++([32,61,32]++(Zg [32,124,32] (cs.map caT)++[10]))):=by rw [tyT,Tf k1,Tf k2];simp only [Tg]
     rw [hT] at hle
     simp only [Ta,Tc,Td] at hle
     rcases hP with rfl | rfl
     all_goals
      conv=>whnf
      refine ⟨L,[116,121,112,101,32]++nm,rfl,⟨(by first | exact .inl rfl | exact .inr rfl),rfl,rfl⟩,⟨[[116,121,112,101,32],nm],rfl,by simp,by simp,by simp⟩,(by (try simp only [Ta,Tc,Td]);omega),?_⟩
      conv=>whnf
      refine ZCX (fun g=>absurd (show kd=1 by have g:(kd:Int)=1:=g;omega) k1) (fun _=>?_)
      conv=>whnf
      refine ZCX (fun g=>absurd (show kd=2 by have g:(kd:Int)=2:=g;omega) k2) (fun _=>?_)
      conv=>whnf
      refine ⟨L++([116,121,112,101,32]++nm),[32,61,32],rfl,⟨.inr rfl,rfl,rfl⟩,⟨[[32,61,32]],rfl,by simp,by simp,by simp⟩,(by (try simp only [Ta,Tc,Td]);omega),?_⟩
      conv=>whnf
      refine ⟨L++([116,121,112,101,32]++nm)++[32,61,32],fun _=>0,cs,rfl,rfl,⟨rfl,rfl,rfl⟩,⟨Tl.2 q3,by omega,by omega⟩,(by (try simp only [Ta,Tc,Td]);show _+(Zg [32,124,32] (cs.map caT)).length<_;omega),?_⟩
      conv=>whnf
      refine ⟨L++([116,121,112,101,32]++nm)++[32,61,32]++Zg [32,124,32] (cs.map caT),[10],rfl,⟨.inr rfl,rfl,rfl⟩,⟨[[10]],rfl,by simp,by simp,by simp⟩,(by (try simp only [Ta,Tc,Td]);omega),?_⟩
      conv=>whnf
      refine oiO ?_
      conv=>whnf
      refine ⟨⟨i+1,_,rfl,(by rw [hfin,hT];simp only [Tg];rfl),.inr rfl,by omega⟩,?_⟩
      show ((tys.length:Int) - ((i:Int)+1)).toNat<((tys.length:Int) - (i:Int)).toNat
      omega
    have hi2:i=tys.length:=by
     have hl1:(tys.map (Zx pl)).length=tys.length:=Te ..
     have hi2:¬(i:Int)<(tys.map (Zx pl)).length:=hi2
     rw [hl1] at hi2;omega
    subst hi2
    rw [Sc]
    rcases hP with rfl | rfl
    all_goals
     conv=>whnf
     exact ⟨_,rfl,rfl,(by first | exact .inl rfl | exact .inr rfl)⟩
   intro vs σ hI
   obtain ⟨P,rfl,rfl,hP⟩:=hI
   conv=>whnf
   refine ⟨?_,?_⟩
   ·rcases hP with rfl | rfl
    all_goals
     conv=>whnf
     refine ⟨⟨0,_,rfl,(by simp only [T6,TG,Sl,TC];rfl),(by first | exact .inl rfl | exact .inr rfl),by omega⟩,?_⟩
     intro vs σ hI
     obtain ⟨i,P,rfl,rfl,hP,hi⟩:=hI
     conv=>whnf
     refine ZCX (fun hi2=>?_) (fun hi2=>?_)
     ·have hl1:(rels.map (ZG pl)).length=rels.length:=Te ..
      have hi2:i<rels.length:=by have hi2:(i:Int)<(rels.map (ZG pl)).length:=hi2;rw [hl1] at hi2;omega
      have hg:=Zn wRe rels i hi2
      have htk:=UE reT hi2
      have hle:=ZcG reT rels (i+1)
      have hmem:=TU hi2
      obtain ⟨L,hL⟩:∃L,l++(tys.map tyT).flatten++((rels.take i).map reT).flatten=L:=⟨_,rfl⟩
      have hLl:L.length=(l++(tys.map tyT).flatten).length+((rels.take i).map reT).flatten.length:=by rw [← hL,Ta]
      (try simp only [Ta] at hLl)
      rw [htk,Ta] at hle
      rw [hL]
      obtain ⟨x,hX⟩:∃x,rels[i]=x:=⟨_,rfl⟩
      rw [hX] at hg hmem htk hle
      obtain ⟨nm,fs,b1,b2,b3,at'⟩:=x
      have hfin:l++(tys.map tyT).flatten++((rels.take (i+1)).map reT).flatten=L++reT ⟨nm,fs,b1,b2,b3,at'⟩:=by rw [htk,← Tg,hL]
      have hr1:(rels.map (ZG pl))[((i:Nat):Int).toNat]?=some (ZG pl ⟨nm,fs,b1,b2,b3,at'⟩):=by simp [hi2,hX]
      have q:=m2 _ hmem
      simp only [X3,Tk] at q
      obtain ⟨q1,q2⟩:=q
      have q2:=Tl.1 q2
      have hg2:wRe ⟨nm,fs,b1,b2,b3,at'⟩=1+nm.length+szS wFi fs:=rfl
      have hw:nm.length+szS wFi fs≤n:=by omega
      conv=>whnf
      refine ⟨_,by omega,hr1,?_⟩
      have hT0:reT ⟨nm,fs,b1,b2,b3,at'⟩=V3 ([100,101,99,108,32]++nm++[40]) fs [41]++((if b1 then [32,105,110,112,117,116] else [])++((if b2 then [32,111,117,116,112,117,116] else [])++((if b3 then [32,105,110,108,105,110,101] else [])++[10]))):=by rw [reT];simp only [Tg]
      rcases hP with rfl | rfl
      all_goals
       conv=>whnf
       refine ⟨by simp only [Tc,Td];omega,?_⟩
       conv=>whnf
       refine ⟨by simp only [Ta,Tc,Td];omega,?_⟩
       cases b1 <;> cases b2 <;> cases b3
       ·have hT:=hT0
        simp only [if_true,Tr,if_false,To] at hT
        rw [hT] at hle
        simp only [Ta,Tc,Td] at hle
        conv=>whnf
        refine ⟨L,V3 ([100,101,99,108,32]++nm++[40]) fs [41],rfl,⟨(by first | exact .inl rfl | exact .inr rfl),rfl,rfl⟩,⟨([100,101,99,108,32]++nm++[40]),[41],fs,rfl,⟨Tl.2 q2,by omega,by omega⟩,rfl⟩,(by (try simp only [Ta,Tc,Td]);omega),?_⟩
        conv=>whnf
        refine ⟨by decide,by decide,?_⟩
        conv=>whnf
        refine oiD ?_
        conv=>whnf
        refine ⟨by decide,by decide,?_⟩
        conv=>whnf
        refine oiD ?_
        conv=>whnf
        refine ⟨by decide,by decide,?_⟩
        conv=>whnf
        refine oiD ?_
        conv=>whnf
        refine ⟨L++V3 ([100,101,99,108,32]++nm++[40]) fs [41],[10],rfl,⟨.inr rfl,rfl,rfl⟩,⟨[[10]],rfl,by simp,by simp,by simp⟩,(by (try simp only [Ta,Tc,Td]);omega),?_⟩
        exact m21
       ·have hT:=hT0
        simp only [if_true,Tr,if_false,To] at hT
        rw [hT] at hle
        simp only [Ta,Tc,Td] at hle
        conv=>whnf
        refine ⟨L,V3 ([100,101,99,108,32]++nm++[40]) fs [41],rfl,⟨(by first | exact .inl rfl | exact .inr rfl),rfl,rfl⟩,⟨([100,101,99,108,32]++nm++[40]),[41],fs,rfl,⟨Tl.2 q2,by omega,by omega⟩,rfl⟩,(by (try simp only [Ta,Tc,Td]);omega),?_⟩
        conv=>whnf
        refine ⟨by decide,by decide,?_⟩
        conv=>whnf
        refine oiD ?_
        conv=>whnf
        refine ⟨by decide,by decide,?_⟩
        conv=>whnf
        refine oiD ?_
        conv=>whnf
        refine ⟨by decide,by decide,?_⟩
        conv=>whnf
        refine ⟨by decide,by decide,?_⟩
        conv=>whnf
        refine ⟨L++V3 ([100,101,99,108,32]++nm++[40]) fs [41],[32,105,110,108,105,110,101],rfl,⟨.inr rfl,rfl,rfl⟩,⟨[[32,105,110,108,105,110,101]],rfl,by simp,by simp,by simp⟩,(by (try simp only [Ta,Tc,Td]);omega),?_⟩
        conv=>whnf
        (repeat (refine ⟨rfl,?_⟩;conv=>whnf))
        conv=>whnf
        refine oiD ?_
        conv=>whnf
        refine ⟨L++V3 ([100,101,99,108,32]++nm++[40]) fs [41]++[32,105,110,108,105,110,101],[10],rfl,⟨.inr rfl,rfl,rfl⟩,⟨[[10]],rfl,by simp,by simp,by simp⟩,(by (try simp only [Ta,Tc,Td]);omega),?_⟩
        exact m21
       ·have hT:=hT0
        simp only [if_true,Tr,if_false,To] at hT
        rw [hT] at hle
        simp only [Ta,Tc,Td] at hle
        conv=>whnf
        refine ⟨L,V3 ([100,101,99,108,32]++nm++[40]) fs [41],rfl,⟨(by first | exact .inl rfl | exact .inr rfl),rfl,rfl⟩,⟨([100,101,99,108,32]++nm++[40]),[41],fs,rfl,⟨Tl.2 q2,by omega,by omega⟩,rfl⟩,(by (try simp only [Ta,Tc,Td]);omega),?_⟩
        conv=>whnf
        refine ⟨by decide,by decide,?_⟩
        conv=>whnf
        refine oiD ?_
        conv=>whnf
        refine ⟨by decide,by decide,?_⟩
        conv=>whnf
        refine ⟨by decide,by decide,?_⟩
        conv=>whnf
        refine ⟨L++V3 ([100,101,99,108,32]++nm++[40]) fs [41],[32,111,117,116,112,117,116],rfl,⟨.inr rfl,rfl,rfl⟩,⟨[[32,111,117,116,112,117,116]],rfl,by simp,by simp,by simp⟩,(by (try simp only [Ta,Tc,Td]);omega),?_⟩
        conv=>whnf
        (repeat (refine ⟨rfl,?_⟩;conv=>whnf))
        conv=>whnf
        refine oiD ?_
        conv=>whnf
        refine ⟨by decide,by decide,?_⟩
        conv=>whnf
        refine oiD ?_
        conv=>whnf
        refine ⟨L++V3 ([100,101,99,108,32]++nm++[40]) fs [41]++[32,111,117,116,112,117,116],[10],rfl,⟨.inr rfl,rfl,rfl⟩,⟨[[10]],rfl,by simp,by simp,by simp⟩,(by (try simp only [Ta,Tc,Td]);omega),?_⟩
        exact m21
       ·have hT:=hT0
        simp only [if_true,Tr,if_false,To] at hT
        rw [hT] at hle
        simp only [Ta,Tc,Td] at hle
        conv=>whnf
        refine ⟨L,V3 ([100,101,99,108,32]++nm++[40]) fs [41],rfl,⟨(by first | exact .inl rfl | exact .inr rfl),rfl,rfl⟩,⟨([100,101,99,108,32]++nm++[40]),[41],fs,rfl,⟨Tl.2 q2,by omega,by omega⟩,rfl⟩,(by (try simp only [Ta,Tc,Td]);omega),?_⟩
        conv=>whnf
        refine ⟨by decide,by decide,?_⟩
        conv=>whnf
        refine oiD ?_
        conv=>whnf
        refine ⟨by decide,by decide,?_⟩
        conv=>whnf
        refine ⟨by decide,by decide,?_⟩
        conv=>whnf
        refine ⟨L++V3 ([100,101,99,108,32]++nm++[40]) fs [41],[32,111,117,116,112,117,116],rfl,⟨.inr rfl,rfl,rfl⟩,⟨[[32,111,117,116,112,117,116]],rfl,by simp,by simp,by simp⟩,(by (try simp only [Ta,Tc,Td]);omega),?_⟩
        conv=>whnf
        (repeat (refine ⟨rfl,?_⟩;conv=>whnf))
        conv=>whnf
        refine oiD ?_
        conv=>whnf
        refine ⟨by decide,by decide,?_⟩
        conv=>whnf
        refine ⟨by decide,by decide,?_⟩
        conv=>whnf
        refine ⟨L++V3 ([100,101,99,108,32]++nm++[40]) fs [41]++[32,111,117,116,112,117,116],[32,105,110,108,105,110,101],rfl,⟨.inr rfl,rfl,rfl⟩,⟨[[32,105,110,108,105,110,101]],rfl,by simp,by simp,by simp⟩,(by (try simp only [Ta,Tc,Td]);omega),?_⟩
        conv=>whnf
        (repeat (refine ⟨rfl,?_⟩;conv=>whnf))
        conv=>whnf
        refine oiD ?_
        conv=>whnf
        refine ⟨L++V3 ([100,101,99,108,32]++nm++[40]) fs [41]++[32,111,117,116,112,117,116]++[32,105,110,108,105,110,101],[10],rfl,⟨.inr rfl,rfl,rfl⟩,⟨[[10]],rfl,by simp,by simp,by simp⟩,(by (try simp only [Ta,Tc,Td]);omega),?_⟩
        exact m21
       ·have hT:=hT0
        simp only [if_true,Tr,if_false,To] at hT
        rw [hT] at hle
        simp only [Ta,Tc,Td] at hle
        conv=>whnf
        refine ⟨L,V3 ([100,101,99,108,32]++nm++[40]) fs [41],rfl,⟨(by first | exact .inl rfl | exact .inr rfl),rfl,rfl⟩,⟨([100,101,99,108,32]++nm++[40]),[41],fs,rfl,⟨Tl.2 q2,by omega,by omega⟩,rfl⟩,(by (try simp only [Ta,Tc,Td]);omega),?_⟩
        conv=>whnf
        refine ⟨by decide,by decide,?_⟩
        conv=>whnf
        refine ⟨by decide,by decide,?_⟩
        conv=>whnf
        refine ⟨L++V3 ([100,101,99,108,32]++nm++[40]) fs [41],[32,105,110,112,117,116],rfl,⟨.inr rfl,rfl,rfl⟩,⟨[[32,105,110,112,117,116]],rfl,by simp,by simp,by simp⟩,(by (try simp only [Ta,Tc,Td]);omega),?_⟩
        conv=>whnf
        (repeat (refine ⟨rfl,?_⟩;conv=>whnf))
        conv=>whnf
        refine oiD ?_
        conv=>whnf
        refine ⟨by decide,by decide,?_⟩
        conv=>whnf
        refine oiD ?_
        conv=>whnf
        refine ⟨by decide,by decide,?_⟩
        conv=>whnf
        refine oiD ?_
        conv=>whnf
        refine ⟨L++V3 ([100,101,99,108,32]++nm++[40]) fs [41]++[32,105,110,112,117,116],[10],rfl,⟨.inr rfl,rfl,rfl⟩,⟨[[10]],rfl,by simp,by simp,by simp⟩,(by (try simp only [Ta,Tc,Td]);omega),?_⟩
        exact m21
       ·have hT:=hT0
        simp only [if_true,Tr,if_false,To] at hT
        rw [hT] at hle
        simp only [Ta,Tc,Td] at hle
        conv=>whnf
        refine ⟨L,V3 ([100,101,99,108,32]++nm++[40]) fs [41],rfl,⟨(by first | exact .inl rfl | exact .inr rfl),rfl,rfl⟩,⟨([100,101,99,108,32]++nm++[40]),[41],fs,rfl,⟨Tl.2 q2,by omega,by omega⟩,rfl⟩,(by (try simp only [Ta,Tc,Td]);omega),?_⟩
        conv=>whnf
        refine ⟨by decide,by decide,?_⟩
        conv=>whnf
        refine ⟨by decide,by decide,?_⟩
        conv=>whnf
        refine ⟨L++V3 ([100,101,99,108,32]++nm++[40]) fs [41],[32,105,110,112,117,116],rfl,⟨.inr rfl,rfl,rfl⟩,⟨[[32,105,110,112,117,116]],rfl,by simp,by simp,by simp⟩,(by (try simp only [Ta,Tc,Td]);omega),?_⟩
        conv=>whnf
        (repeat (refine ⟨rfl,?_⟩;conv=>whnf))
        conv=>whnf
        refine oiD ?_
        conv=>whnf
        refine ⟨by decide,by decide,?_⟩
        conv=>whnf
        refine oiD ?_
        conv=>whnf
        refine ⟨by decide,by decide,?_⟩
        conv=>whnf
        refine ⟨by decide,by decide,?_⟩
        conv=>whnf
        refine ⟨L++V3 ([100,101,99,108,32]++nm++[40]) fs [41]++[32,105,110,112,117,116],[32,105,110,108,105,110,101],rfl,⟨.inr rfl,rfl,rfl⟩,⟨[[32,105,110,108,105,110,101]],rfl,by simp,by simp,by simp⟩,(by (try simp only [Ta,Tc,Td]);omega),?_⟩
        conv=>whnf
        (repeat (refine ⟨rfl,?_⟩;conv=>whnf))
        conv=>whnf
        refine oiD ?_
        conv=>whnf
        refine ⟨L++V3 ([100,101,99,108,32]++nm++[40]) fs [41]++[32,105,110,112,117,116]++[32,105,110,108,105,110,101],[10],rfl,⟨.inr rfl,rfl,rfl⟩,⟨[[10]],rfl,by simp,by simp,by simp⟩,(by (try simp only [Ta,Tc,Td]);omega),?_⟩
        exact m21
       ·have hT:=hT0
        simp only [if_true,Tr,if_false,To] at hT
        rw [hT] at hle
        simp only [Ta,Tc,Td] at hle
        conv=>whnf
        refine ⟨L,V3 ([100,101,99,108,32]++nm++[40]) fs [41],rfl,⟨(by first | exact .inl rfl | exact .inr rfl),rfl,rfl⟩,⟨([100,101,99,108,32]++nm++[40]),[41],fs,rfl,⟨Tl.2 q2,by omega,by omega⟩,rfl⟩,(by (try simp only [Ta,Tc,Td]);omega),?_⟩
        conv=>whnf
        refine ⟨by decide,by decide,?_⟩
        conv=>whnf
        refine ⟨by decide,by decide,?_⟩
        conv=>whnf
        refine ⟨L++V3 ([100,101,99,108,32]++nm++[40]) fs [41],[32,105,110,112,117,116],rfl,⟨.inr rfl,rfl,rfl⟩,⟨[[32,105,110,112,117,116]],rfl,by simp,by simp,by simp⟩,(by (try simp only [Ta,Tc,Td]);omega),?_⟩
        conv=>whnf
        (repeat (refine ⟨rfl,?_⟩;conv=>whnf))
        conv=>whnf
        refine oiD ?_
        conv=>whnf
        refine ⟨by decide,by decide,?_⟩
        conv=>whnf
        refine ⟨by decide,by decide,?_⟩
        conv=>whnf
        refine ⟨L++V3 ([100,101,99,108,32]++nm++[40]) fs [41]++[32,105,110,112,117,116],[32,111,117,116,112,117,116],rfl,⟨.inr rfl,rfl,rfl⟩,⟨[[32,111,117,116,112,117,116]],rfl,by simp,by simp,by simp⟩,(by (try simp only [Ta,Tc,Td]);omega),?_⟩
        conv=>whnf
        (repeat (refine ⟨rfl,?_⟩;conv=>whnf))
        conv=>whnf
        refine oiD ?_
        conv=>whnf
        refine ⟨by decide,by decide,?_⟩
        conv=>whnf
        refine oiD ?_
        conv=>whnf
        refine ⟨L++V3 ([100,101,99,108,32]++nm++[40]) fs [41]++[32,105,110,112,117,116]++[32,111,117,116,112,117,116],[10],rfl,⟨.inr rfl,rfl,rfl⟩,⟨[[10]],rfl,by simp,by simp,by simp⟩,(by (try simp only [Ta,Tc,Td]);omega),?_⟩
        exact m21
       ·have hT:=hT0
        simp only [if_true,Tr,if_false,To] at hT
        rw [hT] at hle
        simp only [Ta,Tc,Td] at hle
        conv=>whnf
        refine ⟨L,V3 ([100,101,99,108,32]++nm++[40]) fs [41],rfl,⟨(by first | exact .inl rfl | exact .inr rfl),rfl,rfl⟩,⟨([100,101,99,108,32]++nm++[40]),[41],fs,rfl,⟨Tl.2 q2,by omega,by omega⟩,rfl⟩,(by (try simp only [Ta,Tc,Td]);omega),?_⟩
        conv=>whnf
        refine ⟨by decide,by decide,?_⟩
        conv=>whnf
        refine ⟨by decide,by decide,?_⟩
        conv=>whnf
        refine ⟨L++V3 ([100,101,99,108,32]++nm++[40]) fs [41],[32,105,110,112,117,116],rfl,⟨.inr rfl,rfl,rfl⟩,⟨[[32,105,110,112,117,116]],rfl,by simp,by simp,by simp⟩,(by (try simp only [Ta,Tc,Td]);omega),?_⟩
        conv=>whnf
        (repeat (refine ⟨rfl,?_⟩;conv=>whnf))
        conv=>whnf
        refine oiD ?_
        conv=>whnf
        refine ⟨by decide,by decide,?_⟩
        conv=>whnf
        refine ⟨by decide,by decide,?_⟩
        conv=>whnf
        refine ⟨L++V3 ([100,101,99,108,32]++nm++[40]) fs [41]++[32,105,110,112,117,116],[32,111,117,116,112,117,116],rfl,⟨.inr rfl,rfl,rfl⟩,⟨[[32,111,117,116,112,117,116]],rfl,by simp,by simp,by simp⟩,(by (try simp only [Ta,Tc,Td]);omega),?_⟩
        conv=>whnf
        (repeat (refine ⟨rfl,?_⟩;conv=>whnf))
        conv=>whnf
        refine oiD ?_
        conv=>whnf
        refine ⟨by decide,by decide,?_⟩
        conv=>whnf
        refine ⟨by decide,by decide,?_⟩
        conv=>whnf
        refine ⟨L++V3 ([100,101,99,108,32]++nm++[40]) fs [41]++[32,105,110,112,117,116]++[32,111,117,116,112,117,116],[32,105,110,108,105,110,101],rfl,⟨.inr rfl,rfl,rfl⟩,⟨[[32,105,110,108,105,110,101]],rfl,by simp,by simp,by simp⟩,(by (try simp only [Ta,Tc,Td]);omega),?_⟩
        conv=>whnf
        (repeat (refine ⟨rfl,?_⟩;conv=>whnf))
        conv=>whnf
        refine oiD ?_
        conv=>whnf
        refine ⟨L++V3 ([100,101,99,108,32]++nm++[40]) fs [41]++[32,105,110,112,117,116]++[32,111,117,116,112,117,116]++[32,105,110,108,105,110,101],[10],rfl,⟨.inr rfl,rfl,rfl⟩,⟨[[10]],rfl,by simp,by simp,by simp⟩,(by (try simp only [Ta,Tc,Td]);omega),?_⟩
        exact m21
     have hi2:i=rels.length:=by
      have hl1:(rels.map (ZG pl)).length=rels.length:=Te ..
      have hi2:¬(i:Int)<(rels.map (ZG pl)).length:=hi2
      rw [hl1] at hi2;omega
     subst hi2
     rw [Sc]
     rcases hP with rfl | rfl
     all_goals
      conv=>whnf
      exact ⟨_,rfl,rfl,(by first | exact .inl rfl | exact .inr rfl)⟩
   intro vs σ hI
   obtain ⟨P,rfl,rfl,hP⟩:=hI
   conv=>whnf
   refine ⟨?_,?_⟩
   ·rcases hP with rfl | rfl
    all_goals
     conv=>whnf
     refine ⟨⟨0,_,rfl,(by simp only [T6,TG,Sl,TC];rfl),(by first | exact .inl rfl | exact .inr rfl),by omega⟩,?_⟩
     intro vs σ hI
     obtain ⟨i,P,rfl,rfl,hP,hi⟩:=hI
     conv=>whnf
     refine ZCX (fun hi2=>?_) (fun hi2=>?_)
     ·have hl1:(comps.map (ZW pl)).length=comps.length:=Te ..
      have hi2:i<comps.length:=by have hi2:(i:Int)<(comps.map (ZW pl)).length:=(by rw [← ec];exact hi2);rw [hl1] at hi2;omega
      have hg:=Zn wCo comps i hi2
      have htk:=UE coT hi2
      have hle:=ZcG coT comps (i+1)
      have hmem:=TU hi2
      obtain ⟨L,hL⟩:∃L,l++(tys.map tyT).flatten++(rels.map reT).flatten++((comps.take i).map coT).flatten=L:=⟨_,rfl⟩
      have hLl:L.length=(l++(tys.map tyT).flatten++(rels.map reT).flatten).length+((comps.take i).map coT).flatten.length:=by rw [← hL,Ta]
      (try simp only [Ta] at hLl)
      rw [htk,Ta] at hle
      rw [hL]
      obtain ⟨x,hX⟩:∃x,comps[i]=x:=⟨_,rfl⟩
      rw [hX] at hg hmem htk hle
      obtain ⟨nm,ps,base,ts,⟨u1,u2,u3,u4,u5,u6⟩,at'⟩:=x
      have hfin:l++(tys.map tyT).flatten++(rels.map reT).flatten++((comps.take (i+1)).map coT).flatten=L++coT (.mk nm ps base ts (.mk u1 u2 u3 u4 u5 u6) at'):=by rw [htk,← Tg,hL]
      have hr1:(comps.map (ZW pl))[((i:Nat):Int).toNat]?=some (ZW pl (.mk nm ps base ts (.mk u1 u2 u3 u4 u5 u6) at')):=by simp [hi2,hX]
      have hu:=Zsa (m4 _ hmem)
      have hw:nm.length+szS wBs ps+base.length+szS wBs ts+wUn (.mk u1 u2 u3 u4 u5 u6)+1≤n:=by rw [wCo] at hg;omega
      rw [← ec] at hr1
      conv=>whnf
      refine ⟨_,by omega,hr1,?_⟩
      by_cases k1:base=[]
      ·have hT:coT (.mk nm ps base ts (.mk u1 u2 u3 u4 u5 u6) at')=([99,111,109,112,32]++nm++Jl ps)++([32,123,10]++(unT (.mk u1 u2 u3 u4 u5 u6)++([125,10]))):=by rw [coT,Th k1,To];simp only [Tg]
       rw [hT] at hle
       simp only [Ta,Tc,Td] at hle
       rcases hP with rfl | rfl
       all_goals
        conv=>whnf
        refine ⟨ps,rfl,⟨by omega,hn⟩,?_⟩
        conv=>whnf
        (repeat (refine ⟨rfl,?_⟩;conv=>whnf))
        refine ⟨L,[99,111,109,112,32]++nm++Jl ps,rfl,⟨(by first | exact .inl rfl | exact .inr rfl),rfl,rfl⟩,⟨[[99,111,109,112,32],nm,Jl ps],rfl,by simp,by simp,by simp⟩,(by (try simp only [Ta,Tc,Td]);omega),?_⟩
        conv=>whnf
        (repeat (refine ⟨rfl,?_⟩;conv=>whnf))
        refine ZCY (fun g=>absurd k1 g) (fun _=>?_)
        conv=>whnf
        refine ⟨L++([99,111,109,112,32]++nm++Jl ps),[32,123,10],rfl,⟨.inr rfl,rfl,rfl⟩,⟨[[32,123,10]],rfl,by simp,by simp,by simp⟩,(by (try simp only [Ta,Tc,Td]);omega),?_⟩
        conv=>whnf
        refine ⟨by omega,L++([99,111,109,112,32]++nm++Jl ps)++[32,123,10],unT (.mk u1 u2 u3 u4 u5 u6),rfl,⟨.inr rfl,rfl,rfl⟩,⟨pl,.mk u1 u2 u3 u4 u5 u6,rfl,⟨hu,by omega,by omega⟩,rfl⟩,(by (try simp only [Ta,Tc,Td]);omega),fun p' hp'=>?_⟩
        rcases hp' with rfl | rfl
        all_goals
         conv=>whnf
         refine ⟨L++([99,111,109,112,32]++nm++Jl ps)++[32,123,10]++unT (.mk u1 u2 u3 u4 u5 u6),[125,10],rfl,⟨(by first | exact .inl rfl | exact .inr rfl),rfl,rfl⟩,⟨[[125,10]],rfl,by simp,by simp,by simp⟩,(by (try simp only [Ta,Tc,Td]);omega),?_⟩
         conv=>whnf
         refine oiO ?_
         conv=>whnf
         refine ⟨⟨i+1,_,rfl,(by rw [hfin,hT];simp only [Tg];rfl),.inr rfl,by omega⟩,?_⟩
         show ((comps.length:Int) - ((i:Int)+1)).toNat<((comps.length:Int) - (i:Int)).toNat
         omega
      have hT:coT (.mk nm ps base ts (.mk u1 u2 u3 u4 u5 u6) at')=([99,111,109,112,32]++nm++Jl ps)++(([32,58,32]++base++Jl ts)++([32,123,10]++(unT (.mk u1 u2 u3 u4 u5 u6)++([125,10])))):=by rw [coT,Tf k1];simp only [Tg]
      rw [hT] at hle
      simp only [Ta,Tc,Td] at hle
      rcases hP with rfl | rfl
      all_goals
       conv=>whnf
       refine ⟨ps,rfl,⟨by omega,hn⟩,?_⟩
       conv=>whnf
       (repeat (refine ⟨rfl,?_⟩;conv=>whnf))
       refine ⟨L,[99,111,109,112,32]++nm++Jl ps,rfl,⟨(by first | exact .inl rfl | exact .inr rfl),rfl,rfl⟩,⟨[[99,111,109,112,32],nm,Jl ps],rfl,by simp,by simp,by simp⟩,(by (try simp only [Ta,Tc,Td]);omega),?_⟩
       conv=>whnf
       (repeat (refine ⟨rfl,?_⟩;conv=>whnf))
       refine ZCY (fun _=>?_) (fun g=>absurd g k1)
       conv=>whnf
       refine ⟨ts,rfl,⟨by omega,hn⟩,?_⟩
       conv=>whnf
       (repeat (refine ⟨rfl,?_⟩;conv=>whnf))
       refine ⟨L++([99,111,109,112,32]++nm++Jl ps),[32,58,32]++base++Jl ts,rfl,⟨.inr rfl,rfl,rfl⟩,⟨[[32,58,32],base,Jl ts],rfl,by simp,by simp,by simp⟩,(by (try simp only [Ta,Tc,Td]);omega),?_⟩
       conv=>whnf
       (repeat (refine ⟨rfl,?_⟩;conv=>whnf))
       conv=>whnf
       refine ⟨L++([99,111,109,112,32]++nm++Jl ps)++([32,58,32]++base++Jl ts),[32,123,10],rfl,⟨.inr rfl,rfl,rfl⟩,⟨[[32,123,10]],rfl,by simp,by simp,by simp⟩,(by (try simp only [Ta,Tc,Td]);omega),?_⟩
       conv=>whnf
       refine ⟨by omega,L++([99,111,109,112,32]++nm++Jl ps)++([32,58,32]++base++Jl ts)++[32,123,10],unT (.mk u1 u2 u3 u4 u5 u6),rfl,⟨.inr rfl,rfl,rfl⟩,⟨pl,.mk u1 u2 u3 u4 u5 u6,rfl,⟨hu,by omega,by omega⟩,rfl⟩,(by (try simp only [Ta,Tc,Td]);omega),fun p' hp'=>?_⟩
       rcases hp' with rfl | rfl
       all_goals
        conv=>whnf
        refine ⟨L++([99,111,109,112,32]++nm++Jl ps)++([32,58,32]++base++Jl ts)++[32,123,10]++unT (.mk u1 u2 u3 u4 u5 u6),[125,10],rfl,⟨(by first | exact .inl rfl | exact .inr rfl),rfl,rfl⟩,⟨[[125,10]],rfl,by simp,by simp,by simp⟩,(by (try simp only [Ta,Tc,Td]);omega),?_⟩
        conv=>whnf
        refine oiO ?_
        conv=>whnf
        refine ⟨⟨i+1,_,rfl,(by rw [hfin,hT];simp only [Tg];rfl),.inr rfl,by omega⟩,?_⟩
        show ((comps.length:Int) - ((i:Int)+1)).toNat<((comps.length:Int) - (i:Int)).toNat
        omega
     have hi2:i=comps.length:=by
      have hl1:(comps.map (ZW pl)).length=comps.length:=Te ..
      have hi2:¬(i:Int)<(comps.map (ZW pl)).length:=(by rw [← ec];exact hi2)
      rw [hl1] at hi2;omega
     subst hi2
     rw [Sc]
     rcases hP with rfl | rfl
     all_goals
      conv=>whnf
      exact ⟨_,rfl,rfl,(by first | exact .inl rfl | exact .inr rfl)⟩
   intro vs σ hI
   obtain ⟨P,rfl,rfl,hP⟩:=hI
   conv=>whnf
   refine ⟨?_,?_⟩
   ·rcases hP with rfl | rfl
    all_goals
     conv=>whnf
     refine ⟨⟨0,_,rfl,(by simp only [T6,TG,Sl,TC];rfl),(by first | exact .inl rfl | exact .inr rfl),by omega⟩,?_⟩
     intro vs σ hI
     obtain ⟨i,P,rfl,rfl,hP,hi⟩:=hI
     conv=>whnf
     refine ZCX (fun hi2=>?_) (fun hi2=>?_)
     ·have hl1:(inits.map (ZQ pl)).length=inits.length:=Te ..
      have hi2:i<inits.length:=by have hi2:(i:Int)<(inits.map (ZQ pl)).length:=hi2;rw [hl1] at hi2;omega
      have hg:=Zn wIn inits i hi2
      have htk:=UE inT hi2
      have hle:=ZcG inT inits (i+1)
      have hmem:=TU hi2
      obtain ⟨L,hL⟩:∃L,l++(tys.map tyT).flatten++(rels.map reT).flatten++(comps.map coT).flatten++((inits.take i).map inT).flatten=L:=⟨_,rfl⟩
      have hLl:L.length=(l++(tys.map tyT).flatten++(rels.map reT).flatten++(comps.map coT).flatten).length+((inits.take i).map inT).flatten.length:=by rw [← hL,Ta]
      (try simp only [Ta] at hLl)
      rw [htk,Ta] at hle
      rw [hL]
      obtain ⟨x,hX⟩:∃x,inits[i]=x:=⟨_,rfl⟩
      rw [hX] at hg hmem htk hle
      obtain ⟨nm,cp,ts,at'⟩:=x
      have hfin:l++(tys.map tyT).flatten++(rels.map reT).flatten++(comps.map coT).flatten++((inits.take (i+1)).map inT).flatten=L++inT ⟨nm,cp,ts,at'⟩:=by rw [htk,← Tg,hL]
      have hr1:(inits.map (ZQ pl))[((i:Nat):Int).toNat]?=some (ZQ pl ⟨nm,cp,ts,at'⟩):=by simp [hi2,hX]
      have hg2:wIn ⟨nm,cp,ts,at'⟩=1+nm.length+cp.length+szS wBs ts:=rfl
      have hw:nm.length+cp.length+szS wBs ts≤n:=by omega
      have hT:inT ⟨nm,cp,ts,at'⟩=[105,110,105,116,32]++nm++[32,61,32]++cp++Jl ts++[10]:=by rw [inT];simp only [Tg]
      rw [hT] at hle
      simp only [Ta,Tc,Td] at hle
      conv=>whnf
      refine ⟨_,by omega,hr1,?_⟩
      rcases hP with rfl | rfl
      all_goals
       conv=>whnf
       refine ⟨ts,rfl,⟨by omega,hn⟩,?_⟩
       conv=>whnf
       (repeat (refine ⟨rfl,?_⟩;conv=>whnf))
       refine ⟨L,[105,110,105,116,32]++nm++[32,61,32]++cp++Jl ts++[10],rfl,⟨(by first | exact .inl rfl | exact .inr rfl),rfl,rfl⟩,⟨[[105,110,105,116,32],nm,[32,61,32],cp,Jl ts,[10]],rfl,by simp,by simp,by simp⟩,(by (try simp only [Ta,Tc,Td]);omega),?_⟩
       conv=>whnf
       (repeat (refine ⟨rfl,?_⟩;conv=>whnf))
       refine oiO ?_
       conv=>whnf
       refine ⟨⟨i+1,_,rfl,(by rw [hfin,hT];simp only [Tg];rfl),.inr rfl,by omega⟩,?_⟩
       show ((inits.length:Int) - ((i:Int)+1)).toNat<((inits.length:Int) - (i:Int)).toNat
       omega
     have hi2:i=inits.length:=by
      have hl1:(inits.map (ZQ pl)).length=inits.length:=Te ..
      have hi2:¬(i:Int)<(inits.map (ZQ pl)).length:=hi2
      rw [hl1] at hi2;omega
     subst hi2
     rw [Sc]
     rcases hP with rfl | rfl
     all_goals
      conv=>whnf
      exact ⟨_,rfl,rfl,(by first | exact .inl rfl | exact .inr rfl)⟩
   intro vs σ hI
   obtain ⟨P,rfl,rfl,hP⟩:=hI
   conv=>whnf
   refine ⟨?_,?_⟩
   ·rcases hP with rfl | rfl
    all_goals
     conv=>whnf
     refine ⟨⟨0,_,rfl,(by simp only [T6,TG,Sl,TC];rfl),(by first | exact .inl rfl | exact .inr rfl),by omega⟩,?_⟩
     intro vs σ hI
     obtain ⟨i,P,rfl,rfl,hP,hi⟩:=hI
     conv=>whnf
     refine ZCX (fun hi2=>?_) (fun hi2=>?_)
     ·have hl1:(overs.map (ZN pl)).length=overs.length:=Te ..
      have hi2:i<overs.length:=by have hi2:(i:Int)<(overs.map (ZN pl)).length:=hi2;rw [hl1] at hi2;omega
      have hg:=Zn wOv overs i hi2
      have htk:=UE ovT hi2
      have hle:=ZcG ovT overs (i+1)
      have hmem:=TU hi2
      obtain ⟨L,hL⟩:∃L,l++(tys.map tyT).flatten++(rels.map reT).flatten++(comps.map coT).flatten++(inits.map inT).flatten++((overs.take i).map ovT).flatten=L:=⟨_,rfl⟩
      have hLl:L.length=(l++(tys.map tyT).flatten++(rels.map reT).flatten++(comps.map coT).flatten++(inits.map inT).flatten).length+((overs.take i).map ovT).flatten.length:=by rw [← hL,Ta]
      (try simp only [Ta] at hLl)
      rw [htk,Ta] at hle
      rw [hL]
      obtain ⟨x,hX⟩:∃x,overs[i]=x:=⟨_,rfl⟩
      rw [hX] at hg hmem htk hle
      obtain ⟨rel,at'⟩:=x
      have hfin:l++(tys.map tyT).flatten++(rels.map reT).flatten++(comps.map coT).flatten++(inits.map inT).flatten++((overs.take (i+1)).map ovT).flatten=L++ovT ⟨rel,at'⟩:=by rw [htk,← Tg,hL]
      have hr1:(overs.map (ZN pl))[((i:Nat):Int).toNat]?=some (ZN pl ⟨rel,at'⟩):=by simp [hi2,hX]
      have hg2:wOv ⟨rel,at'⟩=1+rel.length:=rfl
      have hw:rel.length≤n:=by omega
      have hT:ovT ⟨rel,at'⟩=[111,118,101,114,114,105,100,101,32]++rel++[10]:=by rw [ovT];simp only [Tg]
      rw [hT] at hle
      simp only [Ta,Tc,Td] at hle
      conv=>whnf
      refine ⟨_,by omega,hr1,?_⟩
      rcases hP with rfl | rfl
      all_goals
       conv=>whnf
       refine ⟨L,[111,118,101,114,114,105,100,101,32]++rel++[10],rfl,⟨(by first | exact .inl rfl | exact .inr rfl),rfl,rfl⟩,⟨[[111,118,101,114,114,105,100,101,32],rel,[10]],rfl,by simp,by simp,by simp⟩,(by (try simp only [Ta,Tc,Td]);omega),?_⟩
       conv=>whnf
       refine oiO ?_
       conv=>whnf
       refine ⟨⟨i+1,_,rfl,(by rw [hfin,hT];simp only [Tg];rfl),.inr rfl,by omega⟩,?_⟩
       show ((overs.length:Int) - ((i:Int)+1)).toNat<((overs.length:Int) - (i:Int)).toNat
       omega
     have hi2:i=overs.length:=by
      have hl1:(overs.map (ZN pl)).length=overs.length:=Te ..
      have hi2:¬(i:Int)<(overs.map (ZN pl)).length:=hi2
      rw [hl1] at hi2;omega
     subst hi2
     rw [Sc]
     rcases hP with rfl | rfl
     all_goals
      conv=>whnf
      exact ⟨_,rfl,rfl,(by first | exact .inl rfl | exact .inr rfl)⟩
   intro vs σ hI
   obtain ⟨P,rfl,rfl,hP⟩:=hI
   conv=>whnf
   rcases hP with rfl | rfl
   all_goals
    refine ⟨⟨0,_,rfl,(by simp only [T6,TG,Sl,TC];rfl),(by first | exact .inl rfl | exact .inr rfl),by omega⟩,?_⟩
    intro vs σ hI
    obtain ⟨i,P,rfl,rfl,hP,hi⟩:=hI
    conv=>whnf
    refine ZCX (fun hi2=>?_) (fun hi2=>?_)
    ·have hl1:(rules.map (ZI pl)).length=rules.length:=Te ..
     have hi2:i<rules.length:=by have hi2:(i:Int)<(rules.map (ZI pl)).length:=hi2;rw [hl1] at hi2;omega
     have hg:=Zn wRu rules i hi2
     have htk:=UE ZqM hi2
     have hle:=ZcG ZqM rules (i+1)
     have hmem:=TU hi2
     obtain ⟨L,hL⟩:∃L,l++(tys.map tyT).flatten++(rels.map reT).flatten++(comps.map coT).flatten++(inits.map inT).flatten++(overs.map ovT).flatten++((rules.take i).map ZqM).flatten=L:=⟨_,rfl⟩
     have hLl:L.length=(l++(tys.map tyT).flatten++(rels.map reT).flatten++(comps.map coT).flatten++(inits.map inT).flatten++(overs.map ovT).flatten).length+((rules.take i).map ZqM).flatten.length:=by rw [← hL,Ta]
     (try simp only [Ta] at hLl)
     rw [htk,Ta] at hle
     rw [hL]
     obtain ⟨x,hX⟩:∃x,rules[i]=x:=⟨_,rfl⟩
     rw [hX] at hg hmem htk hle
     obtain ⟨head,as',bd,at'⟩:=x
     have hfin:l++(tys.map tyT).flatten++(rels.map reT).flatten++(comps.map coT).flatten++(inits.map inT).flatten++(overs.map ovT).flatten++((rules.take (i+1)).map ZqM).flatten=L++ZqM ⟨head,as',bd,at'⟩:=by rw [htk,← Tg,hL]
     have hr1:(rules.map (ZI pl))[((i:Nat):Int).toNat]?=some (ZI pl ⟨head,as',bd,at'⟩):=by simp [hi2,hX]
     have hw:wRu ⟨head,as',bd,at'⟩≤n:=by omega
     have hT:ZqM ⟨head,as',bd,at'⟩=(ruT ⟨head,as',bd,at'⟩)++[10]:=rfl
     rw [hT] at hle
     simp only [Ta,Tc,Td] at hle
     conv=>whnf
     refine ⟨_,by omega,hr1,?_⟩
     rcases hP with rfl | rfl
     all_goals
      conv=>whnf
      refine ⟨L,(ruT ⟨head,as',bd,at'⟩),rfl,⟨(by first | exact .inl rfl | exact .inr rfl),rfl,rfl⟩,⟨pl,⟨head,as',bd,at'⟩,rfl,⟨m3 _ hmem,hw,hn⟩,rfl⟩,(by (try simp only [Ta,Tc,Td]);omega),?_⟩
      conv=>whnf
      refine ⟨L++(ruT ⟨head,as',bd,at'⟩),[10],rfl,⟨.inr rfl,rfl,rfl⟩,⟨[[10]],rfl,by simp,by simp,by simp⟩,(by (try simp only [Ta,Tc,Td]);omega),?_⟩
      conv=>whnf
      refine oiO ?_
      conv=>whnf
      refine ⟨⟨i+1,_,rfl,(by rw [hfin,hT];simp only [Tg];rfl),.inr rfl,by omega⟩,?_⟩
      show ((rules.length:Int) - ((i:Int)+1)).toNat<((rules.length:Int) - (i:Int)).toNat
      omega
    have hi2:i=rules.length:=by
     have hl1:(rules.map (ZI pl)).length=rules.length:=Te ..
     have hi2:¬(i:Int)<(rules.map (ZI pl)).length:=hi2
     rw [hl1] at hi2;omega
    subst hi2
    rw [Sc]
    rcases hP with rfl | rfl
    all_goals
     conv=>whnf
     exact h _ (by first | exact .inl rfl | exact .inr rfl)
 ·exact h.elim
theorem cWU (hN:NumOK w0 nG) (hL:LexC w0 nG):∀n,PCalls (GG w0 nG) 68 (Zwz n)
 | 0=>ZzH ⟨⟨ZaA,Xc⟩,⟨Zp2,ZcE 0⟩,⟨ZCo 0,ZbO _ _ _ _ _ _⟩,⟨Zs6,ZfY 0⟩,⟨cWR hN hL 0,ZiJ 0⟩,⟨ZK (Zh Tryz.func68 (by kernel_rfl) rfl),Zy ZeX _⟩,trivial⟩
 | n+1=>ZzH ⟨⟨ZaA,Xc⟩,⟨Zp2,ZcE _⟩,⟨ZCo _,ZbO _ _ _ _ _ _⟩,⟨Zs6,ZfY _⟩,⟨cWR hN hL _,ZiJ _⟩,⟨ZL (sp:=Zwz) (cWU hN hL n),Zy ZeX _⟩,trivial⟩
end Go.PM.Lex
end

section
namespace Go.PM.Lex
inductive Pc where
 | blank (b:UInt8) | tok (s:Bs) (t:T0)
def Pc.bs:Pc→Bs | .blank b=>[b] | .tok s _=>s
def Pc.ts:Pc→Ts | .blank _=>[] | .tok _ t=>[t]
def bsP (l:List Pc):Bs:=(l.map Pc.bs).flatten
def tsP (l:List Pc):Ts:=(l.map Pc.ts).flatten
@[simp] theorem bsP_nil:bsP []=[]:=rfl
@[simp] theorem tsP_nil:tsP []=[]:=rfl
@[simp] theorem bsP_cons (p:Pc) (l:List Pc):bsP (p::l)=p.bs++bsP l:=by simp [bsP]
@[simp] theorem tsP_cons (p:Pc) (l:List Pc):tsP (p::l)=p.ts++tsP l:=by simp [tsP]
@[simp] theorem bsP_app (l m:List Pc):bsP (l++m)=bsP l++bsP m:=by simp [bsP]
@[simp] theorem tsP_app (l m:List Pc):tsP (l++m)=tsP l++tsP m:=by simp [tsP]
theorem ZlP (l:List (List Pc)):bsP l.flatten=(l.map bsP).flatten:=by induction l with | nil=>rfl | cons x l ih=>simp [ih]
theorem ZlQ (l:List (List Pc)):tsP l.flatten=(l.map tsP).flatten:=by induction l with | nil=>rfl | cons x l ih=>simp [ih]
def Znl:Pc→Bs→Prop
 | .blank b,_=>ws.contains b=true
 | .tok s t,k=>s≠[]∧Z3 (s++k)=(true,0)∧∀a,VA a (s++k) true=.tok ⟨t.kind,t.text,t.n,a,a+s.length⟩
def VF:List Pc→Bs→Prop
 | [],_=>True
 | p::l,k=>Znl p (bsP l++k)∧VF l k
theorem Ym (l m:List Pc) (k:Bs):VF (l++m) k↔VF l (bsP m++k)∧VF m k:=by
 induction l with
 | nil=>simp [VF]
 | cons p l ih=>simp only [Tm,VF,ih,bsP_app,Tg,and_assoc]
theorem ZzI {b:UInt8} (hb:ws.contains b=true) (g:Nat) (most:Int) (a:Nat) (z:Bs):WU (g+1) most a (b::z)=WU (g+1) most (a+1) z:=by
 have h:Z3 ([b]++z)=((Z3 z).1,1+(Z3 z).2):=Zkf (by unfold Lib.trimLeftS;rw [SC,Th hb];rfl)
 rw [Tm,To] at h
 rw [WU,WU,h]
 simp only
 rw [show a+(1+(Z3 z).2)=a+1+(Z3 z).2 by omega,show (b::z).drop (1+(Z3 z).2)=z.drop (Z3 z).2 by rw [Nat.add_comm,List.drop_succ_cons]]
theorem Zp4 {a:Nat} {r:Bs} {t:Tok} (h:VA a r true=.tok t):VA a r false=.bad a 3:=by
 rw [YJ] at h ⊢
 split at h
 ·cases h
 ·rename_i g;rw [Tf g,Th rfl]
theorem ZcH:∀(ps:List Pc) (f:Nat) (most:Int) (a:Nat),VF ps []→(bsP ps).length<f →
  (((tsP ps).length:Int)≤most→∃l p,WU f most a (bsP ps)=(l,(p,0))∧l.map Tok.t0=tsP ps)∧(most<(tsP ps).length→0≤most→∃l p,WU f most a (bsP ps)=(l,(p,3)))
 | ps,0,most,a,hv,hf=>by omega
 | [],f+1,most,a,hv,hf=>by
  refine ⟨fun _=>⟨[],0,?_,rfl⟩,fun h h2=>by simp at h;omega⟩
  rw [bsP_nil,WU,ZmY];simp
 | .blank b::ps,f+1,most,a,hv,hf=>by
  obtain ⟨h1,h2⟩:=hv
  rw [bsP_cons] at hf ⊢
  simp only [Pc.bs,Tm,To,Tc] at hf ⊢
  rw [ZzI h1]
  simp only [tsP_cons,Pc.ts,To]
  exact ZcH ps (f+1) most (a+1) h2 (by omega)
 | .tok s t::ps,f+1,most,a,hv,hf=>by
  obtain ⟨⟨h1,h2,h3⟩,h4⟩:=hv
  simp only [TC] at h2 h3
  have hpos:=T8.2 h1
  rw [bsP_cons] at hf ⊢
  simp only [Pc.bs,Ta] at hf ⊢
  have hne:¬s++bsP ps=[]:=by simp [h1]
  have hl:(tsP (.tok s t::ps)).length=(tsP ps).length+1:=by simp [Pc.ts]
  rw [WU,h2]
  simp only [Bool.true_eq_false,if_false,Sx,Ss]
  rw [Tf hne,hl]
  obtain ⟨i1,i2⟩:=ZcH ps f (most - 1) (a+s.length) h4 (by omega)
  have hd:(s++bsP ps).drop (a+s.length - a)=bsP ps:=by rw [Nat.add_sub_cancel_left,List.drop_left]
  refine ⟨fun hm=>?_,fun hm h0=>?_⟩
  ·rw [Sq (by omega),h3 a]
   simp only
   rw [hd]
   obtain ⟨l,p,e1,e2⟩:=i1 (by omega)
   rw [e1]
   exact ⟨_,p,rfl,by simp [e2,Tok.t0,Pc.ts]⟩
  ·by_cases hm0:0<most
   ·rw [Sq hm0,h3 a]
    simp only
    rw [hd]
    obtain ⟨l,p,e1⟩:=i2 (by omega) (by omega)
    rw [e1]
    exact ⟨_,p,rfl⟩
   ·rw [decide_eq_false hm0,Zp4 (h3 a)]
    exact ⟨_,_,rfl⟩
def Znm (k:Bs):Prop:=k=[]∨∃c z,k=c::z∧Fol c z
def nmP (s:Bs):Pc:=.tok s (nmT s)
def sgP (s:Bs):Pc:=.tok s (sgT s)
theorem ZgW {b:UInt8} (hb:ws.contains b=false) (z:Bs):Lib.trimLeftS (b::z) ws=b::z:=by
 unfold Lib.trimLeftS;rw [SC,Tf (by rw [hb];decide)]
theorem ZfZ {x y b:UInt8} (h:x≠b) (z:Bs):Lib.hasPrefix (b::z) [x,y]=false:=by simp [Lib.hasPrefix,List.isPrefixOf,h]
theorem JV {x y b c:UInt8} (h:y≠c) (z:Bs):Lib.hasPrefix (b::c::z) [x,y]=false:=by simp [Lib.hasPrefix,List.isPrefixOf,h]
theorem Zp5 {b:UInt8} (hb:ws.contains b=false) (z:Bs) (h:b=47→∀c z',z=c::z'→c≠47∧c≠42):Z3 (b::z)=(true,0):=by
 have hp:∀c,c=47∨c=42→Lib.hasPrefix (b::z) [47,c]=false:=fun c hc=>by
  cases z with
  | nil=>simp [Lib.hasPrefix,List.isPrefixOf]
  | cons d z' =>
   by_cases hb47:b=47
   ·have:=h hb47 d z' rfl
    rcases hc with rfl | rfl
    ·exact JV this.1.symm _
    ·exact JV this.2.symm _
   ·exact ZfZ (fun e=>hb47 e.symm) _
 unfold Z3
 rw [Vq (by rw [ZgW hb];exact hp 47 (.inl rfl)) (by rw [ZgW hb];exact hp 42 (.inr rfl)),ZgW hb,Nat.sub_self]
theorem UF {b:UInt8} (hb:ones.contains b=false) (z:Bs):Xi (b::z)=0:=by
 have h2:∀x y:UInt8,x∈ones→Lib.hasPrefix (b::z) [x,y]=false:=fun x y hx=>by
  have:¬x=b:=fun e=>by rw [e] at hx;simp at hb;exact hb hx
  simp [Lib.hasPrefix,List.isPrefixOf,this]
 unfold Xi
 rw [Tf,Tf]
 ·simpa using hb
 ·simp only [twos,SE,List.any_nil]
  rw [h2 58 _ (by decide),h2 33 _ (by decide),h2 60 _ (by decide),h2 62 _ (by decide),h2 60 _ (by decide)]
  simp
theorem ZlR {s:Bs} (h:Vs s=true):∃b z,s=b::z∧ones.contains b=false∧ws.contains b=false∧b≠47∧b≠45∧b≠61∧b≠58∧b≠42:=by
 simp only [Vs,Tk] at h
 cases s with
 | nil=>rw [Zau] at h;exact absurd h.1 (by decide)
 | cons b z =>
  refine ⟨b,z,rfl,?_⟩
  by_cases hb:b.toNat<128
  ·have h1:=h.1
   rw [ZeM hb] at h1
   have hk:∀n:Fin 128,Zi (n.val:Int)=true→ones.contains (UInt8.ofNat n.val)=false∧ws.contains (UInt8.ofNat n.val)=false∧UInt8.ofNat n.val≠47∧UInt8.ofNat n.val≠45∧UInt8.ofNat n.val≠61∧UInt8.ofNat n.val≠58∧UInt8.ofNat n.val≠42:=by decide +kernel
   have:=hk ⟨b.toNat,hb⟩ h1
   simpa using this
  ·have hk:∀n:Fin 256,128≤n.val→ones.contains (UInt8.ofNat n.val)=false∧ws.contains (UInt8.ofNat n.val)=false∧UInt8.ofNat n.val≠47∧UInt8.ofNat n.val≠45∧UInt8.ofNat n.val≠61∧UInt8.ofNat n.val≠58∧UInt8.ofNat n.val≠42:=by decide +kernel
   have:=hk ⟨b.toNat,b.toNat_lt⟩ (by simp only;omega)
   simpa using this
theorem Zkq {s:Bs} {t:T0} {k:Bs} (hs:s≠[]) (hk:Znm k) (hsg:∀k,Xi (s++k)=0) (hb:∀k,Z3 (s++k)=(true,0)) (h:∀a,VA a s true=.tok ⟨t.kind,t.text,t.n,a,a+s.length⟩):Znl (.tok s t) k:=by
 refine ⟨hs,hb k,fun a=>?_⟩
 rcases hk with rfl | ⟨c,z,rfl,hc⟩
 ·rw [TC];exact h a
 ·exact Zpy hs hc (by have:=hsg [];rw [TC] at this;rw [hsg,this]) (h a)
theorem YW {s:Bs} (h:Vs s=true) {k:Bs} (hk:Znm k):Znl (nmP s) k:=by
 obtain ⟨b,z,rfl,h1,h2,h3,_⟩:=ZlR h
 simp only [Vs,Tk,TT] at h
 refine Zkq (by simp) hk (fun k=>UF h1 _) (fun k=>Zp5 h2 _ fun e=>absurd e h3) fun a=>?_
 have hl:=isLetter_iff.1 h.1
 have h34:(pk (b::z)).1≠34:=by omega
 have hdig:Zo (pk (b::z)).1=false:=by
  cases e:Zo (pk (b::z)).1 with
  | false=>rfl
  | true=>have:=isDigit_iff.1 e;omega
 rw [YJ,UF h1,Tf (by rw [h.1];simp),Tf (by simp),Tf (by omega),Tf h34,Tf (by rw [hdig];simp),h.2,Sc]
 rfl
def SgK (w k:Bs):Prop:=(w∈twos∨w∈ones.map fun b=>[b])∧((w≠[58]∧w≠[33]∧w≠[60]∧w≠[62]∧w≠[47])∨k=[]∨∃c z,k=c::z∧c≠45∧c≠61∧c≠58∧c≠47∧c≠42)
theorem Zsc (k:Bs):∀w∈twos,Xi (w++k)=2:=by
 intro w hw
 have:twos.any (Lib.hasPrefix (w++k))=true:=by
  rw [List.any_eq_true]
  exact ⟨w,hw,by unfold Lib.hasPrefix;rw [List.isPrefixOf_iff_prefix];exact List.prefix_append _ _⟩
 rw [Xi,Th this]
theorem Zsd {b:UInt8} (hb:b∈ones) {k:Bs} (h:(b≠58∧b≠33∧b≠60∧b≠62)∨k=[]∨∃c z,k=c::z∧c≠45∧c≠61∧c≠58):Xi (b::k)=1:=by
 have h1:twos.any (Lib.hasPrefix (b::k))=false:=by
  simp only [twos,SE,List.any_nil,Si]
  rcases h with ⟨h1,h2,h3,h4⟩ | rfl | ⟨c,z,rfl,h1,h2,h3⟩
  ·exact ⟨ZfZ h1.symm _,ZfZ h2.symm _,ZfZ h3.symm _,ZfZ h4.symm _,ZfZ h3.symm _,trivial⟩
  ·simp [Lib.hasPrefix,List.isPrefixOf]
  ·exact ⟨JV h1.symm _,JV h2.symm _,JV h2.symm _,JV h2.symm _,JV h3.symm _,trivial⟩
 rw [Xi,Tf (by rw [h1];simp),Th (by simpa using hb)]
theorem ZiM {r:Bs} {n:Nat} (h:Xi r=n) (hn:0<n) (a:Nat):VA a r true=.tok ⟨4,r.take n,0,a,a+n⟩:=by
 rw [YJ,h,Tf (by omega),Tf (by simp),Th hn]
theorem ZwA {w k:Bs} (h:SgK w k):Znl (sgP w) k:=by
 obtain ⟨hw,hk⟩:=h
 rcases hw with hw | hw
 ·have hb:∀w∈twos,w.length=2∧ws.contains (w.getD 0 0)=false∧w.getD 0 0≠47:=by decide +kernel
  obtain ⟨h0,h1,h2⟩:=hb w hw
  obtain ⟨b,c,rfl⟩:∃b c,w=[b,c]:=by match w,h0 with | [b,c],_=>exact ⟨b,c,rfl⟩
  refine ⟨by simp,Zp5 h1 _ fun e=>absurd e h2,fun a=>?_⟩
  rw [ZiM (Zsc k _ hw) (by decide)]
  rfl
 ·obtain ⟨b,hb,rfl⟩:=Sd.1 hw
  have hws:∀b∈ones,ws.contains b=false:=by decide +kernel
  refine ⟨by simp,Zp5 (hws b hb) _ fun e c z hz=>?_,fun a=>?_⟩
  ·rcases hk with hk | hk | ⟨c',z',hk,hc⟩
   ·exact absurd (by rw [e]) hk.2.2.2.2
   ·have hz:k=c::z:=hz
    rw [hk] at hz;cases hz
   ·have hz:k=c::z:=hz
    rw [hk] at hz;cases hz;exact ⟨hc.2.2.2.1,hc.2.2.2.2⟩
  ·rw [Tm,To,ZiM (Zsd hb ?_) (by decide)]
   ·rfl
   ·rcases hk with hk | hk | ⟨c,z,hk,hc⟩
    ·exact .inl ⟨fun e=>hk.1 (by rw [e]),fun e=>hk.2.1 (by rw [e]),fun e=>hk.2.2.1 (by rw [e]),fun e=>hk.2.2.2.1 (by rw [e])⟩
    ·exact .inr (.inl hk)
    ·exact .inr (.inr ⟨c,z,hk,hc.1,hc.2.1,hc.2.2.1⟩)
theorem ZzJ {s q:Bs} (h:Uv s=some q) {k:Bs} (hk:Znm k):Znl (.tok q ⟨3,s,0⟩) k:=by
 unfold Uv at h
 split at h
 ·rename_i hv
  cases hq:Vr (s.length+1) s [34] with
  | none=>rw [hq] at h;cases h
  | some x =>
   rw [hq] at h
   cases h
   obtain ⟨m,rfl,ht⟩:=ZgJ _ _ _ _ hq (.inr hv) (by omega)
   have hq':([34]++m)++[34]=(34::(m++[34]):Bs):=rfl
   show Znl (.tok (([34]++m)++[34]) ⟨3,s,0⟩) k
   rw [hq']
   have hlen:(34::(m++[34]):Bs).length=m.length+2:=by simp
   have htext:WS (34::(m++[34]))=.ok s (m.length+2):=by
    unfold WS
    rw [List.drop_succ_cons,Ss,ht _ [] 1 (by rw [hlen];omega)]
    simp only [To,TR.ok.injEq,true_and];omega
   have hpk:pk (34::(m++[34]))=(34,1):=ZeM (by decide)
   refine Zkq (by simp) hk (fun k=>UF (by decide) _) (fun k=>Zp5 (by decide) _ fun e=>absurd e (by decide)) fun a=>?_
   rw [YJ,UF (by decide),hpk,Tf (by simp),Tf (by simp),Tf (by omega),Th rfl,Zdj,htext,hlen]
 ·cases h
theorem Znn:∀d:Fin 16,Zgm (Zi7 d.val)=d.val∧Wi true (Zi7 d.val)=true∧(d.val<10→Wi false (Zi7 d.val)=true)∧Zi7 d.val≠120:=by decide +kernel
theorem Zse (base:Nat) (l:Bs) (b:UInt8):Va base (l++[b])=Va base l * base+Zgm b:=by simp [Va]
theorem UG {base:Nat} (hb:base=10∨base=16):∀(f n:Nat),n<f→Va base (Za7 base f n)=n∧(∀b∈Za7 base f n,Wi (decide (base=16)) b=true∧b≠120)∧Za7 base f n≠[]∧∀k,n<base ^ (k+1)→(Za7 base f n).length≤k+1
 | 0,n,h=>by omega
 | f+1,n,h=>by
  have hd:∀d,d<base→Zgm (Zi7 d)=d∧Wi (decide (base=16)) (Zi7 d)=true∧Zi7 d≠120:=fun d hd=>by
   obtain ⟨h1,h2,h3,h4⟩:=Znn ⟨d,by omega⟩
   refine ⟨h1,?_,h4⟩
   rcases hb with rfl | rfl
   ·exact h3 hd
   ·exact h2
  rw [Za7]
  by_cases c:n<base
  ·rw [Th c]
   obtain ⟨h1,h2,h3⟩:=hd n c
   refine ⟨by simpa [Va] using h1,fun b hb=>?_,by simp,fun k _=>by simp⟩
   rw [List.mem_singleton.1 hb];exact ⟨h2,h3⟩
  ·rw [Tf c]
   have hlt:n / base<n:=Nat.div_lt_self (by omega) (by omega)
   obtain ⟨i1,i2,i3,i4⟩:=UG hb f (n / base) (by omega)
   obtain ⟨h1,h2,h3⟩:=hd (n % base) (Nat.mod_lt _ (by omega))
   refine ⟨?_,fun b hb=>?_,by simp,fun k hk=>?_⟩
   ·rw [Zse,i1,h1,Nat.mul_comm];exact Nat.div_add_mod n base
   ·rcases TX.1 hb with hb | hb
    ·exact i2 b hb
    ·rw [List.mem_singleton.1 hb];exact ⟨h2,h3⟩
   ·cases k with
    | zero=>simp at hk;omega
    | succ k =>
     have:n / base<base ^ (k+1):=by
      rw [Nat.div_lt_iff_lt_mul (by omega)]
      rw [Nat.pow_succ] at hk;exact hk
     have:=i4 k this
     exact m98
theorem V5 (p:UInt8→Bool):∀l:Bs,(∀b∈l,p b=true)→l.takeWhile p=l
 | [],_=>rfl
 | x::l,h=>by rw [Sa,Th (h x (by simp)),V5 p l fun b hb=>h b (Tp _ hb)]
theorem Zp6 {b:UInt8} (h:Wi false b=true):b.toNat<128∧Zo (b.toNat:Int)=true∧ones.contains b=false∧ws.contains b=false∧b≠47:=by
 have hk:∀n:Fin 256,Wi false (UInt8.ofNat n.val)=true→n.val<128∧Zo (n.val:Int)=true∧ones.contains (UInt8.ofNat n.val)=false∧ws.contains (UInt8.ofNat n.val)=false∧UInt8.ofNat n.val≠47:=by decide +kernel
 have:=hk ⟨b.toNat,b.toNat_lt⟩
 simp only [UInt8.ofNat_toNat] at this
 exact this h
theorem ZiN {r:Bs} {b:UInt8} {z:Bs} {v:Nat} (hr:r=b::z) (hb:Wi false b=true) (hn:Z0 r=some v) (hl:Zv r=r.length) {k:Bs} (hk:Znm k) {n:Int} (hw:IntKind.i64.wrap (v:Int)=n):Znl (.tok r ⟨2,[],n⟩) k:=by
 subst hr
 obtain ⟨h1,h2,h3,h4,h5⟩:=Zp6 hb
 refine Zkq (by simp) hk (fun k=>UF h3 _) (fun k=>Zp5 h4 _ fun e=>absurd e h5) fun a=>?_
 have hd:=isDigit_iff.1 h2
 rw [YJ,UF h3,ZeM h1,Tf (by simp only [h2];simp),Tf (by simp),Tf (by omega),Tf (by simp only;omega),Th h2,WT,hn,hl]
 simp only [hw]
theorem ZzK {n:Int} (h0:-9223372036854775808≤n) (h1:n<9223372036854775808) {k:Bs} (hk:Znm k):Znl (.tok (Zdz n) ⟨2,[],n⟩) k:=by
 unfold Zdz
 by_cases hn:n<0
 ·rw [Th hn]
  obtain ⟨m,hm⟩:∃m:Nat,(n+18446744073709551616).toNat=m:=⟨_,rfl⟩
  rw [hm]
  have hm2:m<18446744073709551616:=by omega
  obtain ⟨e1,e2,e3,e4⟩:Va 16 (YG 16 m)=m∧(∀b∈YG 16 m,Wi (decide (16=16)) b=true∧b≠120)∧YG 16 m≠[]∧∀k,m<16 ^ (k+1)→(YG 16 m).length≤k+1:=UG (base:=16) (.inr rfl) (m+1) m (by omega)
  have e4:=e4 15 (by have:(16:Nat) ^ (15+1)=18446744073709551616:=(by decide);omega)
  have hx:Ws ([48,120]++YG 16 m)=true:=by simp [Ws,Lib.hasPrefix,List.isPrefixOf]
  have hd:Ze ([48,120]++YG 16 m)=YG 16 m:=by
   unfold Ze
   rw [hx]
   simp only [if_true]
   show (YG 16 m).takeWhile (Wi true)=YG 16 m
   exact V5 _ _ fun b hb=>(e2 b hb).1
  have hl:Zv ([48,120]++YG 16 m)=([48,120]++YG 16 m).length:=by
   rw [Zv,hx,hd];simp [YG];omega
  refine ZiN (r:=[48,120]++YG 16 m) (v:=m) rfl (by decide) ?_ hl hk ?_
  ·rw [Z0,hd,hx]
   simp only [if_true]
   rw [Tf e3,Tf (by rw [e1];omega),Tf,e1]
   rw [hl,List.drop_length,Zau]
   rintro (g | g | ⟨_,g⟩)
   ·revert g;decide
   ·revert g;decide
   ·omega
  ·rw [show (m:Int)=n+18446744073709551616 by omega]
   exact m146
 ·rw [Tf hn]
  obtain ⟨m,rfl⟩:∃m:Nat,n=m:=⟨n.toNat,by omega⟩
  rw [TS]
  obtain ⟨e1,e2,e3,e4⟩:Va 10 (YG 10 m)=m∧(∀b∈YG 10 m,Wi (decide (10=16)) b=true∧b≠120)∧YG 10 m≠[]∧∀k,m<10 ^ (k+1)→(YG 10 m).length≤k+1:=UG (base:=10) (.inl rfl) (m+1) m (by omega)
  have hx:Ws (YG 10 m)=false:=by
   unfold Ws Lib.hasPrefix
   match hq:YG 10 m with
   | []=>rfl
   | [a]=>simp [List.isPrefixOf]
   | a::b::l =>
    have:b≠120:=(e2 b (by rw [hq];simp)).2
    exact JV this.symm l
  have hd:Ze (YG 10 m)=YG 10 m:=by
   unfold Ze
   rw [hx]
   simp only [Tr,if_false,Ss]
   exact V5 _ _ fun b hb=>(e2 b hb).1
  have hl:Zv (YG 10 m)=(YG 10 m).length:=by rw [Zv,hx,hd];simp
  obtain ⟨b,z,hbz⟩:∃b z,YG 10 m=b::z:=by
   match hq:YG 10 m with
   | []=>exact absurd hq e3
   | a::l=>exact ⟨a,l,rfl⟩
  refine ZiN (r:=YG 10 m) (v:=m) hbz (e2 b (by rw [hbz];simp)).1 ?_ hl hk ?_
  ·unfold Z0
   rw [hd,hx]
   simp only [Tr,if_false]
   rw [Tf e3,Tf (by rw [e1];omega),Tf,e1]
   rw [hl,List.drop_length,Zau]
   rintro (g | g | ⟨g,_⟩)
   ·revert g;decide
   ·revert g;decide
   ·cases g
  ·exact m146
end Go.PM.Lex
end
