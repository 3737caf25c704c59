/- A part of the proof: plain logic, contracts and laws over the given program. -/
import Derived.Lib.ValidU
import Derived.Test.YtflgockgjnddnaaGreatDoorValid
import Derived.Shelf.Unicode.ValidAny
import Derived.Lib.MapLaws
import Derived.Test.YtflgockgjnddnaaGreatDoorK06
set_option linter.unusedVariables false
set_option linter.unusedSimpArgs false
set_option linter.all false
set_option maxRecDepth 100000
set_option maxHeartbeats 16000000
section
namespace Go.PM.Lex
open Go.Proofs
variable {w0:World} {nG:Nat}
def Zkl:Nat→Ts→R Un
 | 0=>fun _=>.err 0 150
 | d+1=>Zj8 d
theorem Zn9 (d:Nat):Zj8 d=ZhW true d (Zkl d):=by cases d <;> rfl
def ZqE (b:Bool) (d:Nat) (ts:Ts):R Un:=ZhW b d (Zkl d) ts
noncomputable def ZbG (d:Nat):Zu:=XG fun rest L en dp a ts K=>match rest with
 | [.d (.bool b)]=>(dp=64 - (d:Int)∧0≤dp)∧∀x,ZqE b d ts=x→RKk (fun (v:Un)=>Zam (XF (Zd L en) v)) L en dp a x K
 | _=>False
theorem Zia (d:Nat):Zc (ZbG d):=Zz fun rest L en dp a ts K K' hK h=>by
 exact m45
noncomputable def VZ (d:Nat):Zu:=XG fun rest L en dp a ts K=>match rest with
 | [.d (.bool b)]=>(0<d∧dp=65 - (d:Int)∧0≤dp∧b=true)∧∀x,Zkl d ts=x→RKk (fun (v:Un)=>Zam (XF (Zd L en) v)) L en dp a x K
 | _=>False
theorem ZgF (d:Nat):Zc (VZ d):=Zz fun rest L en dp a ts K K' hK h=>by
 exact m45
noncomputable abbrev Zi2 (d:Nat):Zu:=Zgx (fun L en (v:Co)=>Zam (YM (Zd L en) v)) (Zj5 d (Zkl d)) 0 d
noncomputable def Zi3 (d:Nat):Tbl:=[(70,VZ d)]
noncomputable def Zi4 (d:Nat):Tbl:=[(136,ZfL),(143,Xz),(81,YN),(205,Zh5 Tryz.f205 (Zi3 d))]
noncomputable def ZqF (d:Nat):Tbl:=[(141,Wi),(142,XP),(144,ZcV),(200,X7),(204,Zh5 Tryz.f204 (Zi4 d))]
theorem ZqG {d:Nat} (ht:TblOK (GG w0 nG) (ZqF d)):PCalls (GG w0 nG) 140 (Zi2 d):=by
 refine pc ht Tryz.func140 ?_
 intro args σ K h
 unfold Zi2 Zgx XG at h
 split at h
 ·rename_i rest t rows a en dp
  obtain ⟨L,ts,rfl,ho,h⟩:=h
  split at h
  ·obtain ⟨hdp,h⟩:=h
   have h0:=ho.lo
   have h1:=ho.hi
   have h2:=ho.big
   refine ⟨Zb [],1,false,by simp,Tb rfl,?_⟩
   have h:=h _ rfl
   rw [Zj5] at h
   conv=>whnf
   refine ⟨L,ts,rfl,ho,?_⟩
   conv=>whnf
   refine ⟨L,ts,rfl,ho,fun x hx1=>?_⟩
   rcases x with ⟨v1,ts1⟩ | ⟨r1,e1⟩
   rotate_left
   ·exact m48
   rw [hx1,R.bind_ok] at h
   intro a1 hle1 ho1
   have hb1:=ho1.hi
   conv=>whnf
   refine ⟨L,ts1,rfl,ho1,fun x hx2=>?_⟩
   rcases x with ⟨v2,ts2⟩ | ⟨r2,e2⟩
   rotate_left
   ·exact m40
   rw [hx2,R.bind_ok] at h
   intro a2 hle2 ho2
   have hb2:=ho2.hi
   conv=>whnf
   refine ⟨L,ts2,rfl,ho2,[[58]],rfl,by simp,fun hw3 ho3=>?_,fun hw3=>?_⟩
   ·rw [Ti hw3] at h
    have hb3:=ho3.hi
    conv=>whnf
    refine ⟨L,ts2.tail,rfl,ho3,fun x hx4=>?_⟩
    rcases x with ⟨v4,ts4⟩ | ⟨r4,e4⟩
    rotate_left
    ·exact m92
    rw [hx4,R.bind_ok] at h
    intro a4 hle4 ho4
    have hb4:=ho4.hi
    conv=>whnf
    refine ⟨L,ts4,rfl,ho4,fun x hx5=>?_⟩
    rcases x with ⟨v5,ts5⟩ | ⟨r5,e5⟩
    rotate_left
    ·exact m39
    rw [hx5,R.bind_ok] at h
    intro a5 hle5 ho5
    have hb5:=ho5.hi
    conv=>whnf
    refine ⟨_,fun _ _ h=>h,Tb rfl,?_⟩
    conv=>whnf
    refine ⟨L,ts5,rfl,ho5,[[123]],rfl,by simp,fun b hw7=>?_⟩
    cases b with
    | false =>
     rw [Zo,Te (by rw [hw7];simp),R.bind_err] at h
     conv=>whnf
     refine ⟨L,ts5,rfl,ho5,fun x hx=>?_⟩
     rw [ZT,Te (by rw [hw7];simp)] at hx
     subst hx
     intro a9 d9
     exact m44
    | true =>
     rw [Zo,Ti hw7] at h
     conv=>whnf
     refine Zyq (fun hc=>?_) (fun hc=>?_)
     ·rw [Ti (by omega),R.bind_err] at h
      conv=>whnf
      refine ⟨L,ts5,rfl,ho5,?_⟩
      exact m44
     ·rw [Te (by omega)] at h
      conv=>whnf
      refine ⟨L,ts5,rfl,ho5,fun x hx=>?_⟩
      rw [ZT,Ti hw7] at hx
      subst hx
      intro a7 hle7 ho7
      have hb7:=ho7.hi
      conv=>whnf
      refine oiO ?_
      conv=>whnf
      refine ⟨_,fun _ _ h=>h,Tb rfl,?_⟩
      conv=>whnf
      refine ⟨L,ts5.tail,rfl,ho7,⟨by omega,by omega,by omega,rfl⟩,fun x hx8=>?_⟩
      exact m35
   ·rw [Te (by rw [hw3];simp)] at h
    conv=>whnf
    refine ⟨_,fun _ _ h=>h,Tb rfl,?_⟩
    conv=>whnf
    refine ⟨L,ts2,rfl,ho2,[[123]],rfl,by simp,fun b hw7=>?_⟩
    cases b with
    | false =>
     rw [Zo,Te (by rw [hw7];simp),R.bind_err] at h
     conv=>whnf
     refine ⟨L,ts2,rfl,ho2,fun x hx=>?_⟩
     rw [ZT,Te (by rw [hw7];simp)] at hx
     subst hx
     intro a9 d9
     exact m44
    | true =>
     rw [Zo,Ti hw7] at h
     conv=>whnf
     refine Zyq (fun hc=>?_) (fun hc=>?_)
     ·rw [Ti (by omega),R.bind_err] at h
      conv=>whnf
      refine ⟨L,ts2,rfl,ho2,?_⟩
      exact m44
     ·rw [Te (by omega)] at h
      conv=>whnf
      refine ⟨L,ts2,rfl,ho2,fun x hx=>?_⟩
      rw [ZT,Ti hw7] at hx
      subst hx
      intro a7 hle7 ho7
      have hb7:=ho7.hi
      conv=>whnf
      refine oiO ?_
      conv=>whnf
      refine ⟨_,fun _ _ h=>h,Tb rfl,?_⟩
      conv=>whnf
      refine ⟨L,ts2.tail,rfl,ho7,⟨by omega,by omega,by omega,rfl⟩,fun x hx8=>?_⟩
      exact m35
  ·exact h.elim
 ·exact h.elim
noncomputable def ZqH (d:Nat):Tbl:=[(136,ZfL),(137,Zgt),(138,Zfc),(139,ZiR),(140,Zi2 d),(141,Wi),(142,XP),(143,Xz),(144,ZcV),(145,U5 ZB),(146,ZgE d),(81,YN)]
theorem Zc2 (inside:Bool) (d:Nat) (un:Ts→R Un) (f:Nat) (tys:List Ty) (rels:List Re) (rules:List Ru) (comps:List Co) (inits:List Ini) (overs:List Ov) (ts:Ts):X6 inside d un (f+1) (.mk tys rels rules comps inits overs) ts =
  if ts=[]∨(inside=true∧isW ts [[125]]=true) then .ok (.mk tys rels rules comps inits overs) ts
  else if isW ts [[116,121,112,101]]=true then (if tys.length=256 then .err ts.length 3 else (Zer ts.tail).bind fun x ts=>X6 inside d un f (.mk (tys++[x]) rels rules comps inits overs) ts)
  else if isW ts [[100,101,99,108]]=true then (if rels.length=256 then .err ts.length 3 else (Zj3 ts.tail).bind fun x ts=>X6 inside d un f (.mk tys (rels++[x]) rules comps inits overs) ts)
  else if isW ts [[99,111,109,112]]=true then (if comps.length=64 then .err ts.length 3 else (Zj5 d un ts.tail).bind fun x ts=>X6 inside d un f (.mk tys rels rules (comps++[x]) inits overs) ts)
  else if isW ts [[105,110,105,116]]=true then (if inits.length=256 then .err ts.length 3 else (Zj6 ts.tail).bind fun x ts=>X6 inside d un f (.mk tys rels rules comps (inits++[x]) overs) ts)
  else if isW ts [[111,118,101,114,114,105,100,101]]=true then (if overs.length=256 then .err ts.length 3 else (Zj7 ts.tail).bind fun x ts=>X6 inside d un f (.mk tys rels rules comps inits (overs++[x])) ts)
  else if ZB ts=true then (if rules.length=1024 then .err ts.length 3 else (Zj4 d true ts).bind fun x ts=>X6 inside d un f (.mk tys rels (rules++[x]) comps inits overs) ts)
  else .err ts.length 150:=rfl
theorem ZqI {d:Nat} (ht:TblOK (GG w0 nG) (ZqH d)):PCalls (GG w0 nG) 70 (ZbG d):=by
 refine pc ht Tryz.func70 ?_
 intro args σ K h
 unfold ZbG XG at h
 split at h
 ·rename_i rest t rows a en dp
  obtain ⟨L,ts,rfl,ho,h⟩:=h
  split at h
  ·rename_i inside
   obtain ⟨hdp,h⟩:=h
   have h0:=ho.lo
   have h1:=ho.hi
   have h2:=ho.big
   refine ⟨Zb [(1,⟨[],[0,1,4],fun vs σ=>∃(tys:List Ty) (rels:List Re) (rules:List Ru) (comps:List Co) (inits:List Ini) (overs:List Ov) (a':Int) (ts':Ts) (f:Nat),vs=[]∧σ=⟨[.cells t [.d (.sl (ZG L)),.d (.int .i64 a'),.d (.int .i64 en),.d (.int .i64 dp)],.cells 44 [.sl 0 64 (tys.map (Y4 (Zd L en))),.sl 1 68 (rels.map (Y1 (Zd L en))),.sl 2 50 (rules.map (Yp (Zd L en))),.sl 3 71 (comps.map (YM (Zd L en))),.sl 4 73 (inits.map (Y9 (Zd L en))),.sl 5 75 (overs.map (Xa (Zd L en)))]],[5,4,3,2,1,0],6⟩∧ROK L a' ts'∧a≤a'∧ts'.length<f∧(tys.length≤256∧rels.length≤256∧rules.length≤1024∧comps.length≤64∧inits.length≤256∧overs.length≤256)∧RKk (fun (v:Un)=>Zam (XF (Zd L en) v)) L en dp a (X6 inside d (Zkl d) f (.mk tys rels rules comps inits overs) ts') (fun pe a' dp'=>K pe ⟨[.cells t [.d (.sl (ZG L)),.d (.int .i64 a'),.d (.int .i64 en),.d (.int .i64 dp')]],[],0⟩),fun _ σ=>match σ with | ⟨.cells _ [_,.d (.int _ i),_,_]::_,_,_⟩=>((L.length:Int) - i).toNat | _=>0⟩)],1,false,by simp,Tb rfl,?_⟩
   have h:=h _ rfl
   rw [ZqE,ZhW] at h
   conv=>whnf
   refine ⟨⟨[],[],[],[],[],[],a,ts,ts.length+1,rfl,rfl,ho,by omega,by omega,by simp,h⟩,?_⟩
   clear h
   intro vs σ hI
   obtain ⟨tys,rels,rules,comps,inits,overs,a',ts',f,rfl,rfl,ho',hle',hf,hlim,h⟩:=hI
   obtain ⟨f,rfl⟩:∃g,f=g+1:=⟨f - 1,by omega⟩
   rw [Zc2] at h
   have hhi':=ho'.hi
   have hlen':=ho'.len
   have hlo':=ho'.lo
   conv=>whnf
   refine Zyq (fun hc=>?_) (fun hc=>?_)
   ·have hne:ts'≠[]:=by rintro rfl;have hc:a'<((ZG L).length:Int):=hc;rw [Y8] at hc;simp at hlen';omega
    conv=>whnf
    cases inside with
    | false =>
     rw [Te (by simp [hne])] at h
     exact m1
    | true =>
     conv=>whnf
     refine ⟨L,ts',rfl,ho',[[125]],rfl,by simp,fun b hw=>?_⟩
     cases b with
     | true =>
      rw [Ti (.inr ⟨rfl,hw⟩)] at h
      conv=>whnf
      repeat (refine ⟨rfl,?_⟩;conv=>whnf)
      have h:=h _ (by omega) ho'
      simp only [Zam,XF,Zal,TA,TN] at h
      exact h
     | false =>
      rw [Te (by simp [hne,hw])] at h
      exact m1
   have hnil:ts'=[]:=by have hc:¬a'<((ZG L).length:Int):=hc;rw [Y8] at hc;exact TQ (by omega)
   rw [Ti (.inl hnil)] at h
   conv=>whnf
   have h:=h _ (by omega) ho'
   simp only [Zam,XF,Zal,TA,TN] at h
   exact h
  ·exact h.elim
 ·exact h.elim
end Go.PM.Lex
end

section
namespace Go.PM.Lex
open Go.Proofs
variable {w0:World} {nG:Nat}
theorem ZbH:PCalls (GG w0 nG) 141 Wi:=ZnT ⟨⟨JK,Xi⟩,trivial⟩
theorem cIs:PCalls (GG w0 nG) 136 ZfL:=ZwW ⟨⟨JK,Xi⟩,⟨ZhZ,ZcT⟩,trivial⟩
theorem Zev:PCalls (GG w0 nG) 145 (U5 ZB):=ZnV ⟨⟨JK,Xi⟩,⟨ZhY,JJ⟩,trivial⟩
theorem V0:PCalls (GG w0 nG) 81 YN:=Zqg ⟨⟨ZbH,Yh⟩,trivial⟩
theorem Zas:PCalls (GG w0 nG) 200 X7:=Zqi ⟨⟨cIs,Z7⟩,trivial⟩
theorem JN:PCalls (GG w0 nG) 143 Xz:=Zqk ⟨⟨Zas,ZC⟩,⟨V0,Zt⟩,trivial⟩
theorem ZwX:PCalls (GG w0 nG) 137 Zgt:=Zqm ⟨⟨V0,Zt⟩,trivial⟩
theorem Jk:PCalls (GG w0 nG) 142 XP:=ZnX ⟨⟨Zev,Y2 _⟩,⟨V0,Zt⟩,trivial⟩
theorem Zib:PCalls (GG w0 nG) 262 (U5 ZL):=ZlW ⟨⟨JK,Xi⟩,⟨cIs,Z7⟩,⟨ZhY,JJ⟩,⟨Za3,Va⟩,trivial⟩
theorem Zmf:PCalls (GG w0 nG) 162 ZlX:=ZlY ⟨⟨JK,Xi⟩,trivial⟩
theorem ZqJ:PCalls (GG w0 nG) 259 Zfb:=Zl4 ⟨⟨Jk,YD _ _ _⟩,⟨JN,Zx⟩,trivial⟩
theorem Zic:PCalls (GG w0 nG) 201 VX:=Zl6 ⟨⟨cIs,Z7⟩,⟨Zgz ⟨⟨Zev,Y2 _⟩,⟨V0,Zt⟩,⟨ZqJ,Zgv _ _ _⟩,⟨Zas,ZC⟩,trivial⟩,ZbY⟩,trivial⟩
theorem Zpe:PCalls (GG w0 nG) 144 ZcV:=ZnZ ⟨⟨Zas,ZC⟩,⟨Zkc ⟨⟨Zev,Y2 _⟩,⟨V0,Zt⟩,⟨Jk,YD _ _ _⟩,⟨Zas,ZC⟩,trivial⟩,ZdN⟩,⟨JN,Zx⟩,trivial⟩
theorem Zt3:PCalls (GG w0 nG) 203 Zh4:=Zn1 ⟨⟨Jk,YD _ _ _⟩,⟨JN,Zx⟩,⟨Zic,VY⟩,trivial⟩
theorem Zt4:PCalls (GG w0 nG) 138 Zfc:=Zn3 ⟨⟨ZbH,Yh⟩,⟨Jk,YD _ _ _⟩,⟨Zas,ZC⟩,⟨JN,Zx⟩,⟨Zic,VY⟩,⟨Zh3 ⟨⟨Zev,Y2 _⟩,⟨V0,Zt⟩,⟨Zt3,Zgv _ _ _⟩,⟨Zas,ZC⟩,trivial⟩,ZcU⟩,trivial⟩
theorem ZwY:PCalls (GG w0 nG) 139 ZiR:=Zqp ⟨⟨ZbH,Yh⟩,⟨Jk,YD _ _ _⟩,⟨Zas,ZC⟩,⟨JN,Zx⟩,⟨Zic,VY⟩,trivial⟩
theorem Zx4:PCalls (GG w0 nG) 253 Zkf:=Zt1 ⟨⟨Zl7 ⟨⟨Zas,ZC⟩,trivial⟩,ZbD⟩,⟨Zl8 ⟨⟨Zas,ZC⟩,trivial⟩,ZbD⟩,trivial⟩
theorem ZgG (h:WZ (GG w0 nG).P 261):PCalls (GG w0 nG) 261 (X8 0):=⟨h,fun args σ K hs=>by
 exfalso
 unfold X8 at hs
 split at hs
 ·exact absurd hs.1.2.2.2.2.1 (by omega)
 ·exact hs⟩
theorem ZgH {d:Nat} (h:PCalls (GG w0 nG) 261 (Zao d)):PCalls (GG w0 nG) 261 (X8 (d+1)):=h.weaken1 fun args σ K hs=>by
 unfold X8 at hs
 unfold Zao
 split at hs
 ·obtain ⟨⟨h1,h2,h3,h4,h5,h6,h7⟩,hs⟩:=hs
  exact ⟨⟨h1,h2,h3,h4,by omega,h7⟩,hs⟩
 ·exact hs.elim
theorem Zkm (d:Nat) (h:WZ (GG w0 nG).P 82):PCalls (GG w0 nG) 82 (Za5 d 0):=⟨h,fun args σ K hs=>by
 exfalso
 unfold Za5 XG at hs
 split at hs
 ·obtain ⟨L,ts,_,_,hs⟩:=hs
  split at hs
  ·exact absurd hs.1.2.1 (by omega)
  ·exact hs
 ·exact hs⟩
theorem Zkn {d j:Nat} (h:PCalls (GG w0 nG) 82 (ZcZ d j)):PCalls (GG w0 nG) 82 (Za5 d (j+1)):=h.weaken1 fun args σ K hs=>by
 unfold Za5 XG at hs
 unfold ZcZ XG
 split at hs
 ·obtain ⟨L,ts,h1,h2,hs⟩:=hs
  refine ⟨L,ts,h1,h2,?_⟩
  split at hs
  ·exact ⟨⟨hs.1.1,hs.1.2.2.1,hs.1.2.2.2.1,by have:=hs.1.2.2.2.2;omega⟩,hs.2⟩
  ·exact hs.elim
 ·exact hs
structure Deep (w0:World) (nG d:Nat):Prop where
 sg:PCalls (GG w0 nG) 161 (ZgA d)
 ex:PCalls (GG w0 nG) 35 (Zh6 d)
 many:PCalls (GG w0 nG) 261 (X8 d)
theorem Zi5 {d:Nat} (D:Deep w0 nG d):PCalls (GG w0 nG) 207 (ZbE d):=Zqs ⟨⟨(Za4 (tb:=ZiU d) ⟨⟨cIs,Z7⟩,⟨JN,Zx⟩,⟨V0,Zt⟩,⟨(Za4 (tb:=ZiT d) ⟨⟨cIs,Z7⟩,⟨D.many,ZdO d⟩,trivial⟩ Tryz.func260 rfl (by kernel_rfl) (by kernel_rfl)),Yf _ _⟩,trivial⟩ Tryz.func204 rfl (by kernel_rfl) (by kernel_rfl)),Yf _ _⟩,trivial⟩
theorem Zoa {d:Nat} (D:Deep w0 nG d):PCalls (GG w0 nG) 283 (ZgB d):=Zqu ⟨⟨(Za4 (tb:=ZiW d) ⟨⟨cIs,Z7⟩,⟨JN,Zx⟩,⟨V0,Zt⟩,⟨(Zt0 (tb:=ZiV d) ⟨⟨JN,Zx⟩,⟨D.ex,Zaq _ _ _ _⟩,trivial⟩ Tryz.func313 rfl (by kernel_rfl) (by kernel_rfl)),Zke _ _ _⟩,trivial⟩ Tryz.func204 rfl (by kernel_rfl) (by kernel_rfl)),Yf _ _⟩,trivial⟩
theorem Zid {d:Nat} (D:Deep w0 nG d):PCalls (GG w0 nG) 229 (Zar d):=Zkj ⟨⟨Zib,Y2 _⟩,⟨V0,Zt⟩,⟨JK,Xi⟩,⟨(Za4 (tb:=ZiY d) ⟨⟨cIs,Z7⟩,⟨JN,Zx⟩,⟨V0,Zt⟩,⟨(Za4 (tb:=ZiX d) ⟨⟨D.ex,Zaq _ _ _ _⟩,trivial⟩ Tryz.func282 rfl (by kernel_rfl) (by kernel_rfl)),Yf _ _⟩,trivial⟩ Tryz.func204 rfl (by kernel_rfl) (by kernel_rfl)),Yf _ _⟩,⟨Zi5 D,JL d⟩,⟨Jk,YD _ _ _⟩,⟨cIs,Z7⟩,⟨Za3,Va⟩,⟨Zoa D,Zh7 d⟩,trivial⟩
theorem Za7 {d:Nat} (D:Deep w0 nG d):PCalls (GG w0 nG) 161 (Zb7 d):=Zma ⟨⟨ZbH,Yh⟩,⟨cIs,Z7⟩,⟨(Za4 (tb:=Zi0 d) ⟨⟨cIs,Z7⟩,⟨JN,Zx⟩,⟨V0,Zt⟩,⟨(Za4 (tb:=ZiZ d) ⟨⟨D.sg,Zaq _ _ _ _⟩,trivial⟩ Tryz.func228 rfl (by kernel_rfl) (by kernel_rfl)),Yf _ _⟩,trivial⟩ Tryz.func204 rfl (by kernel_rfl) (by kernel_rfl)),Yf _ _⟩,⟨Zid D,XA _ _ _ _⟩,trivial⟩
theorem Zi6 {d:Nat} (D:Deep w0 nG d):∀j,PCalls (GG w0 nG) 82 (ZcZ d j)
 | 0=>Zmc ⟨⟨Za7 D,XA _ _ _ _⟩,⟨Zmf,Zet⟩,⟨Zkm d (Zj Tryz.func82 (by kernel_rfl) rfl),ZbF d 0⟩,trivial⟩
 | j+1=>Zmc ⟨⟨Za7 D,XA _ _ _ _⟩,⟨Zmf,Zet⟩,⟨Zkn (Zi6 D j),ZbF d (j+1)⟩,trivial⟩
theorem Zfg {d:Nat} (D:Deep w0 nG d):PCalls (GG w0 nG) 35 (ZcY d):=Zqy ⟨⟨Zi6 D 6,Zh8 d 6⟩,trivial⟩
theorem Zmg {d:Nat} (h:PCalls (GG w0 nG) 35 (ZcY d)):PCalls (GG w0 nG) 261 (Zao d):=Zl0 d ⟨⟨Zib,Y2 _⟩,⟨V0,Zt⟩,⟨h,XA _ _ _ _⟩,⟨Zas,ZC⟩,trivial⟩
theorem Zt5:∀d,Deep w0 nG d
 | 0=>⟨ZcW (Zj Tryz.func161 (by kernel_rfl) rfl),ZcW (Zj Tryz.func35 (by kernel_rfl) rfl),ZgG (Zj Tryz.func261 (by kernel_rfl) rfl)⟩
 | d+1=>⟨ZcX (Za7 (Zt5 d)),ZcX (Zfg (Zt5 d)),ZgH (Zmg (Zfg (Zt5 d)))⟩
theorem Zt6 (d:Nat):PCalls (GG w0 nG) 207 (ZbE d):=Zi5 (Zt5 d)
theorem Zt7 (d:Nat):PCalls (GG w0 nG) 35 (ZcY d):=Zfg (Zt5 d)
theorem Zt8:PCalls (GG w0 nG) 264 (Zgw Z5):=Zn8 ⟨⟨Zib,Y2 _⟩,⟨cIs,Z7⟩,trivial⟩
theorem ZqK {d:Nat} (h:PCalls (GG w0 nG) 208 (Zfe d)):PCalls (GG w0 nG) 265 (Zqz d):=Zt2 ⟨⟨ZbH,Yh⟩,⟨Zas,ZC⟩,⟨JK,Xi⟩,⟨Zev,Y2 _⟩,⟨Jk,YD _ _ _⟩,⟨Zt6 d,JL d⟩,⟨Zt7 d,XA _ _ _ _⟩,⟨Zx4,Zkg⟩,⟨V0,Zt⟩,⟨JN,Zx⟩,⟨(Za4 (tb:=Zme d) ⟨⟨cIs,Z7⟩,⟨JN,Zx⟩,⟨V0,Zt⟩,⟨(Za4 (tb:=Zmd d) ⟨⟨h,Zaq _ _ _ _⟩,trivial⟩ Tryz.func302 rfl (by kernel_rfl) (by kernel_rfl)),Yf _ _⟩,trivial⟩ Tryz.func204 rfl (by kernel_rfl) (by kernel_rfl)),Yf _ _⟩,trivial⟩
theorem Zi7 {d:Nat} (h:PCalls (GG w0 nG) 208 (Zfe d)):PCalls (GG w0 nG) 208 (ZgD d):=ZqB ⟨⟨Zl2 d ⟨⟨Zt8,Zh1 _⟩,⟨V0,Zt⟩,⟨ZqK h,XA _ _ _ _⟩,⟨Zas,ZC⟩,trivial⟩,Zfa d⟩,trivial⟩
theorem Zpf:∀d,PCalls (GG w0 nG) 208 (Zfe d)
 | 0=>ZcW (Zj Tryz.func208 (by kernel_rfl) rfl)
 | d+1=>ZcX (Zi7 (Zpf d))
theorem ZwZ (d:Nat):PCalls (GG w0 nG) 208 (ZgD d):=Zi7 (Zpf d)
theorem Zw0 (d:Nat):PCalls (GG w0 nG) 146 (ZgE d):=ZqD ⟨⟨ZbH,Yh⟩,⟨Jk,YD _ _ _⟩,⟨Zt6 d,JL d⟩,⟨Zas,ZC⟩,⟨ZwZ d,XA _ _ _ _⟩,⟨JN,Zx⟩,trivial⟩
theorem Zko (h:WZ (GG w0 nG).P 70):PCalls (GG w0 nG) 70 (VZ 0):=⟨h,fun args σ K hs=>by
 exfalso
 unfold VZ XG at hs
 split at hs
 ·obtain ⟨L,ts,_,_,hs⟩:=hs
  split at hs
  ·exact absurd hs.1.1 (by omega)
  ·exact hs
 ·exact hs⟩
theorem Zkp {d:Nat} (h:PCalls (GG w0 nG) 70 (ZbG d)):PCalls (GG w0 nG) 70 (VZ (d+1)):=h.weaken1 fun args σ K hs=>by
 unfold VZ XG at hs
 unfold ZbG XG
 split at hs
 ·obtain ⟨L,ts,h1,h2,hs⟩:=hs
  refine ⟨L,ts,h1,h2,?_⟩
  split at hs
  ·obtain ⟨⟨g1,g2,g3,rfl⟩,hs⟩:=hs
   refine ⟨by omega,?_⟩
   rw [Zkl,Zn9] at hs
   exact hs
  ·exact hs.elim
 ·exact hs
theorem Zob {d:Nat} (h:PCalls (GG w0 nG) 70 (VZ d)):PCalls (GG w0 nG) 140 (Zi2 d):=ZqG ⟨⟨ZbH,Yh⟩,⟨Jk,YD _ _ _⟩,⟨Zpe,YD _ _ _⟩,⟨Zas,ZC⟩,⟨(Za4 (tb:=Zi4 d) ⟨⟨cIs,Z7⟩,⟨JN,Zx⟩,⟨V0,Zt⟩,⟨(Za4 (tb:=Zi3 d) ⟨⟨h,ZgF d⟩,trivial⟩ Tryz.func205 rfl (by kernel_rfl) (by kernel_rfl)),Yf _ _⟩,trivial⟩ Tryz.func204 rfl (by kernel_rfl) (by kernel_rfl)),Yf _ _⟩,trivial⟩
theorem Zi8 {d:Nat} (h:PCalls (GG w0 nG) 70 (VZ d)):PCalls (GG w0 nG) 70 (ZbG d):=ZqI ⟨⟨cIs,Z7⟩,⟨ZwX,ZhX⟩,⟨Zt4,YD _ _ _⟩,⟨ZwY,YD _ _ _⟩,⟨Zob h,XA _ _ _ _⟩,⟨ZbH,Yh⟩,⟨Jk,YD _ _ _⟩,⟨JN,Zx⟩,⟨Zpe,YD _ _ _⟩,⟨Zev,Y2 _⟩,⟨Zw0 d,Zh9 d⟩,⟨V0,Zt⟩,trivial⟩
theorem Zpg:∀d,PCalls (GG w0 nG) 70 (VZ d)
 | 0=>Zko (Zj Tryz.func70 (by kernel_rfl) rfl)
 | d+1=>Zkp (Zi8 (Zpg d))
theorem Zw1 (d:Nat):PCalls (GG w0 nG) 70 (ZbG d):=Zi8 (Zpg d)
end Go.PM.Lex
end

section
namespace Go.PM.Lex
open Go.Proofs
def R.good {α:Type} (x:R α):Prop:=match x with | .ok _ _=>True | .err _ e=>e≠0
theorem Zyr {α β:Type} {x:R α} {f:α→Ts→R β} (h:x.good) (hf:∀a ts,(f a ts).good):(x.bind f).good:=by
 cases x with
 | ok a ts=>exact hf a ts
 | err r e=>exact h
theorem ZyG {α:Type} (a:α) (ts:Ts):(R.ok a ts:R α).good:=trivial
theorem Zyt {α:Type} {c:Prop} [Decidable c] {x y:R α} (h1:x.good) (h2:y.good):(if c then x else y).good:=by split;exact h1;exact h2
theorem Zyw {α:Type} {r e:Nat} (h:e≠0):(R.err r e:R α).good:=h
theorem Z8 (w:Bs) (ts:Ts):(ZT w ts).good:=Zyt trivial (Zyw (by decide))
theorem ZH (ts:Ts):(XE ts).good:=Zyt trivial (Zyw (by decide))
theorem YO {α:Type} {d:Nat} {fr tw:Bs} {read:Ts→R α} (h:∀ts,(read ts).good) (ts:Ts):(Zo d fr tw read ts).good :=
 Zyt (Zyt (Zyw (by decide)) (Zyr (h _) fun _ _=>Zyt trivial (Zyr (Z8 _ _) fun _ _=>trivial))) (Zyw (by decide))
theorem Zc3 {α:Type} {sign:Bs} {most:Nat} {st:Ts→Bool} {one:Ts→R α} (h:∀ts,(one ts).good):∀f l ts,(X3 sign most st one f l ts).good
 | 0,_,_=>Zyw (by decide)
 | f+1,l,ts=>Zyt (Zyw (by decide)) (Zyr (h _) fun _ _=>Zyt (Zc3 h f _ _) trivial)
theorem VA {α:Type} {sign:Bs} {most:Nat} {st:Ts→Bool} {one:Ts→R α} (h:∀ts,(one ts).good) (ts:Ts):(X4 sign most st one ts).good:=Zc3 h _ _ _
theorem Zkq (ts:Ts):(Ud ts).good:=Zyr (ZH _) fun _ _=>Zyr (Z8 _ _) fun _ _=>Zyr (ZH _) fun _ _=>trivial
theorem JO (w:Bs) (ts:Ts):(UB w ts).good:=Zyt trivial (VA Zkq _)
theorem Za8 (ts:Ts):(ZbB ts).good:=Zyt (Zyr (VA ZH _) fun _ _=>Zyr (Z8 _ _) fun _ _=>trivial) trivial
theorem Zmh (ts:Ts):(ZbW ts).good:=Zyr (ZH _) fun _ _=>Zyr (Z8 _ _) fun _ _=>Zyr (JO _ _) fun _ _=>Zyr (Z8 _ _) fun _ _=>trivial
theorem Zkr (ts:Ts):(Zer ts).good:=Zyr (ZH _) fun _ _=>Zyt (Zyr (ZH _) fun _ _=>trivial) (Zyr (Z8 _ _) fun _ _ =>
 Zyt (Zyr (JO _ _) fun _ _=>Zyr (Z8 _ _) fun _ _=>trivial) (Zyr (VA Zmh _) fun _ _=>trivial))
theorem Zmi (ts:Ts):(Zj3 ts).good:=Zyr (ZH _) fun _ _=>Zyr (Z8 _ _) fun _ _=>Zyr (JO _ _) fun _ _=>Zyr (Z8 _ _) fun _ _=>trivial
theorem Zat {d:Nat} {ex:Ts→R Ex} (h:∀ts,(ex ts).good) (fr tw:Bs) (ts:Ts):(ZdJ d ex fr tw ts).good:=by
 unfold ZdJ
 exact YO (fun ts=>Zyt (ZyG _ _) (VA h _)) ts
theorem Zc4 {ex:Ts→R Ex} (h:∀ts,(ex ts).good):∀k l ts,(Jh ex k l ts).good
 | 0,_,_=>trivial
 | k+1,l,ts=>Zyr (Zyt trivial (Z8 _ _)) fun _ _=>Zyr (h _) fun _ _=>Zc4 h k _ _
theorem ZgI {d:Nat} {ex:Ts→R Ex} (h:∀ts,(ex ts).good) (ts:Ts):(VW d ex ts).good :=
 Zyt (Zyw (by decide)) <| Zyt trivial <| Zyt trivial <| Zyt (YO h _) <| Zyt (Zyr (Zat h _ _ _) fun _ _=>trivial) <|
 Zyt (Zyr (ZH _) fun _ _=>Zyt (Zyr (Zat h _ _ _) fun _ _=>trivial) trivial) <|
 Zyt (Zyr (YO (Zc4 h _ _) _) fun _ _=>trivial) <| Zyt trivial <| Zyt trivial trivial
theorem Zc5 {sub:Nat→Ts→R Ex} (h:∀n ts,(sub n ts).good) (least:Nat):∀f e ts,(UC sub least f e ts).good
 | 0,_,_=>Zyw (by decide)
 | f+1,e,ts=>Zyt trivial (Zyr (h _ _) fun _ _=>Zc5 h least f _ _)
theorem Za9 {sg:Ts→R Ex} (h:∀ts,(sg ts).good):∀k least ts,(U4 sg k least ts).good
 | 0,_,_=>h _
 | k+1,least,ts=>Zyr (h _) fun _ _=>Zc5 (fun n ts=>Za9 h k n ts) _ _ _ _
theorem ZbI {d:Nat} {sg:Ts→R Ex} (h:∀ts,(sg ts).good) (ts:Ts):(JH d sg ts).good :=
 Zyt (Zyr (YO h _) fun _ _=>trivial) <| Zyt (Zyr (YO h _) fun _ _=>trivial) (ZgI (fun ts=>Za9 h _ _ _) _)
theorem Zc6:∀d ts,(Xy d ts).good
 | 0,ts=>ZbI (fun _=>(Zyw (by decide))) ts
 | d+1,ts=>ZbI (Zc6 d) ts
theorem Zau (d:Nat) (ts:Ts):(WH d ts).good:=Za9 (Zc6 d) _ _ _
theorem Zew:∀d ts,(ZbX d ts).good
 | 0,_=>(Zyw (by decide))
 | d+1,ts=>Zau d ts
theorem Zks (ts:Ts):(Za1 ts).good:=by
 unfold Za1
 split
 ·exact Zyw (by decide)
 ·split <;> trivial
 ·trivial
theorem ZbJ (d op a:Nat) (ts:Ts):(Za2 d op a ts).good:=Zyr (ZH _) fun _ _=>Zyr (Zat (Zew d) _ _ _) fun _ _=>trivial
theorem Zc7 {d:Nat} {bd:Ts→R (List Li)} (h:∀ts,(bd ts).good) (a op:Nat) (l:List Ex) (ts:Ts):(X5 d bd a op l ts).good :=
 Zyt (Zyr (Z8 _ _) fun _ _=>Zyr (YO h _) fun _ _=>trivial) trivial
theorem Zi9 {d:Nat} {bd:Ts→R (List Li)} (h:∀ts,(bd ts).good) (ts:Ts):(ZhU d bd ts).good :=
 Zyt (ZbJ _ _ _ _) <| Zyt (ZbJ _ _ _ _) <| Zyr (Zau _ _) fun _ _=>Zyr (Zks _) fun _ _=>Zyt (Zc7 h _ _ _ _) (Zyr (Zau _ _) fun _ _=>Zc7 h _ _ _ _)
theorem ZgJ:∀d ts,(ZhV d ts).good
 | 0,ts=>VA (Zi9 fun _=>(Zyw (by decide))) ts
 | d+1,ts=>VA (Zi9 (ZgJ d)) ts
theorem Zmj (d:Nat) (b:Bool) (ts:Ts):(Zj4 d b ts).good:=Zyr (ZH _) fun _ _=>Zyr (Zat (Zew d) _ _ _) fun _ _ =>
 Zyt (Zyr (ZgJ _ _) fun _ _=>Zyr (Z8 _ _) fun _ _=>trivial) (Zyr (Z8 _ _) fun _ _=>trivial)
theorem Zmk {d:Nat} {un:Ts→R Un} (h:∀ts,(un ts).good) (ts:Ts):(Zj5 d un ts).good:=Zyr (ZH _) fun _ _=>Zyr (Za8 _) fun _ _ =>
 Zyt (Zyr (ZH _) fun _ _=>Zyr (Za8 _) fun _ _=>Zyr (YO h _) fun _ _=>trivial) (Zyr (YO h _) fun _ _=>trivial)
theorem Zml (ts:Ts):(Zj6 ts).good:=Zyr (ZH _) fun _ _=>Zyr (Z8 _ _) fun _ _=>Zyr (ZH _) fun _ _=>Zyr (Za8 _) fun _ _=>trivial
theorem Zmm (ts:Ts):(Zj7 ts).good:=Zyr (ZH _) fun _ _=>trivial
theorem Yk {b:Bool} {d:Nat} {un:Ts→R Un} (h:∀ts,(un ts).good):∀f u ts,(X6 b d un f u ts).good
 | 0,_,_=>Zyw (by decide)
 | f+1,.mk tys rels rules comps inits overs,ts=>by
  rw [Zc2]
  exact Zyt trivial <| Zyt (Zyt (Zyw (by decide)) (Zyr (Zkr _) fun _ _=>Yk h f _ _)) <| Zyt (Zyt (Zyw (by decide)) (Zyr (Zmi _) fun _ _=>Yk h f _ _)) <|
   Zyt (Zyt (Zyw (by decide)) (Zyr (Zmk h _) fun _ _=>Yk h f _ _)) <| Zyt (Zyt (Zyw (by decide)) (Zyr (Zml _) fun _ _=>Yk h f _ _)) <|
   Zyt (Zyt (Zyw (by decide)) (Zyr (Zmm _) fun _ _=>Yk h f _ _)) <| Zyt (Zyt (Zyw (by decide)) (Zyr (Zmj _ _ _) fun _ _=>Yk h f _ _)) (Zyw (by decide))
theorem Zex:∀d ts,(Zj8 d ts).good
 | 0,ts=>Yk (fun _=>(Zyw (by decide))) _ _ _
 | d+1,ts=>Yk (Zex d) _ _ _
theorem ZgK (ts:Ts):(Wh ts).good:=Yk (Zex 63) _ _ _
theorem Zkt {a:Nat} {r:Bs} {room:Bool} {t:Tok} (h:VS a r room=.tok t):room=true:=by
 cases room with
 | true=>rfl
 | false =>
  unfold VS at h
  simp only at h
  split at h
  ·cases h
  ·simp at h
theorem Zja:∀(f:Nat) (m:Int) (a:Nat) (r:Bs),(Wm f m a r).1.length≤m.toNat
 | 0,m,a,r=>by simp [Wm]
 | f+1,m,a,r=>by
  unfold Wm
  split
  ·simp
  ·simp only
   split
   ·simp
   ·split
    ·simp
    ·rename_i t ht
     have hr:=Zkt ht
     rw [Tz] at hr
     have:=Zja f (m - 1) t.fin ((r.drop (YC r).2).drop (t.fin - (a+(YC r).2)))
     simp only [Tc]
     omega
theorem Zfh (s:Bs) (m:Int):(ZdD s m).1.length≤m.toNat:=Zja _ _ _ _
inductive Top (α:Type) where
 | ok (v:α) (L:List Tok) | err (p:Int) (e:Nat)
def ZV {α:Type} (bytes most:Nat) (P:Ts→R α) (s:Bs):Top α :=
 if bytes<s.length then .err 0 3
 else if (ZdD s most).2.2≠0 then .err (ZdD s most).2.1 (ZdD s most).2.2
 else match P ((ZdD s most).1.map Tok.t0) with
  | .ok v []=>.ok v (ZdD s most).1
  | .ok v (_::ts)=>.err (Zd (ZdD s most).1 s.length (ts.length+1)) 150
  | .err r e=>.err (Zd (ZdD s most).1 s.length r) e
theorem Zc8 {α:Type} {bytes most:Nat} {P:Ts→R α} (hP:∀ts,(P ts).good) {s:Bs} {p:Int} {e:Nat} (h:ZV bytes most P s=.err p e):e≠0:=by
 unfold ZV at h
 split at h
 ·cases h;decide
 ·split at h
  ·rename_i hn;cases h;exact hn
  ·split at h
   ·cases h
   ·cases h;decide
   ·rename_i r e' he
    cases h
    have:=hP ((ZdD s most).1.map Tok.t0)
    rw [he] at this;exact this
end Go.PM.Lex
end

section
namespace Go.PM.Lex
open Go.Proofs
variable {w0:World} {nG:Nat}
noncomputable def Zc9:Zu:=fun args σ K=>match args,σ with
 | [.d (.str s),.d (.int .i64 m)],⟨[],[],0⟩=>s.length<4294967281 ∧
   ∀l p c,ZdD s m=(l,(p,c))→(c=0→K (.ret (.tuple [.d (.sl (ZG l)),.d (.int .i64 p),.d (.int .i64 0)])) ⟨[],[],0⟩) ∧
    (c≠0→K (.ret (.tuple [.d (.sl []),.d (.int .i64 p),.d (.int .i64 c)])) ⟨[],[],0⟩)
 | _,_=>False
theorem Zda:Zc Zc9:=fun args σ K K' hK h=>by
 unfold Zc9 at h ⊢
 split at h
 ·exact ⟨h.1,fun l p c hx=>⟨fun g=>hK _ _ ((h.2 l p c hx).1 g),fun g=>hK _ _ ((h.2 l p c hx).2 g)⟩⟩
 ·exact h.elim
theorem ZqL (h:PCalls (GG w0 nG) 79 Zaj):PCalls (GG w0 nG) 79 Zc9:=h.weaken1 fun args σ K hs=>by
 unfold Zc9 at hs
 unfold Zaj
 split at hs
 ·rename_i s m
  obtain ⟨h1,hs⟩:=hs
  refine ⟨h1,?_⟩
  have hs:=hs (ZdD s m).1 (ZdD s m).2.1 (ZdD s m).2.2 rfl
  by_cases hc:(ZdD s m).2.2=0
  ·rw [Ti hc,hc];exact hs.1 hc
  ·rw [Te hc];exact hs.2 hc
 ·exact hs.elim
noncomputable def recOf:Nat×Nat×Code:=match Zwp (WU Tryz.f80) with | some x=>x | none=>(0,0,.skip)
noncomputable def Zt9:List PV→St→(St→Prop)→Prop:=fun args σ K=>args.length≤Tryz.f80.ntmps∧W (ctx ZhK [] (Zb [])) recOf.2.2 (ZtY ZhK Tryz.f80 σ.bx.length K) (U6 (U6 (Zdy 0 args) recOf.1 (.d .nili)) recOf.2.1 (.d .nili)) σ
noncomputable def Zua:PV→List PV→St→(St→Prop)→Prop:=fun pv args σ K=>args.length≤Tryz.f80.ntmps∧W (ctx ZhK [] (Zb [])) recOf.2.2 (ZtY ZhK Tryz.f80 σ.bx.length K) (U6 (U6 (Zdy 0 args) recOf.1 pv) recOf.2.1 pv) σ
theorem Zph:PDef (GG w0 nG) 80 Zt9 Zua :=
 Zqb (a:=recOf.1) (b:=recOf.2.1) (rest:=recOf.2.2) Y6 mixed (tbl:=[]) trivial Tryz.func80 rfl (by kernel_rfl) rfl (by kernel_rfl) (fun args σ K h=>⟨Zb [],σ.bx.length,Tp _,h.1,h.2⟩) (fun pv args σ K h=>⟨Zb [],σ.bx.length,Tp _,h.1,h.2⟩)
def WhK {α:Type} (tU:TypeId) (enc:List Tok→Int→α→List PV) (bad:List PV→Prop) (n:Int) (x:Top α) (K:PEnd→St→Prop):Prop:=match x with
 | .ok v L=>K (.ret (.tuple [.d (.int .i64 0),.d (.int .i64 0)])) ⟨[.cells tU (enc L n v)],[],0⟩
 | .err p e=>∀cs,bad cs→K (.ret (.tuple [.d (.int .i64 p),.d (.int .i64 e)])) ⟨[.cells tU cs],[],0⟩
theorem Zjb {α:Type} {tU:TypeId} {enc:List Tok→Int→α→List PV} {bad:List PV→Prop} {n:Int} {x:Top α} {K K':PEnd→St→Prop} (hK:∀e σ,K e σ→K' e σ) (h:WhK tU enc bad n x K):WhK tU enc bad n x K':=by
 cases x with
 | ok v L=>exact hK _ _ h
 | err p e=>exact fun cs hb=>hK _ _ (h cs hb)
theorem ZgL {l:List Tok} (h:l.length≤1048576):ROK l 0 (l.map Tok.t0):=⟨by omega,by omega,h,by simp [tz]⟩
def Zx5 (cs:List PV):Prop:=∃a b c d e f:List (List D),cs=[.d (.sl a),.d (.sl b),.d (.sl c),.d (.sl d),.d (.sl e),.d (.sl f)]
def Zx6 (cs:List PV):Prop:=∃(a:Int) (b:Bs) (c:Int) (d:List (List D)) (e:Int),cs=[.d (.int .u8 a),.d (.str b),.d (.int .i64 c),.d (.sl d),.d (.int .i64 e)]
noncomputable def Zjc:Tbl:=[(70,ZbG 64)]
noncomputable def Zjd:Tbl:=[(35,ZcY 64)]
noncomputable def Zmn:Zu:=fun args σ K=>match args,σ with
 | [.d (.str s),.d (.int .i64 by'),.d (.int .i64 most),.func g [] [.ptr 0 0]],⟨[.cells tU c0],tk,n⟩=>(g=69∧by'=65536∧most=16384∧c0=[.sl 0 64 [],.sl 1 68 [],.sl 2 50 [],.sl 3 71 [],.sl 4 73 [],.sl 5 75 []]∧tk=[5,4,3,2,1,0]∧n=6)∧s.length<4294967281 ∧
   ∀x,ZV 65536 16384 Wh s=x→WhK tU (fun L n (v:Un)=>(XF (Zd L n) v).map .d) Zx5 s.length x K
 | _,_=>False
theorem Zku:Zc Zmn:=fun args σ K K' hK h=>by
 unfold Zmn at h ⊢
 split at h
 ·exact ⟨h.1,h.2.1,fun x hx=>Zjb hK (h.2.2 x hx)⟩
 ·exact h.elim
noncomputable def Zpi:Tbl:=[(79,Zc9),(69,Zh5 Tryz.f69 Zjc),(81,YN)]
theorem Zmo (ht:TblOK (GG w0 nG) Zpi):PCalls (GG w0 nG) 33 Zmn:=by
 refine ZlT Y6 mixed (tbl:=Zpi) ht Tryz.func33 rfl (by kernel_rfl) (by kernel_rfl) Zph ?_
 intro args σ K h
 unfold Zmn at h
 split at h
 ·obtain ⟨⟨rfl,rfl,rfl,rfl,rfl,rfl⟩,hs,h⟩:=h
  rename_i s tU
  have h:=h _ rfl
  refine ⟨Zb [],Zad [],WQ [],1,false,by simp,Tb rfl,?_⟩
  unfold ZV at h
  conv=>whnf
  refine Zyq (fun hc=>?_) (fun hc=>?_)
  ·rw [Ti (by omega)] at h
   conv=>whnf
   exact h _ ⟨_,_,_,_,_,_,rfl⟩
  rw [Te (by omega)] at h
  conv=>whnf
  refine ⟨hs,fun l p c hx=>?_⟩
  have hlen:=Zfh s 16384
  rw [show ((16384:Nat):Int)=16384 from rfl,hx] at h
  rw [hx] at hlen
  refine ⟨fun h0=>?_,fun h0=>?_⟩
  ·subst h0
   rw [Te (by simp)] at h
   simp only at h hlen
   have ho:=ZgL (l:=l) (by simp at hlen;omega)
   clear hx hlen
   generalize hts:l.map Tok.t0=ts at h ho
   conv=>whnf
   refine ⟨_,fun _ _ h=>h,Tb rfl,?_⟩
   conv=>whnf
   refine ⟨l,ts,rfl,ho,by omega,fun x hx=>?_⟩
   rw [show Wh ts=ZqE false 64 ts from rfl,hx] at h
   rcases x with ⟨⟨v1,v2,v3,v4,v5,v6⟩,ts2⟩ | ⟨r,e⟩
   rotate_left
   ·intro a9 d9;(conv=>whnf);refine ⟨Tb rfl,?_⟩;(conv=>whnf);(repeat (refine ⟨rfl,?_⟩;conv=>whnf));exact h _ ⟨_,_,_,_,_,_,rfl⟩
   intro a2 hle2 ho2
   conv=>whnf
   have hl2:=ho2.len
   (repeat (refine ⟨rfl,?_⟩;conv=>whnf))
   refine Zyq (fun hc3=>?_) (fun hc3=>?_)
   ·have hc3:a2<l.length:=by have hc3:a2<((ZG l).length:Int):=hc3;rw [Y8] at hc3;exact hc3
    cases ts2 with
    | nil=>simp at hl2;omega
    | cons t0 ts3 =>
     conv=>whnf
     refine ⟨l,_,rfl,ho2,?_⟩
     conv=>whnf
     refine ⟨Tb rfl,?_⟩
     conv=>whnf
     (repeat (refine ⟨rfl,?_⟩;conv=>whnf))
     exact h _ ⟨_,_,_,_,_,_,rfl⟩
   exact m160
  rw [Ti h0] at h
  conv=>whnf
  refine Zyv (fun hc2=>?_) (fun hc2=>absurd (show c=0 by omega) h0)
  conv=>whnf
  (repeat (refine ⟨rfl,?_⟩;conv=>whnf))
  exact h _ ⟨_,_,_,_,_,_,rfl⟩
 ·exact h.elim
noncomputable def Zmp:Zu:=fun args σ K=>match args,σ with
 | [.d (.str s),.d (.int .i64 by'),.d (.int .i64 most),.func g [] [.ptr 0 0]],⟨[.cells tU c0],tk,n⟩=>(g=34∧by'=65536∧most=16384∧c0=[.d (.int .u8 0),.d (.str []),.d (.int .i64 0),.sl 0 24 [],.d (.int .i64 0)]∧tk=[0]∧n=1)∧s.length<4294967281 ∧
   ∀x,ZV 65536 16384 (WH 64) s=x→WhK tU (fun L n (v:Ex)=>(YU (Zd L n) v).map .d) Zx6 s.length x K
 | _,_=>False
theorem Zkv:Zc Zmp:=fun args σ K K' hK h=>by
 unfold Zmp at h ⊢
 split at h
 ·exact ⟨h.1,h.2.1,fun x hx=>Zjb hK (h.2.2 x hx)⟩
 ·exact h.elim
noncomputable def Zpj:Tbl:=[(79,Zc9),(34,Zh5 Tryz.f34 Zjd),(81,YN)]
theorem Zmq (ht:TblOK (GG w0 nG) Zpj):PCalls (GG w0 nG) 33 Zmp:=by
 refine ZlT Y6 mixed (tbl:=Zpj) ht Tryz.func33 rfl (by kernel_rfl) (by kernel_rfl) Zph ?_
 intro args σ K h
 unfold Zmp at h
 split at h
 ·obtain ⟨⟨rfl,rfl,rfl,rfl,rfl,rfl⟩,hs,h⟩:=h
  rename_i s tU
  have h:=h _ rfl
  refine ⟨Zb [],Zad [],WQ [],1,false,by simp,Tb rfl,?_⟩
  unfold ZV at h
  conv=>whnf
  refine Zyq (fun hc=>?_) (fun hc=>?_)
  ·rw [Ti (by omega)] at h
   conv=>whnf
   exact h _ ⟨_,_,_,_,_,rfl⟩
  rw [Te (by omega)] at h
  conv=>whnf
  refine ⟨hs,fun l p c hx=>?_⟩
  have hlen:=Zfh s 16384
  rw [show ((16384:Nat):Int)=16384 from rfl,hx] at h
  rw [hx] at hlen
  refine ⟨fun h0=>?_,fun h0=>?_⟩
  ·subst h0
   rw [Te (by simp)] at h
   simp only at h hlen
   have ho:=ZgL (l:=l) (by simp at hlen;omega)
   clear hx hlen
   generalize hts:l.map Tok.t0=ts at h ho
   conv=>whnf
   refine ⟨_,fun _ _ h=>h,Tb rfl,?_⟩
   conv=>whnf
   refine ⟨l,ts,rfl,ho,by omega,fun x hx=>?_⟩
   rw [hx] at h
   rcases x with ⟨⟨v1,v2,v3,v4,v5⟩,ts2⟩ | ⟨r,e⟩
   rotate_left
   ·intro a9 d9;(conv=>whnf);refine ⟨Tb rfl,?_⟩;(conv=>whnf);(repeat (refine ⟨rfl,?_⟩;conv=>whnf));exact h _ ⟨_,_,_,_,_,rfl⟩
   intro a2 hle2 ho2
   conv=>whnf
   have hl2:=ho2.len
   (repeat (refine ⟨rfl,?_⟩;conv=>whnf))
   refine Zyq (fun hc3=>?_) (fun hc3=>?_)
   ·have hc3:a2<l.length:=by have hc3:a2<((ZG l).length:Int):=hc3;rw [Y8] at hc3;exact hc3
    cases ts2 with
    | nil=>simp at hl2;omega
    | cons t0 ts3 =>
     conv=>whnf
     refine ⟨l,_,rfl,ho2,?_⟩
     conv=>whnf
     refine ⟨Tb rfl,?_⟩
     conv=>whnf
     (repeat (refine ⟨rfl,?_⟩;conv=>whnf))
     exact h _ ⟨_,_,_,_,_,rfl⟩
   exact m160
  rw [Ti h0] at h
  conv=>whnf
  refine Zyv (fun hc2=>?_) (fun hc2=>absurd (show c=0 by omega) h0)
  conv=>whnf
  (repeat (refine ⟨rfl,?_⟩;conv=>whnf))
  exact h _ ⟨_,_,_,_,_,rfl⟩
 ·exact h.elim
end Go.PM.Lex
end

section
namespace Go.PM.Lex
open Go.Proofs
variable {w0:World} {nG:Nat}
def Zoc {α:Type} (enc:List Tok→α→PV) (zero:PV) (x:Top α) (K:PEnd→St→Prop):Prop:=match x with
 | .ok v L=>K (.ret (.tuple [enc L v,.d (.int .i64 0),.d (.int .i64 0)])) ⟨[],[],0⟩
 | .err p e=>K (.ret (.tuple [zero,.d (.int .i64 p),.d (.int .i64 e)])) ⟨[],[],0⟩
theorem ZgM {α:Type} {enc:List Tok→α→PV} {zero:PV} {x:Top α} {K K':PEnd→St→Prop} (hK:∀e σ,K e σ→K' e σ) (h:Zoc enc zero x K):Zoc enc zero x K':=by
 cases x <;> exact hK _ _ h
noncomputable def ZbK:Zu:=fun args σ K=>match args,σ with
 | [.d (.str s)],⟨[],[],0⟩=>s.length<4294967281∧∀x,ZV 65536 16384 Wh s=x→Zoc (fun L (v:Un)=>Zam (XF (Zd L s.length) v)) (Zam (XF (fun _=>0) .nil)) x K
 | _,_=>False
theorem JP:Zc ZbK:=fun args σ K K' hK h=>by
 unfold ZbK at h ⊢
 split at h
 ·exact ⟨h.1,fun x hx=>ZgM hK (h.2 x hx)⟩
 ·exact h.elim
noncomputable def ZqM:Tbl:=[(33,Zmn)]
theorem ZqN (ht:TblOK (GG w0 nG) ZqM):PCalls (GG w0 nG) 28 ZbK:=by
 refine pc ht Tryz.func28 ?_
 intro args σ K h
 unfold ZbK at h
 split at h
 ·rename_i s
  obtain ⟨hs,h⟩:=h
  refine ⟨Zb [],0,false,by simp,Tb rfl,?_⟩
  conv=>whnf
  refine ⟨⟨rfl,rfl,rfl,rfl,rfl,rfl⟩,hs,fun x hx=>?_⟩
  have h:=h x hx
  cases x with
  | ok v L =>
   obtain ⟨v1,v2,v3,v4,v5,v6⟩:=v
   exact m46
  | err p e =>
   have he:=Zc8 ZgK hx
   intro cs hcs
   obtain ⟨b1,b2,b3,b4,b5,b6,rfl⟩:=hcs
   conv=>whnf
   refine Zyv (fun hc=>?_) (fun hc=>absurd (show e=0 by omega) he)
   exact m46
 ·exact h.elim
noncomputable def Zdb:Zu:=fun args σ K=>match args,σ with
 | [.d (.str s)],⟨[],[],0⟩=>s.length<4294967281∧∀x,ZV 65536 16384 (WH 64) s=x→Zoc (fun L (v:Ex)=>Zam (YU (Zd L s.length) v)) (Zam [.int .u8 0,.str [],.int .i64 0,.sl [],.int .i64 0]) x K
 | _,_=>False
theorem Zdc:Zc Zdb:=fun args σ K K' hK h=>by
 unfold Zdb at h ⊢
 split at h
 ·exact ⟨h.1,fun x hx=>ZgM hK (h.2 x hx)⟩
 ·exact h.elim
noncomputable def ZqO:Tbl:=[(33,Zmp)]
theorem ZqP (ht:TblOK (GG w0 nG) ZqO):PCalls (GG w0 nG) 14 Zdb:=by
 refine pc ht Tryz.func14 ?_
 intro args σ K h
 unfold Zdb at h
 split at h
 ·rename_i s
  obtain ⟨hs,h⟩:=h
  refine ⟨Zb [],0,false,by simp,Tb rfl,?_⟩
  conv=>whnf
  refine ⟨⟨rfl,rfl,rfl,rfl,rfl,rfl⟩,hs,fun x hx=>?_⟩
  have h:=h x hx
  cases x with
  | ok v L =>
   obtain ⟨v1,v2,v3,v4,v5⟩:=v
   exact m46
  | err p e =>
   have he:=Zc8 (Zau 64) hx
   intro cs hcs
   obtain ⟨b1,b2,b3,b4,b5,rfl⟩:=hcs
   conv=>whnf
   refine Zyv (fun hc=>?_) (fun hc=>absurd (show e=0 by omega) he)
   exact m46
 ·exact h.elim
theorem Zey (hg:GlobOK w0 nG):PCalls (GG w0 nG) 79 Zc9:=ZqL (Zqa hg)
theorem ZqQ (hg:GlobOK w0 nG):PCalls (GG w0 nG) 28 ZbK:=ZqN ⟨⟨Zmo ⟨⟨Zey hg,Zda⟩,⟨Za4 (tb:=Zjc) ⟨⟨Zw1 64,Zia 64⟩,trivial⟩ Tryz.func69 rfl (by kernel_rfl) (by kernel_rfl),Yf _ _⟩,⟨V0,Zt⟩,trivial⟩,Zku⟩,trivial⟩
theorem Zub (hg:GlobOK w0 nG):PCalls (GG w0 nG) 14 Zdb:=ZqP ⟨⟨Zmq ⟨⟨Zey hg,Zda⟩,⟨Za4 (tb:=Zjd) ⟨⟨Zt7 64,XA _ _ _ _⟩,trivial⟩ Tryz.func34 rfl (by kernel_rfl) (by kernel_rfl),Yf _ _⟩,⟨V0,Zt⟩,trivial⟩,Zkv⟩,trivial⟩
end Go.PM.Lex
end

section
namespace Go.PM.Lex
open Go.Proofs
variable {w0:World} {nG:Nat}
mutual
def ZqR:Ex→Ex→Bool
 | .mk o1 t1 n1 l1 _,.mk o2 t2 n2 l2 _=>decide (o1=o2) && (decide (t1=t2) && (decide (n1=n2) && Zpk l1 l2))
def Zpk:List Ex→List Ex→Bool
 | [],[]=>true
 | x::l,y::m=>ZqR x y && Zpk l m
 | _,_=>false
end
mutual
def szE:Ex→Nat
 | .mk _ _ _ l _=>1+ZxG l
def ZxG:List Ex→Nat
 | []=>0
 | x::l=>1+szE x+ZxG l
end
def Li.op:Li→Nat | .mk o _ _ _ _=>o
end Go.PM.Lex
end

section
namespace Go.PM.Lex
mutual
def erE:Ex→Ex
 | .mk op t n args _=>.mk op t n (Zb8 args) 0
def Zb8:List Ex→List Ex
 | []=>[]
 | e::l=>erE e::Zb8 l
end
theorem Zdd (l:List Ex):Zb8 l=l.map erE:=by induction l with | nil=>rfl | cons x l ih=>simp [Zb8,ih]
mutual
def erL:Li→Li
 | .mk op rel args body _=>.mk op rel (Zb8 args) (ZgN body) 0
def ZgN:List Li→List Li
 | []=>[]
 | e::l=>erL e::ZgN l
end
theorem Zmr (l:List Li):ZgN l=l.map erL:=by induction l with | nil=>rfl | cons x l ih=>simp [ZgN,ih]
def Zod (r:Ru):Ru:=⟨r.head,r.args.map erE,r.body.map erL,0⟩
def Zwq (t:Ty):Ty:={ t with at':=0 }
def Zwr (t:Re):Re:={ t with at':=0 }
def Zws (t:Ini):Ini:={ t with at':=0 }
def Zwt (t:Ov):Ov:={ t with at':=0 }
mutual
def Zoe:Un→Un
 | .mk a b c d e f=>.mk (a.map Zwq) (b.map Zwr) (c.map Zod) (Zav d) (e.map Zws) (f.map Zwt)
def Zof:Co→Co
 | .mk nm ps base tys u _=>.mk nm ps base tys (Zoe u) 0
def Zav:List Co→List Co
 | []=>[]
 | e::l=>Zof e::Zav l
end
def Stb {α:Type} (er:α→α) (m:Ts) (x y:R α):Prop:=∀v ts,x=.ok v ts→∃v',er v'=er v∧y=.ok v' (ts++m)
section
variable {α β:Type} {er:α→α} {er2:β→β} {m:Ts}
theorem Stb.ok {v v':α} {ts:Ts} (h:er v'=er v):Stb er m (.ok v ts) (.ok v' (ts++m)):=fun w rest e=>by cases e;exact ⟨v',h,rfl⟩
theorem Stb.ok' {v v':α} {ts ts':Ts} (h:er v'=er v) (e:ts'=ts++m):Stb er m (.ok v ts) (.ok v' ts'):=e ▸ Stb.ok h
theorem Stb.err {r e:Nat} {y:R α}:Stb er m (.err r e) y:=fun w rest e=>by cases e
theorem Stb.bind {x y:R α} {f g:α→Ts→R β} (h:Stb er m x y) (hf:∀v v' ts,er v'=er v→Stb er2 m (f v ts) (g v' (ts++m))):Stb er2 m (x.bind f) (y.bind g):=fun w rest e=>by
 cases x with
 | ok v ts =>
  obtain ⟨v',h1,rfl⟩:=h v ts rfl
  exact hf v v' ts h1 w rest e
 | err r e'=>cases e
theorem Stb.binds {x y:R α} {f g:α→Ts→R β} (h:Stb id m x y) (hf:∀v ts,Stb er2 m (f v ts) (g v (ts++m))):Stb er2 m (x.bind f) (y.bind g):=Stb.bind h fun v v' ts e=>by cases (show v'=v from e);exact hf v ts
end
variable {m:Ts}
theorem ZqS (ws:List Bs):isW [] ws=false:=by simp [isW,hd]
theorem ZqT {ts:Ts} {ws:List Bs} (h:isW ts ws=true):∃t l,ts=t::l:=by
 cases ts with
 | nil=>rw [ZqS] at h;cases h
 | cons t l=>exact ⟨t,l,rfl⟩
theorem map_id' {α:Type} (l:List α):l.map id=l:=by simp
theorem ZqU {ts:Ts} (h:(U3 ts).1≠0):∃t l,ts=t::l:=by
 cases ts with
 | nil=>exact absurd rfl h
 | cons t l=>exact ⟨t,l,rfl⟩
def Un.le:Un→Un→Prop
 | .mk a1 a2 a3 a4 a5 a6,.mk b1 b2 b3 b4 b5 b6=>a1.length≤b1.length∧a2.length≤b2.length∧a3.length≤b3.length∧a4.length≤b4.length∧a5.length≤b5.length∧a6.length≤b6.length
theorem Un.le_refl:∀u:Un,Un.le u u | .mk ..=>⟨Tp _,Tp _,Tp _,Tp _,Tp _,Tp _⟩
theorem Un.le_trans:∀{u v w:Un},Un.le u v→Un.le v w→Un.le u w
 | .mk ..,.mk ..,.mk ..,⟨h1,h2,h3,h4,h5,h6⟩,⟨k1,k2,k3,k4,k5,k6⟩=>⟨by omega,by omega,by omega,by omega,by omega,by omega⟩
def Un.room:Un→Un→Prop
 | .mk a1 a2 a3 a4 a5 a6,.mk b1 b2 b3 b4 b5 b6=>a1.length+b1.length≤256∧a2.length+b2.length≤256∧a3.length+b3.length≤1024∧a4.length+b4.length≤64∧a5.length+b5.length≤256∧a6.length+b6.length≤256
theorem Zys {α β:Type} {x:R α} {f:α→Ts→R β} {v:β} {ts:Ts} (h:x.bind f=.ok v ts):∃a ts1,x=.ok a ts1∧f a ts1=.ok v ts:=by
 cases x with
 | ok a ts1=>exact ⟨a,ts1,rfl,h⟩
 | err r e=>cases h
end Go.PM.Lex
end

section
namespace Go.PM.Lex
open Go.Proofs
variable {w0:World} {nG:Nat}
def Zhe {α:Type} (f:α→α→Bool):List α→List α→Bool
 | [],[]=>true
 | x::l,y::m=>f x y && Zhe f l m
 | _,_=>false
def szS {α:Type} (f:α→Nat):List α→Nat
 | []=>0
 | x::l=>1+f x+szS f l
theorem ZW {α:Type} (f:α→Nat):∀(l:List α),l.length≤szS f l
 | []=>Tp _
 | x::l=>by have:=ZW f l;simp only [Tc,szS];omega
theorem Z1 {α:Type} (f:α→Nat):∀(l:List α) (i:Nat) (h:i<l.length),f l[i]<szS f l
 | x::l,0,h=>by simp only [List.getElem_cons_zero,szS];omega
 | x::l,i+1,h=>by have:=Z1 f l i (by simpa using h);simp only [List.getElem_cons_succ,szS];omega
def eqB (a b:Bs):Bool:=decide (a=b)
mutual
def Zuc:Li→Li→Bool
 | .mk o1 r1 a1 b1 _,.mk o2 r2 a2 b2 _=>decide ((o1:Int)=o2) && (decide (r1=r2) && (Zhe ZqR a1 a2 && Zpl b1 b2))
def Zpl:List Li→List Li→Bool
 | [],[]=>true
 | x::l,y::m=>Zuc x y && Zpl l m
 | _,_=>false
end
mutual
def szL:Li→Nat
 | .mk _ _ a b _=>1+szS szE a+ZxH b
def ZxH:List Li→Nat
 | []=>0
 | x::l=>1+szL x+ZxH l
end
def Zms (f g:Fi):Bool:=decide (f.name=g.name) && (decide (f.typ=g.typ) && true)
def Zud (r s:Ru):Bool:=decide (r.head=s.head) && (Zhe ZqR r.args s.args && Zhe Zuc r.body s.body)
def Zx7 (r:Ru):Nat:=1+szS szE r.args+szS szL r.body
def sz0 {α:Type} (_:α):Nat:=0
def Zue (c d:Ca):Bool:=decide (c.name=d.name) && Zhe Zms c.fields d.fields
def Zx8 (c:Ca):Nat:=1+szS sz0 c.fields
def Zuf (a b:Ty):Bool:=decide ((a.kind:Int)=b.kind) && (decide (a.name=b.name) && (decide (a.base=b.base) && (Zhe Zms a.fields b.fields && Zhe Zue a.cases b.cases)))
def Zx9 (a:Ty):Nat:=1+szS sz0 a.fields+szS Zx8 a.cases
def Zug (a b:Re):Bool:=decide (a.name=b.name) && (decide (a.inn=b.inn) && (decide (a.out=b.out) && (decide (a.inl=b.inl) && Zhe Zms a.fields b.fields)))
def Zya (a:Re):Nat:=1+szS sz0 a.fields
def Zuh (a b:Ini):Bool:=decide (a.name=b.name) && (decide (a.comp=b.comp) && Zhe eqB a.types b.types)
def Zyb (a:Ini):Nat:=1+szS sz0 a.types
def Zui (a b:Ov):Bool:=decide (a.rel=b.rel)
mutual
def Zuj:Un→Un→Bool
 | .mk a1 a2 a3 a4 a5 a6,.mk b1 b2 b3 b4 b5 b6=>Zhe Zuf a1 b1 && (Zhe Zug a2 b2 && (Zhe Zud a3 b3 && (Zmt a4 b4 && (Zhe Zuh a5 b5 && Zhe Zui a6 b6))))
def Zuk:Co→Co→Bool
 | .mk n1 p1 b1 t1 u1 _,.mk n2 p2 b2 t2 u2 _=>decide (n1=n2) && (decide (b1=b2) && (Zhe eqB p1 p2 && (Zhe eqB t1 t2 && Zuj u1 u2)))
def Zmt:List Co→List Co→Bool
 | [],[]=>true
 | x::l,y::m=>Zuk x y && Zmt l m
 | _,_=>false
end
mutual
def Zyc:Un→Nat
 | .mk a1 a2 a3 a4 a5 a6=>1+szS Zx9 a1+szS Zya a2+szS Zx7 a3+Zul a4+szS Zyb a5+szS sz0 a6
def Zyd:Co→Nat
 | .mk _ p _ t u _=>1+szS sz0 p+szS sz0 t+Zyc u
def Zul:List Co→Nat
 | []=>0
 | x::l=>1+Zyd x+Zul l
end
def spB (sp:Nat→Zu) (n:Nat):Zu:=fun args σ K=>0<n∧sp (n - 1) args σ K
theorem YE {sp:Nat→Zu} (h:∀n,Zc (sp n)) (n:Nat):Zc (spB sp n):=fun args σ K K' hK g=>⟨g.1,h _ _ _ _ _ hK g.2⟩
theorem Xj {g:FuncId} {sp:Nat→Zu} (h:WZ (GG w0 nG).P g):PCalls (GG w0 nG) g (spB sp 0):=⟨h,fun args σ K hs=>absurd hs.1 (by omega)⟩
theorem Xk {g:FuncId} {sp:Nat→Zu} {n:Nat} (h:PCalls (GG w0 nG) g (sp n)):PCalls (GG w0 nG) g (spB sp (n+1)):=h.weaken1 fun args σ K hs=>hs.2
end Go.PM.Lex
end

section
namespace Go.PM.Lex
open Go.Proofs
variable {w0:World} {nG:Nat}
end Go.PM.Lex
end

section
namespace Go.PM.Lex
open Go.Proofs
variable {w0:World} {nG:Nat}
end Go.PM.Lex
end

section
namespace Go.PM.Lex
theorem ZqV {n len b0 b1 b2 b3 b1' b2' b3':Nat} (h1:1<n→b1'=b1) (h2:2<n→b2'=b2) (h3:3<n→b3'=b3) (hn:1≤n) (hd:(Lib.decodeN len b0 b1 b2 b3).2≤n) :
  Lib.decodeN (min n len) b0 b1' b2' b3'=Lib.decodeN len b0 b1 b2 b3:=by
 rcases Lib.decodeN_shape len b0 b1 b2 b3 with ⟨c,e⟩ | ⟨c1,c2,c3,cv,e⟩ | ⟨c1,c2,c3,c4,cv,cs,e⟩ | ⟨c1,c2,c3,c4,c5,cv,cw,e⟩ | e
 ·rw [e];unfold Lib.decodeN;rw [Ti c]
 ·rw [e] at hd ⊢
  simp only at hd
  rw [h1 (by omega)]
  unfold Lib.decodeN
  rw [Te (by omega),Ti ⟨c1,by omega,c3⟩,Ti (by omega)]
 ·rw [e] at hd ⊢
  simp only at hd
  rw [h1 (by omega),h2 (by omega)]
  exact m126
 ·rw [e] at hd ⊢
  simp only at hd
  rw [h1 (by omega),h2 (by omega),h3 (by omega)]
  exact m111
 ·rw [e]
  rcases Lib.decodeN_shape (min n len) b0 b1' b2' b3' with ⟨c,e'⟩ | ⟨c1,c2,c3,cv,e'⟩ | ⟨c1,c2,c3,c4,cv,cs,e'⟩ | ⟨c1,c2,c3,c4,c5,cv,cw,e'⟩ | e'
  ·unfold Lib.decodeN at e;rw [Ti c] at e;rw [e',← e]
  ·rw [h1 (by omega)] at c3 cv
   unfold Lib.decodeN at e
   rw [Te (by omega),Ti ⟨c1,by omega,c3⟩,Ti (by omega)] at e
   simp at e
  ·rw [h1 (by omega),h2 (by omega)] at *
   unfold Lib.decodeN at e
   rw [Te (by omega),Te (by omega),Ti ⟨c1,⟨by omega,c3⟩,by omega,c4⟩,Ti ⟨by omega,by omega⟩] at e
   simp at e
  ·rw [h1 (by omega),h2 (by omega),h3 (by omega)] at *
   unfold Lib.decodeN at e
   rw [Te (by omega),Te (by omega),Te (by omega),Ti ⟨c1,⟨by omega,c3⟩,⟨by omega,c4⟩,by omega,c5⟩,Ti ⟨by omega,by omega⟩] at e
   simp at e
  ·exact e'
theorem VB (r:Bs) (n k:Nat):(r.take n).getD k 0=if k<n then r.getD k 0 else 0:=by
 simp only [T2,List.getElem?_take]
 split <;> simp
theorem Zaw {r:Bs} {n:Nat} (hn:1≤n) (hd:(Lib.decodeL r).2≤n):Lib.decodeL (r.take n)=Lib.decodeL r:=by
 rw [Lib.decodeL_N] at hd ⊢
 rw [Lib.decodeL_N,T9,VB,VB,VB,VB,Ti (by omega)]
 exact ZqV (fun h=>by rw [Ti h]) (fun h=>by rw [Ti h]) (fun h=>by rw [Ti h]) hn hd
theorem Zba {r:Bs} {n:Nat} (h:(pk r).1≠-1) (hn:(pk r).2≤n):pk (r.take n)=pk r:=by
 obtain ⟨h1,h2,h3⟩:=ZnK r h
 unfold pk at h hn ⊢
 split at h
 ·exact absurd rfl h
 ·rename_i g
  rw [Te g] at hn ⊢
  simp only at hn
  have hr:=JF r
  have e:=Zaw (r:=r) (n:=n) (by omega) hn
  rw [e,Te]
  simp only [not_or] at g ⊢
  refine ⟨fun h=>?_,g.2⟩
  have h5:=congrArg List.length h
  rw [T9,Td] at h5
  have:=T5.2 h3
  omega
theorem Zez (f:Nat):ZI f []=0:=by
 cases f with
 | zero=>rfl
 | succ f=>exact ZaZ (by simp [Zem]) (by simp [Zem];decide) (by simp [Zem];decide)
theorem Zax {c:Int} (h:Zg c=true∨Zl c=true):c≠-1:=fun h1=>by rw [h1,Uv,JE] at h;simp at h
theorem Zde:∀(f:Nat) (r:Bs),r.length<f→∀f',ZI f r<f'→ZI f' (r.take (ZI f r))=ZI f r
 | 0,r,h,_,_=>by omega
 | f+1,r,h,f',hf=>by
  have step:∀(hne:(pk r).1≠-1),ZI (f+1) r=(pk r).2+ZI f (r.drop (pk r).2)→pk (r.take (ZI (f+1) r))=pk r∧(r.take (ZI (f+1) r)).drop (pk r).2=(r.drop (pk r).2).take (ZI f (r.drop (pk r).2)) ∧
    ∀g,f'=g+1→ZI g ((r.drop (pk r).2).take (ZI f (r.drop (pk r).2)))=ZI f (r.drop (pk r).2):=fun hne e=>by
   obtain ⟨h1,h2,h3⟩:=ZnK r hne
   refine ⟨Zba hne (by omega),?_,fun g hg=>Zde f _ (by rw [Tt];omega) g (by omega)⟩
   rw [List.drop_take,e];congr 1;omega
  obtain ⟨g,rfl⟩:∃g,f'=g+1:=⟨f' - 1,by omega⟩
  by_cases h1:(pk r).1=46
  ·by_cases h2:Zg (pk (r.drop 1)).1=true
   ·have e:=ZaY (f:=f) h1 h2
    obtain ⟨s1,s2,s3⟩:=step (by omega) e
    have hlow:=ZlJ r (by omega) (by omega)
    have h2':Zg (pk ((r.take (ZI (f+1) r)).drop 1)).1=true:=by
     rw [hlow.2.2] at s2
     rw [s2]
     obtain ⟨f2,rfl⟩:∃f2,f=f2+1:=⟨f - 1,by omega⟩
     have h46:¬(pk (r.drop 1)).1=46:=fun g=>by rw [g] at h2;revert h2;decide
     have e2:=Vv (f:=f2) h46 (.inl h2)
     rw [Zba (Zax (.inl h2)) (by rw [e2];omega)]
     exact h2
    rw [ZaY (f:=g) (by rw [s1];exact h1) h2',s1,s2,s3 g rfl,← e]
   ·have e:=Zah (f:=f) h1 (by simpa using h2)
    rw [e];exact Zez _
  ·by_cases h2:Zg (pk r).1=true∨Zl (pk r).1=true
   ·have e:=Vv (f:=f) h1 h2
    obtain ⟨s1,s2,s3⟩:=step (Zax h2) e
    rw [Vv (f:=g) (by rw [s1];exact h1) (by rw [s1];exact h2),s1,s2,s3 g rfl,← e]
   ·simp only [not_or,Bool.not_eq_true] at h2
    have e:=ZaZ (f:=f) h1 h2.1 h2.2
    rw [e];exact Zez _
theorem Zkw (r:Bs):Y7 (r.take (Y7 r))=Y7 r:=by
 have:=ZcM (r.length+1) r
 refine Zde (r.length+1) r (by omega) _ ?_
 rw [T9];unfold Y7 at *;omega
theorem JQ:∀(f:Nat) (r:Bs) (esc:Bool) (acc:Bs) (p:Nat) (t:Bs) (l:Nat),ZD f r esc acc p=.ok t l→r.length<f→∀f',l - p<f'→ZD f' (r.take (l - p)) esc acc p=.ok t l
 | 0,r,esc,acc,p,t,l,h,hf,_,_=>by omega
 | f+1,r,esc,acc,p,t,l,h,hf,f',hf'=>by
  have hlen:=YZ _ _ _ _ _ _ _ h
  obtain ⟨g,rfl⟩:∃g,f'=g+1:=⟨f' - 1,by omega⟩
  unfold ZD at h
  split at h
  ·cases h
  ·rename_i hne
   have hd:=Lib.decodeL_le r hne
   have hr:=JF r
   have hne':¬r.take (l - p)=[]:=fun g=>by
    have h5:=congrArg List.length g
    rw [T9,Td] at h5
    have:=T5.2 hne
    omega
   have hdr:∀k,(r.take (l - p)).drop k=(r.drop k).take (l - (p+k)):=fun k=>by rw [List.drop_take];congr 1;omega
   unfold ZD
   rw [Te hne']
   split at h
   ·rename_i he
    rw [Ti he]
    split at h
    ·cases h
    ·rename_i b hb
     have h2:=YZ _ _ _ _ _ _ _ h
     have e:=Zaw (r:=r) (n:=l - p) (by omega) (by omega)
     rw [e,hb]
     simp only
     rw [hdr]
     exact JQ f _ _ _ _ _ _ h (by rw [Tt];omega) g (by omega)
   ·rename_i he
    rw [Te he]
    split at h
    ·rename_i h34
     cases h
     have e1:(Lib.decodeL r).2=1:=by
      rw [Lib.decodeL_N] at h34 ⊢
      rcases Lib.decodeN_shape r.length (r.getD 0 0).toNat (r.getD 1 0).toNat (r.getD 2 0).toNat (r.getD 3 0).toNat with ⟨c,e⟩ | ⟨c1,c2,c3,cv,e⟩ | ⟨c1,c2,c3,c4,cv,cs,e⟩ | ⟨c1,c2,c3,c4,c5,cv,cw,e⟩ | e
      all_goals (rw [e] at h34)
      ·rw [e]
      all_goals (dsimp only at h34;omega)
     rw [Zaw (by omega) (by omega),Ti h34]
    ·rename_i h34
     have step:∀es ac,ZD f (r.drop (Lib.decodeL r).2) es ac (p+(Lib.decodeL r).2)=.ok t l→Lib.decodeL (r.take (l - p))=Lib.decodeL r∧ZD g ((r.take (l - p)).drop (Lib.decodeL r).2) es ac (p+(Lib.decodeL r).2)=.ok t l:=fun es ac h=>by
      have h2:=YZ _ _ _ _ _ _ _ h
      refine ⟨Zaw (by omega) (by omega),?_⟩
      rw [hdr]
      exact JQ f _ _ _ _ _ _ h (by rw [Tt];omega) g (by omega)
     split at h
     ·rename_i h92
      obtain ⟨e,e2⟩:=step _ _ h
      rw [e,Te h34,Ti h92]
      exact e2
     ·rename_i h92
      split at h
      ·cases h
      ·rename_i h32
       obtain ⟨e,e2⟩:=step _ _ h
       have h2:=YZ _ _ _ _ _ _ _ h
       have hpk:pk (r.take (l - p))=pk r:=by
        refine Zba (by omega) ?_
        unfold pk
        split
        ·simp only;omega
        ·simp only;omega
       rw [e,Te h34,Te h92,hpk,Te h32]
       exact e2
theorem Zkx {r t:Bs} {l:Nat} (h:Wf r=.ok t l):Wf (r.take l)=.ok t l:=by
 unfold Wf at h ⊢
 have h2:=YZ _ _ _ _ _ _ _ h
 rw [Tt] at h2
 have:=JQ _ _ _ _ _ _ _ h (by rw [Tt];omega) ((r.take l).length+1) (by rw [T9];omega)
 rwa [List.drop_take]
theorem Vb {r p:Bs} {n:Nat} (h:Lib.hasPrefix (r.take n) p=true):Lib.hasPrefix r p=true:=by
 unfold Lib.hasPrefix at h ⊢
 rw [List.isPrefixOf_iff_prefix] at h ⊢
 exact h.trans (List.take_prefix n r)
theorem Jl {r p:Bs} {n:Nat} (h:Lib.hasPrefix r p=true) (hn:p.length≤n):Lib.hasPrefix (r.take n) p=true:=by
 unfold Lib.hasPrefix at h ⊢
 rw [List.isPrefixOf_iff_prefix] at h ⊢
 rw [List.prefix_take_iff]
 exact ⟨h,hn⟩
theorem UH (p:UInt8→Bool):∀l:Bs,(l.takeWhile p).takeWhile p=l.takeWhile p
 | []=>rfl
 | x::l=>by
  by_cases h:p x=true
  ·simp only [Sa,h,if_true,UH p l]
  ·simp [Sa,h]
theorem Zie {r:Bs} {v:Nat} (h:ZE r=some v):ZE (r.take (Zm r))=some v∧Zm (r.take (Zm r))=Zm r:=by
 have hne:Ze r≠[]:=fun g=>by rw [ZE,Ti g] at h;cases h
 have hle:=Zgo r
 have hpos:=T5.2 hne
 have hx:Xq (r.take (Zm r))=Xq r:=by
  cases hh:Xq r with
  | true=>exact Jl hh (by unfold Zm;rw [hh];simp)
  | false =>
   cases hh2:Xq (r.take (Zm r)) with
   | false=>rfl
   | true=>exact absurd (Vb hh2) (by unfold Xq at hh;rw [hh];simp)
 have hd:Ze (r.take (Zm r))=Ze r:=by
  have hl:Zm r=(if Xq r=true then 2 else 0)+(Ze r).length:=rfl
  unfold Ze at hl ⊢
  rw [hx,List.drop_take,hl,Sn,← XS,UH]
 have hl:Zm (r.take (Zm r))=Zm r:=by
  have e:∀x y:Bs,Xq x=Xq y→Ze x=Ze y→Zm x=Zm y:=fun x y h1 h2=>by unfold Zm;rw [h1,h2]
  exact e _ _ hx hd
 refine ⟨?_,hl⟩
 have hnil:(r.take (Zm r)).drop (Zm r)=[]:=by apply TP;rw [T9];omega
 unfold ZE at h ⊢
 rw [hd,hl,hnil,hx]
 rw [Te hne] at h ⊢
 generalize (if Xq r=true then 18446744073709551616 else 9223372036854775808)=L at h ⊢
 generalize Wz (if Xq r=true then 16 else 10) (Ze r)=V at h ⊢
 split at h
 ·cases h
 ·rename_i g1
  rw [Te g1]
  split at h
  ·cases h
  ·rename_i g2
   simp only [not_or] at g2
   rw [Te]
   ·exact h
   ·simp only [not_or]
    exact ⟨by rw [Zem];decide,by rw [Zem];decide,g2.2.2⟩
theorem ZdP {r:Bs} {n:Nat} (hn:1≤n) (h:YF r=0):YF (r.take n)=0:=by
 unfold YF at h ⊢
 split at h
 ·cases h
 ·rename_i h1
  split at h
  ·cases h
  ·rename_i h2
   rw [Te,Te]
   ·rw [VB,Ti (by omega)];exact h2
   ·intro g
    apply h1
    rw [Sy] at g ⊢
    obtain ⟨x,hx,hy⟩:=g
    exact ⟨x,hx,Vb hy⟩
theorem Zmu {r:Bs} (h0:0<r.length) (h:0<YF r):YF (r.take (YF r))=YF r:=by
 have hle:=ZhR r h0
 unfold YF at h ⊢
 split at h
 ·rename_i h1
  rw [Ti h1,Ti]
  rw [Sy] at h1 ⊢
  obtain ⟨x,hx,hy⟩:=h1
  refine ⟨x,hx,Jl hy ?_⟩
  simp only [twos,Tq,List.mem_nil_iff,or_false] at hx
  rcases hx with rfl | rfl | rfl | rfl | rfl <;> simp
 ·rename_i h1
  split at h
  ·rename_i h2
   rw [Te h1,Ti h2,Te,Ti]
   ·rw [VB,Ti (by omega)];exact h2
   ·intro g
    apply h1
    rw [Sy] at g ⊢
    obtain ⟨x,hx,hy⟩:=g
    exact ⟨x,hx,Vb hy⟩
  ·cases h
theorem Zmv {a:Nat} {r:Bs} {room:Bool} {t:Tok} (h0:0<r.length) (h:VS a r room=.tok t):VS 0 (r.take (t.fin - a)) true=.tok ⟨t.kind,t.text,t.n,0,t.fin - a⟩:=by
 obtain ⟨f1,f2,f3⟩:=ZcN h0 h
 rw [ZU] at h
 split at h
 ·cases h
 ·rename_i g0
  split at h
  ·cases h
  ·split at h
   ·rename_i g1
    cases h
    simp only [Sn] at *
    have e:=Zmu h0 g1
    rw [ZU,e,Te (fun g=>by omega),Te (by simp),Ti g1,List.take_take]
    simp
   ·rename_i g1
    have hs0:YF r=0:=by omega
    have hs:YF (r.take (t.fin - a))=0:=ZdP (by omega) hs0
    split at h
    ·rename_i g2
     have hpk:pk (r.take (t.fin - a))=pk r:=Zba (by omega) (by have:=ZlJ r (by omega) (by omega);omega)
     unfold Zae at h
     split at h
     ·cases h
     ·rename_i t' l hx
      cases h
      simp only [Sn] at *
      rw [ZU,hs,hpk,Te (fun g=>g.2.1 g2),Te (by simp),Te (by omega),Ti g2,Zae,Zkx hx]
      simp
    ·rename_i g2
     split at h
     ·rename_i g3
      have hpk:pk (r.take (t.fin - a))=pk r:=Zba (Zax (.inr g3)) (by have:=ZlJ r (by rw [ZcL] at g3;omega) (by rw [ZcL] at g3;omega);omega)
      unfold Xw at h
      split at h
      ·cases h
      ·rename_i n hx
       cases h
       simp only [Sn] at *
       obtain ⟨e1,e2⟩:=Zie hx
       rw [ZU,hs,hpk,Te (fun g=>by rw [g3] at g;simp at g),Te (by simp),Te (by omega),Te g2,Ti g3,Xw,e1,e2]
       simp
     ·rename_i g3
      have h4:Zg (pk r).1=true:=by
       cases hb:Zg (pk r).1 with
       | true=>rfl
       | false=>exact absurd ⟨hs0,g2,hb,by simpa using g3⟩ g0
      cases h
      simp only [Sn] at *
      have h46:¬(pk r).1=46:=fun g=>by rw [g] at h4;revert h4;decide
      have e46:Y7 r=(pk r).2+ZI r.length (r.drop (pk r).2):=Vv h46 (.inl h4)
      have hpk:pk (r.take (Y7 r))=pk r:=Zba (Zax (.inl h4)) (by omega)
      rw [ZU,hs,hpk,Te (fun g=>by rw [h4] at g;simp at g),Te (by simp),Te (by omega),Te g2,Te g3,Zkw,List.take_take]
      simp
end Go.PM.Lex
end

section
namespace Go.PM.Lex
abbrev ws:Bs:=[32,9,13,10]
end Go.PM.Lex
end

section
namespace Go.PM.Lex
theorem Zum {len len' b0 b1 b2 b3 b1' b2' b3':Nat} (hl:len≤len') (h1:1<len→b1'=b1) (h2:2<len→b2'=b2) (h3:3<len→b3'=b3) (hv:Lib.decodeN len b0 b1 b2 b3≠(65533,1)) :
  Lib.decodeN len' b0 b1' b2' b3'=Lib.decodeN len b0 b1 b2 b3:=by
 rcases Lib.decodeN_shape len b0 b1 b2 b3 with ⟨c,e⟩ | ⟨c1,c2,c3,cv,e⟩ | ⟨c1,c2,c3,c4,cv,cs,e⟩ | ⟨c1,c2,c3,c4,c5,cv,cw,e⟩ | e
 ·rw [e];unfold Lib.decodeN;rw [Ti c]
 ·rw [e,h1 (by omega)]
  unfold Lib.decodeN
  rw [Te (by omega),Ti ⟨c1,by omega,c3⟩,Ti (by omega)]
 ·rw [e,h1 (by omega),h2 (by omega)]
  exact m126
 ·rw [e,h1 (by omega),h2 (by omega),h3 (by omega)]
  exact m111
 ·exact absurd e hv
theorem Zb9 (x y:Bs) (k:Nat) (h:k<x.length):(x++y).getD k 0=x.getD k 0:=by
 simp only [T2];rw [TG h]
theorem Zmw {x y:Bs} (hx:x≠[]) (hv:Lib.decodeL x≠(65533,1)):Lib.decodeL (x++y)=Lib.decodeL x:=by
 have hpos:=T5.2 hx
 rw [Lib.decodeL_N] at hv ⊢
 rw [Lib.decodeL_N,Zb9 x y 0 hpos]
 exact Zum (by rw [Ta];omega) (fun h=>by rw [Zb9 x y 1 h]) (fun h=>by rw [Zb9 x y 2 h]) (fun h=>by rw [Zb9 x y 3 h]) hv
end Go.PM.Lex
end

section
namespace Go.PM.Lex
def Zfi (c:Nat):Option UInt8:=if c=10 then some 110 else if c=9 then some 116 else if c=34 then some 34 else if c=92 then some 92 else none
def WS:Nat→Bs→Bs→Option Bs
 | 0,_,_=>none
 | f+1,r,out=>if r=[] then some out else match Zfi (Lib.decodeL r).1 with
  | some b=>WS f (r.drop (Lib.decodeL r).2) (out++[92,b])
  | none=>if (Lib.decodeL r).1<32 then none else WS f (r.drop (Lib.decodeL r).2) (out++Lib.encodeRune (Lib.decodeL r).1)
def VC (s:Bs):Option Bs:=if Lib.validD s=true then (WS (s.length+1) s [34]).map (·++[34]) else none
theorem ZqW (b:UInt8) (z:Bs) (h:b.toNat<128):Lib.decodeL (b::z)=(b.toNat,1):=by
 rw [Lib.decodeL_N];unfold Lib.decodeN;rw [Ti (by simpa using h)];simp
end Go.PM.Lex
end

section
namespace Go.PM.Lex
open Go.Proofs
variable {w0:World} {nG:Nat}
end Go.PM.Lex
end

section
namespace Go.PM.Lex
open Go.Proofs
variable {w0:World} {nG:Nat}
end Go.PM.Lex
end

section
namespace Go.PM.Lex
open Go.Proofs
variable {w0:World} {nG:Nat}
noncomputable def Zdf:Zu:=fun args σ K=>match args with
 | [.d (.str s)]=>s.length≤9223372036854775807∧K (.ret (.d (.bool (Lib.validD s)))) σ
 | _=>False
theorem ZgO:Zc Zdf:=fun args σ K K' hK h=>by
 unfold Zdf at h ⊢;split at h <;> first | exact ⟨h.1,hK _ _ h.2⟩ | exact h.elim
theorem Zog (h1:1<nG) (hT:Lib.Utf8Tabs 0 1 w0):PCalls (GG w0 nG) 149 Zdf:=Yu (Zj Tryz.func149 (by kernel_rfl) rfl) fun args σ K h e w vs hS ha=>by
 unfold Zdf at h
 split at h
 ·rename_i s
  obtain ⟨u,rfl,hu⟩:=Zgd ha
  cases hu.dstr
  have hT':Lib.Utf8Tabs 0 1 w:=by
   have g0:=hS.glob 0 (show 0<nG by omega)
   have g1:=hS.glob 1 h1
   obtain ⟨a,b⟩:=hT
   refine ⟨fun c hc=>?_,fun i hi=>?_⟩
   ·have:=a c hc
    simpa [World.cell?,g0] using this
   ·have:=b i hi
    simpa [World.cell?,g1] using this
  exact ⟨_,h.2,_,fun _ _=>.mkbool,(Any.utf8_ValidString Tryz.laysValid ⟨s.toArray⟩ w (show s.toArray.size≤_ by simpa using h.1) hT').mono fun en w' ⟨h1,h2⟩=>⟨h1,Zyx h2⟩⟩
 ·exact h.elim
end Go.PM.Lex
end

section
namespace Go.PM.Lex
open Go.Proofs
variable {w0:World} {nG:Nat}
theorem Zoh {n:Nat} (h:Zfi n=none):ZcI [10,9,34,92] n=-1:=by
 unfold Zfi at h
 split at h;· cases h
 split at h;· cases h
 split at h;· cases h
 split at h;· cases h
 rename_i h1 h2 h3 h4
 unfold ZcI
 split
 ·rename_i h5
  have hc:([10,9,34,92]:Bs).contains ((n:Int).toNat.toUInt8)=false:=by
   have b1:=UA (n:=n) (k:=10) (by omega) (by omega) h1
   have b2:=UA (n:=n) (k:=9) (by omega) (by omega) h2
   exact m85
  rw [Lib.contains_iff_indexByte,decide_eq_false_iff_not] at hc
  have:=Lib.indexByte_ge [10,9,34,92] ((n:Int).toNat.toUInt8)
  omega
 ·rfl
theorem Zoi {n:Nat} {b:UInt8} (h:Zfi n=some b):(ZcI [10,9,34,92] n=0∧b=110)∨(ZcI [10,9,34,92] n=1∧b=116)∨(ZcI [10,9,34,92] n=2∧b=34)∨(ZcI [10,9,34,92] n=3∧b=92):=by
 unfold Zfi at h
 exact m56
noncomputable def JR:Zu:=fun args σ K=>match args,σ with
 | [.d (.str s)],⟨[],[],0⟩=>s.length<4294967281∧(VC s=none→K (.ret (.tuple [.d (.str []),.d (.bool false)])) ⟨[],[],0⟩)∧(∀q,VC s=some q→K (.ret (.tuple [.d (.str q),.d (.bool true)])) ⟨[],[],0⟩)
 | _,_=>False
theorem W6:Zc JR:=fun args σ K K' hK h=>by
 unfold JR at h ⊢
 split at h
 ·exact ⟨h.1,fun g=>hK _ _ (h.2.1 g),fun q g=>hK _ _ (h.2.2 q g)⟩
 ·exact h.elim
def Zye (B:Nat):List PV→St→Nat:=fun _ σ=>match σ.bx with | [_,.iter _ p]=>B - p | _=>0
noncomputable def Zoj:Tbl:=[(149,Zdf),(150,XM),(151,Xg),(152,XN),(31,UX)]
theorem Zok (ht:TblOK (GG w0 nG) Zoj):PCalls (GG w0 nG) 73 JR:=by
 refine pc ht Tryz.func73 ?_
 intro args σ K h
 unfold JR at h
 split at h
 ·rename_i s
  obtain ⟨hs,hbad,hgood⟩:=h
  refine ⟨Zb [(6,⟨[],[4,13],fun vs σ=>vs=[]∧∃(out:Bs) (i f:Nat),σ=⟨[.cells 82 [.ptr 0 0,.sl 0 5 (Zi out)],.iter s i],[0],1⟩∧(i≤s.length∧s.length<i+f∧out.length≤4 * i+1)∧WS f (s.drop i) out=WS (s.length+1) s [34],Zye s.length⟩)],0,false,by simp,Tb rfl,?_⟩
  conv=>whnf
  refine ⟨by omega,?_⟩
  conv=>whnf
  refine Zyu (fun h1=>?_) (fun h1=>?_)
  ·have hv:Lib.validD s=false:=by simpa using h1
   conv=>whnf
   exact hbad (by unfold VC;rw [Te (by rw [hv];simp)])
  ·have hv:Lib.validD s=true:=by simpa using h1
   have hq:VC s=(WS (s.length+1) s [34]).map (·++[34]):=by unfold VC;rw [Ti hv]
   conv=>whnf
   refine ⟨⟨.inl rfl,rfl,rfl,by simp,by simp⟩,?_⟩
   conv=>whnf
   refine ⟨⟨rfl,[34],0,s.length+1,rfl,⟨by omega,by omega,by simp⟩,by rw [List.drop_zero]⟩,?_⟩
   intro vs σ1 hI
   obtain ⟨rfl,out,i,f,rfl,⟨hi1,hi2,hol⟩,hgo⟩:=hI
   obtain ⟨f,rfl⟩:∃g,f=g+1:=⟨f - 1,by omega⟩
   have hb1:=Zeo out
   have hbl:=Zep out
   have hdec:=Zei s i
   have hdr:=JF (s.drop i)
   have hdl:=Lib.decodeL_le (s.drop i)
   rw [Tt] at hdl
   conv=>whnf
   refine Zyq (fun h2=>?_) (fun h2=>?_)
   ·have hne:s.drop i≠[]:=fun g=>by have:=congrArg List.length g;rw [Tt] at this;simp at this;omega
    have g3:i+(decodeL s i).2≤s.length:=by rw [hdec];have:=hdl hne;omega
    have hdr':1≤(decodeL s i).2:=by rw [hdec];omega
    conv=>whnf
    refine ⟨⟨.inr rfl,by omega,by rw [hdec];omega⟩,?_⟩
    conv=>whnf
    generalize hk:ZcI _ _=k
    have hk':ZcI [10,9,34,92] ((Lib.decodeL (s.drop i)).1:Int)=k:=by rw [← hdec];exact hk
    cases hE:Zfi (Lib.decodeL (s.drop i)).1 with
    | some b =>
     have g1:WS f (s.drop (i+(decodeL s i).2)) (out++[92,b])=WS (s.length+1) s [34]:=by rw [← hgo,hdec];simp [WS,hne,hE,TL]
     rcases Zoi hE with ⟨e1,rfl⟩ | ⟨e1,rfl⟩ | ⟨e1,rfl⟩ | ⟨e1,rfl⟩
     all_goals (rw [e1] at hk';subst hk')
     all_goals (conv=>whnf)
     all_goals (refine ⟨⟨.inr rfl,rfl,rfl,hb1,by omega⟩,?_⟩)
     all_goals (conv=>whnf)
     all_goals (refine ⟨by omega,by first | omega | (simp;done) | (simp;omega),?_⟩)
     all_goals (conv=>whnf)
     all_goals (refine ⟨⟨.inr rfl,rfl,rfl,fun r hr=>by (rcases TU.1 hr with hr | hr;exact hb1 r hr;simp at hr;subst hr;rfl),by rw [Ta];simp;omega⟩,?_⟩)
     all_goals (conv=>whnf)
     all_goals (refine ⟨⟨rfl,_,_,f,?_,⟨g3,by omega,?_⟩,g1⟩,?_⟩)
     all_goals (first | (rw [Vw,Tk];rfl) | (rw [Ta];simp;omega) | exact (show s.length - (i+(decodeL s i).2)<s.length - i by omega))
    | none =>
     rw [Zoh hE] at hk'
     subst hk'
     conv=>whnf
     refine Zyq (fun h5=>?_) (fun h5=>?_)
     ·have h5':(Lib.decodeL (s.drop i)).1<32:=by rw [hdec] at h5;omega
      conv=>whnf
      refine hbad ?_
      rw [hq,← hgo]
      simp [WS,hne,hE,h5']
     ·have h5':¬(Lib.decodeL (s.drop i)).1<32:=by rw [hdec] at h5;omega
      have g1:WS f (s.drop (i+(decodeL s i).2)) (out++Lib.encodeRune ((decodeL s i).1:Int))=WS (s.length+1) s [34]:=by rw [← hgo,hdec];simp [WS,hne,hE,h5',TL]
      have hen:=ZhQ ((decodeL s i).1:Int)
      conv=>whnf
      refine ⟨⟨.inr rfl,rfl,rfl,hb1,by omega,by omega,by rw [hdec];omega⟩,?_⟩
      conv=>whnf
      refine ⟨⟨rfl,_,_,f,?_,⟨g3,by omega,?_⟩,g1⟩,?_⟩
      ·rw [Vw];rfl
      ·rw [Ta];omega
      ·exact (show s.length - (i+(decodeL s i).2)<s.length - i by omega)
   ·have hnil:s.drop i=[]:=TP (by omega)
    have g1:WS (s.length+1) s [34]=some out:=by rw [← hgo];simp [WS,hnil]
    conv=>whnf
    refine ⟨⟨.inr rfl,rfl,rfl,hb1,by omega⟩,?_⟩
    conv=>whnf
    refine ⟨out++[34],⟨by rw [JG];rfl,rfl,rfl,.inr rfl,by rw [Ta];simp;omega⟩,?_⟩
    conv=>whnf
    exact hgood _ (by rw [hq,g1];rfl)
 ·exact h.elim
end Go.PM.Lex
end

section
namespace Go.PM.Lex
open Go.Proofs
variable {w0:World} {nG:Nat}
end Go.PM.Lex
end

section
namespace Go.PM.Lex
open Go.Proofs
variable {w0:World} {nG:Nat}
def Zif (s:Bs):Bool:=Zg (pk s).1 && decide (Y7 s=s.length)
noncomputable def Zbb:Zu:=fun args σ K=>match args,σ with
 | [.d (.str s)],⟨[],[],0⟩=>s.length<4294967281∧K (.ret (.d (.bool (Zif s)))) ⟨[],[],0⟩
 | _,_=>False
theorem ZgP:Zc Zbb:=fun args σ K K' hK h=>by
 unfold Zbb at h ⊢;split at h <;> first | exact ⟨h.1,hK _ _ h.2⟩ | exact h.elim
noncomputable def Zw2:Tbl:=[(209,Jg),(210,W3),(211,ZcG)]
theorem Zw3 (ht:TblOK (GG w0 nG) Zw2):PCalls (GG w0 nG) 147 Zbb:=by
 refine pc ht Tryz.func147 ?_
 intro args σ K h
 unfold Zbb at h
 split at h
 ·rename_i s
  obtain ⟨hs,h⟩:=h
  refine ⟨Zb [],0,false,by decide,Tb rfl,?_⟩
  have hpr:=W5 (s.drop (Int.toNat 0))
  have hd:s.drop (Int.toNat 0)=s:=List.drop_zero
  conv=>whnf
  refine ⟨⟨by omega,by omega⟩,?_⟩
  conv=>whnf
  refine ⟨⟨hpr.1,by omega⟩,?_⟩
  conv=>whnf
  refine Zyu (fun h1=>?_) (fun h1=>?_)
  ·have h1':Zg (pk s).1=true:=by rw [← hd];exact h1
   conv=>whnf
   refine ⟨⟨by omega,by omega,hs⟩,?_⟩
   conv=>whnf
   refine ZiM h ?_
   rw [Zif,h1',TJ,decide_eq_decide,hd]
   omega
  ·have h1':Zg (pk s).1=false:=by rw [← hd];exact h1
   conv=>whnf
   rw [Zif,h1'] at h
   exact h
 ·exact h.elim
end Go.PM.Lex
end

section
namespace Go.PM.Lex
def YP (s:Bs):Bool:=Zif s && (!decide (s=[95]) && !Zgr s)
def Zv (op:Nat):Nat:=if op=16 then 0 else if op=17 then 0 else if op=15 then 1 else if op=18 then 2 else if op=19 then 2 else if op=10 then 3 else if op=11 then 3 else if op=12 then 4 else if op=13 then 4 else if op=14 then 4
 else if op=8 then 5 else if op=9 then 5 else if op=20 then 6 else if op=21 then 6 else if op=22 then 6 else if op=23 then 6 else if op=24 then 6 else if op=25 then 6 else if op=6∨op=7 then 6 else if op=1∨op=2∨op=3∨op=4∨op=5 then 6 else 0
def Wj (op:Nat):Bs:=if op=16 then [98,111,114] else if op=17 then [98,120,111,114] else if op=15 then [98,97,110,100] else if op=18 then [115,104,108] else if op=19 then [115,104,114] else if op=10 then [43] else if op=11 then [45] else if op=12 then [42] else if op=13 then [47] else if op=14 then [37]
 else if op=8 then [45] else if op=9 then [126] else if op=20 then [99,97,116] else if op=21 then [115,116,114,108,101,110] else if op=22 then [115,117,98,115,116,114] else if op=23 then [99,111,100,101] else if op=24 then [115,116,114] else if op=25 then [110,117,109] else []
def Wo (op:Nat):Int:=if op=16 then 2 else if op=17 then 2 else if op=15 then 2 else if op=18 then 2 else if op=19 then 2 else if op=10 then 2 else if op=11 then 2 else if op=12 then 2 else if op=13 then 2 else if op=14 then 2
 else if op=8 then 1 else if op=9 then 1 else if op=20 then 2 else if op=21 then 1 else if op=22 then 3 else if op=23 then 1 else if op=24 then 1 else if op=25 then 1 else if op=6∨op=7 then -1 else if op=1∨op=2∨op=3∨op=4∨op=5 then 0 else -2
def X9 (op:Nat) (text:Bs):Bool:=if op=1∨op=7 then YP text else if op=4 then (VC text).isSome else decide (text=[])
mutual
def ZO:Ex→Bool
 | .mk op text n args _=>decide (-2<Wo op) && ((decide (Wo op<0) || decide ((args.length:Int)=Wo op)) && ((decide (n=0) || decide (op=3)) && (X9 op text && Zfj args)))
def Zfj:List Ex→Bool
 | []=>true
 | e::l=>ZO e && Zfj l
end
theorem Zn (l:List Ex):Zfj l=l.all ZO:=by induction l with | nil=>rfl | cons x l ih=>simp [Zfj,ih]
def Y3 (op:Nat) (rel:Bs) (args body:Nat):Bool :=
 if op=1∨op=2 then YP rel && !decide (0<body)
 else if 3≤op∧op≤8 then decide (rel=[]) && (decide (args=2) && !decide (0<body))
 else if op=9 then decide (rel=[]) && (decide (args=1) && decide (0<body))
 else if 9<op∧op≤12 then decide (rel=[]) && (decide (args=2) && decide (0<body)) else false
mutual
def YI:Li→Bool
 | .mk op rel args body _=>Y3 op rel args.length body.length && (Zfj args && ZgQ body)
def ZgQ:List Li→Bool
 | []=>true
 | e::l=>YI e && ZgQ l
end
theorem Wp (l:List Li):ZgQ l=l.all YI:=by induction l with | nil=>rfl | cons x l ih=>simp [ZgQ,ih]
def Yq (r:Ru):Bool:=YP r.head && (r.args.all ZO && r.body.all YI)
def YG (f:Fi):Bool:=YP f.name && YP f.typ
def Xr (c:Ca):Bool:=YP c.name && c.fields.all YG
def Zay (t:Ty):Bool:=if t.kind=1 then YP t.base && (decide (t.fields.length=0) && decide (t.cases.length=0)) else if t.kind=2 then decide (t.base=[]) && decide (t.cases.length=0)
 else if t.kind=3 then decide (t.base=[]) && (decide (t.fields.length=0) && !decide (t.cases.length=0)) else false
def Z0 (t:Ty):Bool:=Zay t && (YP t.name && (t.fields.all YG && t.cases.all Xr))
def XQ (d:Re):Bool:=YP d.name && d.fields.all YG
def Wa (i:Ini):Bool:=YP i.name && (YP i.comp && i.types.all YP)
def WK (o:Ov):Bool:=YP o.rel
mutual
def ZbL:Un→Bool
 | .mk tys rels rules comps inits overs=>tys.all Z0 && (rels.all XQ && (rules.all Yq && (ZbM comps && (inits.all Wa && overs.all WK))))
def ZP:Co→Bool
 | .mk nm ps base tys u _=>YP nm && (ps.all YP && (tys.all YP && (((decide (base=[]) && decide (tys.length=0)) || YP base) && ZbL u)))
def ZbM:List Co→Bool
 | []=>true
 | c::l=>ZP c && ZbM l
end
theorem Wb (l:List Co):ZbM l=l.all ZP:=by induction l with | nil=>rfl | cons x l ih=>simp [ZbM,ih]
def Zhf (d:Nat):UInt8:=if d<10 then UInt8.ofNat (48+d) else UInt8.ofNat (87+d)
def JS (base:Nat):Nat→Nat→Bs
 | 0,_=>[]
 | f+1,n=>if n<base then [Zhf n] else JS base f (n / base)++[Zhf (n % base)]
def VD (base n:Nat):Bs:=JS base (n+1) n
def Zdz (n:Int):Bs:=if n<0 then [48,120]++VD 16 (n+18446744073709551616).toNat else VD 10 n.toNat
def Zpm (s:Bs):Bs:=(VC s).getD []
def Zf (sep:Bs):List Bs→Bs
 | []=>[]
 | [x]=>x
 | x::l=>x++(sep++Zf sep l)
def cmm:Bs:=[44,32]
def opE:Ex→Nat | .mk op _ _ _ _=>op
def Zmx (want:Nat) (p:Nat×Bs):Bs:=if p.1<want then [40]++(p.2++[41]) else p.2
def exA (w1 w2:Nat) (sep:Bs):List (Nat×Bs)→Bs
 | []=>[]
 | [a]=>Zmx w1 a
 | a::b::_=>Zmx w1 a++(sep++Zmx w2 b)
def exN (op:Nat) (text:Bs) (n:Int) (ps:List (Nat×Bs)):Bs :=
 if Zv op<5 then exA (Zv op) (Zv op+1) ([32]++(Wj op++[32])) ps
 else if Zv op=5 then Wj op++exA 5 5 [] ps
 else if Wj op≠[] then Wj op++([40]++(Zf cmm (ps.map Prod.snd)++[41]))
 else if op=6 then [91]++(Zf cmm (ps.map Prod.snd)++[93])
 else if op=7 then [36]++(text++(if ps.length=0 then [] else [40]++(Zf cmm (ps.map Prod.snd)++[41])))
 else if op=3 then Zdz n
 else if op=4 then Zpm text
 else if op=5 then [110,105,108]
 else if op=2 then [95]
 else text
mutual
def exT:Ex→Bs
 | .mk op text n args _=>exN op text n (ZfM args)
def ZfM:List Ex→List (Nat×Bs)
 | []=>[]
 | e::l=>(Zv (opE e),exT e)::ZfM l
end
theorem Zmy (l:List Ex):ZfM l=l.map fun e=>(Zv (opE e),exT e):=by induction l with | nil=>rfl | cons x l ih=>simp [ZfM,ih]
theorem Zca (l:List Ex):(ZfM l).length=l.length:=by rw [Zmy,Tf]
def exW (want:Nat) (e:Ex):Bs:=Zmx want (Zv (opE e),exT e)
def Zpn (l:List Ex):List Bs:=l.map exT
theorem UZ (l:List Ex):(ZfM l).map Prod.snd=Zpn l:=by rw [Zmy,TD];rfl
def XH (fr fin:Bs) (l:List Ex):Bs:=fr++(Zf cmm (Zpn l)++fin)
def Zmz (op:Nat):Bs:=if op=3 then [32,61,32] else if op=4 then [32,33,61,32] else if op=5 then [32,60,32] else if op=6 then [32,60,61,32] else if op=7 then [32,62,32] else [32,62,61,32]
def Zfk (op:Nat):Bs:=if op=9 then [99,111,117,110,116] else if op=10 then [115,117,109] else if op=11 then [109,105,110] else [109,97,120]
def Zje (l:List Ex):Bs:=(l.map fun e=>[32]++exT e).flatten
def ZgR:List Ex→Bs
 | []=>[]
 | e::_=>exT e
mutual
def liT:Li→Bs
 | .mk op rel args body _ =>
  if op=2 then [33]++(rel++XH [40] [41] args)
  else if op=1 then rel++XH [40] [41] args
  else if op≤8 then ZgR args++(Zmz op++ZgR args.tail)
  else ZgR args++([32,61,32]++(Zfk op++(Zje args.tail++([32,58,32,123,32]++(Zf cmm (ZfN body)++[32,125])))))
def ZfN:List Li→List Bs
 | []=>[]
 | e::l=>liT e::ZfN l
end
theorem Zdg (l:List Li):ZfN l=l.map liT:=by induction l with | nil=>rfl | cons x l ih=>simp [ZfN,ih]
def ruT (r:Ru):Bs:=r.head++(XH [40] [41] r.args++((if 0<r.body.length then [32,58,45,32]++Zf cmm (ZfN r.body) else [])++[46]))
def fiT (f:Fi):Bs:=f.name++([58,32]++f.typ)
def Vc (fr:Bs) (l:List Fi) (fin:Bs):Bs:=fr++(Zf cmm (l.map fiT)++fin)
def Jm (l:List Bs):Bs:=if l.length=0 then [] else [60]++(Zf cmm l++[62])
def caT (c:Ca):Bs:=Vc (c.name++[32,123]) c.fields [125]
def tyT (t:Ty):Bs:=[116,121,112,101,32]++(t.name++((if t.kind=1 then [32,60,58,32]++t.base else if t.kind=2 then Vc [32,61,32,91] t.fields [93] else [32,61,32]++Zf [32,124,32] (t.cases.map caT))++[10]))
def reT (d:Re):Bs:=Vc ([100,101,99,108,32]++(d.name++[40])) d.fields [41]++((if d.inn then [32,105,110,112,117,116] else [])++((if d.out then [32,111,117,116,112,117,116] else [])++((if d.inl then [32,105,110,108,105,110,101] else [])++[10])))
def inT (i:Ini):Bs:=[105,110,105,116,32]++(i.name++([32,61,32]++(i.comp++(Jm i.types++[10]))))
def ovT (o:Ov):Bs:=[111,118,101,114,114,105,100,101,32]++(o.rel++[10])
mutual
def unT:Un→Bs
 | .mk tys rels rules comps inits overs=>(tys.map tyT).flatten++((rels.map reT).flatten++((Zjf comps).flatten++((inits.map inT).flatten++((overs.map ovT).flatten++(rules.map fun r=>ruT r++[10]).flatten))))
def coT:Co→Bs
 | .mk nm ps base tys u _=>[99,111,109,112,32]++(nm++(Jm ps++((if base=[] then [] else [32,58,32]++(base++Jm tys))++([32,123,10]++(unT u++[125,10])))))
def Zjf:List Co→List Bs
 | []=>[]
 | c::l=>coT c::Zjf l
end
theorem ZqX (l:List Co):Zjf l=l.map coT:=by induction l with | nil=>rfl | cons x l ih=>simp [Zjf,ih]
end Go.PM.Lex
end

section
namespace Go.PM.Lex
open Go.Proofs
variable {w0:World} {nG:Nat}
mutual
def wE:Ex→Nat
 | .mk _ t _ args _=>1+t.length+wEs args
def wEs:List Ex→Nat
 | []=>0
 | x::l=>1+wE x+wEs l
end
theorem Zjg:∀(l:List Ex),wEs l=szS wE l
 | []=>by rw [wEs,szS]
 | x::l=>by rw [wEs,szS,Zjg l]
mutual
def wL:Li→Nat
 | .mk _ r a b _=>1+r.length+szS wE a+wLs b
def wLs:List Li→Nat
 | []=>0
 | x::l=>1+wL x+wLs l
end
theorem ZgS:∀(l:List Li),wLs l=szS wL l
 | []=>by rw [wLs,szS]
 | x::l=>by rw [wLs,szS,ZgS l]
def wRu (r:Ru):Nat:=1+r.head.length+szS wE r.args+szS wL r.body
def wFi (f:Fi):Nat:=1+f.name.length+f.typ.length
def wCa (c:Ca):Nat:=1+c.name.length+szS wFi c.fields
def wTy (t:Ty):Nat:=1+t.name.length+t.base.length+szS wFi t.fields+szS wCa t.cases
def wRe (d:Re):Nat:=1+d.name.length+szS wFi d.fields
def wBs (s:Bs):Nat:=1+s.length
def wIn (i:Ini):Nat:=1+i.name.length+i.comp.length+szS wBs i.types
def wOv (o:Ov):Nat:=1+o.rel.length
mutual
def wUn:Un→Nat
 | .mk a1 a2 a3 a4 a5 a6=>1+szS wTy a1+szS wRe a2+szS wRu a3+ZmA a4+szS wIn a5+szS wOv a6
def wCo:Co→Nat
 | .mk n p b t u _=>1+n.length+szS wBs p+b.length+szS wBs t+wUn u
def ZmA:List Co→Nat
 | []=>0
 | x::l=>1+wCo x+ZmA l
end
theorem Zfl:∀(l:List Co),ZmA l=szS wCo l
 | []=>by rw [ZmA,szS]
 | x::l=>by rw [ZmA,szS,Zfl l]
abbrev YH {α:Type} (enc:Pl→α→List D):Pl→α→PV:=fun pl x=>.agg ((enc pl x).map .d)
abbrev Zhg:Pl→Bs→PV:=fun _ s=>.d (.str s)
noncomputable def YQ {α:Type} (val:Pl→α→PV) (p:α→Bool) (w:α→Nat) (n:Nat):Zu:=fun args σ K=>match args,σ with
 | [v],⟨[],[],0⟩=>∃pl x,v=val pl x∧(w x≤n∧n≤1073741824)∧∀b,p x=b→K (.ret (.d (.bool b))) ⟨[],[],0⟩
 | _,_=>False
theorem Zq {α:Type} (val:Pl→α→PV) (p:α→Bool) (w:α→Nat) (n:Nat):Zc (YQ val p w n):=fun args σ K K' hK h=>by
 unfold YQ at h ⊢
 exact m50
noncomputable def UI {α:Type} (h0:FuncId) (val:Pl→α→PV) (p:α→Bool) (w:α→Nat) (n:Nat):Zu:=fun args σ K=>match args,σ with
 | [v,.ptr 0 0],⟨[.cells t [.func h' [] []]],[],0⟩=>∃pl x,v=val pl x∧(h'=h0∧w x≤n∧n≤1073741824)∧∀b,(!p x)=b→K (.ret (.d (.bool b))) ⟨[.cells t [.func h' [] []]],[],0⟩
 | _,_=>False
theorem YR {α:Type} (h0:FuncId) (val:Pl→α→PV) (p:α→Bool) (w:α→Nat) (n:Nat):Zc (UI h0 val p w n):=fun args σ K K' hK h=>by
 unfold UI at h ⊢
 exact m50
noncomputable def UJ {α:Type} (g0 h0:FuncId) (enc:Pl→α→List D) (p:α→Bool) (w:α→Nat) (n:Nat):Zu:=fun args σ K=>match args,σ with
 | [.d (.sl r),.func g' [] [.ptr 0 0]],⟨[.cells t [.func h' [] []]],[],0⟩=>∃pl l,r=l.map (enc pl)∧(g'=g0∧h'=h0∧szS w l≤n∧n≤1073741824)∧∀r:Int,(r<0↔l.all p=true)→K (.ret (.d (.int .i64 r))) ⟨[.cells t [.func h' [] []]],[],0⟩
 | _,_=>False
theorem YS {α:Type} (g0 h0:FuncId) (enc:Pl→α→List D) (p:α→Bool) (w:α→Nat) (n:Nat):Zc (UJ g0 h0 enc p w n):=fun args σ K K' hK h=>by
 unfold UJ at h ⊢
 exact m50
noncomputable def UK {α:Type} (g0 h0:FuncId) (enc:Pl→α→List D) (p:α→Bool) (w:α→Nat) (n:Nat):Zu:=fun args σ K=>match args,σ with
 | [.d (.sl r),.func g' [] [.ptr 0 0]],⟨[.cells t [.func h' [] []]],[],0⟩=>∃pl l,r=l.map (enc pl)∧(g'=g0∧h'=h0∧szS w l≤n∧n≤1073741824)∧∀b,(!l.all p)=b→K (.ret (.d (.bool b))) ⟨[.cells t [.func h' [] []]],[],0⟩
 | _,_=>False
theorem YT {α:Type} (g0 h0:FuncId) (enc:Pl→α→List D) (p:α→Bool) (w:α→Nat) (n:Nat):Zc (UK g0 h0 enc p w n):=fun args σ K K' hK h=>by
 unfold UK at h ⊢
 exact m50
noncomputable def XI {α:Type} (h0:FuncId) (enc:Pl→α→List D) (p:α→Bool) (w:α→Nat) (n:Nat):Zu:=fun args σ K=>match args,σ with
 | [.d (.sl r),.func h' [] []],⟨[],[],0⟩=>∃pl l,r=l.map (enc pl)∧(h'=h0∧szS w l≤n∧n≤1073741824)∧∀b,l.all p=b→K (.ret (.d (.bool b))) ⟨[],[],0⟩
 | _,_=>False
theorem Zs {α:Type} (h0:FuncId) (enc:Pl→α→List D) (p:α→Bool) (w:α→Nat) (n:Nat):Zc (XI h0 enc p w n):=fun args σ K K' hK h=>by
 unfold XI at h ⊢
 exact m50
theorem XB {α:Type} (p:α→Bool) {l:List α} {i:Nat} (h:i<l.length):(l.drop i).all p=(p l[i] && (l.drop (i+1)).all p):=by rw [Sq h,List.all_cons]
theorem WM {α:Type} (p:α→Bool) {l:List α} {i:Nat} (h:l.length≤i):(l.drop i).all p=true:=by rw [TP h];rfl
noncomputable def Zun (n:Nat):Tbl:=[(29,YQ (YH YU) ZO wE n)]
theorem Zuo {n:Nat} (ht:TblOK (GG w0 nG) (Zun n)):PCalls (GG w0 nG) 154 (UI 29 (YH YU) ZO wE n):=by
 refine pc ht Tryz.func154 ?_
 exact m60
noncomputable def Zup (n:Nat):Tbl:=[(154,UI 29 (YH YU) ZO wE n)]
theorem Zuq {n:Nat} (ht:TblOK (GG w0 nG) (Zup n)):PCalls (GG w0 nG) 220 (UJ 154 29 YU ZO wE n):=by
 refine pc ht Tryz.func220 ?_
 intro args σ K h
 unfold UJ at h
 split at h
 ·obtain ⟨pl,l,rfl,⟨rfl,rfl,hz,hn⟩,h⟩:=h
  rename_i t
  have hlen:(l.map (YU pl)).length=l.length:=Tf ..
  have hsz:=ZW wE l
  refine ⟨Zb [(2,⟨[8],[0,1,7],fun vs σ=>∃i:Nat,vs=[.d (.int .i64 i)]∧σ=⟨[.cells t [.func 29 [] []]],[],0⟩∧i≤l.length∧l.all ZO=(l.drop i).all ZO,fun vs _=>match vs with | [.d (.int _ i)]=>((l.length:Int) - i).toNat | _=>0⟩)],1,false,by simp,Tb rfl,?_⟩
  conv=>whnf
  refine ⟨⟨0,rfl,rfl,by omega,rfl⟩,?_⟩
  intro vs σ hI
  obtain ⟨i,rfl,rfl,hi,hs⟩:=hI
  conv=>whnf
  refine Zyq (fun hi2=>?_) (fun hi2=>?_)
  ·have hi2:i<l.length:=by have hi2:(i:Int)<(l.map (YU pl)).length:=hi2;rw [hlen] at hi2;omega
   have hg:=Z1 wE l i hi2
   rw [XB _ hi2] at hs
   obtain ⟨eA,hA⟩:∃e,l[i]=e:=⟨_,rfl⟩
   obtain ⟨a1,a2,a3,a4,a5⟩:=eA
   have hr1:(l.map (YU pl))[((i:Nat):Int).toNat]?=some (YU pl (.mk a1 a2 a3 a4 a5)):=by simp [hi2,hA]
   rw [hA] at hs hg
   conv=>whnf
   refine ⟨_,by omega,hr1,?_⟩
   conv=>whnf
   refine ⟨pl,(.mk a1 a2 a3 a4 a5),rfl,⟨rfl,by omega,by omega⟩,fun b hb=>?_⟩
   cases b with
   | true =>
    have hp:ZO (.mk a1 a2 a3 a4 a5)=false:=by simpa using hb
    exact m37
   | false =>
    have hp:ZO (.mk a1 a2 a3 a4 a5)=true:=by simpa using hb
    exact m12
  ·have hi2:l.length≤i:=by have hi2:¬(i:Int)<(l.map (YU pl)).length:=hi2;rw [hlen] at hi2;omega
   exact m41
 ·exact h.elim
noncomputable def Zur (n:Nat):Tbl:=[(220,UJ 154 29 YU ZO wE n)]
theorem Zus {n:Nat} (ht:TblOK (GG w0 nG) (Zur n)):PCalls (GG w0 nG) 153 (UK 154 29 YU ZO wE n):=by
 refine pc ht Tryz.func153 ?_
 intro args σ K h
 unfold UK at h
 split at h
 ·obtain ⟨pl,l,rfl,⟨rfl,rfl,hz,hn⟩,h⟩:=h
  refine ⟨Zb [],1,false,by simp,Tb rfl,?_⟩
  conv=>whnf
  refine ⟨pl,l,rfl,⟨rfl,rfl,hz,hn⟩,fun r hr=>?_⟩
  conv=>whnf
  refine h _ ?_
  cases hb:l.all ZO with
  | true=>rw [hb] at hr;have:=hr.2 rfl;simp;omega
  | false=>rw [hb] at hr;have:¬r<0:=fun g=>(by have:=hr.1 g;cases this);simp;omega
 ·exact h.elim
noncomputable def Zut (n:Nat):Tbl:=[(153,UK 154 29 YU ZO wE n)]
theorem Zuu {n:Nat} (ht:TblOK (GG w0 nG) (Zut n)):PCalls (GG w0 nG) 74 (XI 29 YU ZO wE n):=by
 refine pc ht Tryz.func74 ?_
 exact m7
theorem Zwu {n:Nat} (h:PCalls (GG w0 nG) 29 (YQ (YH YU) ZO wE n)):PCalls (GG w0 nG) 74 (XI 29 YU ZO wE n) :=
 Zuu ⟨⟨Zus ⟨⟨Zuq ⟨⟨Zuo ⟨⟨h,Zq _ _ _ _⟩,trivial⟩,YR _ _ _ _ _⟩,trivial⟩,YS _ _ _ _ _ _⟩,trivial⟩,YT _ _ _ _ _ _⟩,trivial⟩
noncomputable def Zuv (n:Nat):Tbl:=[(109,YQ (YH WR) YI wL n)]
theorem Zuw {n:Nat} (ht:TblOK (GG w0 nG) (Zuv n)):PCalls (GG w0 nG) 175 (UI 109 (YH WR) YI wL n):=by
 refine pc ht Tryz.func175 ?_
 exact m60
noncomputable def Zux (n:Nat):Tbl:=[(175,UI 109 (YH WR) YI wL n)]
theorem Zuy {n:Nat} (ht:TblOK (GG w0 nG) (Zux n)):PCalls (GG w0 nG) 245 (UJ 175 109 WR YI wL n):=by
 refine pc ht Tryz.func245 ?_
 intro args σ K h
 unfold UJ at h
 split at h
 ·obtain ⟨pl,l,rfl,⟨rfl,rfl,hz,hn⟩,h⟩:=h
  rename_i t
  have hlen:(l.map (WR pl)).length=l.length:=Tf ..
  have hsz:=ZW wL l
  refine ⟨Zb [(2,⟨[8],[0,1,7],fun vs σ=>∃i:Nat,vs=[.d (.int .i64 i)]∧σ=⟨[.cells t [.func 109 [] []]],[],0⟩∧i≤l.length∧l.all YI=(l.drop i).all YI,fun vs _=>match vs with | [.d (.int _ i)]=>((l.length:Int) - i).toNat | _=>0⟩)],1,false,by simp,Tb rfl,?_⟩
  conv=>whnf
  refine ⟨⟨0,rfl,rfl,by omega,rfl⟩,?_⟩
  intro vs σ hI
  obtain ⟨i,rfl,rfl,hi,hs⟩:=hI
  conv=>whnf
  refine Zyq (fun hi2=>?_) (fun hi2=>?_)
  ·have hi2:i<l.length:=by have hi2:(i:Int)<(l.map (WR pl)).length:=hi2;rw [hlen] at hi2;omega
   have hg:=Z1 wL l i hi2
   rw [XB _ hi2] at hs
   obtain ⟨eA,hA⟩:∃e,l[i]=e:=⟨_,rfl⟩
   obtain ⟨a1,a2,a3,a4,a5⟩:=eA
   have hr1:(l.map (WR pl))[((i:Nat):Int).toNat]?=some (WR pl (.mk a1 a2 a3 a4 a5)):=by simp [hi2,hA]
   rw [hA] at hs hg
   conv=>whnf
   refine ⟨_,by omega,hr1,?_⟩
   conv=>whnf
   refine ⟨pl,(.mk a1 a2 a3 a4 a5),rfl,⟨rfl,by omega,by omega⟩,fun b hb=>?_⟩
   cases b with
   | true =>
    have hp:YI (.mk a1 a2 a3 a4 a5)=false:=by simpa using hb
    exact m37
   | false =>
    have hp:YI (.mk a1 a2 a3 a4 a5)=true:=by simpa using hb
    exact m12
  ·have hi2:l.length≤i:=by have hi2:¬(i:Int)<(l.map (WR pl)).length:=hi2;rw [hlen] at hi2;omega
   exact m41
 ·exact h.elim
noncomputable def Zuz (n:Nat):Tbl:=[(245,UJ 175 109 WR YI wL n)]
theorem ZuA {n:Nat} (ht:TblOK (GG w0 nG) (Zuz n)):PCalls (GG w0 nG) 174 (UK 175 109 WR YI wL n):=by
 refine pc ht Tryz.func174 ?_
 intro args σ K h
 unfold UK at h
 split at h
 ·obtain ⟨pl,l,rfl,⟨rfl,rfl,hz,hn⟩,h⟩:=h
  refine ⟨Zb [],1,false,by simp,Tb rfl,?_⟩
  conv=>whnf
  refine ⟨pl,l,rfl,⟨rfl,rfl,hz,hn⟩,fun r hr=>?_⟩
  conv=>whnf
  refine h _ ?_
  cases hb:l.all YI with
  | true=>rw [hb] at hr;have:=hr.2 rfl;simp;omega
  | false=>rw [hb] at hr;have:¬r<0:=fun g=>(by have:=hr.1 g;cases this);simp;omega
 ·exact h.elim
noncomputable def ZuB (n:Nat):Tbl:=[(174,UK 175 109 WR YI wL n)]
theorem ZuC {n:Nat} (ht:TblOK (GG w0 nG) (ZuB n)):PCalls (GG w0 nG) 108 (XI 109 WR YI wL n):=by
 refine pc ht Tryz.func108 ?_
 exact m7
theorem ZxI {n:Nat} (h:PCalls (GG w0 nG) 109 (YQ (YH WR) YI wL n)):PCalls (GG w0 nG) 108 (XI 109 WR YI wL n) :=
 ZuC ⟨⟨ZuA ⟨⟨Zuy ⟨⟨Zuw ⟨⟨h,Zq _ _ _ _⟩,trivial⟩,YR _ _ _ _ _⟩,trivial⟩,YS _ _ _ _ _ _⟩,trivial⟩,YT _ _ _ _ _ _⟩,trivial⟩
noncomputable def ZqY (n:Nat):Tbl:=[(63,YQ (YH Yp) Yq wRu n)]
theorem ZqZ {n:Nat} (ht:TblOK (GG w0 nG) (ZqY n)):PCalls (GG w0 nG) 186 (UI 63 (YH Yp) Yq wRu n):=by
 refine pc ht Tryz.func186 ?_
 exact m62
noncomputable def Zq0 (n:Nat):Tbl:=[(186,UI 63 (YH Yp) Yq wRu n)]
theorem Zq1 {n:Nat} (ht:TblOK (GG w0 nG) (Zq0 n)):PCalls (GG w0 nG) 251 (UJ 186 63 Yp Yq wRu n):=by
 refine pc ht Tryz.func251 ?_
 intro args σ K h
 unfold UJ at h
 split at h
 ·obtain ⟨pl,l,rfl,⟨rfl,rfl,hz,hn⟩,h⟩:=h
  rename_i t
  have hlen:(l.map (Yp pl)).length=l.length:=Tf ..
  have hsz:=ZW wRu l
  refine ⟨Zb [(2,⟨[8],[0,1,7],fun vs σ=>∃i:Nat,vs=[.d (.int .i64 i)]∧σ=⟨[.cells t [.func 63 [] []]],[],0⟩∧i≤l.length∧l.all Yq=(l.drop i).all Yq,fun vs _=>match vs with | [.d (.int _ i)]=>((l.length:Int) - i).toNat | _=>0⟩)],1,false,by simp,Tb rfl,?_⟩
  conv=>whnf
  refine ⟨⟨0,rfl,rfl,by omega,rfl⟩,?_⟩
  intro vs σ hI
  obtain ⟨i,rfl,rfl,hi,hs⟩:=hI
  conv=>whnf
  refine Zyq (fun hi2=>?_) (fun hi2=>?_)
  ·have hi2:i<l.length:=by have hi2:(i:Int)<(l.map (Yp pl)).length:=hi2;rw [hlen] at hi2;omega
   have hg:=Z1 wRu l i hi2
   rw [XB _ hi2] at hs
   obtain ⟨eA,hA⟩:∃e,l[i]=e:=⟨_,rfl⟩
   obtain ⟨a1,a2,a3,a4⟩:=eA
   have hr1:(l.map (Yp pl))[((i:Nat):Int).toNat]?=some (Yp pl ⟨a1,a2,a3,a4⟩):=by simp [hi2,hA]
   rw [hA] at hs hg
   conv=>whnf
   refine ⟨_,by omega,hr1,?_⟩
   conv=>whnf
   refine ⟨pl,⟨a1,a2,a3,a4⟩,rfl,⟨rfl,by omega,by omega⟩,fun b hb=>?_⟩
   cases b with
   | true =>
    have hp:Yq ⟨a1,a2,a3,a4⟩=false:=by simpa using hb
    exact m37
   | false =>
    have hp:Yq ⟨a1,a2,a3,a4⟩=true:=by simpa using hb
    exact m12
  ·have hi2:l.length≤i:=by have hi2:¬(i:Int)<(l.map (Yp pl)).length:=hi2;rw [hlen] at hi2;omega
   exact m41
 ·exact h.elim
noncomputable def Zq2 (n:Nat):Tbl:=[(251,UJ 186 63 Yp Yq wRu n)]
theorem Zq3 {n:Nat} (ht:TblOK (GG w0 nG) (Zq2 n)):PCalls (GG w0 nG) 185 (UK 186 63 Yp Yq wRu n):=by
 refine pc ht Tryz.func185 ?_
 intro args σ K h
 unfold UK at h
 split at h
 ·obtain ⟨pl,l,rfl,⟨rfl,rfl,hz,hn⟩,h⟩:=h
  refine ⟨Zb [],1,false,by simp,Tb rfl,?_⟩
  conv=>whnf
  refine ⟨pl,l,rfl,⟨rfl,rfl,hz,hn⟩,fun r hr=>?_⟩
  conv=>whnf
  refine h _ ?_
  cases hb:l.all Yq with
  | true=>rw [hb] at hr;have:=hr.2 rfl;simp;omega
  | false=>rw [hb] at hr;have:¬r<0:=fun g=>(by have:=hr.1 g;cases this);simp;omega
 ·exact h.elim
noncomputable def Zq4 (n:Nat):Tbl:=[(185,UK 186 63 Yp Yq wRu n)]
theorem Zq5 {n:Nat} (ht:TblOK (GG w0 nG) (Zq4 n)):PCalls (GG w0 nG) 124 (XI 63 Yp Yq wRu n):=by
 refine pc ht Tryz.func124 ?_
 exact m7
theorem ZuD {n:Nat} (h:PCalls (GG w0 nG) 63 (YQ (YH Yp) Yq wRu n)):PCalls (GG w0 nG) 124 (XI 63 Yp Yq wRu n) :=
 Zq5 ⟨⟨Zq3 ⟨⟨Zq1 ⟨⟨ZqZ ⟨⟨h,Zq _ _ _ _⟩,trivial⟩,YR _ _ _ _ _⟩,trivial⟩,YS _ _ _ _ _ _⟩,trivial⟩,YT _ _ _ _ _ _⟩,trivial⟩
noncomputable def Zq6 (n:Nat):Tbl:=[(123,YQ (YH (fun _=>ZN)) YG wFi n)]
theorem Zq7 {n:Nat} (ht:TblOK (GG w0 nG) (Zq6 n)):PCalls (GG w0 nG) 184 (UI 123 (YH (fun _=>ZN)) YG wFi n):=by
 refine pc ht Tryz.func184 ?_
 exact m38
noncomputable def Zq8 (n:Nat):Tbl:=[(184,UI 123 (YH (fun _=>ZN)) YG wFi n)]
theorem Zq9 {n:Nat} (ht:TblOK (GG w0 nG) (Zq8 n)):PCalls (GG w0 nG) 250 (UJ 184 123 (fun _=>ZN) YG wFi n):=by
 refine pc ht Tryz.func250 ?_
 intro args σ K h
 unfold UJ at h
 split at h
 ·obtain ⟨pl,l,rfl,⟨rfl,rfl,hz,hn⟩,h⟩:=h
  rename_i t
  have hlen:(l.map ((fun _=>ZN) pl)).length=l.length:=Tf ..
  have hsz:=ZW wFi l
  refine ⟨Zb [(2,⟨[8],[0,1,7],fun vs σ=>∃i:Nat,vs=[.d (.int .i64 i)]∧σ=⟨[.cells t [.func 123 [] []]],[],0⟩∧i≤l.length∧l.all YG=(l.drop i).all YG,fun vs _=>match vs with | [.d (.int _ i)]=>((l.length:Int) - i).toNat | _=>0⟩)],1,false,by simp,Tb rfl,?_⟩
  conv=>whnf
  refine ⟨⟨0,rfl,rfl,by omega,rfl⟩,?_⟩
  intro vs σ hI
  obtain ⟨i,rfl,rfl,hi,hs⟩:=hI
  conv=>whnf
  refine Zyq (fun hi2=>?_) (fun hi2=>?_)
  ·have hi2:i<l.length:=by have hi2:(i:Int)<(l.map ((fun _=>ZN) pl)).length:=hi2;rw [hlen] at hi2;omega
   have hg:=Z1 wFi l i hi2
   rw [XB _ hi2] at hs
   obtain ⟨eA,hA⟩:∃e,l[i]=e:=⟨_,rfl⟩
   obtain ⟨a1,a2⟩:=eA
   have hr1:(l.map ((fun _=>ZN) pl))[((i:Nat):Int).toNat]?=some ((fun _=>ZN) pl ⟨a1,a2⟩):=by simp [hi2,hA]
   rw [hA] at hs hg
   conv=>whnf
   refine ⟨_,by omega,hr1,?_⟩
   conv=>whnf
   refine ⟨pl,⟨a1,a2⟩,rfl,⟨rfl,by omega,by omega⟩,fun b hb=>?_⟩
   cases b with
   | true =>
    have hp:YG ⟨a1,a2⟩=false:=by simpa using hb
    exact m37
   | false =>
    have hp:YG ⟨a1,a2⟩=true:=by simpa using hb
    exact m12
  ·have hi2:l.length≤i:=by have hi2:¬(i:Int)<(l.map ((fun _=>ZN) pl)).length:=hi2;rw [hlen] at hi2;omega
   exact m41
 ·exact h.elim
noncomputable def Zra (n:Nat):Tbl:=[(250,UJ 184 123 (fun _=>ZN) YG wFi n)]
theorem Zrb {n:Nat} (ht:TblOK (GG w0 nG) (Zra n)):PCalls (GG w0 nG) 183 (UK 184 123 (fun _=>ZN) YG wFi n):=by
 refine pc ht Tryz.func183 ?_
 intro args σ K h
 unfold UK at h
 split at h
 ·obtain ⟨pl,l,rfl,⟨rfl,rfl,hz,hn⟩,h⟩:=h
  refine ⟨Zb [],1,false,by simp,Tb rfl,?_⟩
  conv=>whnf
  refine ⟨pl,l,rfl,⟨rfl,rfl,hz,hn⟩,fun r hr=>?_⟩
  conv=>whnf
  refine h _ ?_
  cases hb:l.all YG with
  | true=>rw [hb] at hr;have:=hr.2 rfl;simp;omega
  | false=>rw [hb] at hr;have:¬r<0:=fun g=>(by have:=hr.1 g;cases this);simp;omega
 ·exact h.elim
noncomputable def Zrc (n:Nat):Tbl:=[(183,UK 184 123 (fun _=>ZN) YG wFi n)]
theorem Zrd {n:Nat} (ht:TblOK (GG w0 nG) (Zrc n)):PCalls (GG w0 nG) 122 (XI 123 (fun _=>ZN) YG wFi n):=by
 refine pc ht Tryz.func122 ?_
 exact m7
theorem Zw4 {n:Nat} (h:PCalls (GG w0 nG) 123 (YQ (YH (fun _=>ZN)) YG wFi n)):PCalls (GG w0 nG) 122 (XI 123 (fun _=>ZN) YG wFi n) :=
 Zrd ⟨⟨Zrb ⟨⟨Zq9 ⟨⟨Zq7 ⟨⟨h,Zq _ _ _ _⟩,trivial⟩,YR _ _ _ _ _⟩,trivial⟩,YS _ _ _ _ _ _⟩,trivial⟩,YT _ _ _ _ _ _⟩,trivial⟩
noncomputable def Zre (n:Nat):Tbl:=[(180,YQ (YH (fun _=>Z6)) Xr wCa n)]
theorem Zrf {n:Nat} (ht:TblOK (GG w0 nG) (Zre n)):PCalls (GG w0 nG) 248 (UI 180 (YH (fun _=>Z6)) Xr wCa n):=by
 refine pc ht Tryz.func248 ?_
 exact m38
noncomputable def Zrg (n:Nat):Tbl:=[(248,UI 180 (YH (fun _=>Z6)) Xr wCa n)]
theorem Zrh {n:Nat} (ht:TblOK (GG w0 nG) (Zrg n)):PCalls (GG w0 nG) 298 (UJ 248 180 (fun _=>Z6) Xr wCa n):=by
 refine pc ht Tryz.func298 ?_
 intro args σ K h
 unfold UJ at h
 split at h
 ·obtain ⟨pl,l,rfl,⟨rfl,rfl,hz,hn⟩,h⟩:=h
  rename_i t
  have hlen:(l.map ((fun _=>Z6) pl)).length=l.length:=Tf ..
  have hsz:=ZW wCa l
  refine ⟨Zb [(2,⟨[8],[0,1,7],fun vs σ=>∃i:Nat,vs=[.d (.int .i64 i)]∧σ=⟨[.cells t [.func 180 [] []]],[],0⟩∧i≤l.length∧l.all Xr=(l.drop i).all Xr,fun vs _=>match vs with | [.d (.int _ i)]=>((l.length:Int) - i).toNat | _=>0⟩)],1,false,by simp,Tb rfl,?_⟩
  conv=>whnf
  refine ⟨⟨0,rfl,rfl,by omega,rfl⟩,?_⟩
  intro vs σ hI
  obtain ⟨i,rfl,rfl,hi,hs⟩:=hI
  conv=>whnf
  refine Zyq (fun hi2=>?_) (fun hi2=>?_)
  ·have hi2:i<l.length:=by have hi2:(i:Int)<(l.map ((fun _=>Z6) pl)).length:=hi2;rw [hlen] at hi2;omega
   have hg:=Z1 wCa l i hi2
   rw [XB _ hi2] at hs
   obtain ⟨eA,hA⟩:∃e,l[i]=e:=⟨_,rfl⟩
   obtain ⟨a1,a2⟩:=eA
   have hr1:(l.map ((fun _=>Z6) pl))[((i:Nat):Int).toNat]?=some ((fun _=>Z6) pl ⟨a1,a2⟩):=by simp [hi2,hA]
   rw [hA] at hs hg
   conv=>whnf
   refine ⟨_,by omega,hr1,?_⟩
   conv=>whnf
   refine ⟨pl,⟨a1,a2⟩,rfl,⟨rfl,by omega,by omega⟩,fun b hb=>?_⟩
   cases b with
   | true =>
    have hp:Xr ⟨a1,a2⟩=false:=by simpa using hb
    exact m37
   | false =>
    have hp:Xr ⟨a1,a2⟩=true:=by simpa using hb
    exact m12
  ·have hi2:l.length≤i:=by have hi2:¬(i:Int)<(l.map ((fun _=>Z6) pl)).length:=hi2;rw [hlen] at hi2;omega
   exact m41
 ·exact h.elim
noncomputable def Zri (n:Nat):Tbl:=[(298,UJ 248 180 (fun _=>Z6) Xr wCa n)]
theorem Zrj {n:Nat} (ht:TblOK (GG w0 nG) (Zri n)):PCalls (GG w0 nG) 247 (UK 248 180 (fun _=>Z6) Xr wCa n):=by
 refine pc ht Tryz.func247 ?_
 intro args σ K h
 unfold UK at h
 split at h
 ·obtain ⟨pl,l,rfl,⟨rfl,rfl,hz,hn⟩,h⟩:=h
  refine ⟨Zb [],1,false,by simp,Tb rfl,?_⟩
  conv=>whnf
  refine ⟨pl,l,rfl,⟨rfl,rfl,hz,hn⟩,fun r hr=>?_⟩
  conv=>whnf
  refine h _ ?_
  cases hb:l.all Xr with
  | true=>rw [hb] at hr;have:=hr.2 rfl;simp;omega
  | false=>rw [hb] at hr;have:¬r<0:=fun g=>(by have:=hr.1 g;cases this);simp;omega
 ·exact h.elim
noncomputable def Zrk (n:Nat):Tbl:=[(247,UK 248 180 (fun _=>Z6) Xr wCa n)]
theorem Zrl {n:Nat} (ht:TblOK (GG w0 nG) (Zrk n)):PCalls (GG w0 nG) 179 (XI 180 (fun _=>Z6) Xr wCa n):=by
 refine pc ht Tryz.func179 ?_
 exact m7
theorem Zw5 {n:Nat} (h:PCalls (GG w0 nG) 180 (YQ (YH (fun _=>Z6)) Xr wCa n)):PCalls (GG w0 nG) 179 (XI 180 (fun _=>Z6) Xr wCa n) :=
 Zrl ⟨⟨Zrj ⟨⟨Zrh ⟨⟨Zrf ⟨⟨h,Zq _ _ _ _⟩,trivial⟩,YR _ _ _ _ _⟩,trivial⟩,YS _ _ _ _ _ _⟩,trivial⟩,YT _ _ _ _ _ _⟩,trivial⟩
noncomputable def Zrm (n:Nat):Tbl:=[(119,YQ (YH Y4) Z0 wTy n)]
theorem Zrn {n:Nat} (ht:TblOK (GG w0 nG) (Zrm n)):PCalls (GG w0 nG) 178 (UI 119 (YH Y4) Z0 wTy n):=by
 refine pc ht Tryz.func178 ?_
 exact m59
noncomputable def Zro (n:Nat):Tbl:=[(178,UI 119 (YH Y4) Z0 wTy n)]
theorem Zrp {n:Nat} (ht:TblOK (GG w0 nG) (Zro n)):PCalls (GG w0 nG) 246 (UJ 178 119 Y4 Z0 wTy n):=by
 refine pc ht Tryz.func246 ?_
 intro args σ K h
 unfold UJ at h
 split at h
 ·obtain ⟨pl,l,rfl,⟨rfl,rfl,hz,hn⟩,h⟩:=h
  rename_i t
  have hlen:(l.map (Y4 pl)).length=l.length:=Tf ..
  have hsz:=ZW wTy l
  refine ⟨Zb [(2,⟨[8],[0,1,7],fun vs σ=>∃i:Nat,vs=[.d (.int .i64 i)]∧σ=⟨[.cells t [.func 119 [] []]],[],0⟩∧i≤l.length∧l.all Z0=(l.drop i).all Z0,fun vs _=>match vs with | [.d (.int _ i)]=>((l.length:Int) - i).toNat | _=>0⟩)],1,false,by simp,Tb rfl,?_⟩
  conv=>whnf
  refine ⟨⟨0,rfl,rfl,by omega,rfl⟩,?_⟩
  intro vs σ hI
  obtain ⟨i,rfl,rfl,hi,hs⟩:=hI
  conv=>whnf
  refine Zyq (fun hi2=>?_) (fun hi2=>?_)
  ·have hi2:i<l.length:=by have hi2:(i:Int)<(l.map (Y4 pl)).length:=hi2;rw [hlen] at hi2;omega
   have hg:=Z1 wTy l i hi2
   rw [XB _ hi2] at hs
   obtain ⟨eA,hA⟩:∃e,l[i]=e:=⟨_,rfl⟩
   obtain ⟨a1,a2,a3,a4,a5,a6⟩:=eA
   have hr1:(l.map (Y4 pl))[((i:Nat):Int).toNat]?=some (Y4 pl ⟨a1,a2,a3,a4,a5,a6⟩):=by simp [hi2,hA]
   rw [hA] at hs hg
   conv=>whnf
   refine ⟨_,by omega,hr1,?_⟩
   conv=>whnf
   refine ⟨pl,⟨a1,a2,a3,a4,a5,a6⟩,rfl,⟨rfl,by omega,by omega⟩,fun b hb=>?_⟩
   cases b with
   | true =>
    have hp:Z0 ⟨a1,a2,a3,a4,a5,a6⟩=false:=by simpa using hb
    exact m37
   | false =>
    have hp:Z0 ⟨a1,a2,a3,a4,a5,a6⟩=true:=by simpa using hb
    exact m12
  ·have hi2:l.length≤i:=by have hi2:¬(i:Int)<(l.map (Y4 pl)).length:=hi2;rw [hlen] at hi2;omega
   exact m41
 ·exact h.elim
noncomputable def Zrq (n:Nat):Tbl:=[(246,UJ 178 119 Y4 Z0 wTy n)]
theorem Zrr {n:Nat} (ht:TblOK (GG w0 nG) (Zrq n)):PCalls (GG w0 nG) 177 (UK 178 119 Y4 Z0 wTy n):=by
 refine pc ht Tryz.func177 ?_
 intro args σ K h
 unfold UK at h
 split at h
 ·obtain ⟨pl,l,rfl,⟨rfl,rfl,hz,hn⟩,h⟩:=h
  refine ⟨Zb [],1,false,by simp,Tb rfl,?_⟩
  conv=>whnf
  refine ⟨pl,l,rfl,⟨rfl,rfl,hz,hn⟩,fun r hr=>?_⟩
  conv=>whnf
  refine h _ ?_
  cases hb:l.all Z0 with
  | true=>rw [hb] at hr;have:=hr.2 rfl;simp;omega
  | false=>rw [hb] at hr;have:¬r<0:=fun g=>(by have:=hr.1 g;cases this);simp;omega
 ·exact h.elim
noncomputable def Zrs (n:Nat):Tbl:=[(177,UK 178 119 Y4 Z0 wTy n)]
theorem Zrt {n:Nat} (ht:TblOK (GG w0 nG) (Zrs n)):PCalls (GG w0 nG) 118 (XI 119 Y4 Z0 wTy n):=by
 refine pc ht Tryz.func118 ?_
 exact m7
theorem ZuE {n:Nat} (h:PCalls (GG w0 nG) 119 (YQ (YH Y4) Z0 wTy n)):PCalls (GG w0 nG) 118 (XI 119 Y4 Z0 wTy n) :=
 Zrt ⟨⟨Zrr ⟨⟨Zrp ⟨⟨Zrn ⟨⟨h,Zq _ _ _ _⟩,trivial⟩,YR _ _ _ _ _⟩,trivial⟩,YS _ _ _ _ _ _⟩,trivial⟩,YT _ _ _ _ _ _⟩,trivial⟩
noncomputable def Zru (n:Nat):Tbl:=[(121,YQ (YH Y1) XQ wRe n)]
theorem Zrv {n:Nat} (ht:TblOK (GG w0 nG) (Zru n)):PCalls (GG w0 nG) 182 (UI 121 (YH Y1) XQ wRe n):=by
 refine pc ht Tryz.func182 ?_
 exact m59
noncomputable def Zrw (n:Nat):Tbl:=[(182,UI 121 (YH Y1) XQ wRe n)]
theorem Zrx {n:Nat} (ht:TblOK (GG w0 nG) (Zrw n)):PCalls (GG w0 nG) 249 (UJ 182 121 Y1 XQ wRe n):=by
 refine pc ht Tryz.func249 ?_
 intro args σ K h
 unfold UJ at h
 split at h
 ·obtain ⟨pl,l,rfl,⟨rfl,rfl,hz,hn⟩,h⟩:=h
  rename_i t
  have hlen:(l.map (Y1 pl)).length=l.length:=Tf ..
  have hsz:=ZW wRe l
  refine ⟨Zb [(2,⟨[8],[0,1,7],fun vs σ=>∃i:Nat,vs=[.d (.int .i64 i)]∧σ=⟨[.cells t [.func 121 [] []]],[],0⟩∧i≤l.length∧l.all XQ=(l.drop i).all XQ,fun vs _=>match vs with | [.d (.int _ i)]=>((l.length:Int) - i).toNat | _=>0⟩)],1,false,by simp,Tb rfl,?_⟩
  conv=>whnf
  refine ⟨⟨0,rfl,rfl,by omega,rfl⟩,?_⟩
  intro vs σ hI
  obtain ⟨i,rfl,rfl,hi,hs⟩:=hI
  conv=>whnf
  refine Zyq (fun hi2=>?_) (fun hi2=>?_)
  ·have hi2:i<l.length:=by have hi2:(i:Int)<(l.map (Y1 pl)).length:=hi2;rw [hlen] at hi2;omega
   have hg:=Z1 wRe l i hi2
   rw [XB _ hi2] at hs
   obtain ⟨eA,hA⟩:∃e,l[i]=e:=⟨_,rfl⟩
   obtain ⟨a1,a2,a3,a4,a5,a6⟩:=eA
   have hr1:(l.map (Y1 pl))[((i:Nat):Int).toNat]?=some (Y1 pl ⟨a1,a2,a3,a4,a5,a6⟩):=by simp [hi2,hA]
   rw [hA] at hs hg
   conv=>whnf
   refine ⟨_,by omega,hr1,?_⟩
   conv=>whnf
   refine ⟨pl,⟨a1,a2,a3,a4,a5,a6⟩,rfl,⟨rfl,by omega,by omega⟩,fun b hb=>?_⟩
   cases b with
   | true =>
    have hp:XQ ⟨a1,a2,a3,a4,a5,a6⟩=false:=by simpa using hb
    exact m37
   | false =>
    have hp:XQ ⟨a1,a2,a3,a4,a5,a6⟩=true:=by simpa using hb
    exact m12
  ·have hi2:l.length≤i:=by have hi2:¬(i:Int)<(l.map (Y1 pl)).length:=hi2;rw [hlen] at hi2;omega
   exact m41
 ·exact h.elim
noncomputable def Zry (n:Nat):Tbl:=[(249,UJ 182 121 Y1 XQ wRe n)]
theorem Zrz {n:Nat} (ht:TblOK (GG w0 nG) (Zry n)):PCalls (GG w0 nG) 181 (UK 182 121 Y1 XQ wRe n):=by
 refine pc ht Tryz.func181 ?_
 intro args σ K h
 unfold UK at h
 split at h
 ·obtain ⟨pl,l,rfl,⟨rfl,rfl,hz,hn⟩,h⟩:=h
  refine ⟨Zb [],1,false,by simp,Tb rfl,?_⟩
  conv=>whnf
  refine ⟨pl,l,rfl,⟨rfl,rfl,hz,hn⟩,fun r hr=>?_⟩
  conv=>whnf
  refine h _ ?_
  cases hb:l.all XQ with
  | true=>rw [hb] at hr;have:=hr.2 rfl;simp;omega
  | false=>rw [hb] at hr;have:¬r<0:=fun g=>(by have:=hr.1 g;cases this);simp;omega
 ·exact h.elim
noncomputable def ZrA (n:Nat):Tbl:=[(181,UK 182 121 Y1 XQ wRe n)]
theorem ZrB {n:Nat} (ht:TblOK (GG w0 nG) (ZrA n)):PCalls (GG w0 nG) 120 (XI 121 Y1 XQ wRe n):=by
 refine pc ht Tryz.func120 ?_
 exact m7
theorem ZuF {n:Nat} (h:PCalls (GG w0 nG) 121 (YQ (YH Y1) XQ wRe n)):PCalls (GG w0 nG) 120 (XI 121 Y1 XQ wRe n) :=
 ZrB ⟨⟨Zrz ⟨⟨Zrx ⟨⟨Zrv ⟨⟨h,Zq _ _ _ _⟩,trivial⟩,YR _ _ _ _ _⟩,trivial⟩,YS _ _ _ _ _ _⟩,trivial⟩,YT _ _ _ _ _ _⟩,trivial⟩
noncomputable def ZrC (n:Nat):Tbl:=[(126,YQ (YH YM) ZP wCo n)]
theorem ZrD {n:Nat} (ht:TblOK (GG w0 nG) (ZrC n)):PCalls (GG w0 nG) 188 (UI 126 (YH YM) ZP wCo n):=by
 refine pc ht Tryz.func188 ?_
 intro args σ K h
 unfold UI at h
 split at h
 ·obtain ⟨pl,⟨a1,a2,a3,a4,⟨u1,u2,u3,u4,u5,u6⟩,a6⟩,rfl,⟨rfl,hz,hn⟩,h⟩:=h
  refine ⟨Zb [],1,false,by simp,Tb rfl,?_⟩
  conv=>whnf
  refine ⟨pl,(.mk a1 a2 a3 a4 (.mk u1 u2 u3 u4 u5 u6) a6),rfl,⟨hz,hn⟩,fun b hb=>?_⟩
  exact m174
 ·exact h.elim
noncomputable def ZrE (n:Nat):Tbl:=[(188,UI 126 (YH YM) ZP wCo n)]
theorem ZrF {n:Nat} (ht:TblOK (GG w0 nG) (ZrE n)):PCalls (GG w0 nG) 252 (UJ 188 126 YM ZP wCo n):=by
 refine pc ht Tryz.func252 ?_
 intro args σ K h
 unfold UJ at h
 split at h
 ·obtain ⟨pl,l,rfl,⟨rfl,rfl,hz,hn⟩,h⟩:=h
  rename_i t
  have hlen:(l.map (YM pl)).length=l.length:=Tf ..
  have hsz:=ZW wCo l
  refine ⟨Zb [(2,⟨[8],[0,1,7],fun vs σ=>∃i:Nat,vs=[.d (.int .i64 i)]∧σ=⟨[.cells t [.func 126 [] []]],[],0⟩∧i≤l.length∧l.all ZP=(l.drop i).all ZP,fun vs _=>match vs with | [.d (.int _ i)]=>((l.length:Int) - i).toNat | _=>0⟩)],1,false,by simp,Tb rfl,?_⟩
  conv=>whnf
  refine ⟨⟨0,rfl,rfl,by omega,rfl⟩,?_⟩
  intro vs σ hI
  obtain ⟨i,rfl,rfl,hi,hs⟩:=hI
  conv=>whnf
  refine Zyq (fun hi2=>?_) (fun hi2=>?_)
  ·have hi2:i<l.length:=by have hi2:(i:Int)<(l.map (YM pl)).length:=hi2;rw [hlen] at hi2;omega
   have hg:=Z1 wCo l i hi2
   rw [XB _ hi2] at hs
   obtain ⟨eA,hA⟩:∃e,l[i]=e:=⟨_,rfl⟩
   obtain ⟨a1,a2,a3,a4,⟨u1,u2,u3,u4,u5,u6⟩,a6⟩:=eA
   have hr1:(l.map (YM pl))[((i:Nat):Int).toNat]?=some (YM pl (.mk a1 a2 a3 a4 (.mk u1 u2 u3 u4 u5 u6) a6)):=by simp [hi2,hA]
   rw [hA] at hs hg
   conv=>whnf
   refine ⟨_,by omega,hr1,?_⟩
   conv=>whnf
   refine ⟨pl,(.mk a1 a2 a3 a4 (.mk u1 u2 u3 u4 u5 u6) a6),rfl,⟨rfl,by omega,by omega⟩,fun b hb=>?_⟩
   cases b with
   | true =>
    have hp:ZP (.mk a1 a2 a3 a4 (.mk u1 u2 u3 u4 u5 u6) a6)=false:=by simpa using hb
    exact m37
   | false =>
    have hp:ZP (.mk a1 a2 a3 a4 (.mk u1 u2 u3 u4 u5 u6) a6)=true:=by simpa using hb
    exact m12
  ·have hi2:l.length≤i:=by have hi2:¬(i:Int)<(l.map (YM pl)).length:=hi2;rw [hlen] at hi2;omega
   exact m41
 ·exact h.elim
noncomputable def ZrG (n:Nat):Tbl:=[(252,UJ 188 126 YM ZP wCo n)]
theorem ZrH {n:Nat} (ht:TblOK (GG w0 nG) (ZrG n)):PCalls (GG w0 nG) 187 (UK 188 126 YM ZP wCo n):=by
 refine pc ht Tryz.func187 ?_
 intro args σ K h
 unfold UK at h
 split at h
 ·obtain ⟨pl,l,rfl,⟨rfl,rfl,hz,hn⟩,h⟩:=h
  refine ⟨Zb [],1,false,by simp,Tb rfl,?_⟩
  conv=>whnf
  refine ⟨pl,l,rfl,⟨rfl,rfl,hz,hn⟩,fun r hr=>?_⟩
  conv=>whnf
  refine h _ ?_
  cases hb:l.all ZP with
  | true=>rw [hb] at hr;have:=hr.2 rfl;simp;omega
  | false=>rw [hb] at hr;have:¬r<0:=fun g=>(by have:=hr.1 g;cases this);simp;omega
 ·exact h.elim
noncomputable def ZrI (n:Nat):Tbl:=[(187,UK 188 126 YM ZP wCo n)]
theorem ZrJ {n:Nat} (ht:TblOK (GG w0 nG) (ZrI n)):PCalls (GG w0 nG) 125 (XI 126 YM ZP wCo n):=by
 refine pc ht Tryz.func125 ?_
 exact m7
theorem Zw6 {n:Nat} (h:PCalls (GG w0 nG) 126 (YQ (YH YM) ZP wCo n)):PCalls (GG w0 nG) 125 (XI 126 YM ZP wCo n) :=
 ZrJ ⟨⟨ZrH ⟨⟨ZrF ⟨⟨ZrD ⟨⟨h,Zq _ _ _ _⟩,trivial⟩,YR _ _ _ _ _⟩,trivial⟩,YS _ _ _ _ _ _⟩,trivial⟩,YT _ _ _ _ _ _⟩,trivial⟩
noncomputable def ZrK (n:Nat):Tbl:=[(129,YQ (YH Y9) Wa wIn n)]
theorem ZrL {n:Nat} (ht:TblOK (GG w0 nG) (ZrK n)):PCalls (GG w0 nG) 192 (UI 129 (YH Y9) Wa wIn n):=by
 refine pc ht Tryz.func192 ?_
 exact m62
noncomputable def ZrM (n:Nat):Tbl:=[(192,UI 129 (YH Y9) Wa wIn n)]
theorem ZrN {n:Nat} (ht:TblOK (GG w0 nG) (ZrM n)):PCalls (GG w0 nG) 254 (UJ 192 129 Y9 Wa wIn n):=by
 refine pc ht Tryz.func254 ?_
 intro args σ K h
 unfold UJ at h
 split at h
 ·obtain ⟨pl,l,rfl,⟨rfl,rfl,hz,hn⟩,h⟩:=h
  rename_i t
  have hlen:(l.map (Y9 pl)).length=l.length:=Tf ..
  have hsz:=ZW wIn l
  refine ⟨Zb [(2,⟨[8],[0,1,7],fun vs σ=>∃i:Nat,vs=[.d (.int .i64 i)]∧σ=⟨[.cells t [.func 129 [] []]],[],0⟩∧i≤l.length∧l.all Wa=(l.drop i).all Wa,fun vs _=>match vs with | [.d (.int _ i)]=>((l.length:Int) - i).toNat | _=>0⟩)],1,false,by simp,Tb rfl,?_⟩
  conv=>whnf
  refine ⟨⟨0,rfl,rfl,by omega,rfl⟩,?_⟩
  intro vs σ hI
  obtain ⟨i,rfl,rfl,hi,hs⟩:=hI
  conv=>whnf
  refine Zyq (fun hi2=>?_) (fun hi2=>?_)
  ·have hi2:i<l.length:=by have hi2:(i:Int)<(l.map (Y9 pl)).length:=hi2;rw [hlen] at hi2;omega
   have hg:=Z1 wIn l i hi2
   rw [XB _ hi2] at hs
   obtain ⟨eA,hA⟩:∃e,l[i]=e:=⟨_,rfl⟩
   obtain ⟨a1,a2,a3,a4⟩:=eA
   have hr1:(l.map (Y9 pl))[((i:Nat):Int).toNat]?=some (Y9 pl ⟨a1,a2,a3,a4⟩):=by simp [hi2,hA]
   rw [hA] at hs hg
   conv=>whnf
   refine ⟨_,by omega,hr1,?_⟩
   conv=>whnf
   refine ⟨pl,⟨a1,a2,a3,a4⟩,rfl,⟨rfl,by omega,by omega⟩,fun b hb=>?_⟩
   cases b with
   | true =>
    have hp:Wa ⟨a1,a2,a3,a4⟩=false:=by simpa using hb
    exact m37
   | false =>
    have hp:Wa ⟨a1,a2,a3,a4⟩=true:=by simpa using hb
    exact m12
  ·have hi2:l.length≤i:=by have hi2:¬(i:Int)<(l.map (Y9 pl)).length:=hi2;rw [hlen] at hi2;omega
   exact m41
 ·exact h.elim
noncomputable def ZrO (n:Nat):Tbl:=[(254,UJ 192 129 Y9 Wa wIn n)]
theorem ZrP {n:Nat} (ht:TblOK (GG w0 nG) (ZrO n)):PCalls (GG w0 nG) 191 (UK 192 129 Y9 Wa wIn n):=by
 refine pc ht Tryz.func191 ?_
 intro args σ K h
 unfold UK at h
 split at h
 ·obtain ⟨pl,l,rfl,⟨rfl,rfl,hz,hn⟩,h⟩:=h
  refine ⟨Zb [],1,false,by simp,Tb rfl,?_⟩
  conv=>whnf
  refine ⟨pl,l,rfl,⟨rfl,rfl,hz,hn⟩,fun r hr=>?_⟩
  conv=>whnf
  refine h _ ?_
  cases hb:l.all Wa with
  | true=>rw [hb] at hr;have:=hr.2 rfl;simp;omega
  | false=>rw [hb] at hr;have:¬r<0:=fun g=>(by have:=hr.1 g;cases this);simp;omega
 ·exact h.elim
noncomputable def ZrQ (n:Nat):Tbl:=[(191,UK 192 129 Y9 Wa wIn n)]
theorem ZrR {n:Nat} (ht:TblOK (GG w0 nG) (ZrQ n)):PCalls (GG w0 nG) 128 (XI 129 Y9 Wa wIn n):=by
 refine pc ht Tryz.func128 ?_
 exact m7
theorem ZuG {n:Nat} (h:PCalls (GG w0 nG) 129 (YQ (YH Y9) Wa wIn n)):PCalls (GG w0 nG) 128 (XI 129 Y9 Wa wIn n) :=
 ZrR ⟨⟨ZrP ⟨⟨ZrN ⟨⟨ZrL ⟨⟨h,Zq _ _ _ _⟩,trivial⟩,YR _ _ _ _ _⟩,trivial⟩,YS _ _ _ _ _ _⟩,trivial⟩,YT _ _ _ _ _ _⟩,trivial⟩
noncomputable def ZrS (n:Nat):Tbl:=[(131,YQ (YH Xa) WK wOv n)]
theorem ZrT {n:Nat} (ht:TblOK (GG w0 nG) (ZrS n)):PCalls (GG w0 nG) 194 (UI 131 (YH Xa) WK wOv n):=by
 refine pc ht Tryz.func194 ?_
 exact m38
noncomputable def ZrU (n:Nat):Tbl:=[(194,UI 131 (YH Xa) WK wOv n)]
theorem ZrV {n:Nat} (ht:TblOK (GG w0 nG) (ZrU n)):PCalls (GG w0 nG) 255 (UJ 194 131 Xa WK wOv n):=by
 refine pc ht Tryz.func255 ?_
 intro args σ K h
 unfold UJ at h
 split at h
 ·obtain ⟨pl,l,rfl,⟨rfl,rfl,hz,hn⟩,h⟩:=h
  rename_i t
  have hlen:(l.map (Xa pl)).length=l.length:=Tf ..
  have hsz:=ZW wOv l
  refine ⟨Zb [(2,⟨[8],[0,1,7],fun vs σ=>∃i:Nat,vs=[.d (.int .i64 i)]∧σ=⟨[.cells t [.func 131 [] []]],[],0⟩∧i≤l.length∧l.all WK=(l.drop i).all WK,fun vs _=>match vs with | [.d (.int _ i)]=>((l.length:Int) - i).toNat | _=>0⟩)],1,false,by simp,Tb rfl,?_⟩
  conv=>whnf
  refine ⟨⟨0,rfl,rfl,by omega,rfl⟩,?_⟩
  intro vs σ hI
  obtain ⟨i,rfl,rfl,hi,hs⟩:=hI
  conv=>whnf
  refine Zyq (fun hi2=>?_) (fun hi2=>?_)
  ·have hi2:i<l.length:=by have hi2:(i:Int)<(l.map (Xa pl)).length:=hi2;rw [hlen] at hi2;omega
   have hg:=Z1 wOv l i hi2
   rw [XB _ hi2] at hs
   obtain ⟨eA,hA⟩:∃e,l[i]=e:=⟨_,rfl⟩
   obtain ⟨a1,a2⟩:=eA
   have hr1:(l.map (Xa pl))[((i:Nat):Int).toNat]?=some (Xa pl ⟨a1,a2⟩):=by simp [hi2,hA]
   rw [hA] at hs hg
   conv=>whnf
   refine ⟨_,by omega,hr1,?_⟩
   conv=>whnf
   refine ⟨pl,⟨a1,a2⟩,rfl,⟨rfl,by omega,by omega⟩,fun b hb=>?_⟩
   cases b with
   | true =>
    have hp:WK ⟨a1,a2⟩=false:=by simpa using hb
    exact m37
   | false =>
    have hp:WK ⟨a1,a2⟩=true:=by simpa using hb
    exact m12
  ·have hi2:l.length≤i:=by have hi2:¬(i:Int)<(l.map (Xa pl)).length:=hi2;rw [hlen] at hi2;omega
   exact m41
 ·exact h.elim
noncomputable def ZrW (n:Nat):Tbl:=[(255,UJ 194 131 Xa WK wOv n)]
theorem ZrX {n:Nat} (ht:TblOK (GG w0 nG) (ZrW n)):PCalls (GG w0 nG) 193 (UK 194 131 Xa WK wOv n):=by
 refine pc ht Tryz.func193 ?_
 intro args σ K h
 unfold UK at h
 split at h
 ·obtain ⟨pl,l,rfl,⟨rfl,rfl,hz,hn⟩,h⟩:=h
  refine ⟨Zb [],1,false,by simp,Tb rfl,?_⟩
  conv=>whnf
  refine ⟨pl,l,rfl,⟨rfl,rfl,hz,hn⟩,fun r hr=>?_⟩
  conv=>whnf
  refine h _ ?_
  cases hb:l.all WK with
  | true=>rw [hb] at hr;have:=hr.2 rfl;simp;omega
  | false=>rw [hb] at hr;have:¬r<0:=fun g=>(by have:=hr.1 g;cases this);simp;omega
 ·exact h.elim
noncomputable def ZrY (n:Nat):Tbl:=[(193,UK 194 131 Xa WK wOv n)]
theorem ZrZ {n:Nat} (ht:TblOK (GG w0 nG) (ZrY n)):PCalls (GG w0 nG) 130 (XI 131 Xa WK wOv n):=by
 refine pc ht Tryz.func130 ?_
 exact m7
theorem ZuH {n:Nat} (h:PCalls (GG w0 nG) 131 (YQ (YH Xa) WK wOv n)):PCalls (GG w0 nG) 130 (XI 131 Xa WK wOv n) :=
 ZrZ ⟨⟨ZrX ⟨⟨ZrV ⟨⟨ZrT ⟨⟨h,Zq _ _ _ _⟩,trivial⟩,YR _ _ _ _ _⟩,trivial⟩,YS _ _ _ _ _ _⟩,trivial⟩,YT _ _ _ _ _ _⟩,trivial⟩
noncomputable def Zr0 (n:Nat):Tbl:=[(72,YQ Zhg YP wBs n)]
theorem Zr1 {n:Nat} (ht:TblOK (GG w0 nG) (Zr0 n)):PCalls (GG w0 nG) 190 (UI 72 Zhg YP wBs n):=by
 refine pc ht Tryz.func190 ?_
 intro args σ K h
 unfold UI at h
 split at h
 ·obtain ⟨pl,x,rfl,⟨rfl,hz,hn⟩,h⟩:=h
  refine ⟨Zb [],1,false,by simp,Tb rfl,?_⟩
  conv=>whnf
  refine ⟨pl,x,rfl,⟨hz,hn⟩,fun b hb=>?_⟩
  exact m174
 ·exact h.elim
noncomputable def Zr2 (n:Nat):Tbl:=[(190,UI 72 Zhg YP wBs n)]
theorem Zr3 {n:Nat} (ht:TblOK (GG w0 nG) (Zr2 n)):PCalls (GG w0 nG) 253 (UJ 190 72 (fun _=>ZM) YP wBs n):=by
 refine pc ht Tryz.func253 ?_
 intro args σ K h
 unfold UJ at h
 split at h
 ·obtain ⟨pl,l,rfl,⟨rfl,rfl,hz,hn⟩,h⟩:=h
  rename_i t
  have hlen:(l.map ((fun _=>ZM) pl)).length=l.length:=Tf ..
  have hsz:=ZW wBs l
  refine ⟨Zb [(2,⟨[8],[0,1,7],fun vs σ=>∃i:Nat,vs=[.d (.int .i64 i)]∧σ=⟨[.cells t [.func 72 [] []]],[],0⟩∧i≤l.length∧l.all YP=(l.drop i).all YP,fun vs _=>match vs with | [.d (.int _ i)]=>((l.length:Int) - i).toNat | _=>0⟩)],1,false,by simp,Tb rfl,?_⟩
  conv=>whnf
  refine ⟨⟨0,rfl,rfl,by omega,rfl⟩,?_⟩
  intro vs σ hI
  obtain ⟨i,rfl,rfl,hi,hs⟩:=hI
  conv=>whnf
  refine Zyq (fun hi2=>?_) (fun hi2=>?_)
  ·have hi2:i<l.length:=by have hi2:(i:Int)<(l.map ((fun _=>ZM) pl)).length:=hi2;rw [hlen] at hi2;omega
   have hg:=Z1 wBs l i hi2
   rw [XB _ hi2] at hs
   obtain ⟨eA,hA⟩:∃e,l[i]=e:=⟨_,rfl⟩
   have hr1:(l.map ((fun _=>ZM) pl))[((i:Nat):Int).toNat]?=some ((fun _=>ZM) pl eA):=by simp [hi2,hA]
   rw [hA] at hs hg
   conv=>whnf
   refine ⟨_,by omega,hr1,?_⟩
   conv=>whnf
   refine ⟨pl,eA,rfl,⟨rfl,by omega,by omega⟩,fun b hb=>?_⟩
   cases b with
   | true =>
    have hp:YP eA=false:=by simpa using hb
    exact m37
   | false =>
    have hp:YP eA=true:=by simpa using hb
    exact m12
  ·have hi2:l.length≤i:=by have hi2:¬(i:Int)<(l.map ((fun _=>ZM) pl)).length:=hi2;rw [hlen] at hi2;omega
   exact m41
 ·exact h.elim
noncomputable def Zr4 (n:Nat):Tbl:=[(253,UJ 190 72 (fun _=>ZM) YP wBs n)]
theorem Zr5 {n:Nat} (ht:TblOK (GG w0 nG) (Zr4 n)):PCalls (GG w0 nG) 189 (UK 190 72 (fun _=>ZM) YP wBs n):=by
 refine pc ht Tryz.func189 ?_
 intro args σ K h
 unfold UK at h
 split at h
 ·obtain ⟨pl,l,rfl,⟨rfl,rfl,hz,hn⟩,h⟩:=h
  refine ⟨Zb [],1,false,by simp,Tb rfl,?_⟩
  conv=>whnf
  refine ⟨pl,l,rfl,⟨rfl,rfl,hz,hn⟩,fun r hr=>?_⟩
  conv=>whnf
  refine h _ ?_
  cases hb:l.all YP with
  | true=>rw [hb] at hr;have:=hr.2 rfl;simp;omega
  | false=>rw [hb] at hr;have:¬r<0:=fun g=>(by have:=hr.1 g;cases this);simp;omega
 ·exact h.elim
noncomputable def Zr6 (n:Nat):Tbl:=[(189,UK 190 72 (fun _=>ZM) YP wBs n)]
theorem Zr7 {n:Nat} (ht:TblOK (GG w0 nG) (Zr6 n)):PCalls (GG w0 nG) 127 (XI 72 (fun _=>ZM) YP wBs n):=by
 refine pc ht Tryz.func127 ?_
 exact m7
theorem Zw7 {n:Nat} (h:PCalls (GG w0 nG) 72 (YQ Zhg YP wBs n)):PCalls (GG w0 nG) 127 (XI 72 (fun _=>ZM) YP wBs n) :=
 Zr7 ⟨⟨Zr5 ⟨⟨Zr3 ⟨⟨Zr1 ⟨⟨h,Zq _ _ _ _⟩,trivial⟩,YR _ _ _ _ _⟩,trivial⟩,YS _ _ _ _ _ _⟩,trivial⟩,YT _ _ _ _ _ _⟩,trivial⟩
end Go.PM.Lex
end

section
namespace Go.PM.Lex
open Go.Proofs
variable {w0:World} {nG:Nat}
noncomputable def Ztx:Zu:=fun args σ K=>match args,σ with
 | [.d (.int .u8 op)],⟨[],[],0⟩=>∃o:Nat,op=o∧∀l w a,(Zv o:Int)=l→Wj o=w→Wo o=a→K (.ret (.agg [.d (.int .i64 l),.d (.str w),.d (.int .i64 a)])) ⟨[],[],0⟩
 | _,_=>False
theorem Zaz:Zc Ztx:=fun args σ K K' hK h=>by
 unfold Ztx at h ⊢
 split at h
 ·obtain ⟨o,h1,h2⟩:=h;exact ⟨o,h1,fun l w a e1 e2 e3=>hK _ _ (h2 l w a e1 e2 e3)⟩
 ·exact h.elim
theorem Zol:PCalls (GG w0 nG) 71 Ztx:=by
 refine pc (tbl:=[]) trivial Tryz.func71 ?_
 intro args σ K h
 unfold Ztx at h
 split at h
 ·obtain ⟨o,rfl,h⟩:=h
  refine ⟨Zb [],0,false,by simp,Tb rfl,?_⟩
  repeat' ((conv=>whnf);refine Zyq (fun hc=>?_) (fun hc=>?_))
  all_goals (conv=>whnf)
  all_goals first
  | (have e : o = 16 := by omega
     subst e;exact h _ _ _ rfl rfl rfl)
  | (have e : o = 17 := by omega
     subst e;exact h _ _ _ rfl rfl rfl)
  | (have e : o = 15 := by omega
     subst e;exact h _ _ _ rfl rfl rfl)
  | (have e : o = 18 := by omega
     subst e;exact h _ _ _ rfl rfl rfl)
  | (have e : o = 19 := by omega
     subst e;exact h _ _ _ rfl rfl rfl)
  | (have e : o = 10 := by omega
     subst e;exact h _ _ _ rfl rfl rfl)
  | (have e : o = 11 := by omega
     subst e;exact h _ _ _ rfl rfl rfl)
  | (have e : o = 12 := by omega
     subst e;exact h _ _ _ rfl rfl rfl)
  | (have e : o = 13 := by omega
     subst e;exact h _ _ _ rfl rfl rfl)
  | (have e : o = 14 := by omega
     subst e;exact h _ _ _ rfl rfl rfl)
  | (have e : o = 8 := by omega
     subst e;exact h _ _ _ rfl rfl rfl)
  | (have e : o = 9 := by omega
     subst e;exact h _ _ _ rfl rfl rfl)
  | (have e : o = 20 := by omega
     subst e;exact h _ _ _ rfl rfl rfl)
  | (have e : o = 21 := by omega
     subst e;exact h _ _ _ rfl rfl rfl)
  | (have e : o = 22 := by omega
     subst e;exact h _ _ _ rfl rfl rfl)
  | (have e : o = 23 := by omega
     subst e;exact h _ _ _ rfl rfl rfl)
  | (have e : o = 24 := by omega
     subst e;exact h _ _ _ rfl rfl rfl)
  | (have e : o = 25 := by omega
     subst e;exact h _ _ _ rfl rfl rfl)
  | (have e : o = 6 := by omega
     subst e;exact h _ _ _ rfl rfl rfl)
  | (have e : o = 7 := by omega
     subst e;exact h _ _ _ rfl rfl rfl)
  | (have e : o = 1 := by omega
     subst e;exact h _ _ _ rfl rfl rfl)
  | (have e : o = 2 := by omega
     subst e;exact h _ _ _ rfl rfl rfl)
  | (have e : o = 3 := by omega
     subst e;exact h _ _ _ rfl rfl rfl)
  | (have e : o = 4 := by omega
     subst e;exact h _ _ _ rfl rfl rfl)
  | (have e : o = 5 := by omega
     subst e;exact h _ _ _ rfl rfl rfl)
  | (refine h _ _ _ ?_ ?_ ?_
     ·unfold Zv;(repeat rw [Te (by omega)]);rfl
     ·unfold Wj;(repeat rw [Te (by omega)])
     ·unfold Wo;(repeat rw [Te (by omega)]))
 ·exact h.elim
noncomputable def ZuI:Tbl:=[(147,Zbb),(148,ZcS)]
theorem ZuJ {n:Nat} (ht:TblOK (GG w0 nG) ZuI):PCalls (GG w0 nG) 72 (YQ Zhg YP wBs n):=by
 refine pc ht Tryz.func72 ?_
 intro args σ K h
 unfold YQ at h
 split at h
 ·obtain ⟨pl,s,rfl,⟨hz,hn⟩,h⟩:=h
  unfold wBs at hz
  refine ⟨Zb [],0,false,by simp,Tb rfl,?_⟩
  conv=>whnf
  refine ⟨by omega,?_⟩
  conv=>whnf
  refine Zyu (fun hc0=>?_) (fun hc0=>?_)
  rotate_left
  ·(conv=>whnf);exact h _ (by simp [YP,hc0])
  conv=>whnf
  refine Zyv (fun hc1=>?_) (fun hc1=>?_)
  rotate_left
  ·(conv=>whnf);exact h _ (by simp only [YP,hc0,hc1];decide)
  conv=>whnf
  refine fun b hb=>?_
  conv=>whnf
  exact h _ (by rw [YP,hc0,hb,decide_eq_false hc1];simp)
 ·exact h.elim
noncomputable def ZuK (n:Nat):Tbl:=[(72,YQ Zhg YP wBs n)]
theorem ZuL {n:Nat} (ht:TblOK (GG w0 nG) (ZuK n)):PCalls (GG w0 nG) 123 (YQ (YH (fun _=>ZN)) YG wFi n):=by
 refine pc ht Tryz.func123 ?_
 intro args σ K h
 unfold YQ at h
 split at h
 ·obtain ⟨pl,⟨a1,a2⟩,rfl,⟨hz,hn⟩,h⟩:=h
  simp only [wFi] at hz
  refine ⟨Zb [],0,false,by simp,Tb rfl,?_⟩
  conv=>whnf
  refine ⟨fun _=>0,a1,rfl,⟨by simp only [wBs];omega,by omega⟩,fun b hn0=>?_⟩
  cases b with
  | false =>
   conv=>whnf
   exact h _ (by simp [YG,hn0])
  | true =>
   conv=>whnf
   refine ⟨fun _=>0,a2,rfl,⟨by simp only [wBs];omega,by omega⟩,fun b hn1=>?_⟩
   conv=>whnf
   exact h _ (by simp [YG,hn0,hn1])
 ·exact h.elim
noncomputable def ZuM (n:Nat):Tbl:=[(72,YQ Zhg YP wBs n),(122,XI 123 (fun _=>ZN) YG wFi n)]
theorem ZuN {n:Nat} (ht:TblOK (GG w0 nG) (ZuM n)):PCalls (GG w0 nG) 180 (YQ (YH (fun _=>Z6)) Xr wCa n):=by
 refine pc ht Tryz.func180 ?_
 intro args σ K h
 unfold YQ at h
 split at h
 ·obtain ⟨pl,⟨a1,a2⟩,rfl,⟨hz,hn⟩,h⟩:=h
  simp only [wCa] at hz
  refine ⟨Zb [],0,false,by simp,Tb rfl,?_⟩
  conv=>whnf
  refine ⟨fun _=>0,a1,rfl,⟨by simp only [wBs];omega,by omega⟩,fun b hn0=>?_⟩
  cases b with
  | false =>
   conv=>whnf
   exact h _ (by simp [Xr,hn0])
  | true =>
   conv=>whnf
   refine ⟨pl,a2,rfl,⟨rfl,by omega,by omega⟩,fun b ha1=>?_⟩
   conv=>whnf
   exact h _ (by simp [Xr,hn0,ha1])
 ·exact h.elim
noncomputable def ZuO (n:Nat):Tbl:=[(72,YQ Zhg YP wBs n),(122,XI 123 (fun _=>ZN) YG wFi n)]
theorem ZuP {n:Nat} (ht:TblOK (GG w0 nG) (ZuO n)):PCalls (GG w0 nG) 121 (YQ (YH Y1) XQ wRe n):=by
 refine pc ht Tryz.func121 ?_
 intro args σ K h
 unfold YQ at h
 split at h
 ·obtain ⟨pl,⟨a1,a2,a3,a4,a5,a6⟩,rfl,⟨hz,hn⟩,h⟩:=h
  simp only [wRe] at hz
  refine ⟨Zb [],0,false,by simp,Tb rfl,?_⟩
  conv=>whnf
  refine ⟨fun _=>0,a1,rfl,⟨by simp only [wBs];omega,by omega⟩,fun b hn0=>?_⟩
  cases b with
  | false =>
   conv=>whnf
   exact h _ (by simp [XQ,hn0])
  | true =>
   conv=>whnf
   refine ⟨pl,a2,rfl,⟨rfl,by omega,by omega⟩,fun b ha1=>?_⟩
   conv=>whnf
   exact h _ (by simp [XQ,hn0,ha1])
 ·exact h.elim
noncomputable def ZuQ (n:Nat):Tbl:=[(72,YQ Zhg YP wBs n),(127,XI 72 (fun _=>ZM) YP wBs n)]
theorem ZuR {n:Nat} (ht:TblOK (GG w0 nG) (ZuQ n)):PCalls (GG w0 nG) 129 (YQ (YH Y9) Wa wIn n):=by
 refine pc ht Tryz.func129 ?_
 intro args σ K h
 unfold YQ at h
 split at h
 ·obtain ⟨pl,⟨a1,a2,a3,a4⟩,rfl,⟨hz,hn⟩,h⟩:=h
  simp only [wIn] at hz
  refine ⟨Zb [],0,false,by simp,Tb rfl,?_⟩
  conv=>whnf
  refine ⟨fun _=>0,a1,rfl,⟨by simp only [wBs];omega,by omega⟩,fun b hn0=>?_⟩
  cases b with
  | false =>
   conv=>whnf
   exact h _ (by simp [Wa,hn0])
  | true =>
   conv=>whnf
   refine ⟨fun _=>0,a2,rfl,⟨by simp only [wBs];omega,by omega⟩,fun b hn1=>?_⟩
   cases b with
   | false =>
    conv=>whnf
    exact h _ (by simp [Wa,hn0,hn1])
   | true =>
    conv=>whnf
    refine ⟨pl,a3,rfl,⟨rfl,by omega,by omega⟩,fun b ha2=>?_⟩
    conv=>whnf
    exact h _ (by simp [Wa,hn0,hn1,ha2])
 ·exact h.elim
noncomputable def ZuS (n:Nat):Tbl:=[(72,YQ Zhg YP wBs n)]
theorem ZuT {n:Nat} (ht:TblOK (GG w0 nG) (ZuS n)):PCalls (GG w0 nG) 131 (YQ (YH Xa) WK wOv n):=by
 refine pc ht Tryz.func131 ?_
 intro args σ K h
 unfold YQ at h
 split at h
 ·obtain ⟨pl,⟨a1,a2⟩,rfl,⟨hz,hn⟩,h⟩:=h
  simp only [wOv] at hz
  refine ⟨Zb [],0,false,by simp,Tb rfl,?_⟩
  conv=>whnf
  refine ⟨fun _=>0,a1,rfl,⟨by simp only [wBs];omega,by omega⟩,fun b hn0=>?_⟩
  conv=>whnf
  exact h _ (by simp [WK,hn0])
 ·exact h.elim
noncomputable def ZuU (n:Nat):Tbl:=[(72,YQ Zhg YP wBs n),(74,XI 29 YU ZO wE n),(108,XI 109 WR YI wL n)]
theorem ZuV {n:Nat} (ht:TblOK (GG w0 nG) (ZuU n)):PCalls (GG w0 nG) 63 (YQ (YH Yp) Yq wRu n):=by
 refine pc ht Tryz.func63 ?_
 intro args σ K h
 unfold YQ at h
 split at h
 ·obtain ⟨pl,⟨a1,a2,a3,a4⟩,rfl,⟨hz,hn⟩,h⟩:=h
  simp only [wRu] at hz
  refine ⟨Zb [],0,false,by simp,Tb rfl,?_⟩
  conv=>whnf
  refine ⟨fun _=>0,a1,rfl,⟨by simp only [wBs];omega,by omega⟩,fun b hn0=>?_⟩
  cases b with
  | false =>
   conv=>whnf
   exact h _ (by simp [Yq,hn0])
  | true =>
   conv=>whnf
   refine ⟨pl,a2,Zk _ _,⟨rfl,by omega,by omega⟩,fun b ha1=>?_⟩
   cases b with
   | false =>
    conv=>whnf
    exact h _ (by simp [Yq,hn0,ha1])
   | true =>
    conv=>whnf
    refine ⟨pl,a3,ZF _ _,⟨rfl,by omega,by omega⟩,fun b ha2=>?_⟩
    conv=>whnf
    exact h _ (by simp [Yq,hn0,ha1,ha2])
 ·exact h.elim
noncomputable def Zw8 (n:Nat):Tbl:=[(71,Ztx),(72,YQ Zhg YP wBs n),(73,JR),(74,spB (XI 29 YU ZO wE) n)]
theorem ZuW {n:Nat} (ht:TblOK (GG w0 nG) (Zw8 n)):PCalls (GG w0 nG) 29 (YQ (YH YU) ZO wE n):=by
 refine pc ht Tryz.func29 ?_
 intro args σ K h
 unfold YQ at h
 split at h
 ·obtain ⟨pl,⟨a1,a2,a3,a4,a5⟩,rfl,⟨hz,hn⟩,h⟩:=h
  simp only [wE,Zjg] at hz
  refine ⟨Zb [],0,false,by simp,Tb rfl,?_⟩
  have hl4:(Y0 pl a4).length=a4.length:=by rw [Zk,Tf]
  conv=>whnf
  refine ⟨a1,rfl,fun l w a hl hw ha=>?_⟩
  conv=>whnf
  refine Zyq (fun hop=>?_) (fun hop=>?_)
  ·have hopI:=hop
   have hop:a1=1:=by omega
   conv=>whnf
   refine Zyq (fun _=>?_) (fun hx=>absurd hopI hx)
   exact m151
  conv=>whnf
  refine Zyq (fun hop7=>?_) (fun hop7=>?_)
  ·have hop:a1=7:=by omega
   exact m151
  have hop:¬a1=1:=by omega
  have hop7:¬a1=7:=by omega
  conv=>whnf
  refine Zyq (fun hop4=>?_) (fun hop4=>?_)
  ·have hop4:a1=4:=by omega
   conv=>whnf
   refine ⟨by omega,fun hq=>?_,fun q hq=>?_⟩
   ·have htx:X9 a1 a2=false:=by simp [X9,hop4,hq]
    exact m9
   ·have htx:X9 a1 a2=true:=by simp [X9,hop4,hq]
    exact m3
  have hop4:¬a1=4:=by omega
  have htx:X9 a1 a2=decide (a2=[]):=by simp [X9,hop,hop7,hop4]
  conv=>whnf
  refine Zyq (fun h1=>?_) (fun h1=>?_)
  rotate_left
  ·exact m178
  conv=>whnf
  refine Zyq (fun h2=>?_) (fun h2=>?_)
  ·conv=>whnf
   refine Zyq (fun h3=>?_) (fun h3=>?_)
   ·conv=>whnf
    refine Zyq (fun h4=>?_) (fun h4=>?_)
    rotate_left
    ·exact m134
    rw [SB h4] at htx
    exact m166
   conv=>whnf
   refine Zyq (fun h5=>?_) (fun h5=>?_)
   rotate_left
   ·exact m145
   have h5:a1=3:=by omega
   have hor:(decide (a3=0) || decide (a1=3))=true:=by simp [h5]
   conv=>whnf
   refine Zyq (fun h4=>?_) (fun h4=>?_)
   rotate_left
   ·exact m134
   rw [SB h4] at htx
   exact m164
  conv=>whnf
  refine Zyq (fun h6=>?_) (fun h6=>?_)
  rotate_left
  ·exact m150
  have h6:(a4.length:Int)=a:=by rw [← hl4];exact h6
  conv=>whnf
  refine Zyq (fun h3=>?_) (fun h3=>?_)
  ·conv=>whnf
   refine Zyq (fun h4=>?_) (fun h4=>?_)
   rotate_left
   ·exact m134
   rw [SB h4] at htx
   exact m165
  conv=>whnf
  refine Zyq (fun h5=>?_) (fun h5=>?_)
  rotate_left
  ·exact m145
  have h5:a1=3:=by omega
  have hor:(decide (a3=0) || decide (a1=3))=true:=by simp [h5]
  conv=>whnf
  refine Zyq (fun h4=>?_) (fun h4=>?_)
  rotate_left
  ·exact m134
  rw [SB h4] at htx
  exact m163
 ·exact h.elim
noncomputable def Zw9 (n:Nat):Tbl:=[(72,YQ Zhg YP wBs n),(74,XI 29 YU ZO wE n),(108,spB (XI 109 WR YI wL) n)]
theorem ZuX {n:Nat} (ht:TblOK (GG w0 nG) (Zw9 n)):PCalls (GG w0 nG) 109 (YQ (YH WR) YI wL n):=by
 refine pc ht Tryz.func109 ?_
 intro args σ K h
 unfold YQ at h
 split at h
 ·obtain ⟨pl,⟨a1,a2,a3,a4,a5⟩,rfl,⟨hz,hn⟩,h⟩:=h
  simp only [wL,ZgS] at hz
  refine ⟨Zb [],0,false,by simp,Tb rfl,?_⟩
  have hl3:(Y0 pl a3).length=a3.length:=by rw [Zk,Tf]
  have hl4:(ZdL pl a4).length=a4.length:=by rw [ZF,Tf]
  have hbd:((0:Int)<((ZdL pl a4).length:Int))↔0<a4.length:=by rw [hl4];omega
  conv=>whnf
  refine Zyq (fun hop=>?_) (fun hop=>?_)
  ·have hopI:=hop
   have hop:a1=1:=by omega
   conv=>whnf
   refine Zyq (fun _=>?_) (fun hx=>absurd hopI hx)
   exact m140
  conv=>whnf
  refine Zyq (fun hop2=>?_) (fun hop2=>?_)
  ·have hop:a1=2:=by omega
   exact m140
  have hn12:¬(a1=1∨a1=2):=by omega
  conv=>whnf
  refine Zyq (fun hop3=>?_) (fun hop3=>?_)
  ·conv=>whnf
   refine Zyq (fun hop8=>?_) (fun hop8=>?_)
   ·have h38:3≤a1∧a1≤8:=by omega
    conv=>whnf
    refine Zyq (fun hr=>?_) (fun hr=>?_)
    rotate_left
    ·have hlb:Y3 a1 a2 a3.length a4.length=false:=by simp [Y3,hn12,h38,hr]
     exact m29
    conv=>whnf
    refine Zyq (fun hA=>?_) (fun hA=>?_)
    rotate_left
    ·have hA:¬a3.length=2:=fun g=>hA (by show ((Y0 pl a3).length:Int)=2;rw [hl3,g];rfl)
     have hlb:Y3 a1 a2 a3.length a4.length=false:=by simp [Y3,hn12,h38,hA]
     exact m29
    have hA:a3.length=2:=by have hA:((Y0 pl a3).length:Int)=2:=hA;rw [hl3] at hA;omega
    conv=>whnf
    refine Zyv (fun hB=>?_) (fun hB=>?_)
    ·have hB:¬0<a4.length:=fun g=>hB (hbd.2 g)
     have hlb:Y3 a1 a2 a3.length a4.length=true:=by simp only [Y3,hn12,h38,hr,hA,decide_eq_false hB];simp
     exact m10
    ·have hB:=hbd.1 hB
     have hlb:Y3 a1 a2 a3.length a4.length=false:=by simp [Y3,hn12,h38,hr,hA,hB]
     exact m29
   exact m4
  exact m4
 ·exact h.elim
end Go.PM.Lex
end
