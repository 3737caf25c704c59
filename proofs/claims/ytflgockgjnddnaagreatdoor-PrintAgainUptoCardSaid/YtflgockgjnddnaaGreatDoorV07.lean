/- A part of the proof: plain logic, contracts and laws over the given program. -/
import Derived.Lib.ValidU
import Derived.Test.YtflgockgjnddnaaGreatDoorValid
import Derived.Shelf.Unicode.ValidAny
import Derived.Lib.MapLaws
import Derived.Test.YtflgockgjnddnaaGreatDoorV06
set_option linter.unusedVariables false
set_option linter.unusedSimpArgs false
set_option linter.all false
set_option maxRecDepth 100000
set_option maxHeartbeats 16000000
section
namespace Go.PM.Lex
open Go.Proofs
variable {w0:World} {nG:Nat}
def ZnI:Nat→Ts→R Un
 | 0=>fun _=>.err 0 150
 | d+1=>Zhx d
theorem Zsv (d:Nat):Zhx d=Zhw true d (ZnI d):=by cases d <;> rfl
def Zvn (b:Bool) (d:Nat) (ts:Ts):R Un:=Zhw b d (ZnI d) ts
noncomputable def Zdz (d:Nat):Zz:=Ws fun rest L en dp a ts K=>match rest with
 | [.d (.bool b)]=>(dp=64 - (d:Int)∧0≤dp)∧∀x,Zvn b d ts=x→RKk (fun (v:Un)=>Zb6 (XK (Ze L en) v)) L en dp a x K
 | _=>False
theorem ZkQ (d:Nat):Zc (Zdz d):=ZR fun rest L en dp a ts K K' hK h=>by
 exact m48
noncomputable def Jm (d:Nat):Zz:=Ws fun rest L en dp a ts K=>match rest with
 | [.d (.bool b)]=>(0<d∧dp=65 - (d:Int)∧0≤dp∧b=true)∧∀x,ZnI d ts=x→RKk (fun (v:Un)=>Zb6 (XK (Ze L en) v)) L en dp a x K
 | _=>False
theorem Zje (d:Nat):Zc (Jm d):=ZR fun rest L en dp a ts K K' hK h=>by
 exact m48
noncomputable abbrev Zma (d:Nat):Zz:=Zi6 (fun L en (v:Co)=>Zb6 (ZY (Ze L en) v)) (ZfR d (ZnI d)) 0 d
noncomputable def Zmb (d:Nat):Tbl:=[(70,Jm d)]
noncomputable def Zmc (d:Nat):Tbl:=[(136,Zim),(143,Wh),(81,Xi),(205,ZkL Tryz.f205 (Zmb d))]
noncomputable def Zvo (d:Nat):Tbl:=[(141,Vc),(142,WE),(144,ZeP),(200,WZ),(204,ZkL Tryz.f204 (Zmc d))]
theorem Zvp {d:Nat} (ht:TblOK (GG w0 nG) (Zvo d)):PCalls (GG w0 nG) 140 (Zma d):=by
 refine pc ht Tryz.func140 ?_
 intro args σ K h
 unfold Zma Zi6 Ws at h
 split at h
 ·rename_i rest t rows a en dp
  obtain ⟨L,ts,rfl,ho,h⟩:=h
  split at h
  ·obtain ⟨hdp,h⟩:=h
   have h0:=ho.lo
   have h1:=ho.hi
   have h2:=ho.big
   refine ⟨Za [],1,false,by simp,Tb rfl,?_⟩
   have h:=h _ rfl
   rw [ZfR] at h
   conv=>whnf
   refine ⟨L,ts,rfl,ho,?_⟩
   conv=>whnf
   refine ⟨L,ts,rfl,ho,fun x hx1=>?_⟩
   rcases x with ⟨v1,ts1⟩ | ⟨r1,e1⟩
   rotate_left
   ·exact m50
   rw [hx1,R.bind_ok] at h
   intro a1 hle1 ho1
   have hb1:=ho1.hi
   conv=>whnf
   refine ⟨L,ts1,rfl,ho1,fun x hx2=>?_⟩
   rcases x with ⟨v2,ts2⟩ | ⟨r2,e2⟩
   rotate_left
   ·exact m43
   rw [hx2,R.bind_ok] at h
   intro a2 hle2 ho2
   have hb2:=ho2.hi
   conv=>whnf
   refine ⟨L,ts2,rfl,ho2,[[58]],rfl,by simp,fun hw3 ho3=>?_,fun hw3=>?_⟩
   ·rw [Th hw3] at h
    have hb3:=ho3.hi
    conv=>whnf
    refine ⟨L,ts2.tail,rfl,ho3,fun x hx4=>?_⟩
    rcases x with ⟨v4,ts4⟩ | ⟨r4,e4⟩
    rotate_left
    ·exact m93
    rw [hx4,R.bind_ok] at h
    intro a4 hle4 ho4
    have hb4:=ho4.hi
    conv=>whnf
    refine ⟨L,ts4,rfl,ho4,fun x hx5=>?_⟩
    rcases x with ⟨v5,ts5⟩ | ⟨r5,e5⟩
    rotate_left
    ·exact m42
    rw [hx5,R.bind_ok] at h
    intro a5 hle5 ho5
    have hb5:=ho5.hi
    conv=>whnf
    refine ⟨_,fun _ _ h=>h,Tb rfl,?_⟩
    conv=>whnf
    refine ⟨L,ts5,rfl,ho5,[[123]],rfl,by simp,fun b hw7=>?_⟩
    cases b with
    | false =>
     rw [Zo,Te (by rw [hw7];simp),R.bind_err] at h
     conv=>whnf
     refine ⟨L,ts5,rfl,ho5,fun x hx=>?_⟩
     rw [Z0,Te (by rw [hw7];simp)] at hx
     subst hx
     intro a9 d9
     exact m47
    | true =>
     rw [Zo,Th hw7] at h
     conv=>whnf
     refine ZEb (fun hc=>?_) (fun hc=>?_)
     ·rw [Th (by omega),R.bind_err] at h
      conv=>whnf
      refine ⟨L,ts5,rfl,ho5,?_⟩
      exact m47
     ·rw [Te (by omega)] at h
      conv=>whnf
      refine ⟨L,ts5,rfl,ho5,fun x hx=>?_⟩
      rw [Z0,Th hw7] at hx
      subst hx
      intro a7 hle7 ho7
      have hb7:=ho7.hi
      conv=>whnf
      refine oiO ?_
      conv=>whnf
      refine ⟨_,fun _ _ h=>h,Tb rfl,?_⟩
      conv=>whnf
      refine ⟨L,ts5.tail,rfl,ho7,⟨by omega,by omega,by omega,rfl⟩,fun x hx8=>?_⟩
      exact m38
   ·rw [Te (by rw [hw3];simp)] at h
    conv=>whnf
    refine ⟨_,fun _ _ h=>h,Tb rfl,?_⟩
    conv=>whnf
    refine ⟨L,ts2,rfl,ho2,[[123]],rfl,by simp,fun b hw7=>?_⟩
    cases b with
    | false =>
     rw [Zo,Te (by rw [hw7];simp),R.bind_err] at h
     conv=>whnf
     refine ⟨L,ts2,rfl,ho2,fun x hx=>?_⟩
     rw [Z0,Te (by rw [hw7];simp)] at hx
     subst hx
     intro a9 d9
     exact m47
    | true =>
     rw [Zo,Th hw7] at h
     conv=>whnf
     refine ZEb (fun hc=>?_) (fun hc=>?_)
     ·rw [Th (by omega),R.bind_err] at h
      conv=>whnf
      refine ⟨L,ts2,rfl,ho2,?_⟩
      exact m47
     ·rw [Te (by omega)] at h
      conv=>whnf
      refine ⟨L,ts2,rfl,ho2,fun x hx=>?_⟩
      rw [Z0,Th hw7] at hx
      subst hx
      intro a7 hle7 ho7
      have hb7:=ho7.hi
      conv=>whnf
      refine oiO ?_
      conv=>whnf
      refine ⟨_,fun _ _ h=>h,Tb rfl,?_⟩
      conv=>whnf
      refine ⟨L,ts2.tail,rfl,ho7,⟨by omega,by omega,by omega,rfl⟩,fun x hx8=>?_⟩
      exact m38
  ·exact h.elim
 ·exact h.elim
noncomputable def Zvq (d:Nat):Tbl:=[(136,Zim),(137,Zi2),(138,ZhB),(139,ZlZ),(140,Zma d),(141,Vc),(142,WE),(143,Wh),(144,ZeP),(145,ZaI ZF),(146,Zjd d),(81,Xi)]
theorem Zcc (inside:Bool) (d:Nat) (un:Ts→R Un) (f:Nat) (tys:List Ty) (rels:List Re) (rules:List Ru) (comps:List Co) (inits:List Ini) (overs:List Ov) (ts:Ts):ZX inside d un (f+1) (.mk tys rels rules comps inits overs) ts =
  if ts=[]∨(inside=true∧isW ts [[125]]=true) then .ok (.mk tys rels rules comps inits overs) ts
  else if isW ts [[116,121,112,101]]=true then (if tys.length=256 then .err ts.length 3 else (Zb4 ts.tail).bind fun x ts=>ZX inside d un f (.mk (tys++[x]) rels rules comps inits overs) ts)
  else if isW ts [[100,101,99,108]]=true then (if rels.length=256 then .err ts.length 3 else (Zhs ts.tail).bind fun x ts=>ZX inside d un f (.mk tys (rels++[x]) rules comps inits overs) ts)
  else if isW ts [[99,111,109,112]]=true then (if comps.length=64 then .err ts.length 3 else (ZfR d un ts.tail).bind fun x ts=>ZX inside d un f (.mk tys rels rules (comps++[x]) inits overs) ts)
  else if isW ts [[105,110,105,116]]=true then (if inits.length=256 then .err ts.length 3 else (Zhu ts.tail).bind fun x ts=>ZX inside d un f (.mk tys rels rules comps (inits++[x]) overs) ts)
  else if isW ts [[111,118,101,114,114,105,100,101]]=true then (if overs.length=256 then .err ts.length 3 else (Zhv ts.tail).bind fun x ts=>ZX inside d un f (.mk tys rels rules comps inits (overs++[x])) ts)
  else if ZF ts=true then (if rules.length=1024 then .err ts.length 3 else (Zht d true ts).bind fun x ts=>ZX inside d un f (.mk tys rels (rules++[x]) comps inits overs) ts)
  else .err ts.length 150:=rfl
theorem Zvr {d:Nat} (ht:TblOK (GG w0 nG) (Zvq d)):PCalls (GG w0 nG) 70 (Zdz d):=by
 refine pc ht Tryz.func70 ?_
 intro args σ K h
 unfold Zdz Ws at h
 split at h
 ·rename_i rest t rows a en dp
  obtain ⟨L,ts,rfl,ho,h⟩:=h
  split at h
  ·rename_i inside
   obtain ⟨hdp,h⟩:=h
   have h0:=ho.lo
   have h1:=ho.hi
   have h2:=ho.big
   refine ⟨Za [(1,⟨[],[0,1,4],fun vs σ=>∃(tys:List Ty) (rels:List Re) (rules:List Ru) (comps:List Co) (inits:List Ini) (overs:List Ov) (a':Int) (ts':Ts) (f:Nat),vs=[]∧σ=⟨[.cells t [.d (.sl (ZZ L)),.d (.int .i64 a'),.d (.int .i64 en),.d (.int .i64 dp)],.cells 44 [.sl 0 64 (tys.map (Ya (Ze L en))),.sl 1 68 (rels.map (Z8 (Ze L en))),.sl 2 50 (rules.map (Z7 (Ze L en))),.sl 3 71 (comps.map (ZY (Ze L en))),.sl 4 73 (inits.map (Yd (Ze L en))),.sl 5 75 (overs.map (Ye (Ze L en)))]],[5,4,3,2,1,0],6⟩∧ROK L a' ts'∧a≤a'∧ts'.length<f∧(tys.length≤256∧rels.length≤256∧rules.length≤1024∧comps.length≤64∧inits.length≤256∧overs.length≤256)∧RKk (fun (v:Un)=>Zb6 (XK (Ze L en) v)) L en dp a (ZX inside d (ZnI d) f (.mk tys rels rules comps inits overs) ts') (fun pe a' dp'=>K pe ⟨[.cells t [.d (.sl (ZZ L)),.d (.int .i64 a'),.d (.int .i64 en),.d (.int .i64 dp')]],[],0⟩),fun _ σ=>match σ with | ⟨.cells _ [_,.d (.int _ i),_,_]::_,_,_⟩=>((L.length:Int) - i).toNat | _=>0⟩)],1,false,by simp,Tb rfl,?_⟩
   have h:=h _ rfl
   rw [Zvn,Zhw] at h
   conv=>whnf
   refine ⟨⟨[],[],[],[],[],[],a,ts,ts.length+1,rfl,rfl,ho,by omega,by omega,by simp,h⟩,?_⟩
   clear h
   intro vs σ hI
   obtain ⟨tys,rels,rules,comps,inits,overs,a',ts',f,rfl,rfl,ho',hle',hf,hlim,h⟩:=hI
   obtain ⟨f,rfl⟩:∃g,f=g+1:=⟨f - 1,by omega⟩
   rw [Zcc] at h
   have hhi':=ho'.hi
   have hlen':=ho'.len
   have hlo':=ho'.lo
   conv=>whnf
   refine ZEb (fun hc=>?_) (fun hc=>?_)
   ·have hne:ts'≠[]:=by rintro rfl;have hc:a'<((ZZ L).length:Int):=hc;rw [XJ] at hc;simp at hlen';omega
    conv=>whnf
    cases inside with
    | false =>
     rw [Te (by simp [hne])] at h
     exact m1
    | true =>
     conv=>whnf
     refine ⟨L,ts',rfl,ho',[[125]],rfl,by simp,fun b hw=>?_⟩
     cases b with
     | true =>
      rw [Th (.inr ⟨rfl,hw⟩)] at h
      conv=>whnf
      repeat (refine ⟨rfl,?_⟩;conv=>whnf)
      have h:=h _ (by omega) ho'
      simp only [Zb6,XK,Yb,Tw,TF] at h
      exact h
     | false =>
      rw [Te (by simp [hne,hw])] at h
      exact m1
   have hnil:ts'=[]:=by have hc:¬a'<((ZZ L).length:Int):=hc;rw [XJ] at hc;exact Tz (by omega)
   rw [Th (.inl hnil)] at h
   conv=>whnf
   have h:=h _ (by omega) ho'
   simp only [Zb6,XK,Yb,Tw,TF] at h
   exact h
  ·exact h.elim
 ·exact h.elim
end Go.PM.Lex
end

section
namespace Go.PM.Lex
open Go.Proofs
variable {w0:World} {nG:Nat}
theorem ZdA:PCalls (GG w0 nG) 141 Vc:=Zsf ⟨⟨Zbs,XW⟩,trivial⟩
theorem cIs:PCalls (GG w0 nG) 136 Zim:=ZCn ⟨⟨Zbs,XW⟩,⟨ZkF,ZeN⟩,trivial⟩
theorem ZgB:PCalls (GG w0 nG) 145 (ZaI ZF):=Zsh ⟨⟨Zbs,XW⟩,⟨ZkE,Zbr⟩,trivial⟩
theorem Jn:PCalls (GG w0 nG) 81 Xi:=ZuZ ⟨⟨ZdA,YO⟩,trivial⟩
theorem Zcd:PCalls (GG w0 nG) 200 WZ:=Zu1 ⟨⟨cIs,YC⟩,trivial⟩
theorem Zbv:PCalls (GG w0 nG) 143 Wh:=Zu3 ⟨⟨Zcd,ZU⟩,⟨Jn,Zy⟩,trivial⟩
theorem ZCo:PCalls (GG w0 nG) 137 Zi2:=Zu5 ⟨⟨Jn,Zy⟩,trivial⟩
theorem ZaZ:PCalls (GG w0 nG) 142 WE:=Zsj ⟨⟨ZgB,Xx _⟩,⟨Jn,Zy⟩,trivial⟩
theorem ZkR:PCalls (GG w0 nG) 262 (ZaI ZJ):=ZpD ⟨⟨Zbs,XW⟩,⟨cIs,YC⟩,⟨ZkE,Zbr⟩,⟨ZcP,Uk⟩,trivial⟩
theorem ZpW:PCalls (GG w0 nG) 162 ZpE:=ZpF ⟨⟨Zbs,XW⟩,trivial⟩
theorem Zvs:PCalls (GG w0 nG) 259 ZhA:=ZpL ⟨⟨ZaZ,Xa _ _ _⟩,⟨Zbv,ZN⟩,trivial⟩
theorem ZkS:PCalls (GG w0 nG) 201 Jk:=ZpN ⟨⟨cIs,YC⟩,⟨Zi8 ⟨⟨ZgB,Xx _⟩,⟨Jn,Zy⟩,⟨Zvs,Zi4 _ _ _⟩,⟨Zcd,ZU⟩,trivial⟩,ZdR⟩,trivial⟩
theorem ZtO:PCalls (GG w0 nG) 144 ZeP:=Zsl ⟨⟨Zcd,ZU⟩,⟨Znz ⟨⟨ZgB,Xx _⟩,⟨Jn,Zy⟩,⟨ZaZ,Xa _ _ _⟩,⟨Zcd,ZU⟩,trivial⟩,ZfU⟩,⟨Zbv,ZN⟩,trivial⟩
theorem Zy6:PCalls (GG w0 nG) 203 ZkK:=Zsn ⟨⟨ZaZ,Xa _ _ _⟩,⟨Zbv,ZN⟩,⟨ZkS,Jl⟩,trivial⟩
theorem Zy7:PCalls (GG w0 nG) 138 ZhB:=Zsp ⟨⟨ZdA,YO⟩,⟨ZaZ,Xa _ _ _⟩,⟨Zcd,ZU⟩,⟨Zbv,ZN⟩,⟨ZkS,Jl⟩,⟨ZkJ ⟨⟨ZgB,Xx _⟩,⟨Jn,Zy⟩,⟨Zy6,Zi4 _ _ _⟩,⟨Zcd,ZU⟩,trivial⟩,ZeO⟩,trivial⟩
theorem ZCp:PCalls (GG w0 nG) 139 ZlZ:=Zu8 ⟨⟨ZdA,YO⟩,⟨ZaZ,Xa _ _ _⟩,⟨Zcd,ZU⟩,⟨Zbv,ZN⟩,⟨ZkS,Jl⟩,trivial⟩
theorem ZDM:PCalls (GG w0 nG) 253 ZnC:=Zy4 ⟨⟨ZpO ⟨⟨Zcd,ZU⟩,trivial⟩,Zdw⟩,⟨ZpP ⟨⟨Zcd,ZU⟩,trivial⟩,Zdw⟩,trivial⟩
theorem Zjf (h:VA (GG w0 nG).P 261):PCalls (GG w0 nG) 261 (W0 0):=⟨h,fun args σ K hs=>by
 exfalso
 unfold W0 at hs
 split at hs
 ·exact absurd hs.1.2.2.2.2.1 (by omega)
 ·exact hs⟩
theorem Zjg {d:Nat} (h:PCalls (GG w0 nG) 261 (Zb8 d)):PCalls (GG w0 nG) 261 (W0 (d+1)):=h.weaken1 fun args σ K hs=>by
 unfold W0 at hs
 unfold Zb8
 split at hs
 ·obtain ⟨⟨h1,h2,h3,h4,h5,h6,h7⟩,hs⟩:=hs
  exact ⟨⟨h1,h2,h3,h4,by omega,h7⟩,hs⟩
 ·exact hs.elim
theorem ZnJ (d:Nat) (h:VA (GG w0 nG).P 82):PCalls (GG w0 nG) 82 (ZcR d 0):=⟨h,fun args σ K hs=>by
 exfalso
 unfold ZcR Ws at hs
 split at hs
 ·obtain ⟨L,ts,_,_,hs⟩:=hs
  split at hs
  ·exact absurd hs.1.2.1 (by omega)
  ·exact hs
 ·exact hs⟩
theorem ZnK {d j:Nat} (h:PCalls (GG w0 nG) 82 (ZeT d j)):PCalls (GG w0 nG) 82 (ZcR d (j+1)):=h.weaken1 fun args σ K hs=>by
 unfold ZcR Ws at hs
 unfold ZeT Ws
 split at hs
 ·obtain ⟨L,ts,h1,h2,hs⟩:=hs
  refine ⟨L,ts,h1,h2,?_⟩
  split at hs
  ·exact ⟨⟨hs.1.1,hs.1.2.2.1,hs.1.2.2.2.1,by have:=hs.1.2.2.2.2;omega⟩,hs.2⟩
  ·exact hs.elim
 ·exact hs
structure Deep (w0:World) (nG d:Nat):Prop where
 sg:PCalls (GG w0 nG) 161 (Zi9 d)
 ex:PCalls (GG w0 nG) 35 (ZkM d)
 many:PCalls (GG w0 nG) 261 (W0 d)
theorem Zmd {d:Nat} (D:Deep w0 nG d):PCalls (GG w0 nG) 207 (Zdx d):=Zvb ⟨⟨(ZcQ (tb:=Zl2 d) ⟨⟨cIs,YC⟩,⟨Zbv,ZN⟩,⟨Jn,Zy⟩,⟨(ZcQ (tb:=Zl1 d) ⟨⟨cIs,YC⟩,⟨D.many,ZfV d⟩,trivial⟩ Tryz.func260 rfl (by kernel_rfl) (by kernel_rfl)),YL _ _⟩,trivial⟩ Tryz.func204 rfl (by kernel_rfl) (by kernel_rfl)),YL _ _⟩,trivial⟩
theorem Zsw {d:Nat} (D:Deep w0 nG d):PCalls (GG w0 nG) 283 (Zja d):=Zvd ⟨⟨(ZcQ (tb:=Zl4 d) ⟨⟨cIs,YC⟩,⟨Zbv,ZN⟩,⟨Jn,Zy⟩,⟨(Zy3 (tb:=Zl3 d) ⟨⟨Zbv,ZN⟩,⟨D.ex,Zca _ _ _ _⟩,trivial⟩ Tryz.func313 rfl (by kernel_rfl) (by kernel_rfl)),ZnB _ _ _⟩,trivial⟩ Tryz.func204 rfl (by kernel_rfl) (by kernel_rfl)),YL _ _⟩,trivial⟩
theorem ZkT {d:Nat} (D:Deep w0 nG d):PCalls (GG w0 nG) 229 (Zcb d):=ZnG ⟨⟨ZkR,Xx _⟩,⟨Jn,Zy⟩,⟨Zbs,XW⟩,⟨(ZcQ (tb:=Zl6 d) ⟨⟨cIs,YC⟩,⟨Zbv,ZN⟩,⟨Jn,Zy⟩,⟨(ZcQ (tb:=Zl5 d) ⟨⟨D.ex,Zca _ _ _ _⟩,trivial⟩ Tryz.func282 rfl (by kernel_rfl) (by kernel_rfl)),YL _ _⟩,trivial⟩ Tryz.func204 rfl (by kernel_rfl) (by kernel_rfl)),YL _ _⟩,⟨Zmd D,Zbt d⟩,⟨ZaZ,Xa _ _ _⟩,⟨cIs,YC⟩,⟨ZcP,Uk⟩,⟨Zsw D,ZkN d⟩,trivial⟩
theorem ZcT {d:Nat} (D:Deep w0 nG d):PCalls (GG w0 nG) 161 (ZdZ d):=ZpR ⟨⟨ZdA,YO⟩,⟨cIs,YC⟩,⟨(ZcQ (tb:=Zl8 d) ⟨⟨cIs,YC⟩,⟨Zbv,ZN⟩,⟨Jn,Zy⟩,⟨(ZcQ (tb:=Zl7 d) ⟨⟨D.sg,Zca _ _ _ _⟩,trivial⟩ Tryz.func228 rfl (by kernel_rfl) (by kernel_rfl)),YL _ _⟩,trivial⟩ Tryz.func204 rfl (by kernel_rfl) (by kernel_rfl)),YL _ _⟩,⟨ZkT D,Wi _ _ _ _⟩,trivial⟩
theorem Zme {d:Nat} (D:Deep w0 nG d):∀j,PCalls (GG w0 nG) 82 (ZeT d j)
 | 0=>ZpT ⟨⟨ZcT D,Wi _ _ _ _⟩,⟨ZpW,Zgz⟩,⟨ZnJ d (Zi Tryz.func82 (by kernel_rfl) rfl),Zdy d 0⟩,trivial⟩
 | j+1=>ZpT ⟨⟨ZcT D,Wi _ _ _ _⟩,⟨ZpW,Zgz⟩,⟨ZnK (Zme D j),Zdy d (j+1)⟩,trivial⟩
theorem ZhF {d:Nat} (D:Deep w0 nG d):PCalls (GG w0 nG) 35 (ZeS d):=Zvh ⟨⟨Zme D 6,ZkO d 6⟩,trivial⟩
theorem ZpX {d:Nat} (h:PCalls (GG w0 nG) 35 (ZeS d)):PCalls (GG w0 nG) 261 (Zb8 d):=ZpH d ⟨⟨ZkR,Xx _⟩,⟨Jn,Zy⟩,⟨h,Wi _ _ _ _⟩,⟨Zcd,ZU⟩,trivial⟩
theorem Zy8:∀d,Deep w0 nG d
 | 0=>⟨ZeQ (Zi Tryz.func161 (by kernel_rfl) rfl),ZeQ (Zi Tryz.func35 (by kernel_rfl) rfl),Zjf (Zi Tryz.func261 (by kernel_rfl) rfl)⟩
 | d+1=>⟨ZeR (ZcT (Zy8 d)),ZeR (ZhF (Zy8 d)),Zjg (ZpX (ZhF (Zy8 d)))⟩
theorem Zy9 (d:Nat):PCalls (GG w0 nG) 207 (Zdx d):=Zmd (Zy8 d)
theorem Zza (d:Nat):PCalls (GG w0 nG) 35 (ZeS d):=ZhF (Zy8 d)
theorem Zzb:PCalls (GG w0 nG) 264 (Zi5 Yq):=Zsu ⟨⟨ZkR,Xx _⟩,⟨cIs,YC⟩,trivial⟩
theorem Zvt {d:Nat} (h:PCalls (GG w0 nG) 208 (ZhD d)):PCalls (GG w0 nG) 265 (Zvi d):=Zy5 ⟨⟨ZdA,YO⟩,⟨Zcd,ZU⟩,⟨Zbs,XW⟩,⟨ZgB,Xx _⟩,⟨ZaZ,Xa _ _ _⟩,⟨Zy9 d,Zbt d⟩,⟨Zza d,Wi _ _ _ _⟩,⟨ZDM,ZnD⟩,⟨Jn,Zy⟩,⟨Zbv,ZN⟩,⟨(ZcQ (tb:=ZpV d) ⟨⟨cIs,YC⟩,⟨Zbv,ZN⟩,⟨Jn,Zy⟩,⟨(ZcQ (tb:=ZpU d) ⟨⟨h,Zca _ _ _ _⟩,trivial⟩ Tryz.func302 rfl (by kernel_rfl) (by kernel_rfl)),YL _ _⟩,trivial⟩ Tryz.func204 rfl (by kernel_rfl) (by kernel_rfl)),YL _ _⟩,trivial⟩
theorem Zmf {d:Nat} (h:PCalls (GG w0 nG) 208 (ZhD d)):PCalls (GG w0 nG) 208 (Zjc d):=Zvk ⟨⟨ZpJ d ⟨⟨Zzb,ZkH _⟩,⟨Jn,Zy⟩,⟨Zvt h,Wi _ _ _ _⟩,⟨Zcd,ZU⟩,trivial⟩,Zhz d⟩,trivial⟩
theorem ZtP:∀d,PCalls (GG w0 nG) 208 (ZhD d)
 | 0=>ZeQ (Zi Tryz.func208 (by kernel_rfl) rfl)
 | d+1=>ZeR (Zmf (ZtP d))
theorem ZCq (d:Nat):PCalls (GG w0 nG) 208 (Zjc d):=Zmf (ZtP d)
theorem ZCr (d:Nat):PCalls (GG w0 nG) 146 (Zjd d):=Zvm ⟨⟨ZdA,YO⟩,⟨ZaZ,Xa _ _ _⟩,⟨Zy9 d,Zbt d⟩,⟨Zcd,ZU⟩,⟨ZCq d,Wi _ _ _ _⟩,⟨Zbv,ZN⟩,trivial⟩
theorem ZnL (h:VA (GG w0 nG).P 70):PCalls (GG w0 nG) 70 (Jm 0):=⟨h,fun args σ K hs=>by
 exfalso
 unfold Jm Ws at hs
 split at hs
 ·obtain ⟨L,ts,_,_,hs⟩:=hs
  split at hs
  ·exact absurd hs.1.1 (by omega)
  ·exact hs
 ·exact hs⟩
theorem ZnM {d:Nat} (h:PCalls (GG w0 nG) 70 (Zdz d)):PCalls (GG w0 nG) 70 (Jm (d+1)):=h.weaken1 fun args σ K hs=>by
 unfold Jm Ws at hs
 unfold Zdz Ws
 split at hs
 ·obtain ⟨L,ts,h1,h2,hs⟩:=hs
  refine ⟨L,ts,h1,h2,?_⟩
  split at hs
  ·obtain ⟨⟨g1,g2,g3,rfl⟩,hs⟩:=hs
   refine ⟨by omega,?_⟩
   rw [ZnI,Zsv] at hs
   exact hs
  ·exact hs.elim
 ·exact hs
theorem Zsx {d:Nat} (h:PCalls (GG w0 nG) 70 (Jm d)):PCalls (GG w0 nG) 140 (Zma d):=Zvp ⟨⟨ZdA,YO⟩,⟨ZaZ,Xa _ _ _⟩,⟨ZtO,Xa _ _ _⟩,⟨Zcd,ZU⟩,⟨(ZcQ (tb:=Zmc d) ⟨⟨cIs,YC⟩,⟨Zbv,ZN⟩,⟨Jn,Zy⟩,⟨(ZcQ (tb:=Zmb d) ⟨⟨h,Zje d⟩,trivial⟩ Tryz.func205 rfl (by kernel_rfl) (by kernel_rfl)),YL _ _⟩,trivial⟩ Tryz.func204 rfl (by kernel_rfl) (by kernel_rfl)),YL _ _⟩,trivial⟩
theorem Zmg {d:Nat} (h:PCalls (GG w0 nG) 70 (Jm d)):PCalls (GG w0 nG) 70 (Zdz d):=Zvr ⟨⟨cIs,YC⟩,⟨ZCo,ZkD⟩,⟨Zy7,Xa _ _ _⟩,⟨ZCp,Xa _ _ _⟩,⟨Zsx h,Wi _ _ _ _⟩,⟨ZdA,YO⟩,⟨ZaZ,Xa _ _ _⟩,⟨Zbv,ZN⟩,⟨ZtO,Xa _ _ _⟩,⟨ZgB,Xx _⟩,⟨ZCr d,ZkP d⟩,⟨Jn,Zy⟩,trivial⟩
theorem ZtQ:∀d,PCalls (GG w0 nG) 70 (Jm d)
 | 0=>ZnL (Zi Tryz.func70 (by kernel_rfl) rfl)
 | d+1=>ZnM (Zmg (ZtQ d))
theorem ZCs (d:Nat):PCalls (GG w0 nG) 70 (Zdz d):=Zmg (ZtQ d)
end Go.PM.Lex
end

section
namespace Go.PM.Lex
open Go.Proofs
def R.good {α:Type} (x:R α):Prop:=match x with | .ok _ _=>True | .err _ e=>e≠0
theorem ZEd {α β:Type} {x:R α} {f:α→Ts→R β} (h:x.good) (hf:∀a ts,(f a ts).good):(x.bind f).good:=by
 cases x with
 | ok a ts=>exact hf a ts
 | err r e=>exact h
theorem ZEs {α:Type} (a:α) (ts:Ts):(R.ok a ts:R α).good:=trivial
theorem ZEe {α:Type} {c:Prop} [Decidable c] {x y:R α} (h1:x.good) (h2:y.good):(if c then x else y).good:=by split;exact h1;exact h2
theorem ZEh {α:Type} {r e:Nat} (h:e≠0):(R.err r e:R α).good:=h
theorem YD (w:Bs) (ts:Ts):(Z0 w ts).good:=ZEe trivial (ZEh (by decide))
theorem Z1 (ts:Ts):(Xw ts).good:=ZEe trivial (ZEh (by decide))
theorem Xj {α:Type} {d:Nat} {fr tw:Bs} {read:Ts→R α} (h:∀ts,(read ts).good) (ts:Ts):(Zo d fr tw read ts).good :=
 ZEe (ZEe (ZEh (by decide)) (ZEd (h _) fun _ _=>ZEe trivial (ZEd (YD _ _) fun _ _=>trivial))) (ZEh (by decide))
theorem ZeW {α:Type} {sign:Bs} {most:Nat} {st:Ts→Bool} {one:Ts→R α} (h:∀ts,(one ts).good):∀f l ts,(XB sign most st one f l ts).good
 | 0,_,_=>ZEh (by decide)
 | f+1,l,ts=>ZEe (ZEh (by decide)) (ZEd (h _) fun _ _=>ZEe (ZeW h f _ _) trivial)
theorem UM {α:Type} {sign:Bs} {most:Nat} {st:Ts→Bool} {one:Ts→R α} (h:∀ts,(one ts).good) (ts:Ts):(Wf sign most st one ts).good:=ZeW h _ _ _
theorem ZnN (ts:Ts):(VH ts).good:=ZEd (Z1 _) fun _ _=>ZEd (YD _ _) fun _ _=>ZEd (Z1 _) fun _ _=>trivial
theorem Zbw (w:Bs) (ts:Ts):(W9 w ts).good:=ZEe trivial (UM ZnN _)
theorem ZcU (ts:Ts):(JE ts).good:=ZEe (ZEd (UM Z1 _) fun _ _=>ZEd (YD _ _) fun _ _=>trivial) trivial
theorem ZpY (ts:Ts):(Zbn ts).good:=ZEd (Z1 _) fun _ _=>ZEd (YD _ _) fun _ _=>ZEd (Zbw _ _) fun _ _=>ZEd (YD _ _) fun _ _=>trivial
theorem ZnO (ts:Ts):(Zb4 ts).good:=ZEd (Z1 _) fun _ _=>ZEe (ZEd (Z1 _) fun _ _=>trivial) (ZEd (YD _ _) fun _ _ =>
 ZEe (ZEd (Zbw _ _) fun _ _=>ZEd (YD _ _) fun _ _=>trivial) (ZEd (UM ZpY _) fun _ _=>trivial))
theorem ZpZ (ts:Ts):(Zhs ts).good:=ZEd (Z1 _) fun _ _=>ZEd (YD _ _) fun _ _=>ZEd (Zbw _ _) fun _ _=>ZEd (YD _ _) fun _ _=>trivial
theorem Zce {d:Nat} {ex:Ts→R Ex} (h:∀ts,(ex ts).good) (fr tw:Bs) (ts:Ts):(ZaH d ex fr tw ts).good:=by
 unfold ZaH
 exact Xj (fun ts=>ZEe (ZEs _ _) (UM h _)) ts
theorem ZeX {ex:Ts→R Ex} (h:∀ts,(ex ts).good):∀k l ts,(WY ex k l ts).good
 | 0,_,_=>trivial
 | k+1,l,ts=>ZEd (ZEe trivial (YD _ _)) fun _ _=>ZEd (h _) fun _ _=>ZeX h k _ _
theorem Zjh {d:Nat} {ex:Ts→R Ex} (h:∀ts,(ex ts).good) (ts:Ts):(Wg d ex ts).good :=
 ZEe (ZEh (by decide)) <| ZEe trivial <| ZEe trivial <| ZEe (Xj h _) <| ZEe (ZEd (Zce h _ _ _) fun _ _=>trivial) <|
 ZEe (ZEd (Z1 _) fun _ _=>ZEe (ZEd (Zce h _ _ _) fun _ _=>trivial) trivial) <|
 ZEe (ZEd (Xj (ZeX h _ _) _) fun _ _=>trivial) <| ZEe trivial <| ZEe trivial trivial
theorem ZeY {sub:Nat→Ts→R Ex} (h:∀n ts,(sub n ts).good) (least:Nat):∀f e ts,(VI sub least f e ts).good
 | 0,_,_=>ZEh (by decide)
 | f+1,e,ts=>ZEe trivial (ZEd (h _ _) fun _ _=>ZeY h least f _ _)
theorem ZcV {sg:Ts→R Ex} (h:∀ts,(sg ts).good):∀k least ts,(Va sg k least ts).good
 | 0,_,_=>h _
 | k+1,least,ts=>ZEd (h _) fun _ _=>ZeY (fun n ts=>ZcV h k n ts) _ _ _ _
theorem ZdB {d:Nat} {sg:Ts→R Ex} (h:∀ts,(sg ts).good) (ts:Ts):(Vb d sg ts).good :=
 ZEe (ZEd (Xj h _) fun _ _=>trivial) <| ZEe (ZEd (Xj h _) fun _ _=>trivial) (Zjh (fun ts=>ZcV h _ _ _) _)
theorem ZeZ:∀d ts,(Yp d ts).good
 | 0,ts=>ZdB (fun _=>(ZEh (by decide))) ts
 | d+1,ts=>ZdB (ZeZ d) ts
theorem Zcf (d:Nat) (ts:Ts):(Vp d ts).good:=ZcV (ZeZ d) _ _ _
theorem ZgC:∀d ts,(Zbp d ts).good
 | 0,_=>(ZEh (by decide))
 | d+1,ts=>Zcf d ts
theorem ZnP (ts:Ts):(Ui ts).good:=by
 unfold Ui
 split
 ·exact ZEh (by decide)
 ·split <;> trivial
 ·trivial
theorem ZdC (d op a:Nat) (ts:Ts):(Ji d op a ts).good:=ZEd (Z1 _) fun _ _=>ZEd (Zce (ZgC d) _ _ _) fun _ _=>trivial
theorem Ze0 {d:Nat} {bd:Ts→R (List Li)} (h:∀ts,(bd ts).good) (a op:Nat) (l:List Ex) (ts:Ts):(XC d bd a op l ts).good :=
 ZEe (ZEd (YD _ _) fun _ _=>ZEd (Xj h _) fun _ _=>trivial) trivial
theorem Zmh {d:Nat} {bd:Ts→R (List Li)} (h:∀ts,(bd ts).good) (ts:Ts):(Zdu d bd ts).good :=
 ZEe (ZdC _ _ _ _) <| ZEe (ZdC _ _ _ _) <| ZEd (Zcf _ _) fun _ _=>ZEd (ZnP _) fun _ _=>ZEe (Ze0 h _ _ _ _) (ZEd (Zcf _ _) fun _ _=>Ze0 h _ _ _ _)
theorem Zji:∀d ts,(ZfQ d ts).good
 | 0,ts=>UM (Zmh fun _=>(ZEh (by decide))) ts
 | d+1,ts=>UM (Zmh (Zji d)) ts
theorem Zp0 (d:Nat) (b:Bool) (ts:Ts):(Zht d b ts).good:=ZEd (Z1 _) fun _ _=>ZEd (Zce (ZgC d) _ _ _) fun _ _ =>
 ZEe (ZEd (Zji _ _) fun _ _=>ZEd (YD _ _) fun _ _=>trivial) (ZEd (YD _ _) fun _ _=>trivial)
theorem Zp1 {d:Nat} {un:Ts→R Un} (h:∀ts,(un ts).good) (ts:Ts):(ZfR d un ts).good:=ZEd (Z1 _) fun _ _=>ZEd (ZcU _) fun _ _ =>
 ZEe (ZEd (Z1 _) fun _ _=>ZEd (ZcU _) fun _ _=>ZEd (Xj h _) fun _ _=>trivial) (ZEd (Xj h _) fun _ _=>trivial)
theorem Zp2 (ts:Ts):(Zhu ts).good:=ZEd (Z1 _) fun _ _=>ZEd (YD _ _) fun _ _=>ZEd (Z1 _) fun _ _=>ZEd (ZcU _) fun _ _=>trivial
theorem Zp3 (ts:Ts):(Zhv ts).good:=ZEd (Z1 _) fun _ _=>trivial
theorem YQ {b:Bool} {d:Nat} {un:Ts→R Un} (h:∀ts,(un ts).good):∀f u ts,(ZX b d un f u ts).good
 | 0,_,_=>ZEh (by decide)
 | f+1,.mk tys rels rules comps inits overs,ts=>by
  rw [Zcc]
  exact ZEe trivial <| ZEe (ZEe (ZEh (by decide)) (ZEd (ZnO _) fun _ _=>YQ h f _ _)) <| ZEe (ZEe (ZEh (by decide)) (ZEd (ZpZ _) fun _ _=>YQ h f _ _)) <|
   ZEe (ZEe (ZEh (by decide)) (ZEd (Zp1 h _) fun _ _=>YQ h f _ _)) <| ZEe (ZEe (ZEh (by decide)) (ZEd (Zp2 _) fun _ _=>YQ h f _ _)) <|
   ZEe (ZEe (ZEh (by decide)) (ZEd (Zp3 _) fun _ _=>YQ h f _ _)) <| ZEe (ZEe (ZEh (by decide)) (ZEd (Zp0 _ _ _) fun _ _=>YQ h f _ _)) (ZEh (by decide))
theorem ZgD:∀d ts,(Zhx d ts).good
 | 0,ts=>YQ (fun _=>(ZEh (by decide))) _ _ _
 | d+1,ts=>YQ (ZgD d) _ _ _
theorem ZdD (ts:Ts):(VJ ts).good:=YQ (ZgD 63) _ _ _
theorem ZnQ {a:Nat} {r:Bs} {room:Bool} {t:Tok} (h:WU a r room=.tok t):room=true:=by
 cases room with
 | true=>rfl
 | false =>
  unfold WU at h
  simp only at h
  split at h
  ·cases h
  ·simp at h
theorem Zmi:∀(f:Nat) (m:Int) (a:Nat) (r:Bs),(XS f m a r).1.length≤m.toNat
 | 0,m,a,r=>by simp [XS]
 | f+1,m,a,r=>by
  unfold XS
  split
  ·simp
  ·simp only
   split
   ·simp
   ·split
    ·simp
    ·rename_i t ht
     have hr:=ZnQ ht
     rw [TJ] at hr
     have:=Zmi f (m - 1) t.fin ((r.drop (ZP r).2).drop (t.fin - (a+(ZP r).2)))
     simp only [Tc]
     omega
theorem ZhG (s:Bs) (m:Int):(ZdO s m).1.length≤m.toNat:=Zmi _ _ _ _
inductive Top (α:Type) where
 | ok (v:α) (L:List Tok) | err (p:Int) (e:Nat)
def Y5 {α:Type} (bytes most:Nat) (P:Ts→R α) (s:Bs):Top α :=
 if bytes<s.length then .err 0 3
 else if (ZdO s most).2.2≠0 then .err (ZdO s most).2.1 (ZdO s most).2.2
 else match P ((ZdO s most).1.map Tok.t0) with
  | .ok v []=>.ok v (ZdO s most).1
  | .ok v (_::ts)=>.err (Ze (ZdO s most).1 s.length (ts.length+1)) 150
  | .err r e=>.err (Ze (ZdO s most).1 s.length r) e
theorem Zbx {α:Type} {bytes most:Nat} {P:Ts→R α} (hP:∀ts,(P ts).good) {s:Bs} {p:Int} {e:Nat} (h:Y5 bytes most P s=.err p e):e≠0:=by
 unfold Y5 at h
 split at h
 ·cases h;decide
 ·split at h
  ·rename_i hn;cases h;exact hn
  ·split at h
   ·cases h
   ·cases h;decide
   ·rename_i r e' he
    cases h
    have:=hP ((ZdO s most).1.map Tok.t0)
    rw [he] at this;exact this
end Go.PM.Lex
end

section
namespace Go.PM.Lex
open Go.Proofs
variable {w0:World} {nG:Nat}
noncomputable def Ze1:Zz:=fun args σ K=>match args,σ with
 | [.d (.str s),.d (.int .i64 m)],⟨[],[],0⟩=>s.length<4294967281 ∧
   ∀l p c,ZdO s m=(l,(p,c))→(c=0→K (.ret (.tuple [.d (.sl (ZZ l)),.d (.int .i64 p),.d (.int .i64 0)])) ⟨[],[],0⟩) ∧
    (c≠0→K (.ret (.tuple [.d (.sl []),.d (.int .i64 p),.d (.int .i64 c)])) ⟨[],[],0⟩)
 | _,_=>False
theorem Ze2:Zc Ze1:=fun args σ K K' hK h=>by
 unfold Ze1 at h ⊢
 split at h
 ·exact ⟨h.1,fun l p c hx=>⟨fun g=>hK _ _ ((h.2 l p c hx).1 g),fun g=>hK _ _ ((h.2 l p c hx).2 g)⟩⟩
 ·exact h.elim
theorem Zvu (h:PCalls (GG w0 nG) 79 Zb3):PCalls (GG w0 nG) 79 Ze1:=h.weaken1 fun args σ K hs=>by
 unfold Ze1 at hs
 unfold Zb3
 split at hs
 ·rename_i s m
  obtain ⟨h1,hs⟩:=hs
  refine ⟨h1,?_⟩
  have hs:=hs (ZdO s m).1 (ZdO s m).2.1 (ZdO s m).2.2 rfl
  by_cases hc:(ZdO s m).2.2=0
  ·rw [Th hc,hc];exact hs.1 hc
  ·rw [Te hc];exact hs.2 hc
 ·exact hs.elim
noncomputable def recOf:Nat×Nat×Code:=match ZBR (VY Tryz.f80) with | some x=>x | none=>(0,0,.skip)
noncomputable def Zzc:List PV→St→(St→Prop)→Prop:=fun args σ K=>args.length≤Tryz.f80.ntmps∧W (ctx Zkv [] (Za [])) recOf.2.2 (Zy1 Zkv Tryz.f80 σ.bx.length K) (ZaM (ZaM (ZfH 0 args) recOf.1 (.d .nili)) recOf.2.1 (.d .nili)) σ
noncomputable def Zzd:PV→List PV→St→(St→Prop)→Prop:=fun pv args σ K=>args.length≤Tryz.f80.ntmps∧W (ctx Zkv [] (Za [])) recOf.2.2 (Zy1 Zkv Tryz.f80 σ.bx.length K) (ZaM (ZaM (ZfH 0 args) recOf.1 pv) recOf.2.1 pv) σ
theorem ZtR:PDef (GG w0 nG) 80 Zzc Zzd :=
 ZuU (a:=recOf.1) (b:=recOf.2.1) (rest:=recOf.2.2) XI mixed (tbl:=[]) trivial Tryz.func80 rfl (by kernel_rfl) rfl (by kernel_rfl) (fun args σ K h=>⟨Za [],σ.bx.length,Tr _,h.1,h.2⟩) (fun pv args σ K h=>⟨Za [],σ.bx.length,Tr _,h.1,h.2⟩)
def WhK {α:Type} (tU:TypeId) (enc:List Tok→Int→α→List PV) (bad:List PV→Prop) (n:Int) (x:Top α) (K:PEnd→St→Prop):Prop:=match x with
 | .ok v L=>K (.ret (.tuple [.d (.int .i64 0),.d (.int .i64 0)])) ⟨[.cells tU (enc L n v)],[],0⟩
 | .err p e=>∀cs,bad cs→K (.ret (.tuple [.d (.int .i64 p),.d (.int .i64 e)])) ⟨[.cells tU cs],[],0⟩
theorem Zmj {α:Type} {tU:TypeId} {enc:List Tok→Int→α→List PV} {bad:List PV→Prop} {n:Int} {x:Top α} {K K':PEnd→St→Prop} (hK:∀e σ,K e σ→K' e σ) (h:WhK tU enc bad n x K):WhK tU enc bad n x K':=by
 cases x with
 | ok v L=>exact hK _ _ h
 | err p e=>exact fun cs hb=>hK _ _ (h cs hb)
theorem Zjj {l:List Tok} (h:l.length≤1048576):ROK l 0 (l.map Tok.t0):=⟨by omega,by omega,h,by simp [tz]⟩
def ZDN (cs:List PV):Prop:=∃a b c d e f:List (List D),cs=[.d (.sl a),.d (.sl b),.d (.sl c),.d (.sl d),.d (.sl e),.d (.sl f)]
def ZDO (cs:List PV):Prop:=∃(a:Int) (b:Bs) (c:Int) (d:List (List D)) (e:Int),cs=[.d (.int .u8 a),.d (.str b),.d (.int .i64 c),.d (.sl d),.d (.int .i64 e)]
noncomputable def Zmk:Tbl:=[(70,Zdz 64)]
noncomputable def Zml:Tbl:=[(35,ZeS 64)]
noncomputable def Zp4:Zz:=fun args σ K=>match args,σ with
 | [.d (.str s),.d (.int .i64 by'),.d (.int .i64 most),.func g [] [.ptr 0 0]],⟨[.cells tU c0],tk,n⟩=>(g=69∧by'=65536∧most=16384∧c0=[.sl 0 64 [],.sl 1 68 [],.sl 2 50 [],.sl 3 71 [],.sl 4 73 [],.sl 5 75 []]∧tk=[5,4,3,2,1,0]∧n=6)∧s.length<4294967281 ∧
   ∀x,Y5 65536 16384 VJ s=x→WhK tU (fun L n (v:Un)=>(XK (Ze L n) v).map .d) ZDN s.length x K
 | _,_=>False
theorem ZnR:Zc Zp4:=fun args σ K K' hK h=>by
 unfold Zp4 at h ⊢
 split at h
 ·exact ⟨h.1,h.2.1,fun x hx=>Zmj hK (h.2.2 x hx)⟩
 ·exact h.elim
noncomputable def ZtS:Tbl:=[(79,Ze1),(69,ZkL Tryz.f69 Zmk),(81,Xi)]
theorem Zp5 (ht:TblOK (GG w0 nG) ZtS):PCalls (GG w0 nG) 33 Zp4:=by
 refine ZpA XI mixed (tbl:=ZtS) ht Tryz.func33 rfl (by kernel_rfl) (by kernel_rfl) ZtR ?_
 intro args σ K h
 unfold Zp4 at h
 split at h
 ·obtain ⟨⟨rfl,rfl,rfl,rfl,rfl,rfl⟩,hs,h⟩:=h
  rename_i s tU
  have h:=h _ rfl
  refine ⟨Za [],ZbX [],VW [],1,false,by simp,Tb rfl,?_⟩
  unfold Y5 at h
  conv=>whnf
  refine ZEb (fun hc=>?_) (fun hc=>?_)
  ·rw [Th (by omega)] at h
   conv=>whnf
   exact h _ ⟨_,_,_,_,_,_,rfl⟩
  rw [Te (by omega)] at h
  conv=>whnf
  refine ⟨hs,fun l p c hx=>?_⟩
  have hlen:=ZhG s 16384
  rw [show ((16384:Nat):Int)=16384 from rfl,hx] at h
  rw [hx] at hlen
  refine ⟨fun h0=>?_,fun h0=>?_⟩
  ·subst h0
   rw [Te (by simp)] at h
   simp only at h hlen
   have ho:=Zjj (l:=l) (by simp at hlen;omega)
   clear hx hlen
   generalize hts:l.map Tok.t0=ts at h ho
   conv=>whnf
   refine ⟨_,fun _ _ h=>h,Tb rfl,?_⟩
   conv=>whnf
   refine ⟨l,ts,rfl,ho,by omega,fun x hx=>?_⟩
   rw [show VJ ts=Zvn false 64 ts from rfl,hx] at h
   rcases x with ⟨⟨v1,v2,v3,v4,v5,v6⟩,ts2⟩ | ⟨r,e⟩
   rotate_left
   ·intro a9 d9;(conv=>whnf);refine ⟨Tb rfl,?_⟩;(conv=>whnf);(repeat (refine ⟨rfl,?_⟩;conv=>whnf));exact h _ ⟨_,_,_,_,_,_,rfl⟩
   intro a2 hle2 ho2
   conv=>whnf
   have hl2:=ho2.len
   (repeat (refine ⟨rfl,?_⟩;conv=>whnf))
   refine ZEb (fun hc3=>?_) (fun hc3=>?_)
   ·have hc3:a2<l.length:=by have hc3:a2<((ZZ l).length:Int):=hc3;rw [XJ] at hc3;exact hc3
    cases ts2 with
    | nil=>simp at hl2;omega
    | cons t0 ts3 =>
     conv=>whnf
     refine ⟨l,_,rfl,ho2,?_⟩
     conv=>whnf
     refine ⟨Tb rfl,?_⟩
     conv=>whnf
     (repeat (refine ⟨rfl,?_⟩;conv=>whnf))
     exact h _ ⟨_,_,_,_,_,_,rfl⟩
   exact m172
  rw [Th h0] at h
  conv=>whnf
  refine ZEf (fun hc2=>?_) (fun hc2=>absurd (show c=0 by omega) h0)
  conv=>whnf
  (repeat (refine ⟨rfl,?_⟩;conv=>whnf))
  exact h _ ⟨_,_,_,_,_,_,rfl⟩
 ·exact h.elim
noncomputable def Zp6:Zz:=fun args σ K=>match args,σ with
 | [.d (.str s),.d (.int .i64 by'),.d (.int .i64 most),.func g [] [.ptr 0 0]],⟨[.cells tU c0],tk,n⟩=>(g=34∧by'=65536∧most=16384∧c0=[.d (.int .u8 0),.d (.str []),.d (.int .i64 0),.sl 0 24 [],.d (.int .i64 0)]∧tk=[0]∧n=1)∧s.length<4294967281 ∧
   ∀x,Y5 65536 16384 (Vp 64) s=x→WhK tU (fun L n (v:Ex)=>(YE (Ze L n) v).map .d) ZDO s.length x K
 | _,_=>False
theorem ZnS:Zc Zp6:=fun args σ K K' hK h=>by
 unfold Zp6 at h ⊢
 split at h
 ·exact ⟨h.1,h.2.1,fun x hx=>Zmj hK (h.2.2 x hx)⟩
 ·exact h.elim
noncomputable def ZtT:Tbl:=[(79,Ze1),(34,ZkL Tryz.f34 Zml),(81,Xi)]
theorem Zp7 (ht:TblOK (GG w0 nG) ZtT):PCalls (GG w0 nG) 33 Zp6:=by
 refine ZpA XI mixed (tbl:=ZtT) ht Tryz.func33 rfl (by kernel_rfl) (by kernel_rfl) ZtR ?_
 intro args σ K h
 unfold Zp6 at h
 split at h
 ·obtain ⟨⟨rfl,rfl,rfl,rfl,rfl,rfl⟩,hs,h⟩:=h
  rename_i s tU
  have h:=h _ rfl
  refine ⟨Za [],ZbX [],VW [],1,false,by simp,Tb rfl,?_⟩
  unfold Y5 at h
  conv=>whnf
  refine ZEb (fun hc=>?_) (fun hc=>?_)
  ·rw [Th (by omega)] at h
   conv=>whnf
   exact h _ ⟨_,_,_,_,_,rfl⟩
  rw [Te (by omega)] at h
  conv=>whnf
  refine ⟨hs,fun l p c hx=>?_⟩
  have hlen:=ZhG s 16384
  rw [show ((16384:Nat):Int)=16384 from rfl,hx] at h
  rw [hx] at hlen
  refine ⟨fun h0=>?_,fun h0=>?_⟩
  ·subst h0
   rw [Te (by simp)] at h
   simp only at h hlen
   have ho:=Zjj (l:=l) (by simp at hlen;omega)
   clear hx hlen
   generalize hts:l.map Tok.t0=ts at h ho
   conv=>whnf
   refine ⟨_,fun _ _ h=>h,Tb rfl,?_⟩
   conv=>whnf
   refine ⟨l,ts,rfl,ho,by omega,fun x hx=>?_⟩
   rw [hx] at h
   rcases x with ⟨⟨v1,v2,v3,v4,v5⟩,ts2⟩ | ⟨r,e⟩
   rotate_left
   ·intro a9 d9;(conv=>whnf);refine ⟨Tb rfl,?_⟩;(conv=>whnf);(repeat (refine ⟨rfl,?_⟩;conv=>whnf));exact h _ ⟨_,_,_,_,_,rfl⟩
   intro a2 hle2 ho2
   conv=>whnf
   have hl2:=ho2.len
   (repeat (refine ⟨rfl,?_⟩;conv=>whnf))
   refine ZEb (fun hc3=>?_) (fun hc3=>?_)
   ·have hc3:a2<l.length:=by have hc3:a2<((ZZ l).length:Int):=hc3;rw [XJ] at hc3;exact hc3
    cases ts2 with
    | nil=>simp at hl2;omega
    | cons t0 ts3 =>
     conv=>whnf
     refine ⟨l,_,rfl,ho2,?_⟩
     conv=>whnf
     refine ⟨Tb rfl,?_⟩
     conv=>whnf
     (repeat (refine ⟨rfl,?_⟩;conv=>whnf))
     exact h _ ⟨_,_,_,_,_,rfl⟩
   exact m172
  rw [Th h0] at h
  conv=>whnf
  refine ZEf (fun hc2=>?_) (fun hc2=>absurd (show c=0 by omega) h0)
  conv=>whnf
  (repeat (refine ⟨rfl,?_⟩;conv=>whnf))
  exact h _ ⟨_,_,_,_,_,rfl⟩
 ·exact h.elim
end Go.PM.Lex
end

section
namespace Go.PM.Lex
open Go.Proofs
variable {w0:World} {nG:Nat}
def Zsy {α:Type} (enc:List Tok→α→PV) (zero:PV) (x:Top α) (K:PEnd→St→Prop):Prop:=match x with
 | .ok v L=>K (.ret (.tuple [enc L v,.d (.int .i64 0),.d (.int .i64 0)])) ⟨[],[],0⟩
 | .err p e=>K (.ret (.tuple [zero,.d (.int .i64 p),.d (.int .i64 e)])) ⟨[],[],0⟩
theorem Zjk {α:Type} {enc:List Tok→α→PV} {zero:PV} {x:Top α} {K K':PEnd→St→Prop} (hK:∀e σ,K e σ→K' e σ) (h:Zsy enc zero x K):Zsy enc zero x K':=by
 cases x <;> exact hK _ _ h
noncomputable def Ze3:Zz:=fun args σ K=>match args,σ with
 | [.d (.str s)],⟨[],[],0⟩=>s.length<4294967281∧∀x,Y5 65536 16384 VJ s=x→Zsy (fun L (v:Un)=>Zb6 (XK (Ze L s.length) v)) (Zb6 (XK (fun _=>0) .nil)) x K
 | _,_=>False
theorem Ze4:Zc Ze3:=fun args σ K K' hK h=>by
 unfold Ze3 at h ⊢
 split at h
 ·exact ⟨h.1,fun x hx=>Zjk hK (h.2 x hx)⟩
 ·exact h.elim
noncomputable def Zvv:Tbl:=[(33,Zp4)]
theorem Zvw (ht:TblOK (GG w0 nG) Zvv):PCalls (GG w0 nG) 28 Ze3:=by
 refine pc ht Tryz.func28 ?_
 intro args σ K h
 unfold Ze3 at h
 split at h
 ·rename_i s
  obtain ⟨hs,h⟩:=h
  refine ⟨Za [],0,false,by simp,Tb rfl,?_⟩
  conv=>whnf
  refine ⟨⟨rfl,rfl,rfl,rfl,rfl,rfl⟩,hs,fun x hx=>?_⟩
  have h:=h x hx
  cases x with
  | ok v L =>
   obtain ⟨v1,v2,v3,v4,v5,v6⟩:=v
   exact m31
  | err p e =>
   have he:=Zbx ZdD hx
   intro cs hcs
   obtain ⟨b1,b2,b3,b4,b5,b6,rfl⟩:=hcs
   conv=>whnf
   refine ZEf (fun hc=>?_) (fun hc=>absurd (show e=0 by omega) he)
   exact m31
 ·exact h.elim
noncomputable def ZgE:Zz:=fun args σ K=>match args,σ with
 | [.d (.str s)],⟨[],[],0⟩=>s.length<4294967281∧∀x,Y5 65536 16384 (Vp 64) s=x→Zsy (fun L (v:Ex)=>Zb6 (YE (Ze L s.length) v)) (Zb6 [.int .u8 0,.str [],.int .i64 0,.sl [],.int .i64 0]) x K
 | _,_=>False
theorem ZkU:Zc ZgE:=fun args σ K K' hK h=>by
 unfold ZgE at h ⊢
 split at h
 ·exact ⟨h.1,fun x hx=>Zjk hK (h.2 x hx)⟩
 ·exact h.elim
noncomputable def Zvx:Tbl:=[(33,Zp6)]
theorem Zvy (ht:TblOK (GG w0 nG) Zvx):PCalls (GG w0 nG) 14 ZgE:=by
 refine pc ht Tryz.func14 ?_
 intro args σ K h
 unfold ZgE at h
 split at h
 ·rename_i s
  obtain ⟨hs,h⟩:=h
  refine ⟨Za [],0,false,by simp,Tb rfl,?_⟩
  conv=>whnf
  refine ⟨⟨rfl,rfl,rfl,rfl,rfl,rfl⟩,hs,fun x hx=>?_⟩
  have h:=h x hx
  cases x with
  | ok v L =>
   obtain ⟨v1,v2,v3,v4,v5⟩:=v
   exact m31
  | err p e =>
   have he:=Zbx (Zcf 64) hx
   intro cs hcs
   obtain ⟨b1,b2,b3,b4,b5,rfl⟩:=hcs
   conv=>whnf
   refine ZEf (fun hc=>?_) (fun hc=>absurd (show e=0 by omega) he)
   exact m31
 ·exact h.elim
theorem ZgF (hg:GlobOK w0 nG):PCalls (GG w0 nG) 79 Ze1:=Zvu (ZuT hg)
theorem Zze (hg:GlobOK w0 nG):PCalls (GG w0 nG) 28 Ze3:=Zvw ⟨⟨Zp5 ⟨⟨ZgF hg,Ze2⟩,⟨ZcQ (tb:=Zmk) ⟨⟨ZCs 64,ZkQ 64⟩,trivial⟩ Tryz.func69 rfl (by kernel_rfl) (by kernel_rfl),YL _ _⟩,⟨Jn,Zy⟩,trivial⟩,ZnR⟩,trivial⟩
theorem ZCt (hg:GlobOK w0 nG):PCalls (GG w0 nG) 14 ZgE:=Zvy ⟨⟨Zp7 ⟨⟨ZgF hg,Ze2⟩,⟨ZcQ (tb:=Zml) ⟨⟨Zza 64,Wi _ _ _ _⟩,trivial⟩ Tryz.func34 rfl (by kernel_rfl) (by kernel_rfl),YL _ _⟩,⟨Jn,Zy⟩,trivial⟩,ZnS⟩,trivial⟩
end Go.PM.Lex
end

section
namespace Go.PM.Lex
open Go.Proofs
variable {w0:World} {nG:Nat}
mutual
def Wj:Ex→Ex→Bool
 | .mk o1 t1 n1 l1 _,.mk o2 t2 n2 l2 _=>decide (o1=o2) && (decide (t1=t2) && (decide (n1=n2) && ZgG l1 l2))
def ZgG:List Ex→List Ex→Bool
 | [],[]=>true
 | x::l,y::m=>Wj x y && ZgG l m
 | _,_=>false
end
mutual
def szE:Ex→Nat
 | .mk _ _ _ l _=>1+ZBS l
def ZBS:List Ex→Nat
 | []=>0
 | x::l=>1+szE x+ZBS l
end
def Li.op:Li→Nat | .mk o _ _ _ _=>o
end Go.PM.Lex
end

section
namespace Go.PM.Lex
mutual
def erE:Ex→Ex
 | .mk op t n args _=>.mk op t n (Zd0 args) 0
def Zd0:List Ex→List Ex
 | []=>[]
 | e::l=>erE e::Zd0 l
end
theorem Jo (l:List Ex):Zd0 l=l.map erE:=by induction l with | nil=>rfl | cons x l ih=>simp [Zd0,ih]
mutual
def erL:Li→Li
 | .mk op rel args body _=>.mk op rel (Zd0 args) (Zjl body) 0
def Zjl:List Li→List Li
 | []=>[]
 | e::l=>erL e::Zjl l
end
theorem ZhH (l:List Li):Zjl l=l.map erL:=by induction l with | nil=>rfl | cons x l ih=>simp [Zjl,ih]
def ZgH (r:Ru):Ru:=⟨r.head,r.args.map erE,r.body.map erL,0⟩
def ZnT (t:Ty):Ty:={ t with at':=0 }
def ZnU (t:Re):Re:={ t with at':=0 }
def ZnV (t:Ini):Ini:={ t with at':=0 }
def ZnW (t:Ov):Ov:={ t with at':=0 }
mutual
def U2:Un→Un
 | .mk a b c d e f=>.mk (a.map ZnT) (b.map ZnU) (c.map ZgH) (ZaJ d) (e.map ZnV) (f.map ZnW)
def ZfW:Co→Co
 | .mk nm ps base tys u _=>.mk nm ps base tys (U2 u) 0
def ZaJ:List Co→List Co
 | []=>[]
 | e::l=>ZfW e::ZaJ l
end
theorem Zmm (l:List Co):ZaJ l=l.map ZfW:=by induction l with | nil=>rfl | cons x l ih=>simp [ZaJ,ih]
def Stb {α:Type} (er:α→α) (m:Ts) (x y:R α):Prop:=∀v ts,x=.ok v ts→∃v',er v'=er v∧y=.ok v' (ts++m)
section
variable {α β:Type} {er:α→α} {er2:β→β} {m:Ts}
theorem Stb.ok {v v':α} {ts:Ts} (h:er v'=er v):Stb er m (.ok v ts) (.ok v' (ts++m)):=fun w rest e=>by cases e;exact ⟨v',h,rfl⟩
theorem Stb.ok' {v v':α} {ts ts':Ts} (h:er v'=er v) (e:ts'=ts++m):Stb er m (.ok v ts) (.ok v' ts'):=e ▸ Stb.ok h
theorem Stb.err {r e:Nat} {y:R α}:Stb er m (.err r e) y:=fun w rest e=>by cases e
theorem Stb.bind {x y:R α} {f g:α→Ts→R β} (h:Stb er m x y) (hf:∀v v' ts,er v'=er v→Stb er2 m (f v ts) (g v' (ts++m))):Stb er2 m (x.bind f) (y.bind g):=fun w rest e=>by
 cases x with
 | ok v ts =>
  obtain ⟨v',h1,rfl⟩:=h v ts rfl
  exact hf v v' ts h1 w rest e
 | err r e'=>cases e
theorem Stb.binds {x y:R α} {f g:α→Ts→R β} (h:Stb id m x y) (hf:∀v ts,Stb er2 m (f v ts) (g v (ts++m))):Stb er2 m (x.bind f) (y.bind g):=Stb.bind h fun v v' ts e=>by cases (show v'=v from e);exact hf v ts
end
variable {m:Ts}
theorem Zp8 (ws:List Bs):isW [] ws=false:=by simp [isW,hd]
theorem Zvz {ts:Ts} {ws:List Bs} (h:isW ts ws=true):∃t l,ts=t::l:=by
 cases ts with
 | nil=>rw [Zp8] at h;cases h
 | cons t l=>exact ⟨t,l,rfl⟩
theorem map_id' {α:Type} (l:List α):l.map id=l:=by simp
theorem Stb.idl {α:Type} {x y:R (List α)} (h:Stb (List.map id) m x y):Stb id m x y:=fun v ts e=>by
 obtain ⟨v',h1,h2⟩:=h v ts e
 exact ⟨v',by simpa using h1,h2⟩
theorem ZvA {ts:Ts} (h:(UI ts).1≠0):∃t l,ts=t::l:=by
 cases ts with
 | nil=>exact absurd rfl h
 | cons t l=>exact ⟨t,l,rfl⟩
def Un.le:Un→Un→Prop
 | .mk a1 a2 a3 a4 a5 a6,.mk b1 b2 b3 b4 b5 b6=>a1.length≤b1.length∧a2.length≤b2.length∧a3.length≤b3.length∧a4.length≤b4.length∧a5.length≤b5.length∧a6.length≤b6.length
theorem Un.le_refl:∀u:Un,Un.le u u | .mk ..=>⟨Tr _,Tr _,Tr _,Tr _,Tr _,Tr _⟩
theorem Un.le_trans:∀{u v w:Un},Un.le u v→Un.le v w→Un.le u w
 | .mk ..,.mk ..,.mk ..,⟨h1,h2,h3,h4,h5,h6⟩,⟨k1,k2,k3,k4,k5,k6⟩=>⟨by omega,by omega,by omega,by omega,by omega,by omega⟩
def Un.room:Un→Un→Prop
 | .mk a1 a2 a3 a4 a5 a6,.mk b1 b2 b3 b4 b5 b6=>a1.length+b1.length≤256∧a2.length+b2.length≤256∧a3.length+b3.length≤1024∧a4.length+b4.length≤64∧a5.length+b5.length≤256∧a6.length+b6.length≤256
theorem ZEc {α β:Type} {x:R α} {f:α→Ts→R β} {v:β} {ts:Ts} (h:x.bind f=.ok v ts):∃a ts1,x=.ok a ts1∧f a ts1=.ok v ts:=by
 cases x with
 | ok a ts1=>exact ⟨a,ts1,rfl,h⟩
 | err r e=>cases h
end Go.PM.Lex
end

section
namespace Go.PM.Lex
open Go.Proofs
variable {w0:World} {nG:Nat}
def XD {α:Type} (f:α→α→Bool):List α→List α→Bool
 | [],[]=>true
 | x::l,y::m=>f x y && XD f l m
 | _,_=>false
theorem Vd {α:Type} (f:α→α→Bool):∀(l m:List α),l.length≠m.length→XD f l m=false
 | [],[],h=>absurd rfl h
 | [],_::_,_=>rfl
 | _::_,[],_=>rfl
 | x::l,y::m,h=>by rw [XD,Vd f l m (by simpa using h),Bool.and_false]
theorem Xk {α:Type} (f:α→α→Bool) {l m:List α} {i:Nat} (h1:i<l.length) (h2:i<m.length):XD f (l.drop i) (m.drop i)=(f l[i] m[i] && XD f (l.drop (i+1)) (m.drop (i+1))):=by
 rw [Sl h1,Sl h2,XD]
theorem Wk {α:Type} (f:α→α→Bool) {l m:List α} {i:Nat} (h1:l.length≤i) (h2:m.length≤i):XD f (l.drop i) (m.drop i)=true:=by
 rw [TU h1,TU h2];rfl
def szS {α:Type} (f:α→Nat):List α→Nat
 | []=>0
 | x::l=>1+f x+szS f l
theorem ZH {α:Type} (f:α→Nat):∀(l:List α),l.length≤szS f l
 | []=>Tr _
 | x::l=>by have:=ZH f l;simp only [Tc,szS];omega
theorem ZD {α:Type} (f:α→Nat):∀(l:List α) (i:Nat) (h:i<l.length),f l[i]<szS f l
 | x::l,0,h=>by simp only [List.getElem_cons_zero,szS];omega
 | x::l,i+1,h=>by have:=ZD f l i (by simpa using h);simp only [List.getElem_cons_succ,szS];omega
theorem UN:∀(l m:List Ex),ZgG l m=XD Wj l m
 | [],[]=>rfl
 | [],_::_=>by rw [ZgG,XD] <;> simp
 | _::_,[]=>by rw [ZgG,XD] <;> simp
 | x::l,y::m=>by rw [ZgG,XD,UN l m]
theorem Wl:∀(l:List Ex),ZBS l=szS szE l
 | []=>rfl
 | x::l=>by rw [ZBS,szS,Wl l]
def eqB (a b:Bs):Bool:=decide (a=b)
mutual
def W1:Li→Li→Bool
 | .mk o1 r1 a1 b1 _,.mk o2 r2 a2 b2 _=>decide ((o1:Int)=o2) && (decide (r1=r2) && (XD Wj a1 a2 && Ze5 b1 b2))
def Ze5:List Li→List Li→Bool
 | [],[]=>true
 | x::l,y::m=>W1 x y && Ze5 l m
 | _,_=>false
end
theorem UO:∀(l m:List Li),Ze5 l m=XD W1 l m
 | [],[]=>by rw [Ze5,XD]
 | [],_::_=>by rw [Ze5,XD] <;> simp
 | _::_,[]=>by rw [Ze5,XD] <;> simp
 | x::l,y::m=>by rw [Ze5,XD,UO l m]
mutual
def szL:Li→Nat
 | .mk _ _ a b _=>1+szS szE a+Zzf b
def Zzf:List Li→Nat
 | []=>0
 | x::l=>1+szL x+Zzf l
end
theorem Wm:∀(l:List Li),Zzf l=szS szL l
 | []=>by rw [Zzf,szS]
 | x::l=>by rw [Zzf,szS,Wm l]
def VM (f g:Fi):Bool:=decide (f.name=g.name) && (decide (f.typ=g.typ) && true)
def Vg (r s:Ru):Bool:=decide (r.head=s.head) && (XD Wj r.args s.args && XD W1 r.body s.body)
def ZjY (r:Ru):Nat:=1+szS szE r.args+szS szL r.body
def sz0 {α:Type} (_:α):Nat:=0
def Vh (c d:Ca):Bool:=decide (c.name=d.name) && XD VM c.fields d.fields
def ZjZ (c:Ca):Nat:=1+szS sz0 c.fields
def X3 (a b:Ty):Bool:=decide ((a.kind:Int)=b.kind) && (decide (a.name=b.name) && (decide (a.base=b.base) && (XD VM a.fields b.fields && XD Vh a.cases b.cases)))
def Zjm (a:Ty):Nat:=1+szS sz0 a.fields+szS ZjZ a.cases
def X4 (a b:Re):Bool:=decide (a.name=b.name) && (decide (a.inn=b.inn) && (decide (a.out=b.out) && (decide (a.inl=b.inl) && XD VM a.fields b.fields)))
def ZkV (a:Re):Nat:=1+szS sz0 a.fields
def Vi (a b:Ini):Bool:=decide (a.name=b.name) && (decide (a.comp=b.comp) && XD eqB a.types b.types)
def ZkW (a:Ini):Nat:=1+szS sz0 a.types
def J8 (a b:Ov):Bool:=decide (a.rel=b.rel)
mutual
def XL:Un→Un→Bool
 | .mk a1 a2 a3 a4 a5 a6,.mk b1 b2 b3 b4 b5 b6=>XD X3 a1 b1 && (XD X4 a2 b2 && (XD Vg a3 b3 && (Zby a4 b4 && (XD Vi a5 b5 && XD J8 a6 b6))))
def Xl:Co→Co→Bool
 | .mk n1 p1 b1 t1 u1 _,.mk n2 p2 b2 t2 u2 _=>decide (n1=n2) && (decide (b1=b2) && (XD eqB p1 p2 && (XD eqB t1 t2 && XL u1 u2)))
def Zby:List Co→List Co→Bool
 | [],[]=>true
 | x::l,y::m=>Xl x y && Zby l m
 | _,_=>false
end
theorem X5:∀(l m:List Co),Zby l m=XD Xl l m
 | [],[]=>by rw [Zby,XD]
 | [],_::_=>by rw [Zby,XD] <;> simp
 | _::_,[]=>by rw [Zby,XD] <;> simp
 | x::l,y::m=>by rw [Zby,XD,X5 l m]
mutual
def Zjn:Un→Nat
 | .mk a1 a2 a3 a4 a5 a6=>1+szS Zjm a1+szS ZkV a2+szS ZjY a3+Zp9 a4+szS ZkW a5+szS sz0 a6
def ZhI:Co→Nat
 | .mk _ p _ t u _=>1+szS sz0 p+szS sz0 t+Zjn u
def Zp9:List Co→Nat
 | []=>0
 | x::l=>1+ZhI x+Zp9 l
end
theorem Xb:∀(l:List Co),Zp9 l=szS ZhI l
 | []=>by rw [Zp9,szS]
 | x::l=>by rw [Zp9,szS,Xb l]
noncomputable def Zmn {α:Type} (enc:α→List D) (f:α→α→Bool) (n:Nat):Zz:=fun args σ K=>match args,σ with
 | [.d (.sl r1),.d (.sl r2)],⟨[],[],0⟩=>∃l1 l2,r1=l1.map enc∧r2=l2.map enc∧(szS (sz0 (α:=α)) l1≤n∧n≤1099511627776)∧∀b,XD f l1 l2=b→K (.ret (.d (.bool b))) ⟨[],[],0⟩
 | _,_=>False
theorem VN {α:Type} (enc:α→List D) (f:α→α→Bool) (n:Nat):Zc (Zmn enc f n):=fun args σ K K' hK h=>by
 unfold Zmn at h ⊢
 split at h
 ·obtain ⟨l1,l2,h1,h2,h3,h4⟩:=h
  exact ⟨l1,l2,h1,h2,h3,fun b hb=>hK _ _ (h4 b hb)⟩
 ·exact h.elim
noncomputable def JJ {α:Type} (g0:FuncId) (enc:Pl→α→List D) (f:α→α→Bool) (sz:α→Nat) (n:Nat):Zz:=fun args σ K=>match args,σ with
 | [.d (.sl r1),.d (.sl r2),.func g [] []],⟨[],[],0⟩=>∃pl1 l1 pl2 l2,r1=l1.map (enc pl1)∧r2=l2.map (enc pl2)∧(g=g0∧szS sz l1≤n∧n≤1099511627776)∧∀b,XD f l1 l2=b→K (.ret (.d (.bool b))) ⟨[],[],0⟩
 | _,_=>False
theorem Yr {α:Type} (g0:FuncId) (enc:Pl→α→List D) (f:α→α→Bool) (sz:α→Nat) (n:Nat):Zc (JJ g0 enc f sz n):=fun args σ K K' hK h=>by
 unfold JJ at h ⊢
 exact m123
noncomputable def U3 {α:Type} (enc:Pl→α→List D) (f:α→α→Bool) (sz:α→Nat) (n:Nat):Zz:=fun args σ K=>match args,σ with
 | [.agg c1,.agg c2],⟨[],[],0⟩=>∃pl1 x1 pl2 x2,c1=(enc pl1 x1).map .d∧c2=(enc pl2 x2).map .d∧(sz x1≤n∧n≤1099511627776)∧∀b,f x1 x2=b→K (.ret (.d (.bool b))) ⟨[],[],0⟩
 | _,_=>False
theorem Ys {α:Type} (enc:Pl→α→List D) (f:α→α→Bool) (sz:α→Nat) (n:Nat):Zc (U3 enc f sz n):=fun args σ K K' hK h=>by
 unfold U3 at h ⊢
 exact m123
def spB (sp:Nat→Zz) (n:Nat):Zz:=fun args σ K=>0<n∧sp (n - 1) args σ K
theorem ZV {sp:Nat→Zz} (h:∀n,Zc (sp n)) (n:Nat):Zc (spB sp n):=fun args σ K K' hK g=>⟨g.1,h _ _ _ _ _ hK g.2⟩
theorem Yi {g:FuncId} {sp:Nat→Zz} (h:VA (GG w0 nG).P g):PCalls (GG w0 nG) g (spB sp 0):=⟨h,fun args σ K hs=>absurd hs.1 (by omega)⟩
theorem Yj {g:FuncId} {sp:Nat→Zz} {n:Nat} (h:PCalls (GG w0 nG) g (sp n)):PCalls (GG w0 nG) g (spB sp (n+1)):=h.weaken1 fun args σ K hs=>hs.2
end Go.PM.Lex
end

section
namespace Go.PM.Lex
open Go.Proofs
variable {w0:World} {nG:Nat}
end Go.PM.Lex
end

section
namespace Go.PM.Lex
open Go.Proofs
variable {w0:World} {nG:Nat}
noncomputable def ZCu (n:Nat):Tbl:=[(88,spB (U3 YE Wj szE) n)]
theorem ZtU {n:Nat} (ht:TblOK (GG w0 nG) (ZCu n)):PCalls (GG w0 nG) 87 (JJ 88 YE Wj szE n):=by
 refine pc ht Tryz.func87 ?_
 intro args σ K h
 unfold JJ at h
 split at h
 ·obtain ⟨p1,l1,p2,l2,rfl,rfl,⟨rfl,hz,hn⟩,h⟩:=h
  have h:=h _ rfl
  have hlen1:(l1.map (YE p1)).length=l1.length:=Tf ..
  have hlen2:(l2.map (YE p2)).length=l2.length:=Tf ..
  have hsz:=ZH szE l1
  refine ⟨Za [(4,⟨[17],[0,1,2,15,16],fun vs σ=>∃i:Nat,vs=[.d (.int .i64 i)]∧σ=⟨[],[],0⟩∧i≤l1.length∧XD Wj l1 l2=XD Wj (l1.drop i) (l2.drop i),fun vs _=>match vs with | [.d (.int _ i)]=>((l1.length:Int) - i).toNat | _=>0⟩)],0,false,by simp,Tb rfl,?_⟩
  conv=>whnf
  refine ZEf (fun hc=>?_) (fun hc=>?_)
  ·have hc:l1.length≠l2.length:=fun g=>hc (by show ((l1.map (YE p1)).length:Int)=(l2.map (YE p2)).length;rw [hlen1,hlen2,g])
   exact m163
  have hc:l1.length=l2.length:=by have hc:((l1.map (YE p1)).length:Int)=(l2.map (YE p2)).length:=hc;rw [hlen1,hlen2] at hc;omega
  conv=>whnf
  refine ⟨⟨0,rfl,rfl,by omega,rfl⟩,?_⟩
  intro vs σ hI
  obtain ⟨i,rfl,rfl,hi,hs⟩:=hI
  conv=>whnf
  refine ZEb (fun hi2=>?_) (fun hi2=>?_)
  rotate_left
  ·have hi2:l1.length≤i:=by have hi2:¬(i:Int)<(l1.map (YE p1)).length:=hi2;rw [hlen1] at hi2;omega
   exact m150
  have hi2:i<l1.length:=by have hi2:(i:Int)<(l1.map (YE p1)).length:=hi2;rw [hlen1] at hi2;omega
  have hi3:i<l2.length:=by omega
  have hg:=ZD szE l1 i hi2
  rw [Xk _ hi2 hi3] at hs
  obtain ⟨eA,hA⟩:∃e,l1[i]=e:=⟨_,rfl⟩
  obtain ⟨eB,hB⟩:∃e,l2[i]=e:=⟨_,rfl⟩
  obtain ⟨a1,a2,a3,a4,a5⟩:=eA
  obtain ⟨b1,b2,b3,b4,b5⟩:=eB
  have hr1:(l1.map (YE p1))[((i:Nat):Int).toNat]?=some ((YE p1) (.mk a1 a2 a3 a4 a5)):=by simp [hi2,hA]
  have hr2:(l2.map (YE p2))[((i:Nat):Int).toNat]?=some ((YE p2) (.mk b1 b2 b3 b4 b5)):=by simp [hi3,hB]
  rw [hA,hB] at hs
  rw [hA] at hg
  have hneg:Wj (.mk a1 a2 a3 a4 a5) (.mk b1 b2 b3 b4 b5)=false→K (.ret (.d (.bool false))) ⟨[],[],0⟩:=fun he=>by rw [hs,he,TG] at h;exact h
  exact m167
 ·exact h.elim
noncomputable def ZCv (n:Nat):Tbl:=[(87,JJ 88 YE Wj szE n)]
theorem ZtV {n:Nat} (ht:TblOK (GG w0 nG) (ZCv n)):PCalls (GG w0 nG) 88 (U3 YE Wj szE n):=by
 refine pc ht Tryz.func88 ?_
 intro args σ K h
 unfold U3 at h
 split at h
 ·obtain ⟨p1,⟨a1,a2,a3,a4,a5⟩,p2,⟨b1,b2,b3,b4,b5⟩,rfl,rfl,⟨hz,hn⟩,h⟩:=h
  have h:=h _ rfl
  simp only [szE,Wl] at hz
  refine ⟨Za [],0,false,by simp,Tb rfl,?_⟩
  conv=>whnf
  refine ZEb (fun hc0=>?_) (fun hc0=>?_)
  rotate_left
  ·have hc0:¬a1=b1:=by omega
   rw [show Wj (.mk a1 a2 a3 a4 a5) (.mk b1 b2 b3 b4 b5)=false by simp [Wj,UN,hc0]] at h;(conv=>whnf);exact h
  have hc0:a1=b1:=by omega
  (try dsimp only at hc0)
  conv=>whnf
  refine ZEb (fun hc1=>?_) (fun hc1=>?_)
  rotate_left
  ·rw [show Wj (.mk a1 a2 a3 a4 a5) (.mk b1 b2 b3 b4 b5)=false by simp [Wj,UN,hc1]] at h;(conv=>whnf);exact h
  (try dsimp only at hc1)
  conv=>whnf
  refine ZEb (fun hc2=>?_) (fun hc2=>?_)
  rotate_left
  ·rw [show Wj (.mk a1 a2 a3 a4 a5) (.mk b1 b2 b3 b4 b5)=false by simp [Wj,UN,hc2]] at h;(conv=>whnf);exact h
  (try dsimp only at hc2)
  conv=>whnf
  refine ⟨p1,a4,p2,b4,Zh _ _,Zh _ _,⟨rfl,by omega,by omega⟩,fun b_3 hc3=>?_⟩
  have he:Wj (.mk a1 a2 a3 a4 a5) (.mk b1 b2 b3 b4 b5)=b_3:=by simp [Wj,UN,hc0,hc1,hc2,hc3]
  rw [he] at h
  exact m31
 ·exact h.elim
theorem ZBT:∀n,PCalls (GG w0 nG) 87 (JJ 88 YE Wj szE n)∧PCalls (GG w0 nG) 88 (U3 YE Wj szE n)
 | 0=>have h:=ZtU (n:=0) ⟨⟨Yi (Zi Tryz.func88 (by kernel_rfl) rfl),ZV (Ys _ _ _) _⟩,trivial⟩;⟨h,ZtV ⟨⟨h,Yr _ _ _ _ _⟩,trivial⟩⟩
 | n+1=>have h:=ZtU (n:=n+1) ⟨⟨Yj (sp:=U3 YE Wj szE) (ZBT n).2,ZV (Ys _ _ _) _⟩,trivial⟩;⟨h,ZtV ⟨⟨h,Yr _ _ _ _ _⟩,trivial⟩⟩
noncomputable def ZCw (n:Nat):Tbl:=[(90,spB (U3 Xp W1 szL) n)]
theorem ZtW {n:Nat} (ht:TblOK (GG w0 nG) (ZCw n)):PCalls (GG w0 nG) 89 (JJ 90 Xp W1 szL n):=by
 refine pc ht Tryz.func89 ?_
 intro args σ K h
 unfold JJ at h
 split at h
 ·obtain ⟨p1,l1,p2,l2,rfl,rfl,⟨rfl,hz,hn⟩,h⟩:=h
  have h:=h _ rfl
  have hlen1:(l1.map (Xp p1)).length=l1.length:=Tf ..
  have hlen2:(l2.map (Xp p2)).length=l2.length:=Tf ..
  have hsz:=ZH szL l1
  refine ⟨Za [(4,⟨[17],[0,1,2,15,16],fun vs σ=>∃i:Nat,vs=[.d (.int .i64 i)]∧σ=⟨[],[],0⟩∧i≤l1.length∧XD W1 l1 l2=XD W1 (l1.drop i) (l2.drop i),fun vs _=>match vs with | [.d (.int _ i)]=>((l1.length:Int) - i).toNat | _=>0⟩)],0,false,by simp,Tb rfl,?_⟩
  conv=>whnf
  refine ZEf (fun hc=>?_) (fun hc=>?_)
  ·have hc:l1.length≠l2.length:=fun g=>hc (by show ((l1.map (Xp p1)).length:Int)=(l2.map (Xp p2)).length;rw [hlen1,hlen2,g])
   exact m163
  have hc:l1.length=l2.length:=by have hc:((l1.map (Xp p1)).length:Int)=(l2.map (Xp p2)).length:=hc;rw [hlen1,hlen2] at hc;omega
  conv=>whnf
  refine ⟨⟨0,rfl,rfl,by omega,rfl⟩,?_⟩
  intro vs σ hI
  obtain ⟨i,rfl,rfl,hi,hs⟩:=hI
  conv=>whnf
  refine ZEb (fun hi2=>?_) (fun hi2=>?_)
  rotate_left
  ·have hi2:l1.length≤i:=by have hi2:¬(i:Int)<(l1.map (Xp p1)).length:=hi2;rw [hlen1] at hi2;omega
   exact m150
  have hi2:i<l1.length:=by have hi2:(i:Int)<(l1.map (Xp p1)).length:=hi2;rw [hlen1] at hi2;omega
  have hi3:i<l2.length:=by omega
  have hg:=ZD szL l1 i hi2
  rw [Xk _ hi2 hi3] at hs
  obtain ⟨eA,hA⟩:∃e,l1[i]=e:=⟨_,rfl⟩
  obtain ⟨eB,hB⟩:∃e,l2[i]=e:=⟨_,rfl⟩
  obtain ⟨a1,a2,a3,a4,a5⟩:=eA
  obtain ⟨b1,b2,b3,b4,b5⟩:=eB
  have hr1:(l1.map (Xp p1))[((i:Nat):Int).toNat]?=some ((Xp p1) (.mk a1 a2 a3 a4 a5)):=by simp [hi2,hA]
  have hr2:(l2.map (Xp p2))[((i:Nat):Int).toNat]?=some ((Xp p2) (.mk b1 b2 b3 b4 b5)):=by simp [hi3,hB]
  rw [hA,hB] at hs
  rw [hA] at hg
  have hneg:W1 (.mk a1 a2 a3 a4 a5) (.mk b1 b2 b3 b4 b5)=false→K (.ret (.d (.bool false))) ⟨[],[],0⟩:=fun he=>by rw [hs,he,TG] at h;exact h
  exact m167
 ·exact h.elim
noncomputable def ZCx (n:Nat):Tbl:=[(87,JJ 88 YE Wj szE n),(89,JJ 90 Xp W1 szL n)]
theorem ZtX {n:Nat} (ht:TblOK (GG w0 nG) (ZCx n)):PCalls (GG w0 nG) 90 (U3 Xp W1 szL n):=by
 refine pc ht Tryz.func90 ?_
 intro args σ K h
 unfold U3 at h
 split at h
 ·obtain ⟨p1,⟨a1,a2,a3,a4,a5⟩,p2,⟨b1,b2,b3,b4,b5⟩,rfl,rfl,⟨hz,hn⟩,h⟩:=h
  have h:=h _ rfl
  simp only [szL,Wm] at hz
  refine ⟨Za [],0,false,by simp,Tb rfl,?_⟩
  conv=>whnf
  refine ZEb (fun hc0=>?_) (fun hc0=>?_)
  rotate_left
  ·rw [show W1 (.mk a1 a2 a3 a4 a5) (.mk b1 b2 b3 b4 b5)=false by simp [W1,UO,hc0]] at h;(conv=>whnf);exact h
  (try dsimp only at hc0)
  conv=>whnf
  refine ZEb (fun hc1=>?_) (fun hc1=>?_)
  rotate_left
  ·rw [show W1 (.mk a1 a2 a3 a4 a5) (.mk b1 b2 b3 b4 b5)=false by simp [W1,UO,hc1]] at h;(conv=>whnf);exact h
  (try dsimp only at hc1)
  conv=>whnf
  refine ⟨p1,a3,p2,b3,Zh _ _,Zh _ _,⟨rfl,by omega,by omega⟩,fun b_2 hc2=>?_⟩
  cases b_2 with
  | false =>
   conv=>whnf
   rw [show W1 (.mk a1 a2 a3 a4 a5) (.mk b1 b2 b3 b4 b5)=false by simp [W1,UO,hc2]] at h;exact h
  | true =>
   conv=>whnf
   refine ⟨p1,a4,p2,b4,Zp _ _,Zp _ _,⟨rfl,by omega,by omega⟩,fun b_3 hc3=>?_⟩
   have he:W1 (.mk a1 a2 a3 a4 a5) (.mk b1 b2 b3 b4 b5)=b_3:=by simp [W1,UO,hc0,hc1,hc2,hc3]
   rw [he] at h
   exact m31
 ·exact h.elim
theorem ZDm:∀n,PCalls (GG w0 nG) 89 (JJ 90 Xp W1 szL n)∧PCalls (GG w0 nG) 90 (U3 Xp W1 szL n)
 | 0=>have h:=ZtW (n:=0) ⟨⟨Yi (Zi Tryz.func90 (by kernel_rfl) rfl),ZV (Ys _ _ _) _⟩,trivial⟩;⟨h,ZtX ⟨⟨(ZBT 0).1,Yr _ _ _ _ _⟩,⟨h,Yr _ _ _ _ _⟩,trivial⟩⟩
 | n+1=>have h:=ZtW (n:=n+1) ⟨⟨Yj (sp:=U3 Xp W1 szL) (ZDm n).2,ZV (Ys _ _ _) _⟩,trivial⟩;⟨h,ZtX ⟨⟨(ZBT _).1,Yr _ _ _ _ _⟩,⟨h,Yr _ _ _ _ _⟩,trivial⟩⟩
noncomputable def Zzg (n:Nat):Tbl:=[(43,spB (U3 Z7 Vg ZjY) n)]
theorem ZvB {n:Nat} (ht:TblOK (GG w0 nG) (Zzg n)):PCalls (GG w0 nG) 42 (JJ 43 Z7 Vg ZjY n):=by
 refine pc ht Tryz.func42 ?_
 intro args σ K h
 unfold JJ at h
 split at h
 ·obtain ⟨p1,l1,p2,l2,rfl,rfl,⟨rfl,hz,hn⟩,h⟩:=h
  have h:=h _ rfl
  have hlen1:(l1.map (Z7 p1)).length=l1.length:=Tf ..
  have hlen2:(l2.map (Z7 p2)).length=l2.length:=Tf ..
  have hsz:=ZH ZjY l1
  refine ⟨Za [(4,⟨[17],[0,1,2,15,16],fun vs σ=>∃i:Nat,vs=[.d (.int .i64 i)]∧σ=⟨[],[],0⟩∧i≤l1.length∧XD Vg l1 l2=XD Vg (l1.drop i) (l2.drop i),fun vs _=>match vs with | [.d (.int _ i)]=>((l1.length:Int) - i).toNat | _=>0⟩)],0,false,by simp,Tb rfl,?_⟩
  conv=>whnf
  refine ZEf (fun hc=>?_) (fun hc=>?_)
  ·have hc:l1.length≠l2.length:=fun g=>hc (by show ((l1.map (Z7 p1)).length:Int)=(l2.map (Z7 p2)).length;rw [hlen1,hlen2,g])
   exact m163
  have hc:l1.length=l2.length:=by have hc:((l1.map (Z7 p1)).length:Int)=(l2.map (Z7 p2)).length:=hc;rw [hlen1,hlen2] at hc;omega
  conv=>whnf
  refine ⟨⟨0,rfl,rfl,by omega,rfl⟩,?_⟩
  intro vs σ hI
  obtain ⟨i,rfl,rfl,hi,hs⟩:=hI
  conv=>whnf
  refine ZEb (fun hi2=>?_) (fun hi2=>?_)
  rotate_left
  ·have hi2:l1.length≤i:=by have hi2:¬(i:Int)<(l1.map (Z7 p1)).length:=hi2;rw [hlen1] at hi2;omega
   exact m150
  have hi2:i<l1.length:=by have hi2:(i:Int)<(l1.map (Z7 p1)).length:=hi2;rw [hlen1] at hi2;omega
  have hi3:i<l2.length:=by omega
  have hg:=ZD ZjY l1 i hi2
  rw [Xk _ hi2 hi3] at hs
  obtain ⟨eA,hA⟩:∃e,l1[i]=e:=⟨_,rfl⟩
  obtain ⟨eB,hB⟩:∃e,l2[i]=e:=⟨_,rfl⟩
  obtain ⟨a1,a2,a3,a4⟩:=eA
  obtain ⟨b1,b2,b3,b4⟩:=eB
  have hr1:(l1.map (Z7 p1))[((i:Nat):Int).toNat]?=some ((Z7 p1) (⟨a1,a2,a3,a4⟩:Ru)):=by simp [hi2,hA]
  have hr2:(l2.map (Z7 p2))[((i:Nat):Int).toNat]?=some ((Z7 p2) (⟨b1,b2,b3,b4⟩:Ru)):=by simp [hi3,hB]
  rw [hA,hB] at hs
  rw [hA] at hg
  have hneg:Vg (⟨a1,a2,a3,a4⟩:Ru) (⟨b1,b2,b3,b4⟩:Ru)=false→K (.ret (.d (.bool false))) ⟨[],[],0⟩:=fun he=>by rw [hs,he,TG] at h;exact h
  conv=>whnf
  refine ⟨_,by omega,hr1,?_⟩
  conv=>whnf
  refine ⟨_,by omega,hr2,?_⟩
  conv=>whnf
  refine ⟨by omega,p1,(⟨a1,a2,a3,a4⟩:Ru),p2,(⟨b1,b2,b3,b4⟩:Ru),rfl,rfl,⟨by omega,by omega⟩,fun b_1 hb1=>?_⟩
  exact m10
 ·exact h.elim
noncomputable def Zzh (n:Nat):Tbl:=[(87,JJ 88 YE Wj szE n),(89,JJ 90 Xp W1 szL n)]
theorem ZvC {n:Nat} (ht:TblOK (GG w0 nG) (Zzh n)):PCalls (GG w0 nG) 43 (U3 Z7 Vg ZjY n):=by
 refine pc ht Tryz.func43 ?_
 intro args σ K h
 unfold U3 at h
 split at h
 ·obtain ⟨p1,⟨a1,a2,a3,a4⟩,p2,⟨b1,b2,b3,b4⟩,rfl,rfl,⟨hz,hn⟩,h⟩:=h
  have h:=h _ rfl
  simp only [ZjY] at hz
  refine ⟨Za [],0,false,by simp,Tb rfl,?_⟩
  conv=>whnf
  refine ZEb (fun hc0=>?_) (fun hc0=>?_)
  rotate_left
  ·rw [show Vg (⟨a1,a2,a3,a4⟩:Ru) (⟨b1,b2,b3,b4⟩:Ru)=false by simp [Vg,hc0]] at h;(conv=>whnf);exact h
  (try dsimp only at hc0)
  conv=>whnf
  refine ⟨p1,a2,p2,b2,Zh _ _,Zh _ _,⟨rfl,by omega,by omega⟩,fun b_1 hc1=>?_⟩
  cases b_1 with
  | false =>
   conv=>whnf
   rw [show Vg (⟨a1,a2,a3,a4⟩:Ru) (⟨b1,b2,b3,b4⟩:Ru)=false by simp [Vg,hc1]] at h;exact h
  | true =>
   conv=>whnf
   refine ⟨p1,a3,p2,b3,Zp _ _,Zp _ _,⟨rfl,by omega,by omega⟩,fun b_2 hc2=>?_⟩
   have he:Vg (⟨a1,a2,a3,a4⟩:Ru) (⟨b1,b2,b3,b4⟩:Ru)=b_2:=by simp [Vg,hc0,hc1,hc2]
   rw [he] at h
   exact m31
 ·exact h.elim
theorem ZhJ {n:Nat}:PCalls (GG w0 nG) 84 (Zmn ZA VM n):=by
 refine pc (tbl:=[]) trivial Tryz.func84 ?_
 intro args σ K h
 unfold Zmn at h
 split at h
 ·obtain ⟨l1,l2,rfl,rfl,⟨hz,hn⟩,h⟩:=h
  have h:=h _ rfl
  have hlen1:(l1.map ZA).length=l1.length:=Tf ..
  have hlen2:(l2.map ZA).length=l2.length:=Tf ..
  have hsz:=ZH sz0 l1
  refine ⟨Za [(4,⟨[13],[0,1,12],fun vs σ=>∃i:Nat,vs=[.d (.int .i64 i)]∧σ=⟨[],[],0⟩∧i≤l1.length∧XD VM l1 l2=XD VM (l1.drop i) (l2.drop i),fun vs _=>match vs with | [.d (.int _ i)]=>((l1.length:Int) - i).toNat | _=>0⟩)],0,false,by simp,Tb rfl,?_⟩
  conv=>whnf
  refine ZEf (fun hc=>?_) (fun hc=>?_)
  ·have hc:l1.length≠l2.length:=fun g=>hc (by show ((l1.map ZA).length:Int)=(l2.map ZA).length;rw [hlen1,hlen2,g])
   exact m163
  have hc:l1.length=l2.length:=by have hc:((l1.map ZA).length:Int)=(l2.map ZA).length:=hc;rw [hlen1,hlen2] at hc;omega
  conv=>whnf
  refine ⟨⟨0,rfl,rfl,by omega,rfl⟩,?_⟩
  intro vs σ hI
  obtain ⟨i,rfl,rfl,hi,hs⟩:=hI
  conv=>whnf
  refine ZEb (fun hi2=>?_) (fun hi2=>?_)
  rotate_left
  ·have hi2:l1.length≤i:=by have hi2:¬(i:Int)<(l1.map ZA).length:=hi2;rw [hlen1] at hi2;omega
   exact m150
  have hi2:i<l1.length:=by have hi2:(i:Int)<(l1.map ZA).length:=hi2;rw [hlen1] at hi2;omega
  have hi3:i<l2.length:=by omega
  have hg:=ZD sz0 l1 i hi2
  rw [Xk _ hi2 hi3] at hs
  obtain ⟨eA,hA⟩:∃e,l1[i]=e:=⟨_,rfl⟩
  obtain ⟨eB,hB⟩:∃e,l2[i]=e:=⟨_,rfl⟩
  obtain ⟨a1,a2⟩:=eA
  obtain ⟨b1,b2⟩:=eB
  have hr1:(l1.map ZA)[((i:Nat):Int).toNat]?=some (ZA (⟨a1,a2⟩:Fi)):=by simp [hi2,hA]
  have hr2:(l2.map ZA)[((i:Nat):Int).toNat]?=some (ZA (⟨b1,b2⟩:Fi)):=by simp [hi3,hB]
  rw [hA,hB] at hs
  have hneg:VM (⟨a1,a2⟩:Fi) (⟨b1,b2⟩:Fi)=false→K (.ret (.d (.bool false))) ⟨[],[],0⟩:=fun he=>by rw [hs,he,TG] at h;exact h
  conv=>whnf
  (repeat (first | (refine ⟨_,by omega,hr1,?_⟩;conv=>whnf) | (refine ⟨_,by omega,hr2,?_⟩;conv=>whnf)))
  refine ZEg (fun hc1=>?_) (fun hc1=>?_)
  ·(conv=>whnf);exact hneg ((TZ _).mp hc1)
  conv=>whnf
  have he:VM (⟨a1,a2⟩:Fi) (⟨b1,b2⟩:Fi)=true:=(Bool.not_eq_false' _).mp hc1
  rw [he,TC] at hs
  exact m15
 ·exact h.elim
theorem ZkX {n:Nat}:PCalls (GG w0 nG) 46 (Zmn ZC eqB n):=by
 refine pc (tbl:=[]) trivial Tryz.func46 ?_
 intro args σ K h
 unfold Zmn at h
 split at h
 ·obtain ⟨l1,l2,rfl,rfl,⟨hz,hn⟩,h⟩:=h
  have h:=h _ rfl
  have hlen1:(l1.map ZC).length=l1.length:=Tf ..
  have hlen2:(l2.map ZC).length=l2.length:=Tf ..
  have hsz:=ZH sz0 l1
  refine ⟨Za [(4,⟨[13],[0,1,12],fun vs σ=>∃i:Nat,vs=[.d (.int .i64 i)]∧σ=⟨[],[],0⟩∧i≤l1.length∧XD eqB l1 l2=XD eqB (l1.drop i) (l2.drop i),fun vs _=>match vs with | [.d (.int _ i)]=>((l1.length:Int) - i).toNat | _=>0⟩)],0,false,by simp,Tb rfl,?_⟩
  conv=>whnf
  refine ZEf (fun hc=>?_) (fun hc=>?_)
  ·have hc:l1.length≠l2.length:=fun g=>hc (by show ((l1.map ZC).length:Int)=(l2.map ZC).length;rw [hlen1,hlen2,g])
   exact m163
  have hc:l1.length=l2.length:=by have hc:((l1.map ZC).length:Int)=(l2.map ZC).length:=hc;rw [hlen1,hlen2] at hc;omega
  conv=>whnf
  refine ⟨⟨0,rfl,rfl,by omega,rfl⟩,?_⟩
  intro vs σ hI
  obtain ⟨i,rfl,rfl,hi,hs⟩:=hI
  conv=>whnf
  refine ZEb (fun hi2=>?_) (fun hi2=>?_)
  rotate_left
  ·have hi2:l1.length≤i:=by have hi2:¬(i:Int)<(l1.map ZC).length:=hi2;rw [hlen1] at hi2;omega
   exact m150
  have hi2:i<l1.length:=by have hi2:(i:Int)<(l1.map ZC).length:=hi2;rw [hlen1] at hi2;omega
  have hi3:i<l2.length:=by omega
  have hg:=ZD sz0 l1 i hi2
  rw [Xk _ hi2 hi3] at hs
  have hr1:(l1.map ZC)[((i:Nat):Int).toNat]?=some (ZC l1[i]):=by simp [hi2]
  have hr2:(l2.map ZC)[((i:Nat):Int).toNat]?=some (ZC l2[i]):=by simp [hi3]
  obtain ⟨eA,hA⟩:∃e,l1[i]=e:=⟨_,rfl⟩
  obtain ⟨eB,hB⟩:∃e,l2[i]=e:=⟨_,rfl⟩
  rw [hA] at hr1
  rw [hB] at hr2
  rw [hA,hB] at hs
  have hneg:eqB eA eB=false→K (.ret (.d (.bool false))) ⟨[],[],0⟩:=fun he=>by rw [hs,he,TG] at h;exact h
  conv=>whnf
  (repeat (first | (refine ⟨_,by omega,hr1,?_⟩;conv=>whnf) | (refine ⟨_,by omega,hr2,?_⟩;conv=>whnf)))
  refine ZEf (fun hc1=>?_) (fun hc1=>?_)
  ·(conv=>whnf);exact hneg (by simp [eqB,hc1])
  (try dsimp only at hc1)
  conv=>whnf
  have he:eqB eA eB=true:=by simp [eqB,hc1]
  rw [he,TC] at hs
  exact m15
 ·exact h.elim
noncomputable def Zzi (n:Nat):Tbl:=[(86,spB (U3 (fun _=>ZI) Vh ZjZ) n)]
theorem ZvD {n:Nat} (ht:TblOK (GG w0 nG) (Zzi n)):PCalls (GG w0 nG) 85 (JJ 86 (fun _=>ZI) Vh ZjZ n):=by
 refine pc ht Tryz.func85 ?_
 intro args σ K h
 unfold JJ at h
 split at h
 ·obtain ⟨p1,l1,p2,l2,rfl,rfl,⟨rfl,hz,hn⟩,h⟩:=h
  have h:=h _ rfl
  have hlen1:(l1.map ZI).length=l1.length:=Tf ..
  have hlen2:(l2.map ZI).length=l2.length:=Tf ..
  have hsz:=ZH ZjZ l1
  refine ⟨Za [(4,⟨[17],[0,1,2,15,16],fun vs σ=>∃i:Nat,vs=[.d (.int .i64 i)]∧σ=⟨[],[],0⟩∧i≤l1.length∧XD Vh l1 l2=XD Vh (l1.drop i) (l2.drop i),fun vs _=>match vs with | [.d (.int _ i)]=>((l1.length:Int) - i).toNat | _=>0⟩)],0,false,by simp,Tb rfl,?_⟩
  conv=>whnf
  refine ZEf (fun hc=>?_) (fun hc=>?_)
  ·have hc:l1.length≠l2.length:=fun g=>hc (by show ((l1.map ZI).length:Int)=(l2.map ZI).length;rw [hlen1,hlen2,g])
   exact m163
  have hc:l1.length=l2.length:=by have hc:((l1.map ZI).length:Int)=(l2.map ZI).length:=hc;rw [hlen1,hlen2] at hc;omega
  conv=>whnf
  refine ⟨⟨0,rfl,rfl,by omega,rfl⟩,?_⟩
  intro vs σ hI
  obtain ⟨i,rfl,rfl,hi,hs⟩:=hI
  conv=>whnf
  refine ZEb (fun hi2=>?_) (fun hi2=>?_)
  rotate_left
  ·have hi2:l1.length≤i:=by have hi2:¬(i:Int)<(l1.map ZI).length:=hi2;rw [hlen1] at hi2;omega
   exact m150
  have hi2:i<l1.length:=by have hi2:(i:Int)<(l1.map ZI).length:=hi2;rw [hlen1] at hi2;omega
  have hi3:i<l2.length:=by omega
  have hg:=ZD ZjZ l1 i hi2
  rw [Xk _ hi2 hi3] at hs
  obtain ⟨eA,hA⟩:∃e,l1[i]=e:=⟨_,rfl⟩
  obtain ⟨eB,hB⟩:∃e,l2[i]=e:=⟨_,rfl⟩
  obtain ⟨a1,a2⟩:=eA
  obtain ⟨b1,b2⟩:=eB
  have hr1:(l1.map ZI)[((i:Nat):Int).toNat]?=some (ZI (⟨a1,a2⟩:Ca)):=by simp [hi2,hA]
  have hr2:(l2.map ZI)[((i:Nat):Int).toNat]?=some (ZI (⟨b1,b2⟩:Ca)):=by simp [hi3,hB]
  rw [hA,hB] at hs
  rw [hA] at hg
  have hneg:Vh (⟨a1,a2⟩:Ca) (⟨b1,b2⟩:Ca)=false→K (.ret (.d (.bool false))) ⟨[],[],0⟩:=fun he=>by rw [hs,he,TG] at h;exact h
  conv=>whnf
  refine ⟨_,by omega,hr1,?_⟩
  conv=>whnf
  refine ⟨_,by omega,hr2,?_⟩
  conv=>whnf
  refine ⟨by omega,p1,(⟨a1,a2⟩:Ca),p2,(⟨b1,b2⟩:Ca),rfl,rfl,⟨by omega,by omega⟩,fun b_1 hb1=>?_⟩
  exact m10
 ·exact h.elim
noncomputable def Zzj (n:Nat):Tbl:=[(84,Zmn ZA VM n)]
theorem ZvE {n:Nat} (ht:TblOK (GG w0 nG) (Zzj n)):PCalls (GG w0 nG) 86 (U3 (fun _=>ZI) Vh ZjZ n):=by
 refine pc ht Tryz.func86 ?_
 intro args σ K h
 unfold U3 at h
 split at h
 ·obtain ⟨p1,⟨a1,a2⟩,p2,⟨b1,b2⟩,rfl,rfl,⟨hz,hn⟩,h⟩:=h
  have h:=h _ rfl
  simp only [ZjZ] at hz
  refine ⟨Za [],0,false,by simp,Tb rfl,?_⟩
  conv=>whnf
  refine ZEb (fun hc0=>?_) (fun hc0=>?_)
  rotate_left
  ·rw [show Vh (⟨a1,a2⟩:Ca) (⟨b1,b2⟩:Ca)=false by simp [Vh,hc0]] at h;(conv=>whnf);exact h
  (try dsimp only at hc0)
  conv=>whnf
  refine ⟨a2,b2,rfl,rfl,⟨by omega,by omega⟩,fun b_1 hc1=>?_⟩
  have he:Vh (⟨a1,a2⟩:Ca) (⟨b1,b2⟩:Ca)=b_1:=by simp [Vh,hc0,hc1]
  rw [he] at h
  exact m31
 ·exact h.elim
noncomputable def Zzk (n:Nat):Tbl:=[(84,Zmn ZA VM n),(85,JJ 86 (fun _=>ZI) Vh ZjZ n)]
theorem ZvF {n:Nat} (ht:TblOK (GG w0 nG) (Zzk n)):PCalls (GG w0 nG) 39 (U3 Ya X3 Zjm n):=by
 refine pc ht Tryz.func39 ?_
 intro args σ K h
 unfold U3 at h
 split at h
 ·obtain ⟨p1,⟨a1,a2,a3,a4,a5,a6⟩,p2,⟨b1,b2,b3,b4,b5,b6⟩,rfl,rfl,⟨hz,hn⟩,h⟩:=h
  have h:=h _ rfl
  simp only [Zjm] at hz
  refine ⟨Za [],0,false,by simp,Tb rfl,?_⟩
  conv=>whnf
  refine ZEb (fun hc0=>?_) (fun hc0=>?_)
  rotate_left
  ·rw [show X3 (⟨a1,a2,a3,a4,a5,a6⟩:Ty) (⟨b1,b2,b3,b4,b5,b6⟩:Ty)=false by simp [X3,hc0]] at h;(conv=>whnf);exact h
  (try dsimp only at hc0)
  conv=>whnf
  refine ZEb (fun hc1=>?_) (fun hc1=>?_)
  rotate_left
  ·rw [show X3 (⟨a1,a2,a3,a4,a5,a6⟩:Ty) (⟨b1,b2,b3,b4,b5,b6⟩:Ty)=false by simp [X3,hc1]] at h;(conv=>whnf);exact h
  (try dsimp only at hc1)
  conv=>whnf
  refine ZEb (fun hc2=>?_) (fun hc2=>?_)
  rotate_left
  ·rw [show X3 (⟨a1,a2,a3,a4,a5,a6⟩:Ty) (⟨b1,b2,b3,b4,b5,b6⟩:Ty)=false by simp [X3,hc2]] at h;(conv=>whnf);exact h
  (try dsimp only at hc2)
  conv=>whnf
  refine ⟨a4,b4,rfl,rfl,⟨by omega,by omega⟩,fun b_3 hc3=>?_⟩
  cases b_3 with
  | false =>
   conv=>whnf
   rw [show X3 (⟨a1,a2,a3,a4,a5,a6⟩:Ty) (⟨b1,b2,b3,b4,b5,b6⟩:Ty)=false by simp [X3,hc3]] at h;exact h
  | true =>
   conv=>whnf
   refine ⟨p1,a5,p2,b5,rfl,rfl,⟨rfl,by omega,by omega⟩,fun b_4 hc4=>?_⟩
   have he:X3 (⟨a1,a2,a3,a4,a5,a6⟩:Ty) (⟨b1,b2,b3,b4,b5,b6⟩:Ty)=b_4:=by simp [X3,hc0,hc1,hc2,hc3,hc4]
   rw [he] at h
   exact m31
 ·exact h.elim
noncomputable def Zzl (n:Nat):Tbl:=[(39,spB (U3 Ya X3 Zjm) n)]
theorem ZvG {n:Nat} (ht:TblOK (GG w0 nG) (Zzl n)):PCalls (GG w0 nG) 38 (JJ 39 Ya X3 Zjm n):=by
 refine pc ht Tryz.func38 ?_
 intro args σ K h
 unfold JJ at h
 split at h
 ·obtain ⟨p1,l1,p2,l2,rfl,rfl,⟨rfl,hz,hn⟩,h⟩:=h
  have h:=h _ rfl
  have hlen1:(l1.map (Ya p1)).length=l1.length:=Tf ..
  have hlen2:(l2.map (Ya p2)).length=l2.length:=Tf ..
  have hsz:=ZH Zjm l1
  refine ⟨Za [(4,⟨[17],[0,1,2,15,16],fun vs σ=>∃i:Nat,vs=[.d (.int .i64 i)]∧σ=⟨[],[],0⟩∧i≤l1.length∧XD X3 l1 l2=XD X3 (l1.drop i) (l2.drop i),fun vs _=>match vs with | [.d (.int _ i)]=>((l1.length:Int) - i).toNat | _=>0⟩)],0,false,by simp,Tb rfl,?_⟩
  conv=>whnf
  refine ZEf (fun hc=>?_) (fun hc=>?_)
  ·have hc:l1.length≠l2.length:=fun g=>hc (by show ((l1.map (Ya p1)).length:Int)=(l2.map (Ya p2)).length;rw [hlen1,hlen2,g])
   exact m163
  have hc:l1.length=l2.length:=by have hc:((l1.map (Ya p1)).length:Int)=(l2.map (Ya p2)).length:=hc;rw [hlen1,hlen2] at hc;omega
  conv=>whnf
  refine ⟨⟨0,rfl,rfl,by omega,rfl⟩,?_⟩
  intro vs σ hI
  obtain ⟨i,rfl,rfl,hi,hs⟩:=hI
  conv=>whnf
  refine ZEb (fun hi2=>?_) (fun hi2=>?_)
  rotate_left
  ·have hi2:l1.length≤i:=by have hi2:¬(i:Int)<(l1.map (Ya p1)).length:=hi2;rw [hlen1] at hi2;omega
   exact m150
  have hi2:i<l1.length:=by have hi2:(i:Int)<(l1.map (Ya p1)).length:=hi2;rw [hlen1] at hi2;omega
  have hi3:i<l2.length:=by omega
  have hg:=ZD Zjm l1 i hi2
  rw [Xk _ hi2 hi3] at hs
  obtain ⟨eA,hA⟩:∃e,l1[i]=e:=⟨_,rfl⟩
  obtain ⟨eB,hB⟩:∃e,l2[i]=e:=⟨_,rfl⟩
  obtain ⟨a1,a2,a3,a4,a5,a6⟩:=eA
  obtain ⟨b1,b2,b3,b4,b5,b6⟩:=eB
  have hr1:(l1.map (Ya p1))[((i:Nat):Int).toNat]?=some ((Ya p1) (⟨a1,a2,a3,a4,a5,a6⟩:Ty)):=by simp [hi2,hA]
  have hr2:(l2.map (Ya p2))[((i:Nat):Int).toNat]?=some ((Ya p2) (⟨b1,b2,b3,b4,b5,b6⟩:Ty)):=by simp [hi3,hB]
  rw [hA,hB] at hs
  rw [hA] at hg
  have hneg:X3 (⟨a1,a2,a3,a4,a5,a6⟩:Ty) (⟨b1,b2,b3,b4,b5,b6⟩:Ty)=false→K (.ret (.d (.bool false))) ⟨[],[],0⟩:=fun he=>by rw [hs,he,TG] at h;exact h
  conv=>whnf
  refine ⟨_,by omega,hr1,?_⟩
  conv=>whnf
  refine ⟨_,by omega,hr2,?_⟩
  conv=>whnf
  refine ⟨by omega,p1,(⟨a1,a2,a3,a4,a5,a6⟩:Ty),p2,(⟨b1,b2,b3,b4,b5,b6⟩:Ty),rfl,rfl,⟨by omega,by omega⟩,fun b_1 hb1=>?_⟩
  exact m10
 ·exact h.elim
noncomputable def Zzm (n:Nat):Tbl:=[(84,Zmn ZA VM n)]
theorem ZvH {n:Nat} (ht:TblOK (GG w0 nG) (Zzm n)):PCalls (GG w0 nG) 41 (U3 Z8 X4 ZkV n):=by
 refine pc ht Tryz.func41 ?_
 intro args σ K h
 unfold U3 at h
 split at h
 ·obtain ⟨p1,⟨a1,a2,a3,a4,a5,a6⟩,p2,⟨b1,b2,b3,b4,b5,b6⟩,rfl,rfl,⟨hz,hn⟩,h⟩:=h
  have h:=h _ rfl
  simp only [ZkV] at hz
  refine ⟨Za [],0,false,by simp,Tb rfl,?_⟩
  conv=>whnf
  refine ZEb (fun hc0=>?_) (fun hc0=>?_)
  rotate_left
  ·rw [show X4 (⟨a1,a2,a3,a4,a5,a6⟩:Re) (⟨b1,b2,b3,b4,b5,b6⟩:Re)=false by simp [X4,hc0]] at h;(conv=>whnf);exact h
  (try dsimp only at hc0)
  conv=>whnf
  refine ZEb (fun hc1=>?_) (fun hc1=>?_)
  rotate_left
  ·rw [show X4 (⟨a1,a2,a3,a4,a5,a6⟩:Re) (⟨b1,b2,b3,b4,b5,b6⟩:Re)=false by simp [X4,hc1]] at h;(conv=>whnf);exact h
  (try dsimp only at hc1)
  conv=>whnf
  refine ZEb (fun hc2=>?_) (fun hc2=>?_)
  rotate_left
  ·rw [show X4 (⟨a1,a2,a3,a4,a5,a6⟩:Re) (⟨b1,b2,b3,b4,b5,b6⟩:Re)=false by simp [X4,hc2]] at h;(conv=>whnf);exact h
  (try dsimp only at hc2)
  conv=>whnf
  refine ZEb (fun hc3=>?_) (fun hc3=>?_)
  rotate_left
  ·rw [show X4 (⟨a1,a2,a3,a4,a5,a6⟩:Re) (⟨b1,b2,b3,b4,b5,b6⟩:Re)=false by simp [X4,hc3]] at h;(conv=>whnf);exact h
  (try dsimp only at hc3)
  conv=>whnf
  refine ⟨a2,b2,rfl,rfl,⟨by omega,by omega⟩,fun b_4 hc4=>?_⟩
  have he:X4 (⟨a1,a2,a3,a4,a5,a6⟩:Re) (⟨b1,b2,b3,b4,b5,b6⟩:Re)=b_4:=by simp [X4,hc0,hc1,hc2,hc3,hc4]
  rw [he] at h
  exact m31
 ·exact h.elim
noncomputable def Zzn (n:Nat):Tbl:=[(41,spB (U3 Z8 X4 ZkV) n)]
theorem ZvI {n:Nat} (ht:TblOK (GG w0 nG) (Zzn n)):PCalls (GG w0 nG) 40 (JJ 41 Z8 X4 ZkV n):=by
 refine pc ht Tryz.func40 ?_
 intro args σ K h
 unfold JJ at h
 split at h
 ·obtain ⟨p1,l1,p2,l2,rfl,rfl,⟨rfl,hz,hn⟩,h⟩:=h
  have h:=h _ rfl
  have hlen1:(l1.map (Z8 p1)).length=l1.length:=Tf ..
  have hlen2:(l2.map (Z8 p2)).length=l2.length:=Tf ..
  have hsz:=ZH ZkV l1
  refine ⟨Za [(4,⟨[17],[0,1,2,15,16],fun vs σ=>∃i:Nat,vs=[.d (.int .i64 i)]∧σ=⟨[],[],0⟩∧i≤l1.length∧XD X4 l1 l2=XD X4 (l1.drop i) (l2.drop i),fun vs _=>match vs with | [.d (.int _ i)]=>((l1.length:Int) - i).toNat | _=>0⟩)],0,false,by simp,Tb rfl,?_⟩
  conv=>whnf
  refine ZEf (fun hc=>?_) (fun hc=>?_)
  ·have hc:l1.length≠l2.length:=fun g=>hc (by show ((l1.map (Z8 p1)).length:Int)=(l2.map (Z8 p2)).length;rw [hlen1,hlen2,g])
   exact m163
  have hc:l1.length=l2.length:=by have hc:((l1.map (Z8 p1)).length:Int)=(l2.map (Z8 p2)).length:=hc;rw [hlen1,hlen2] at hc;omega
  conv=>whnf
  refine ⟨⟨0,rfl,rfl,by omega,rfl⟩,?_⟩
  intro vs σ hI
  obtain ⟨i,rfl,rfl,hi,hs⟩:=hI
  conv=>whnf
  refine ZEb (fun hi2=>?_) (fun hi2=>?_)
  rotate_left
  ·have hi2:l1.length≤i:=by have hi2:¬(i:Int)<(l1.map (Z8 p1)).length:=hi2;rw [hlen1] at hi2;omega
   exact m150
  have hi2:i<l1.length:=by have hi2:(i:Int)<(l1.map (Z8 p1)).length:=hi2;rw [hlen1] at hi2;omega
  have hi3:i<l2.length:=by omega
  have hg:=ZD ZkV l1 i hi2
  rw [Xk _ hi2 hi3] at hs
  obtain ⟨eA,hA⟩:∃e,l1[i]=e:=⟨_,rfl⟩
  obtain ⟨eB,hB⟩:∃e,l2[i]=e:=⟨_,rfl⟩
  obtain ⟨a1,a2,a3,a4,a5,a6⟩:=eA
  obtain ⟨b1,b2,b3,b4,b5,b6⟩:=eB
  have hr1:(l1.map (Z8 p1))[((i:Nat):Int).toNat]?=some ((Z8 p1) (⟨a1,a2,a3,a4,a5,a6⟩:Re)):=by simp [hi2,hA]
  have hr2:(l2.map (Z8 p2))[((i:Nat):Int).toNat]?=some ((Z8 p2) (⟨b1,b2,b3,b4,b5,b6⟩:Re)):=by simp [hi3,hB]
  rw [hA,hB] at hs
  rw [hA] at hg
  have hneg:X4 (⟨a1,a2,a3,a4,a5,a6⟩:Re) (⟨b1,b2,b3,b4,b5,b6⟩:Re)=false→K (.ret (.d (.bool false))) ⟨[],[],0⟩:=fun he=>by rw [hs,he,TG] at h;exact h
  conv=>whnf
  refine ⟨_,by omega,hr1,?_⟩
  conv=>whnf
  refine ⟨_,by omega,hr2,?_⟩
  conv=>whnf
  refine ⟨by omega,p1,(⟨a1,a2,a3,a4,a5,a6⟩:Re),p2,(⟨b1,b2,b3,b4,b5,b6⟩:Re),rfl,rfl,⟨by omega,by omega⟩,fun b_1 hb1=>?_⟩
  exact m10
 ·exact h.elim
noncomputable def Zzo (n:Nat):Tbl:=[(46,Zmn ZC eqB n)]
theorem ZvJ {n:Nat} (ht:TblOK (GG w0 nG) (Zzo n)):PCalls (GG w0 nG) 48 (U3 Yd Vi ZkW n):=by
 refine pc ht Tryz.func48 ?_
 intro args σ K h
 unfold U3 at h
 split at h
 ·obtain ⟨p1,⟨a1,a2,a3,a4⟩,p2,⟨b1,b2,b3,b4⟩,rfl,rfl,⟨hz,hn⟩,h⟩:=h
  have h:=h _ rfl
  simp only [ZkW] at hz
  refine ⟨Za [],0,false,by simp,Tb rfl,?_⟩
  conv=>whnf
  refine ZEb (fun hc0=>?_) (fun hc0=>?_)
  rotate_left
  ·rw [show Vi (⟨a1,a2,a3,a4⟩:Ini) (⟨b1,b2,b3,b4⟩:Ini)=false by simp [Vi,hc0]] at h;(conv=>whnf);exact h
  (try dsimp only at hc0)
  conv=>whnf
  refine ZEb (fun hc1=>?_) (fun hc1=>?_)
  rotate_left
  ·rw [show Vi (⟨a1,a2,a3,a4⟩:Ini) (⟨b1,b2,b3,b4⟩:Ini)=false by simp [Vi,hc1]] at h;(conv=>whnf);exact h
  (try dsimp only at hc1)
  conv=>whnf
  refine ⟨a3,b3,rfl,rfl,⟨by omega,by omega⟩,fun b_2 hc2=>?_⟩
  have he:Vi (⟨a1,a2,a3,a4⟩:Ini) (⟨b1,b2,b3,b4⟩:Ini)=b_2:=by simp [Vi,hc0,hc1,hc2]
  rw [he] at h
  exact m31
 ·exact h.elim
noncomputable def Zzp (n:Nat):Tbl:=[(48,spB (U3 Yd Vi ZkW) n)]
theorem ZvK {n:Nat} (ht:TblOK (GG w0 nG) (Zzp n)):PCalls (GG w0 nG) 47 (JJ 48 Yd Vi ZkW n):=by
 refine pc ht Tryz.func47 ?_
 intro args σ K h
 unfold JJ at h
 split at h
 ·obtain ⟨p1,l1,p2,l2,rfl,rfl,⟨rfl,hz,hn⟩,h⟩:=h
  have h:=h _ rfl
  have hlen1:(l1.map (Yd p1)).length=l1.length:=Tf ..
  have hlen2:(l2.map (Yd p2)).length=l2.length:=Tf ..
  have hsz:=ZH ZkW l1
  refine ⟨Za [(4,⟨[17],[0,1,2,15,16],fun vs σ=>∃i:Nat,vs=[.d (.int .i64 i)]∧σ=⟨[],[],0⟩∧i≤l1.length∧XD Vi l1 l2=XD Vi (l1.drop i) (l2.drop i),fun vs _=>match vs with | [.d (.int _ i)]=>((l1.length:Int) - i).toNat | _=>0⟩)],0,false,by simp,Tb rfl,?_⟩
  conv=>whnf
  refine ZEf (fun hc=>?_) (fun hc=>?_)
  ·have hc:l1.length≠l2.length:=fun g=>hc (by show ((l1.map (Yd p1)).length:Int)=(l2.map (Yd p2)).length;rw [hlen1,hlen2,g])
   exact m163
  have hc:l1.length=l2.length:=by have hc:((l1.map (Yd p1)).length:Int)=(l2.map (Yd p2)).length:=hc;rw [hlen1,hlen2] at hc;omega
  conv=>whnf
  refine ⟨⟨0,rfl,rfl,by omega,rfl⟩,?_⟩
  intro vs σ hI
  obtain ⟨i,rfl,rfl,hi,hs⟩:=hI
  conv=>whnf
  refine ZEb (fun hi2=>?_) (fun hi2=>?_)
  rotate_left
  ·have hi2:l1.length≤i:=by have hi2:¬(i:Int)<(l1.map (Yd p1)).length:=hi2;rw [hlen1] at hi2;omega
   exact m150
  have hi2:i<l1.length:=by have hi2:(i:Int)<(l1.map (Yd p1)).length:=hi2;rw [hlen1] at hi2;omega
  have hi3:i<l2.length:=by omega
  have hg:=ZD ZkW l1 i hi2
  rw [Xk _ hi2 hi3] at hs
  obtain ⟨eA,hA⟩:∃e,l1[i]=e:=⟨_,rfl⟩
  obtain ⟨eB,hB⟩:∃e,l2[i]=e:=⟨_,rfl⟩
  obtain ⟨a1,a2,a3,a4⟩:=eA
  obtain ⟨b1,b2,b3,b4⟩:=eB
  have hr1:(l1.map (Yd p1))[((i:Nat):Int).toNat]?=some ((Yd p1) (⟨a1,a2,a3,a4⟩:Ini)):=by simp [hi2,hA]
  have hr2:(l2.map (Yd p2))[((i:Nat):Int).toNat]?=some ((Yd p2) (⟨b1,b2,b3,b4⟩:Ini)):=by simp [hi3,hB]
  rw [hA,hB] at hs
  rw [hA] at hg
  have hneg:Vi (⟨a1,a2,a3,a4⟩:Ini) (⟨b1,b2,b3,b4⟩:Ini)=false→K (.ret (.d (.bool false))) ⟨[],[],0⟩:=fun he=>by rw [hs,he,TG] at h;exact h
  conv=>whnf
  refine ⟨_,by omega,hr1,?_⟩
  conv=>whnf
  refine ⟨_,by omega,hr2,?_⟩
  conv=>whnf
  refine ⟨by omega,p1,(⟨a1,a2,a3,a4⟩:Ini),p2,(⟨b1,b2,b3,b4⟩:Ini),rfl,rfl,⟨by omega,by omega⟩,fun b_1 hb1=>?_⟩
  exact m10
 ·exact h.elim
theorem ZvL {n:Nat} :PCalls (GG w0 nG) 50 (U3 Ye J8 sz0 n):=by
 refine pc (tbl:=[]) trivial Tryz.func50 ?_
 intro args σ K h
 unfold U3 at h
 split at h
 ·obtain ⟨p1,⟨a1,a2⟩,p2,⟨b1,b2⟩,rfl,rfl,⟨hz,hn⟩,h⟩:=h
  have h:=h _ rfl
  refine ⟨Za [],0,false,by simp,Tb rfl,?_⟩
  conv=>whnf
  simp only [J8,decide_true,TC] at h
  exact m31
 ·exact h.elim
noncomputable def Zzq (n:Nat):Tbl:=[(50,spB (U3 Ye J8 sz0) n)]
theorem ZvM {n:Nat} (ht:TblOK (GG w0 nG) (Zzq n)):PCalls (GG w0 nG) 49 (JJ 50 Ye J8 sz0 n):=by
 refine pc ht Tryz.func49 ?_
 intro args σ K h
 unfold JJ at h
 split at h
 ·obtain ⟨p1,l1,p2,l2,rfl,rfl,⟨rfl,hz,hn⟩,h⟩:=h
  have h:=h _ rfl
  have hlen1:(l1.map (Ye p1)).length=l1.length:=Tf ..
  have hlen2:(l2.map (Ye p2)).length=l2.length:=Tf ..
  have hsz:=ZH sz0 l1
  refine ⟨Za [(4,⟨[17],[0,1,2,15,16],fun vs σ=>∃i:Nat,vs=[.d (.int .i64 i)]∧σ=⟨[],[],0⟩∧i≤l1.length∧XD J8 l1 l2=XD J8 (l1.drop i) (l2.drop i),fun vs _=>match vs with | [.d (.int _ i)]=>((l1.length:Int) - i).toNat | _=>0⟩)],0,false,by simp,Tb rfl,?_⟩
  conv=>whnf
  refine ZEf (fun hc=>?_) (fun hc=>?_)
  ·have hc:l1.length≠l2.length:=fun g=>hc (by show ((l1.map (Ye p1)).length:Int)=(l2.map (Ye p2)).length;rw [hlen1,hlen2,g])
   exact m163
  have hc:l1.length=l2.length:=by have hc:((l1.map (Ye p1)).length:Int)=(l2.map (Ye p2)).length:=hc;rw [hlen1,hlen2] at hc;omega
  conv=>whnf
  refine ⟨⟨0,rfl,rfl,by omega,rfl⟩,?_⟩
  intro vs σ hI
  obtain ⟨i,rfl,rfl,hi,hs⟩:=hI
  conv=>whnf
  refine ZEb (fun hi2=>?_) (fun hi2=>?_)
  rotate_left
  ·have hi2:l1.length≤i:=by have hi2:¬(i:Int)<(l1.map (Ye p1)).length:=hi2;rw [hlen1] at hi2;omega
   exact m150
  have hi2:i<l1.length:=by have hi2:(i:Int)<(l1.map (Ye p1)).length:=hi2;rw [hlen1] at hi2;omega
  have hi3:i<l2.length:=by omega
  have hg:=ZD sz0 l1 i hi2
  rw [Xk _ hi2 hi3] at hs
  obtain ⟨eA,hA⟩:∃e,l1[i]=e:=⟨_,rfl⟩
  obtain ⟨eB,hB⟩:∃e,l2[i]=e:=⟨_,rfl⟩
  obtain ⟨a1,a2⟩:=eA
  obtain ⟨b1,b2⟩:=eB
  have hr1:(l1.map (Ye p1))[((i:Nat):Int).toNat]?=some ((Ye p1) (⟨a1,a2⟩:Ov)):=by simp [hi2,hA]
  have hr2:(l2.map (Ye p2))[((i:Nat):Int).toNat]?=some ((Ye p2) (⟨b1,b2⟩:Ov)):=by simp [hi3,hB]
  rw [hA,hB] at hs
  rw [hA] at hg
  have hneg:J8 (⟨a1,a2⟩:Ov) (⟨b1,b2⟩:Ov)=false→K (.ret (.d (.bool false))) ⟨[],[],0⟩:=fun he=>by rw [hs,he,TG] at h;exact h
  conv=>whnf
  refine ⟨_,by omega,hr1,?_⟩
  conv=>whnf
  refine ⟨_,by omega,hr2,?_⟩
  conv=>whnf
  refine ⟨by omega,p1,(⟨a1,a2⟩:Ov),p2,(⟨b1,b2⟩:Ov),rfl,rfl,⟨by omega,by omega⟩,fun b_1 hb1=>?_⟩
  exact m10
 ·exact h.elim
noncomputable def Zzr (n:Nat):Tbl:=[(46,Zmn ZC eqB n),(19,U3 XK XL Zjn n)]
theorem ZvN {n:Nat} (ht:TblOK (GG w0 nG) (Zzr n)):PCalls (GG w0 nG) 45 (U3 ZY Xl ZhI n):=by
 refine pc ht Tryz.func45 ?_
 intro args σ K h
 unfold U3 at h
 split at h
 ·obtain ⟨p1,⟨a1,a2,a3,a4,⟨u1,u2,u3,u4,u5,u6⟩,a6⟩,p2,⟨b1,b2,b3,b4,⟨v1,v2,v3,v4,v5,v6⟩,b6⟩,rfl,rfl,⟨hz,hn⟩,h⟩:=h
  have h:=h _ rfl
  simp only [ZhI] at hz
  refine ⟨Za [],0,false,by simp,Tb rfl,?_⟩
  conv=>whnf
  refine ZEb (fun hc0=>?_) (fun hc0=>?_)
  rotate_left
  ·rw [show Xl (.mk a1 a2 a3 a4 (.mk u1 u2 u3 u4 u5 u6) a6) (.mk b1 b2 b3 b4 (.mk v1 v2 v3 v4 v5 v6) b6)=false by simp [Xl,hc0]] at h;(conv=>whnf);exact h
  (try dsimp only at hc0)
  conv=>whnf
  refine ZEb (fun hc1=>?_) (fun hc1=>?_)
  rotate_left
  ·rw [show Xl (.mk a1 a2 a3 a4 (.mk u1 u2 u3 u4 u5 u6) a6) (.mk b1 b2 b3 b4 (.mk v1 v2 v3 v4 v5 v6) b6)=false by simp [Xl,hc1]] at h;(conv=>whnf);exact h
  (try dsimp only at hc1)
  conv=>whnf
  refine ⟨a2,b2,rfl,rfl,⟨by omega,by omega⟩,fun b_2 hc2=>?_⟩
  cases b_2 with
  | false =>
   conv=>whnf
   rw [show Xl (.mk a1 a2 a3 a4 (.mk u1 u2 u3 u4 u5 u6) a6) (.mk b1 b2 b3 b4 (.mk v1 v2 v3 v4 v5 v6) b6)=false by simp [Xl,hc2]] at h;exact h
  | true =>
   conv=>whnf
   refine ⟨a4,b4,rfl,rfl,⟨by omega,by omega⟩,fun b_3 hc3=>?_⟩
   cases b_3 with
   | false =>
    conv=>whnf
    rw [show Xl (.mk a1 a2 a3 a4 (.mk u1 u2 u3 u4 u5 u6) a6) (.mk b1 b2 b3 b4 (.mk v1 v2 v3 v4 v5 v6) b6)=false by simp [Xl,hc3]] at h;exact h
   | true =>
    conv=>whnf
    refine ⟨p1,(.mk u1 u2 u3 u4 u5 u6),p2,(.mk v1 v2 v3 v4 v5 v6),rfl,rfl,⟨by omega,by omega⟩,fun b_4 hc4=>?_⟩
    have he:Xl (.mk a1 a2 a3 a4 (.mk u1 u2 u3 u4 u5 u6) a6) (.mk b1 b2 b3 b4 (.mk v1 v2 v3 v4 v5 v6) b6)=b_4:=by simp [Xl,hc0,hc1,hc2,hc3,hc4]
    rw [he] at h
    exact m31
 ·exact h.elim
noncomputable def Zzs (n:Nat):Tbl:=[(45,spB (U3 ZY Xl ZhI) n)]
theorem Zqa {n:Nat} (ht:TblOK (GG w0 nG) (Zzs n)):PCalls (GG w0 nG) 44 (JJ 45 ZY Xl ZhI n):=by
 refine pc ht Tryz.func44 ?_
 intro args σ K h
 unfold JJ at h
 split at h
 ·obtain ⟨p1,l1,p2,l2,rfl,rfl,⟨rfl,hz,hn⟩,h⟩:=h
  have h:=h _ rfl
  have hlen1:(l1.map (ZY p1)).length=l1.length:=Tf ..
  have hlen2:(l2.map (ZY p2)).length=l2.length:=Tf ..
  have hsz:=ZH ZhI l1
  refine ⟨Za [(4,⟨[17],[0,1,2,15,16],fun vs σ=>∃i:Nat,vs=[.d (.int .i64 i)]∧σ=⟨[],[],0⟩∧i≤l1.length∧XD Xl l1 l2=XD Xl (l1.drop i) (l2.drop i),fun vs _=>match vs with | [.d (.int _ i)]=>((l1.length:Int) - i).toNat | _=>0⟩)],0,false,by simp,Tb rfl,?_⟩
  conv=>whnf
  refine ZEf (fun hc=>?_) (fun hc=>?_)
  ·have hc:l1.length≠l2.length:=fun g=>hc (by show ((l1.map (ZY p1)).length:Int)=(l2.map (ZY p2)).length;rw [hlen1,hlen2,g])
   exact m163
  have hc:l1.length=l2.length:=by have hc:((l1.map (ZY p1)).length:Int)=(l2.map (ZY p2)).length:=hc;rw [hlen1,hlen2] at hc;omega
  conv=>whnf
  refine ⟨⟨0,rfl,rfl,by omega,rfl⟩,?_⟩
  intro vs σ hI
  obtain ⟨i,rfl,rfl,hi,hs⟩:=hI
  conv=>whnf
  refine ZEb (fun hi2=>?_) (fun hi2=>?_)
  rotate_left
  ·have hi2:l1.length≤i:=by have hi2:¬(i:Int)<(l1.map (ZY p1)).length:=hi2;rw [hlen1] at hi2;omega
   exact m150
  have hi2:i<l1.length:=by have hi2:(i:Int)<(l1.map (ZY p1)).length:=hi2;rw [hlen1] at hi2;omega
  have hi3:i<l2.length:=by omega
  have hg:=ZD ZhI l1 i hi2
  rw [Xk _ hi2 hi3] at hs
  obtain ⟨eA,hA⟩:∃e,l1[i]=e:=⟨_,rfl⟩
  obtain ⟨eB,hB⟩:∃e,l2[i]=e:=⟨_,rfl⟩
  obtain ⟨a1,a2,a3,a4,⟨u1,u2,u3,u4,u5,u6⟩,a6⟩:=eA
  obtain ⟨b1,b2,b3,b4,⟨v1,v2,v3,v4,v5,v6⟩,b6⟩:=eB
  have hr1:(l1.map (ZY p1))[((i:Nat):Int).toNat]?=some (ZY p1 (.mk a1 a2 a3 a4 (.mk u1 u2 u3 u4 u5 u6) a6)):=by simp [hi2,hA]
  have hr2:(l2.map (ZY p2))[((i:Nat):Int).toNat]?=some (ZY p2 (.mk b1 b2 b3 b4 (.mk v1 v2 v3 v4 v5 v6) b6)):=by simp [hi3,hB]
  rw [hA,hB] at hs
  rw [hA] at hg
  have hneg:Xl (.mk a1 a2 a3 a4 (.mk u1 u2 u3 u4 u5 u6) a6) (.mk b1 b2 b3 b4 (.mk v1 v2 v3 v4 v5 v6) b6)=false→K (.ret (.d (.bool false))) ⟨[],[],0⟩:=fun he=>by rw [hs,he,TG] at h;exact h
  conv=>whnf
  refine ⟨_,by omega,hr1,?_⟩
  conv=>whnf
  refine ⟨_,by omega,hr2,?_⟩
  conv=>whnf
  refine ⟨by omega,p1,(.mk a1 a2 a3 a4 (.mk u1 u2 u3 u4 u5 u6) a6),p2,(.mk b1 b2 b3 b4 (.mk v1 v2 v3 v4 v5 v6) b6),rfl,rfl,⟨by omega,by omega⟩,fun b_1 hb1=>?_⟩
  exact m10
 ·exact h.elim
noncomputable def ZtY (n:Nat):Tbl:=[(38,JJ 39 Ya X3 Zjm n),(40,JJ 41 Z8 X4 ZkV n),(42,JJ 43 Z7 Vg ZjY n),(44,JJ 45 ZY Xl ZhI n),(47,JJ 48 Yd Vi ZkW n),(49,JJ 50 Ye J8 sz0 n)]
theorem Zqb {n:Nat} (ht:TblOK (GG w0 nG) (ZtY n)):PCalls (GG w0 nG) 19 (U3 XK XL Zjn n):=by
 refine pc ht Tryz.func19 ?_
 intro args σ K h
 unfold U3 at h
 split at h
 ·obtain ⟨p1,⟨a1,a2,a3,a4,a5,a6⟩,p2,⟨b1,b2,b3,b4,b5,b6⟩,rfl,rfl,⟨hz,hn⟩,h⟩:=h
  have h:=h _ rfl
  simp only [Zjn,Xb] at hz
  refine ⟨Za [],0,false,by simp,Tb rfl,?_⟩
  conv=>whnf
  refine ⟨p1,a1,p2,b1,rfl,rfl,⟨rfl,by omega,by omega⟩,fun b_0 hc0=>?_⟩
  cases b_0 with
  | false =>
   conv=>whnf
   rw [show XL (.mk a1 a2 a3 a4 a5 a6) (.mk b1 b2 b3 b4 b5 b6)=false by simp [XL,X5,hc0]] at h;exact h
  | true =>
   conv=>whnf
   refine ⟨p1,a2,p2,b2,rfl,rfl,⟨rfl,by omega,by omega⟩,fun b_1 hc1=>?_⟩
   cases b_1 with
   | false =>
    conv=>whnf
    rw [show XL (.mk a1 a2 a3 a4 a5 a6) (.mk b1 b2 b3 b4 b5 b6)=false by simp [XL,X5,hc1]] at h;exact h
   | true =>
    conv=>whnf
    refine ⟨p1,a3,p2,b3,rfl,rfl,⟨rfl,by omega,by omega⟩,fun b_2 hc2=>?_⟩
    cases b_2 with
    | false =>
     conv=>whnf
     rw [show XL (.mk a1 a2 a3 a4 a5 a6) (.mk b1 b2 b3 b4 b5 b6)=false by simp [XL,X5,hc2]] at h;exact h
    | true =>
     conv=>whnf
     refine ⟨p1,a4,p2,b4,Yb _ _,Yb _ _,⟨rfl,by omega,by omega⟩,fun b_3 hc3=>?_⟩
     cases b_3 with
     | false =>
      conv=>whnf
      rw [show XL (.mk a1 a2 a3 a4 a5 a6) (.mk b1 b2 b3 b4 b5 b6)=false by simp [XL,X5,hc3]] at h;exact h
     | true =>
      conv=>whnf
      refine ⟨p1,a5,p2,b5,rfl,rfl,⟨rfl,by omega,by omega⟩,fun b_4 hc4=>?_⟩
      cases b_4 with
      | false =>
       conv=>whnf
       rw [show XL (.mk a1 a2 a3 a4 a5 a6) (.mk b1 b2 b3 b4 b5 b6)=false by simp [XL,X5,hc4]] at h;exact h
      | true =>
       conv=>whnf
       refine ⟨p1,a6,p2,b6,rfl,rfl,⟨rfl,by omega,by omega⟩,fun b_5 hc5=>?_⟩
       have he:XL (.mk a1 a2 a3 a4 a5 a6) (.mk b1 b2 b3 b4 b5 b6)=b_5:=by simp [XL,X5,hc0,hc1,hc2,hc3,hc4,hc5]
       rw [he] at h
       exact m31
 ·exact h.elim
theorem Zmo (n:Nat) (h:PCalls (GG w0 nG) 44 (JJ 45 ZY Xl ZhI n)):TblOK (GG w0 nG) (ZtY n):=by
 have hF:TblOK (GG w0 nG) [(84,Zmn ZA VM n)]:=⟨⟨ZhJ,VN _ _ _⟩,trivial⟩
 have hS:TblOK (GG w0 nG) [(46,Zmn ZC eqB n)]:=⟨⟨ZkX,VN _ _ _⟩,trivial⟩
 have lt:∀{g:FuncId} {sp:Nat→Zz},VA (GG w0 nG).P g→(∀n,Zc (sp n))→(∀n,PCalls (GG w0 nG) g (sp n))→PCalls (GG w0 nG) g (spB sp n)∧Zc (spB sp n):=fun {g sp} he hm hp=>⟨by
  cases n with
  | zero=>exact Yi he
  | succ n=>exact Yj (hp n),ZV hm _⟩
 have hCa:∀n,PCalls (GG w0 nG) 85 (JJ 86 (fun _=>ZI) Vh ZjZ n):=fun n=>ZvD ⟨by
  have hF:∀n,TblOK (GG w0 nG) [(84,Zmn ZA VM n)]:=fun n=>⟨⟨ZhJ,VN _ _ _⟩,trivial⟩
  cases n with
  | zero=>exact ⟨Yi (Zi Tryz.func86 (by kernel_rfl) rfl),ZV (Ys _ _ _) _⟩
  | succ n=>exact ⟨Yj (sp:=U3 (fun _=>ZI) Vh ZjZ) (ZvE (hF n)),ZV (Ys _ _ _) _⟩,trivial⟩
 refine ⟨⟨ZvG ⟨lt (Zi Tryz.func39 (by kernel_rfl) rfl) (Ys _ _ _) fun n=>ZvF ⟨⟨ZhJ,VN _ _ _⟩,⟨hCa n,Yr _ _ _ _ _⟩,trivial⟩,trivial⟩,Yr _ _ _ _ _⟩,
  ⟨ZvI ⟨lt (Zi Tryz.func41 (by kernel_rfl) rfl) (Ys _ _ _) fun n=>ZvH ⟨⟨ZhJ,VN _ _ _⟩,trivial⟩,trivial⟩,Yr _ _ _ _ _⟩,
  ⟨ZvB ⟨lt (Zi Tryz.func43 (by kernel_rfl) rfl) (Ys _ _ _) fun n=>ZvC ⟨⟨(ZBT n).1,Yr _ _ _ _ _⟩,⟨(ZDm n).1,Yr _ _ _ _ _⟩,trivial⟩,trivial⟩,Yr _ _ _ _ _⟩,
  ⟨h,Yr _ _ _ _ _⟩,
  ⟨ZvK ⟨lt (Zi Tryz.func48 (by kernel_rfl) rfl) (Ys _ _ _) fun n=>ZvJ ⟨⟨ZkX,VN _ _ _⟩,trivial⟩,trivial⟩,Yr _ _ _ _ _⟩,
  ⟨ZvM ⟨lt (Zi Tryz.func50 (by kernel_rfl) rfl) (Ys _ _ _) fun n=>ZvL,trivial⟩,Yr _ _ _ _ _⟩,trivial⟩
theorem ZtZ:∀n,PCalls (GG w0 nG) 19 (U3 XK XL Zjn n)
 | 0=>Zqb (Zmo 0 (Zqa ⟨⟨Yi (Zi Tryz.func45 (by kernel_rfl) rfl),ZV (Ys _ _ _) _⟩,trivial⟩))
 | n+1=>Zqb (Zmo _ (Zqa ⟨⟨Yj (sp:=U3 ZY Xl ZhI) (ZvN ⟨⟨ZkX,VN _ _ _⟩,⟨ZtZ n,Ys _ _ _ _⟩,trivial⟩),ZV (Ys _ _ _) _⟩,trivial⟩))
end Go.PM.Lex
end

section
namespace Go.PM.Lex
theorem ZvO {n len b0 b1 b2 b3 b1' b2' b3':Nat} (h1:1<n→b1'=b1) (h2:2<n→b2'=b2) (h3:3<n→b3'=b3) (hn:1≤n) (hd:(Lib.decodeN len b0 b1 b2 b3).2≤n) :
  Lib.decodeN (min n len) b0 b1' b2' b3'=Lib.decodeN len b0 b1 b2 b3:=by
 rcases Lib.decodeN_shape len b0 b1 b2 b3 with ⟨c,e⟩ | ⟨c1,c2,c3,cv,e⟩ | ⟨c1,c2,c3,c4,cv,cs,e⟩ | ⟨c1,c2,c3,c4,c5,cv,cw,e⟩ | e
 ·rw [e];unfold Lib.decodeN;rw [Th c]
 ·rw [e] at hd ⊢
  simp only at hd
  rw [h1 (by omega)]
  unfold Lib.decodeN
  rw [Te (by omega),Th ⟨c1,by omega,c3⟩,Th (by omega)]
 ·rw [e] at hd ⊢
  simp only at hd
  rw [h1 (by omega),h2 (by omega)]
  exact m134
 ·rw [e] at hd ⊢
  simp only at hd
  rw [h1 (by omega),h2 (by omega),h3 (by omega)]
  exact m114
 ·rw [e]
  rcases Lib.decodeN_shape (min n len) b0 b1' b2' b3' with ⟨c,e'⟩ | ⟨c1,c2,c3,cv,e'⟩ | ⟨c1,c2,c3,c4,cv,cs,e'⟩ | ⟨c1,c2,c3,c4,c5,cv,cw,e'⟩ | e'
  ·unfold Lib.decodeN at e;rw [Th c] at e;rw [e',← e]
  ·rw [h1 (by omega)] at c3 cv
   unfold Lib.decodeN at e
   rw [Te (by omega),Th ⟨c1,by omega,c3⟩,Th (by omega)] at e
   simp at e
  ·rw [h1 (by omega),h2 (by omega)] at *
   unfold Lib.decodeN at e
   rw [Te (by omega),Te (by omega),Th ⟨c1,⟨by omega,c3⟩,by omega,c4⟩,Th ⟨by omega,by omega⟩] at e
   simp at e
  ·rw [h1 (by omega),h2 (by omega),h3 (by omega)] at *
   unfold Lib.decodeN at e
   rw [Te (by omega),Te (by omega),Te (by omega),Th ⟨c1,⟨by omega,c3⟩,⟨by omega,c4⟩,by omega,c5⟩,Th ⟨by omega,by omega⟩] at e
   simp at e
  ·exact e'
theorem UP (r:Bs) (n k:Nat):(r.take n).getD k 0=if k<n then r.getD k 0 else 0:=by
 simp only [T2,List.getElem?_take]
 split <;> simp
theorem Zay {r:Bs} {n:Nat} (hn:1≤n) (hd:(Lib.decodeL r).2≤n):Lib.decodeL (r.take n)=Lib.decodeL r:=by
 rw [Lib.decodeL_N] at hd ⊢
 rw [Lib.decodeL_N,Se,UP,UP,UP,UP,Th (by omega)]
 exact ZvO (fun h=>by rw [Th h]) (fun h=>by rw [Th h]) (fun h=>by rw [Th h]) hn hd
theorem ZcW {r:Bs} {n:Nat} (h:(pk r).1≠-1) (hn:(pk r).2≤n):pk (r.take n)=pk r:=by
 obtain ⟨h1,h2,h3⟩:=Zns r h
 unfold pk at h hn ⊢
 split at h
 ·exact absurd rfl h
 ·rename_i g
  rw [Te g] at hn ⊢
  simp only at hn
  have hr:=Jh r
  have e:=Zay (r:=r) (n:=n) (by omega) hn
  rw [e,Te]
  simp only [not_or] at g ⊢
  refine ⟨fun h=>?_,g.2⟩
  have h5:=congrArg List.length h
  rw [Se,Td] at h5
  have:=TT.2 h3
  omega
theorem ZcX (f:Nat):ZO f []=0:=by
 cases f with
 | zero=>rfl
 | succ f=>exact Vv (by simp [JD]) (by simp [JD];decide) (by simp [JD];decide)
theorem J9 {c:Int} (h:Zg c=true∨Zm c=true):c≠-1:=fun h1=>by rw [h1,JZ,Zbl] at h;simp at h
theorem Ze6:∀(f:Nat) (r:Bs),r.length<f→∀f',ZO f r<f'→ZO f' (r.take (ZO f r))=ZO f r
 | 0,r,h,_,_=>by omega
 | f+1,r,h,f',hf=>by
  have step:∀(hne:(pk r).1≠-1),ZO (f+1) r=(pk r).2+ZO f (r.drop (pk r).2)→pk (r.take (ZO (f+1) r))=pk r∧(r.take (ZO (f+1) r)).drop (pk r).2=(r.drop (pk r).2).take (ZO f (r.drop (pk r).2)) ∧
    ∀g,f'=g+1→ZO g ((r.drop (pk r).2).take (ZO f (r.drop (pk r).2)))=ZO f (r.drop (pk r).2):=fun hne e=>by
   obtain ⟨h1,h2,h3⟩:=Zns r hne
   refine ⟨ZcW hne (by omega),?_,fun g hg=>Ze6 f _ (by rw [Tu];omega) g (by omega)⟩
   rw [List.drop_take,e];congr 1;omega
  obtain ⟨g,rfl⟩:∃g,f'=g+1:=⟨f' - 1,by omega⟩
  by_cases h1:(pk r).1=46
  ·by_cases h2:Zg (pk (r.drop 1)).1=true
   ·have e:=UG (f:=f) h1 h2
    obtain ⟨s1,s2,s3⟩:=step (by omega) e
    have hlow:=ZlY r (by omega) (by omega)
    have h2':Zg (pk ((r.take (ZO (f+1) r)).drop 1)).1=true:=by
     rw [hlow.2.2] at s2
     rw [s2]
     obtain ⟨f2,rfl⟩:∃f2,f=f2+1:=⟨f - 1,by omega⟩
     have h46:¬(pk (r.drop 1)).1=46:=fun g=>by rw [g] at h2;revert h2;decide
     have e2:=WV (f:=f2) h46 (.inl h2)
     rw [ZcW (J9 (.inl h2)) (by rw [e2];omega)]
     exact h2
    rw [UG (f:=g) (by rw [s1];exact h1) h2',s1,s2,s3 g rfl,← e]
   ·have e:=Wd (f:=f) h1 (by simpa using h2)
    rw [e];exact ZcX _
  ·by_cases h2:Zg (pk r).1=true∨Zm (pk r).1=true
   ·have e:=WV (f:=f) h1 h2
    obtain ⟨s1,s2,s3⟩:=step (J9 h2) e
    rw [WV (f:=g) (by rw [s1];exact h1) (by rw [s1];exact h2),s1,s2,s3 g rfl,← e]
   ·simp only [not_or,Bool.not_eq_true] at h2
    have e:=Vv (f:=f) h1 h2.1 h2.2
    rw [e];exact ZcX _
theorem ZnX (r:Bs):Xg (r.take (Xg r))=Xg r:=by
 have:=Zb2 (r.length+1) r
 refine Ze6 (r.length+1) r (by omega) _ ?_
 rw [Se];unfold Xg at *;omega
theorem Zbz:∀(f:Nat) (r:Bs) (esc:Bool) (acc:Bs) (p:Nat) (t:Bs) (l:Nat),Zu f r esc acc p=.ok t l→r.length<f→∀f',l - p<f'→Zu f' (r.take (l - p)) esc acc p=.ok t l
 | 0,r,esc,acc,p,t,l,h,hf,_,_=>by omega
 | f+1,r,esc,acc,p,t,l,h,hf,f',hf'=>by
  have hlen:=Xv _ _ _ _ _ _ _ h
  obtain ⟨g,rfl⟩:∃g,f'=g+1:=⟨f' - 1,by omega⟩
  unfold Zu at h
  split at h
  ·cases h
  ·rename_i hne
   have hd:=Lib.decodeL_le r hne
   have hr:=Jh r
   have hne':¬r.take (l - p)=[]:=fun g=>by
    have h5:=congrArg List.length g
    rw [Se,Td] at h5
    have:=TT.2 hne
    omega
   have hdr:∀k,(r.take (l - p)).drop k=(r.drop k).take (l - (p+k)):=fun k=>by rw [List.drop_take];congr 1;omega
   unfold Zu
   rw [Te hne']
   split at h
   ·rename_i he
    rw [Th he]
    split at h
    ·cases h
    ·rename_i b hb
     have h2:=Xv _ _ _ _ _ _ _ h
     have e:=Zay (r:=r) (n:=l - p) (by omega) (by omega)
     rw [e,hb]
     simp only
     rw [hdr]
     exact Zbz f _ _ _ _ _ _ h (by rw [Tu];omega) g (by omega)
   ·rename_i he
    rw [Te he]
    split at h
    ·rename_i h34
     cases h
     have e1:(Lib.decodeL r).2=1:=by
      rw [Lib.decodeL_N] at h34 ⊢
      rcases Lib.decodeN_shape r.length (r.getD 0 0).toNat (r.getD 1 0).toNat (r.getD 2 0).toNat (r.getD 3 0).toNat with ⟨c,e⟩ | ⟨c1,c2,c3,cv,e⟩ | ⟨c1,c2,c3,c4,cv,cs,e⟩ | ⟨c1,c2,c3,c4,c5,cv,cw,e⟩ | e
      all_goals (rw [e] at h34)
      ·rw [e]
      all_goals (dsimp only at h34;omega)
     rw [Zay (by omega) (by omega),Th h34]
    ·rename_i h34
     have step:∀es ac,Zu f (r.drop (Lib.decodeL r).2) es ac (p+(Lib.decodeL r).2)=.ok t l→Lib.decodeL (r.take (l - p))=Lib.decodeL r∧Zu g ((r.take (l - p)).drop (Lib.decodeL r).2) es ac (p+(Lib.decodeL r).2)=.ok t l:=fun es ac h=>by
      have h2:=Xv _ _ _ _ _ _ _ h
      refine ⟨Zay (by omega) (by omega),?_⟩
      rw [hdr]
      exact Zbz f _ _ _ _ _ _ h (by rw [Tu];omega) g (by omega)
     split at h
     ·rename_i h92
      obtain ⟨e,e2⟩:=step _ _ h
      rw [e,Te h34,Th h92]
      exact e2
     ·rename_i h92
      split at h
      ·cases h
      ·rename_i h32
       obtain ⟨e,e2⟩:=step _ _ h
       have h2:=Xv _ _ _ _ _ _ _ h
       have hpk:pk (r.take (l - p))=pk r:=by
        refine ZcW (by omega) ?_
        unfold pk
        split
        ·simp only;omega
        ·simp only;omega
       rw [e,Te h34,Te h92,hpk,Te h32]
       exact e2
theorem ZnY {r t:Bs} {l:Nat} (h:Wc r=.ok t l):Wc (r.take l)=.ok t l:=by
 unfold Wc at h ⊢
 have h2:=Xv _ _ _ _ _ _ _ h
 rw [Tu] at h2
 have:=Zbz _ _ _ _ _ _ _ h (by rw [Tu];omega) ((r.take l).length+1) (by rw [Se];omega)
 rwa [List.drop_take]
theorem Ul {r p:Bs} {n:Nat} (h:Lib.hasPrefix (r.take n) p=true):Lib.hasPrefix r p=true:=by
 unfold Lib.hasPrefix at h ⊢
 rw [Sw] at h ⊢
 exact h.trans (List.take_prefix n r)
theorem Za0 {r p:Bs} {n:Nat} (h:Lib.hasPrefix r p=true) (hn:p.length≤n):Lib.hasPrefix (r.take n) p=true:=by
 unfold Lib.hasPrefix at h ⊢
 rw [Sw] at h ⊢
 rw [List.prefix_take_iff]
 exact ⟨h,hn⟩
theorem Zaa (p:UInt8→Bool):∀l:Bs,(l.takeWhile p).takeWhile p=l.takeWhile p
 | []=>rfl
 | x::l=>by
  by_cases h:p x=true
  ·simp only [T3,h,if_true,Zaa p l]
  ·simp [T3,h]
theorem ZkY {r:Bs} {v:Nat} (h:ZG r=some v):ZG (r.take (Zn r))=some v∧Zn (r.take (Zn r))=Zn r:=by
 have hne:Zd r≠[]:=fun g=>by rw [ZG,Th g] at h;cases h
 have hle:=ZeG r
 have hpos:=TT.2 hne
 have hx:Y4 (r.take (Zn r))=Y4 r:=by
  cases hh:Y4 r with
  | true=>exact Za0 hh (by unfold Zn;rw [hh];simp)
  | false =>
   cases hh2:Y4 (r.take (Zn r)) with
   | false=>rfl
   | true=>exact absurd (Ul hh2) (by unfold Y4 at hh;rw [hh];simp)
 have hd:Zd (r.take (Zn r))=Zd r:=by
  have hl:Zn r=(if Y4 r=true then 2 else 0)+(Zd r).length:=rfl
  unfold Zd at hl ⊢
  rw [hx,List.drop_take,hl,Ss,← WK,Zaa]
 have hl:Zn (r.take (Zn r))=Zn r:=by
  have e:∀x y:Bs,Y4 x=Y4 y→Zd x=Zd y→Zn x=Zn y:=fun x y h1 h2=>by unfold Zn;rw [h1,h2]
  exact e _ _ hx hd
 refine ⟨?_,hl⟩
 have hnil:(r.take (Zn r)).drop (Zn r)=[]:=by apply TU;rw [Se];omega
 unfold ZG at h ⊢
 rw [hd,hl,hnil,hx]
 rw [Te hne] at h ⊢
 generalize (if Y4 r=true then 18446744073709551616 else 9223372036854775808)=L at h ⊢
 generalize Vn (if Y4 r=true then 16 else 10) (Zd r)=V at h ⊢
 split at h
 ·cases h
 ·rename_i g1
  rw [Te g1]
  split at h
  ·cases h
  ·rename_i g2
   simp only [not_or] at g2
   rw [Te]
   ·exact h
   ·simp only [not_or]
    exact ⟨by rw [JD];decide,by rw [JD];decide,g2.2.2⟩
theorem ZfX {r:Bs} {n:Nat} (hn:1≤n) (h:Yw r=0):Yw (r.take n)=0:=by
 unfold Yw at h ⊢
 split at h
 ·cases h
 ·rename_i h1
  split at h
  ·cases h
  ·rename_i h2
   rw [Te,Te]
   ·rw [UP,Th (by omega)];exact h2
   ·intro g
    apply h1
    rw [Sz] at g ⊢
    obtain ⟨x,hx,hy⟩:=g
    exact ⟨x,hx,Ul hy⟩
theorem Zqc {r:Bs} (h0:0<r.length) (h:0<Yw r):Yw (r.take (Yw r))=Yw r:=by
 have hle:=Zhq r h0
 unfold Yw at h ⊢
 split at h
 ·rename_i h1
  rw [Th h1,Th]
  rw [Sz] at h1 ⊢
  obtain ⟨x,hx,hy⟩:=h1
  refine ⟨x,hx,Za0 hy ?_⟩
  simp only [twos,Tv,List.mem_nil_iff,or_false] at hx
  rcases hx with rfl | rfl | rfl | rfl | rfl <;> simp
 ·rename_i h1
  split at h
  ·rename_i h2
   rw [Te h1,Th h2,Te,Th]
   ·rw [UP,Th (by omega)];exact h2
   ·intro g
    apply h1
    rw [Sz] at g ⊢
    obtain ⟨x,hx,hy⟩:=g
    exact ⟨x,hx,Ul hy⟩
  ·cases h
theorem Zqd {a:Nat} {r:Bs} {room:Bool} {t:Tok} (h0:0<r.length) (h:WU a r room=.tok t):WU 0 (r.take (t.fin - a)) true=.tok ⟨t.kind,t.text,t.n,0,t.fin - a⟩:=by
 obtain ⟨f1,f2,f3⟩:=ZeH h0 h
 rw [ZK] at h
 split at h
 ·cases h
 ·rename_i g0
  split at h
  ·cases h
  ·split at h
   ·rename_i g1
    cases h
    simp only [Ss] at *
    have e:=Zqc h0 g1
    rw [ZK,e,Te (fun g=>by omega),Te (by simp),Th g1,List.take_take]
    simp
   ·rename_i g1
    have hs0:Yw r=0:=by omega
    have hs:Yw (r.take (t.fin - a))=0:=ZfX (by omega) hs0
    split at h
    ·rename_i g2
     have hpk:pk (r.take (t.fin - a))=pk r:=ZcW (by omega) (by have:=ZlY r (by omega) (by omega);omega)
     unfold ZaG at h
     split at h
     ·cases h
     ·rename_i t' l hx
      cases h
      simp only [Ss] at *
      rw [ZK,hs,hpk,Te (fun g=>g.2.1 g2),Te (by simp),Te (by omega),Th g2,ZaG,ZnY hx]
      simp
    ·rename_i g2
     split at h
     ·rename_i g3
      have hpk:pk (r.take (t.fin - a))=pk r:=ZcW (J9 (.inr g3)) (by have:=ZlY r (by rw [isDigit_iff] at g3;omega) (by rw [isDigit_iff] at g3;omega);omega)
      unfold XE at h
      split at h
      ·cases h
      ·rename_i n hx
       cases h
       simp only [Ss] at *
       obtain ⟨e1,e2⟩:=ZkY hx
       rw [ZK,hs,hpk,Te (fun g=>by rw [g3] at g;simp at g),Te (by simp),Te (by omega),Te g2,Th g3,XE,e1,e2]
       simp
     ·rename_i g3
      have h4:Zg (pk r).1=true:=by
       cases hb:Zg (pk r).1 with
       | true=>rfl
       | false=>exact absurd ⟨hs0,g2,hb,by simpa using g3⟩ g0
      cases h
      simp only [Ss] at *
      have h46:¬(pk r).1=46:=fun g=>by rw [g] at h4;revert h4;decide
      have e46:Xg r=(pk r).2+ZO r.length (r.drop (pk r).2):=WV h46 (.inl h4)
      have hpk:pk (r.take (Xg r))=pk r:=ZcW (J9 (.inl h4)) (by omega)
      rw [ZK,hs,hpk,Te (fun g=>by rw [h4] at g;simp at g),Te (by simp),Te (by omega),Te g2,Te g3,ZnX,List.take_take]
      simp
end Go.PM.Lex
end

section
namespace Go.PM.Lex
abbrev ws:Bs:=[32,9,13,10]
theorem ZvP {a b:UInt8}:Lib.hasPrefix [] [a,b]=false:=rfl
theorem ZkZ (f:Nat):Zs (f+1) []=(true,0):=by simp [Zs,Lib.trimLeftS,ZvP]
theorem VO {f:Nat} {r:Bs} (h1:Lib.hasPrefix (Lib.trimLeftS r ws) [47,47]=false) (h2:Lib.hasPrefix (Lib.trimLeftS r ws) [47,42]=false):Zs (f+1) r=(true,r.length - (Lib.trimLeftS r ws).length):=by
 simp only [Zs,h1,h2,Tt,if_false]
theorem Ub {f:Nat} {r:Bs} (h1:Lib.hasPrefix (Lib.trimLeftS r ws) [47,47]=true) (n:Nat) (hn:n=if Lib.indexByte (Lib.trimLeftS r ws) 10<0 then (Lib.trimLeftS r ws).length else (Lib.indexByte (Lib.trimLeftS r ws) 10).toNat) :
  Zs (f+1) r=((Zs f ((Lib.trimLeftS r ws).drop n)).1,r.length - (Lib.trimLeftS r ws).length+n+(Zs f ((Lib.trimLeftS r ws).drop n)).2):=by
 subst hn
 simp only [Zs,h1,if_true]
theorem Uc {f:Nat} {r:Bs} (h1:Lib.hasPrefix (Lib.trimLeftS r ws) [47,47]=false) (h2:Lib.hasPrefix (Lib.trimLeftS r ws) [47,42]=true) (h3:Lib.index ((Lib.trimLeftS r ws).drop 2) [42,47]<0):Zs (f+1) r=(false,r.length - (Lib.trimLeftS r ws).length):=by
 simp only [Zs,h1,h2,h3,if_true,Tt,if_false]
theorem Jp {f:Nat} {r:Bs} (h1:Lib.hasPrefix (Lib.trimLeftS r ws) [47,47]=false) (h2:Lib.hasPrefix (Lib.trimLeftS r ws) [47,42]=true) (i:Nat) (h3:Lib.index ((Lib.trimLeftS r ws).drop 2) [42,47]=i) :
  Zs (f+1) r=((Zs f ((Lib.trimLeftS r ws).drop (i+4))).1,r.length - (Lib.trimLeftS r ws).length+(i+4)+(Zs f ((Lib.trimLeftS r ws).drop (i+4))).2):=by
 simp only [Zs,h1,h2,h3,if_true,Tt,if_false]
 rw [Te (by omega)]
 simp
theorem Zqe (r:Bs):(Lib.trimLeftS r ws).length≤r.length:=(Ua (ws.contains ·) r).2
theorem ZnZ:ZP []=(true,0):=ZkZ 0
end Go.PM.Lex
end

section
namespace Go.PM.Lex
theorem Zzt {len len' b0 b1 b2 b3 b1' b2' b3':Nat} (hl:len≤len') (h1:1<len→b1'=b1) (h2:2<len→b2'=b2) (h3:3<len→b3'=b3) (hv:Lib.decodeN len b0 b1 b2 b3≠(65533,1)) :
  Lib.decodeN len' b0 b1' b2' b3'=Lib.decodeN len b0 b1 b2 b3:=by
 rcases Lib.decodeN_shape len b0 b1 b2 b3 with ⟨c,e⟩ | ⟨c1,c2,c3,cv,e⟩ | ⟨c1,c2,c3,c4,cv,cs,e⟩ | ⟨c1,c2,c3,c4,c5,cv,cw,e⟩ | e
 ·rw [e];unfold Lib.decodeN;rw [Th c]
 ·rw [e,h1 (by omega)]
  unfold Lib.decodeN
  rw [Te (by omega),Th ⟨c1,by omega,c3⟩,Th (by omega)]
 ·rw [e,h1 (by omega),h2 (by omega)]
  exact m134
 ·rw [e,h1 (by omega),h2 (by omega),h3 (by omega)]
  exact m114
 ·exact absurd e hv
theorem Ud (x y:Bs) (k:Nat) (h:k<x.length):(x++y).getD k 0=x.getD k 0:=by
 simp only [T2];rw [TP h]
theorem ZcY {x y:Bs} (hx:x≠[]) (hv:Lib.decodeL x≠(65533,1)):Lib.decodeL (x++y)=Lib.decodeL x:=by
 have hpos:=TT.2 hx
 rw [Lib.decodeL_N] at hv ⊢
 rw [Lib.decodeL_N,Ud x y 0 hpos]
 exact Zzt (by rw [Ta];omega) (fun h=>by rw [Ud x y 1 h]) (fun h=>by rw [Ud x y 2 h]) (fun h=>by rw [Ud x y 3 h]) hv
theorem Zzu {x y:Bs} (h:(pk x).1≠-1):pk (x++y)=pk x:=by
 have hx:=(Zns x h).2.2
 unfold pk at h ⊢
 split at h
 ·exact absurd rfl h
 ·rename_i g
  rw [Te g]
  simp only [not_or] at g
  have e:=ZcY (y:=y) hx g.2
  rw [e,Te (by simp only [not_or];exact ⟨by simp [hx],g.2⟩)]
theorem ZgI {y:Bs}:∀(f:Nat) (x:Bs) (esc:Bool) (acc:Bs) (p:Nat) (t:Bs) (l:Nat),Zu f x esc acc p=.ok t l→∀f',x.length<f'→Zu f' (x++y) esc acc p=.ok t l
 | 0,x,esc,acc,p,t,l,h,f',hf=>by simp [Zu] at h
 | f+1,x,esc,acc,p,t,l,h,f',hf=>by
  obtain ⟨g,rfl⟩:∃g,f'=g+1:=⟨f' - 1,by omega⟩
  unfold Zu at h
  split at h
  ·cases h
  ·rename_i hne
   have hd:=Lib.decodeL_le x hne
   have hr:=Jh x
   have hne':¬x++y=[]:=by simp [hne]
   have hdr:(x++y).drop (Lib.decodeL x).2=x.drop (Lib.decodeL x).2++y:=Sk hd
   have low:(Lib.decodeL x).1<128→Lib.decodeL (x++y)=Lib.decodeL x:=fun h=>ZcY hne (fun g=>by rw [g] at h;simp at h)
   have rec':∀es ac,Zu f (x.drop (Lib.decodeL x).2) es ac (p+(Lib.decodeL x).2)=.ok t l→Zu g ((x++y).drop (Lib.decodeL x).2) es ac (p+(Lib.decodeL x).2)=.ok t l:=fun es ac h=>by
    rw [hdr];exact ZgI f _ _ _ _ _ _ h g (by rw [Tu];omega)
   unfold Zu
   rw [Te hne']
   split at h
   ·rename_i he
    rw [Th he]
    split at h
    ·cases h
    ·rename_i b hb
     have hlow:(Lib.decodeL x).1<128:=by
      unfold Zoz at hb
      repeat' split at hb
      all_goals first | omega | cases hb
     rw [low hlow,hb]
     exact rec' _ _ h
   ·rename_i he
    rw [Te he]
    split at h
    ·rename_i h34
     rw [low (by omega),Th h34];exact h
    ·rename_i h34
     split at h
     ·rename_i h92
      rw [low (by omega),Te h34,Th h92]
      exact rec' _ _ h
     ·rename_i h92
      split at h
      ·cases h
      ·rename_i h32
       have hv:Lib.decodeL x≠(65533,1):=fun g=>by
        apply h32
        unfold pk;rw [Th (.inr g)];decide
       have e:pk (x++y)=pk x:=Zzu (by omega)
       rw [ZcY hne hv,Te h34,Te h92,e,Te h32]
       exact rec' _ _ h
end Go.PM.Lex
end

section
namespace Go.PM.Lex
def ZcZ (c:Nat):Option UInt8:=if c=10 then some 110 else if c=9 then some 116 else if c=34 then some 34 else if c=92 then some 92 else none
def W2:Nat→Bs→Bs→Option Bs
 | 0,_,_=>none
 | f+1,r,out=>if r=[] then some out else match ZcZ (Lib.decodeL r).1 with
  | some b=>W2 f (r.drop (Lib.decodeL r).2) (out++[92,b])
  | none=>if (Lib.decodeL r).1<32 then none else W2 f (r.drop (Lib.decodeL r).2) (out++Lib.encodeRune (Lib.decodeL r).1)
def Vj (s:Bs):Option Bs:=if Lib.validD s=true then (W2 (s.length+1) s [34]).map (·++[34]) else none
theorem Zn0 {c:Nat} {b:UInt8} (h:ZcZ c=some b):Zoz b.toNat=some (UInt8.ofNat c)∧c<128∧b.toNat<128:=by
 unfold ZcZ at h
 split at h;· rename_i g;cases h;subst g;decide
 split at h;· rename_i g;cases h;subst g;decide
 split at h;· rename_i g;cases h;subst g;decide
 split at h;· rename_i g;cases h;subst g;decide
 cases h
theorem Zn1 {c:Nat} (h:ZcZ c=none):c≠34∧c≠92:=by
 unfold ZcZ at h
 split at h;· cases h
 split at h;· cases h
 split at h;· cases h
 split at h;· cases h
 exact ⟨by assumption,by assumption⟩
theorem ZhK (b:UInt8) (z:Bs) (h:b.toNat<128):Lib.decodeL (b::z)=(b.toNat,1):=by
 rw [Lib.decodeL_N];unfold Lib.decodeN;rw [Th (by simpa using h)];simp
theorem ZvQ (f:Nat) (z acc:Bs) (p:Nat):Zu (f+1) (92::z) false acc p=Zu f z true acc (p+1):=by
 have h:Lib.decodeL (92::z)=(92,1):=ZhK 92 z (by decide)
 simp [Zu,h]
theorem ZvR (f:Nat) (b x:UInt8) (z acc:Bs) (p:Nat) (hb:b.toNat<128) (hx:Zoz b.toNat=some x):Zu (f+1) (b::z) true acc p=Zu f z false (acc++[x]) (p+1):=by
 have h:=ZhK b z hb
 simp [Zu,h,hx]
theorem ZhL:∀(f:Nat) (r out q:Bs),W2 f r out=some q→Lib.validGoD f r=true∨Lib.validGoD (f - 1) r=true→r.length<f→∃m,q=out++m∧∀(g:Nat) (acc:Bs) (p:Nat),m.length+1<g→Zu g (m++[34]) false acc p=.ok (acc++r) (p+m.length+1)
 | 0,r,out,q,h,hv,hf=>by simp [W2] at h
 | f+1,r,out,q,h,hv,hf=>by
  unfold W2 at h
  split at h
  ·rename_i hr
   cases h
   refine ⟨[],by simp,fun g acc p hg=>?_⟩
   obtain ⟨g,rfl⟩:∃k,g=k+1:=⟨g - 1,by omega⟩
   simp [Zu,ZhK 34 [] (by decide),hr]
  ·rename_i hr
   have hpos:=TT.2 hr
   have hd:=Lib.decodeL_le r hr
   have hrg:=Jh r
   have hnv:¬((Lib.decodeL r).1=65533∧(Lib.decodeL r).2=1)∧(Lib.validGoD f (r.drop (Lib.decodeL r).2)=true∨Lib.validGoD (f - 1) (r.drop (Lib.decodeL r).2)=true):=by
    rcases hv with hv | hv
    ·unfold Lib.validGoD at hv
     rw [Te hr] at hv
     split at hv
     ·cases hv
     ·rename_i g;exact ⟨g,.inl hv⟩
    ·simp only [Nat.add_sub_cancel] at hv
     obtain ⟨f2,rfl⟩:∃k,f=k+1:=⟨f - 1,by omega⟩
     unfold Lib.validGoD at hv
     rw [Te hr] at hv
     split at hv
     ·cases hv
     ·rename_i g;exact ⟨g,.inr hv⟩
   have henc:=Lib.encode_decode r hr hnv.1
   have hsplit:r=r.take (Lib.decodeL r).2++r.drop (Lib.decodeL r).2:=(List.take_append_drop _ _).symm
   split at h
   ·rename_i b hb
    obtain ⟨u1,u2,u3⟩:=Zn0 hb
    obtain ⟨m,e1,e2⟩:=ZhL f _ _ _ h hnv.2 (by rw [Tu];omega)
    refine ⟨[92,b]++m,by rw [e1];simp,fun g acc p hg=>?_⟩
    obtain ⟨g,rfl⟩:∃k,g=k+2:=⟨g - 2,by omega⟩
    simp only [Ta,Tc,Td] at hg
    have hone:r.take (Lib.decodeL r).2=[UInt8.ofNat (Lib.decodeL r).1]:=by
     rw [← henc]
     unfold Lib.encodeRune
     rw [Lib.encodeRuneZ_one (by omega) (by omega)]
     simp
    have el:([92,b]++m++[34]:Bs)=92::b::(m++[34]):=by simp
    rw [el,show g+2=(g+1)+1 from rfl,ZvQ,ZvR _ _ _ _ _ _ u3 u1]
    rw [e2 g _ _ (by omega)]
    rw [hone] at hsplit
    simp only [Tg,Ta,Tc,Td,TR.ok.injEq]
    refine ⟨?_,by omega⟩
    congr 1
    exact hsplit.symm
   ·rename_i hb
    split at h
    ·cases h
    ·rename_i h32
     obtain ⟨n34,n92⟩:=Zn1 hb
     obtain ⟨m,e1,e2⟩:=ZhL f _ _ _ h hnv.2 (by rw [Tu];omega)
     refine ⟨Lib.encodeRune (Lib.decodeL r).1++m,by rw [e1];simp,fun g acc p hg=>?_⟩
     obtain ⟨g,rfl⟩:∃k,g=k+1:=⟨g - 1,by omega⟩
     rw [henc] at hg ⊢
     have htl:(r.take (Lib.decodeL r).2).length=(Lib.decodeL r).2:=by rw [Se];omega
     have hdt:Lib.decodeL (r.take (Lib.decodeL r).2)=Lib.decodeL r:=Zay (by omega) (Tr _)
     have htn:r.take (Lib.decodeL r).2≠[]:=fun g=>by rw [g] at htl;simp at htl;omega
     have hda:Lib.decodeL (r.take (Lib.decodeL r).2++(m++[34]))=Lib.decodeL r:=by
      rw [ZcY htn (by rw [hdt];intro g;exact hnv.1 ⟨by rw [g],by rw [g]⟩),hdt]
     rw [Tg]
     simp only [Ta] at hg
     unfold Zu
     rw [Te (by simp [htn]),Te (by simp),hda,Te n34,Te n92]
     have hpk:¬(pk (r.take (Lib.decodeL r).2++(m++[34]))).1<32:=by
      unfold pk
      rw [hda,Te]
      ·simp only;omega
      ·simp only [not_or]
       exact ⟨by simp [htn],fun g=>hnv.1 ⟨by rw [g],by rw [g]⟩⟩
     rw [Te hpk,henc]
     have hdrop:(r.take (Lib.decodeL r).2++(m++[34])).drop (Lib.decodeL r).2=m++[34]:=by
      conv=>lhs;arg 1;rw [← htl]
      rw [List.drop_left]
     rw [hdrop,e2 g _ _ (by omega)]
     simp only [Tg,Ta,TR.ok.injEq]
     refine ⟨?_,by omega⟩
     congr 1
     exact hsplit.symm
end Go.PM.Lex
end

section
namespace Go.PM.Lex
open Go.Proofs
variable {w0:World} {nG:Nat}
end Go.PM.Lex
end

section
namespace Go.PM.Lex
open Go.Proofs
variable {w0:World} {nG:Nat}
end Go.PM.Lex
end

section
namespace Go.PM.Lex
open Go.Proofs
variable {w0:World} {nG:Nat}
noncomputable def Ze7:Zz:=fun args σ K=>match args with
 | [.d (.str s)]=>s.length≤9223372036854775807∧K (.ret (.d (.bool (Lib.validD s)))) σ
 | _=>False
theorem Zjo:Zc Ze7:=fun args σ K K' hK h=>by
 unfold Ze7 at h ⊢;split at h <;> first | exact ⟨h.1,hK _ _ h.2⟩ | exact h.elim
theorem Zsz (h1:1<nG) (hT:Lib.Utf8Tabs 0 1 w0):PCalls (GG w0 nG) 149 Ze7:=Y1 (Zi Tryz.func149 (by kernel_rfl) rfl) fun args σ K h e w vs hS ha=>by
 unfold Ze7 at h
 split at h
 ·rename_i s
  obtain ⟨u,rfl,hu⟩:=ZiO ha
  cases hu.dstr
  have hT':Lib.Utf8Tabs 0 1 w:=by
   have g0:=hS.glob 0 (show 0<nG by omega)
   have g1:=hS.glob 1 h1
   obtain ⟨a,b⟩:=hT
   refine ⟨fun c hc=>?_,fun i hi=>?_⟩
   ·have:=a c hc
    simpa [World.cell?,g0] using this
   ·have:=b i hi
    simpa [World.cell?,g1] using this
  exact ⟨_,h.2,_,fun _ _=>.mkbool,(Any.utf8_ValidString Tryz.laysValid ⟨s.toArray⟩ w (show s.toArray.size≤_ by simpa using h.1) hT').mono fun en w' ⟨h1,h2⟩=>⟨h1,ZEi h2⟩⟩
 ·exact h.elim
end Go.PM.Lex
end

section
namespace Go.PM.Lex
open Go.Proofs
variable {w0:World} {nG:Nat}
theorem ZsA {n:Nat} (h:ZcZ n=none):ZeD [10,9,34,92] n=-1:=by
 unfold ZcZ at h
 split at h;· cases h
 split at h;· cases h
 split at h;· cases h
 split at h;· cases h
 rename_i h1 h2 h3 h4
 unfold ZeD
 split
 ·rename_i h5
  have hc:([10,9,34,92]:Bs).contains ((n:Int).toNat.toUInt8)=false:=by
   have b1:=J3 (n:=n) (k:=10) (by omega) (by omega) h1
   have b2:=J3 (n:=n) (k:=9) (by omega) (by omega) h2
   exact m86
  rw [Lib.contains_iff_indexByte,decide_eq_false_iff_not] at hc
  have:=Lib.indexByte_ge [10,9,34,92] ((n:Int).toNat.toUInt8)
  omega
 ·rfl
theorem ZsB {n:Nat} {b:UInt8} (h:ZcZ n=some b):(ZeD [10,9,34,92] n=0∧b=110)∨(ZeD [10,9,34,92] n=1∧b=116)∨(ZeD [10,9,34,92] n=2∧b=34)∨(ZeD [10,9,34,92] n=3∧b=92):=by
 unfold ZcZ at h
 exact m58
noncomputable def ZbA:Zz:=fun args σ K=>match args,σ with
 | [.d (.str s)],⟨[],[],0⟩=>s.length<4294967281∧(Vj s=none→K (.ret (.tuple [.d (.str []),.d (.bool false)])) ⟨[],[],0⟩)∧(∀q,Vj s=some q→K (.ret (.tuple [.d (.str q),.d (.bool true)])) ⟨[],[],0⟩)
 | _,_=>False
theorem Ue:Zc ZbA:=fun args σ K K' hK h=>by
 unfold ZbA at h ⊢
 split at h
 ·exact ⟨h.1,fun g=>hK _ _ (h.2.1 g),fun q g=>hK _ _ (h.2.2 q g)⟩
 ·exact h.elim
def ZDP (B:Nat):List PV→St→Nat:=fun _ σ=>match σ.bx with | [_,.iter _ p]=>B - p | _=>0
noncomputable def ZsC:Tbl:=[(149,Ze7),(150,Wy),(151,XU),(152,Wz),(31,Zaw)]
theorem ZsD (ht:TblOK (GG w0 nG) ZsC):PCalls (GG w0 nG) 73 ZbA:=by
 refine pc ht Tryz.func73 ?_
 intro args σ K h
 unfold ZbA at h
 split at h
 ·rename_i s
  obtain ⟨hs,hbad,hgood⟩:=h
  refine ⟨Za [(6,⟨[],[4,13],fun vs σ=>vs=[]∧∃(out:Bs) (i f:Nat),σ=⟨[.cells 82 [.ptr 0 0,.sl 0 5 (Zk out)],.iter s i],[0],1⟩∧(i≤s.length∧s.length<i+f∧out.length≤4 * i+1)∧W2 f (s.drop i) out=W2 (s.length+1) s [34],ZDP s.length⟩)],0,false,by simp,Tb rfl,?_⟩
  conv=>whnf
  refine ⟨by omega,?_⟩
  conv=>whnf
  refine ZEg (fun h1=>?_) (fun h1=>?_)
  ·have hv:Lib.validD s=false:=by simpa using h1
   conv=>whnf
   exact hbad (by unfold Vj;rw [Te (by rw [hv];simp)])
  ·have hv:Lib.validD s=true:=by simpa using h1
   have hq:Vj s=(W2 (s.length+1) s [34]).map (·++[34]):=by unfold Vj;rw [Th hv]
   conv=>whnf
   refine ⟨⟨.inl rfl,rfl,rfl,by simp,by simp⟩,?_⟩
   conv=>whnf
   refine ⟨⟨rfl,[34],0,s.length+1,rfl,⟨by omega,by omega,by simp⟩,by rw [SB]⟩,?_⟩
   intro vs σ1 hI
   obtain ⟨rfl,out,i,f,rfl,⟨hi1,hi2,hol⟩,hgo⟩:=hI
   obtain ⟨f,rfl⟩:∃g,f=g+1:=⟨f - 1,by omega⟩
   have hb1:=Zgv out
   have hbl:=Zgw out
   have hdec:=Zgq s i
   have hdr:=Jh (s.drop i)
   have hdl:=Lib.decodeL_le (s.drop i)
   rw [Tu] at hdl
   conv=>whnf
   refine ZEb (fun h2=>?_) (fun h2=>?_)
   ·have hne:s.drop i≠[]:=fun g=>by have:=congrArg List.length g;rw [Tu] at this;simp at this;omega
    have g3:i+(decodeL s i).2≤s.length:=by rw [hdec];have:=hdl hne;omega
    have hdr':1≤(decodeL s i).2:=by rw [hdec];omega
    conv=>whnf
    refine ⟨⟨.inr rfl,by omega,by rw [hdec];omega⟩,?_⟩
    conv=>whnf
    generalize hk:ZeD _ _=k
    have hk':ZeD [10,9,34,92] ((Lib.decodeL (s.drop i)).1:Int)=k:=by rw [← hdec];exact hk
    cases hE:ZcZ (Lib.decodeL (s.drop i)).1 with
    | some b =>
     have g1:W2 f (s.drop (i+(decodeL s i).2)) (out++[92,b])=W2 (s.length+1) s [34]:=by rw [← hgo,hdec];simp [W2,hne,hE,TS]
     rcases ZsB hE with ⟨e1,rfl⟩ | ⟨e1,rfl⟩ | ⟨e1,rfl⟩ | ⟨e1,rfl⟩
     all_goals (rw [e1] at hk';subst hk')
     all_goals (conv=>whnf)
     all_goals (refine ⟨⟨.inr rfl,rfl,rfl,hb1,by omega⟩,?_⟩)
     all_goals (conv=>whnf)
     all_goals (refine ⟨by omega,by first | omega | (simp;done) | (simp;omega),?_⟩)
     all_goals (conv=>whnf)
     all_goals (refine ⟨⟨.inr rfl,rfl,rfl,fun r hr=>by (rcases TX.1 hr with hr | hr;exact hb1 r hr;simp at hr;subst hr;rfl),by rw [Ta];simp;omega⟩,?_⟩)
     all_goals (conv=>whnf)
     all_goals (refine ⟨⟨rfl,_,_,f,?_,⟨g3,by omega,?_⟩,g1⟩,?_⟩)
     all_goals (first | (rw [UH,Tg];rfl) | (rw [Ta];simp;omega) | exact (show s.length - (i+(decodeL s i).2)<s.length - i by omega))
    | none =>
     rw [ZsA hE] at hk'
     subst hk'
     conv=>whnf
     refine ZEb (fun h5=>?_) (fun h5=>?_)
     ·have h5':(Lib.decodeL (s.drop i)).1<32:=by rw [hdec] at h5;omega
      conv=>whnf
      refine hbad ?_
      rw [hq,← hgo]
      simp [W2,hne,hE,h5']
     ·have h5':¬(Lib.decodeL (s.drop i)).1<32:=by rw [hdec] at h5;omega
      have g1:W2 f (s.drop (i+(decodeL s i).2)) (out++Lib.encodeRune ((decodeL s i).1:Int))=W2 (s.length+1) s [34]:=by rw [← hgo,hdec];simp [W2,hne,hE,h5',TS]
      have hen:=ZkB ((decodeL s i).1:Int)
      conv=>whnf
      refine ⟨⟨.inr rfl,rfl,rfl,hb1,by omega,by omega,by rw [hdec];omega⟩,?_⟩
      conv=>whnf
      refine ⟨⟨rfl,_,_,f,?_,⟨g3,by omega,?_⟩,g1⟩,?_⟩
      ·rw [UH];rfl
      ·rw [Ta];omega
      ·exact (show s.length - (i+(decodeL s i).2)<s.length - i by omega)
   ·have hnil:s.drop i=[]:=TU (by omega)
    have g1:W2 (s.length+1) s [34]=some out:=by rw [← hgo];simp [W2,hnil]
    conv=>whnf
    refine ⟨⟨.inr rfl,rfl,rfl,hb1,by omega⟩,?_⟩
    conv=>whnf
    refine ⟨out++[34],⟨by rw [Zbm];rfl,rfl,rfl,.inr rfl,by rw [Ta];simp;omega⟩,?_⟩
    conv=>whnf
    exact hgood _ (by rw [hq,g1];rfl)
 ·exact h.elim
end Go.PM.Lex
end

section
namespace Go.PM.Lex
open Go.Proofs
variable {w0:World} {nG:Nat}
end Go.PM.Lex
end

section
namespace Go.PM.Lex
open Go.Proofs
variable {w0:World} {nG:Nat}
def W3 (s:Bs):Bool:=Zg (pk s).1 && decide (Xg s=s.length)
noncomputable def Zc0:Zz:=fun args σ K=>match args,σ with
 | [.d (.str s)],⟨[],[],0⟩=>s.length<4294967281∧K (.ret (.d (.bool (W3 s)))) ⟨[],[],0⟩
 | _,_=>False
theorem Zjp:Zc Zc0:=fun args σ K K' hK h=>by
 unfold Zc0 at h ⊢;split at h <;> first | exact ⟨h.1,hK _ _ h.2⟩ | exact h.elim
noncomputable def ZCy:Tbl:=[(209,ZaW),(210,V7),(211,ZeB)]
theorem ZCz (ht:TblOK (GG w0 nG) ZCy):PCalls (GG w0 nG) 147 Zc0:=by
 refine pc ht Tryz.func147 ?_
 intro args σ K h
 unfold Zc0 at h
 split at h
 ·rename_i s
  obtain ⟨hs,h⟩:=h
  refine ⟨Za [],0,false,by decide,Tb rfl,?_⟩
  have hpr:=V9 (s.drop (Int.toNat 0))
  have hd:s.drop (Int.toNat 0)=s:=SB
  conv=>whnf
  refine ⟨⟨by omega,by omega⟩,?_⟩
  conv=>whnf
  refine ⟨⟨hpr.1,by omega⟩,?_⟩
  conv=>whnf
  refine ZEg (fun h1=>?_) (fun h1=>?_)
  ·have h1':Zg (pk s).1=true:=by rw [← hd];exact h1
   conv=>whnf
   refine ⟨⟨by omega,by omega,hs⟩,?_⟩
   conv=>whnf
   refine ZlU h ?_
   rw [W3,h1',TC,decide_eq_decide,hd]
   omega
  ·have h1':Zg (pk s).1=false:=by rw [← hd];exact h1
   conv=>whnf
   rw [W3,h1'] at h
   exact h
 ·exact h.elim
end Go.PM.Lex
end

section
namespace Go.PM.Lex
def Yk (s:Bs):Bool:=W3 s && (!decide (s=[95]) && !ZcO s)
def Zl (op:Nat):Nat:=if op=16 then 0 else if op=17 then 0 else if op=15 then 1 else if op=18 then 2 else if op=19 then 2 else if op=10 then 3 else if op=11 then 3 else if op=12 then 4 else if op=13 then 4 else if op=14 then 4
 else if op=8 then 5 else if op=9 then 5 else if op=20 then 6 else if op=21 then 6 else if op=22 then 6 else if op=23 then 6 else if op=24 then 6 else if op=25 then 6 else if op=6∨op=7 then 6 else if op=1∨op=2∨op=3∨op=4∨op=5 then 6 else 0
def ZE (op:Nat):Bs:=if op=16 then [98,111,114] else if op=17 then [98,120,111,114] else if op=15 then [98,97,110,100] else if op=18 then [115,104,108] else if op=19 then [115,104,114] else if op=10 then [43] else if op=11 then [45] else if op=12 then [42] else if op=13 then [47] else if op=14 then [37]
 else if op=8 then [45] else if op=9 then [126] else if op=20 then [99,97,116] else if op=21 then [115,116,114,108,101,110] else if op=22 then [115,117,98,115,116,114] else if op=23 then [99,111,100,101] else if op=24 then [115,116,114] else if op=25 then [110,117,109] else []
def Z2 (op:Nat):Int:=if op=16 then 2 else if op=17 then 2 else if op=15 then 2 else if op=18 then 2 else if op=19 then 2 else if op=10 then 2 else if op=11 then 2 else if op=12 then 2 else if op=13 then 2 else if op=14 then 2
 else if op=8 then 1 else if op=9 then 1 else if op=20 then 2 else if op=21 then 1 else if op=22 then 3 else if op=23 then 1 else if op=24 then 1 else if op=25 then 1 else if op=6∨op=7 then -1 else if op=1∨op=2∨op=3∨op=4∨op=5 then 0 else -2
def XM (op:Nat) (text:Bs):Bool:=if op=1∨op=7 then Yk text else if op=4 then (Vj text).isSome else decide (text=[])
mutual
def ZW:Ex→Bool
 | .mk op text n args _=>decide (-2<Z2 op) && ((decide (Z2 op<0) || decide ((args.length:Int)=Z2 op)) && ((decide (n=0) || decide (op=3)) && (XM op text && ZhM args)))
def ZhM:List Ex→Bool
 | []=>true
 | e::l=>ZW e && ZhM l
end
theorem Zq (l:List Ex):ZhM l=l.all ZW:=by induction l with | nil=>rfl | cons x l ih=>simp [ZhM,ih]
def Xy (op:Nat) (rel:Bs) (args body:Nat):Bool :=
 if op=1∨op=2 then Yk rel && !decide (0<body)
 else if 3≤op∧op≤8 then decide (rel=[]) && (decide (args=2) && !decide (0<body))
 else if op=9 then decide (rel=[]) && (decide (args=1) && decide (0<body))
 else if 9<op∧op≤12 then decide (rel=[]) && (decide (args=2) && decide (0<body)) else false
mutual
def YX:Li→Bool
 | .mk op rel args body _=>Xy op rel args.length body.length && (ZhM args && Zjq body)
def Zjq:List Li→Bool
 | []=>true
 | e::l=>YX e && Zjq l
end
theorem Vq (l:List Li):Zjq l=l.all YX:=by induction l with | nil=>rfl | cons x l ih=>simp [Zjq,ih]
def Y6 (r:Ru):Bool:=Yk r.head && (r.args.all ZW && r.body.all YX)
def YG (f:Fi):Bool:=Yk f.name && Yk f.typ
def Xz (c:Ca):Bool:=Yk c.name && c.fields.all YG
def Zcg (t:Ty):Bool:=if t.kind=1 then Yk t.base && (decide (t.fields.length=0) && decide (t.cases.length=0)) else if t.kind=2 then decide (t.base=[]) && decide (t.cases.length=0)
 else if t.kind=3 then decide (t.base=[]) && (decide (t.fields.length=0) && !decide (t.cases.length=0)) else false
def Ym (t:Ty):Bool:=Zcg t && (Yk t.name && (t.fields.all YG && t.cases.all Xz))
def XN (d:Re):Bool:=Yk d.name && d.fields.all YG
def XX (i:Ini):Bool:=Yk i.name && (Yk i.comp && i.types.all Yk)
def W4 (o:Ov):Bool:=Yk o.rel
mutual
def Za1:Un→Bool
 | .mk tys rels rules comps inits overs=>tys.all Ym && (rels.all XN && (rules.all Y6 && (ZdE comps && (inits.all XX && overs.all W4))))
def Yc:Co→Bool
 | .mk nm ps base tys u _=>Yk nm && (ps.all Yk && (tys.all Yk && (((decide (base=[]) && decide (tys.length=0)) || Yk base) && Za1 u)))
def ZdE:List Co→Bool
 | []=>true
 | c::l=>Yc c && ZdE l
end
theorem W5 (l:List Co):ZdE l=l.all Yc:=by induction l with | nil=>rfl | cons x l ih=>simp [ZdE,ih]
def Zj0 (d:Nat):UInt8:=if d<10 then UInt8.ofNat (48+d) else UInt8.ofNat (87+d)
def ZbB (base:Nat):Nat→Nat→Bs
 | 0,_=>[]
 | f+1,n=>if n<base then [Zj0 n] else ZbB base f (n / base)++[Zj0 (n % base)]
def Yx (base n:Nat):Bs:=ZbB base (n+1) n
def Zd1 (n:Int):Bs:=if n<0 then [48,120]++Yx 16 (n+18446744073709551616).toNat else Yx 10 n.toNat
def Zqf (s:Bs):Bs:=(Vj s).getD []
def Zf (sep:Bs):List Bs→Bs
 | []=>[]
 | [x]=>x
 | x::l=>x++(sep++Zf sep l)
def cmm:Bs:=[44,32]
def opE:Ex→Nat | .mk op _ _ _ _=>op
def Zqg (want:Nat) (p:Nat×Bs):Bs:=if p.1<want then [40]++(p.2++[41]) else p.2
def exA (w1 w2:Nat) (sep:Bs):List (Nat×Bs)→Bs
 | []=>[]
 | [a]=>Zqg w1 a
 | a::b::_=>Zqg w1 a++(sep++Zqg w2 b)
def exN (op:Nat) (text:Bs) (n:Int) (ps:List (Nat×Bs)):Bs :=
 if Zl op<5 then exA (Zl op) (Zl op+1) ([32]++(ZE op++[32])) ps
 else if Zl op=5 then ZE op++exA 5 5 [] ps
 else if ZE op≠[] then ZE op++([40]++(Zf cmm (ps.map Prod.snd)++[41]))
 else if op=6 then [91]++(Zf cmm (ps.map Prod.snd)++[93])
 else if op=7 then [36]++(text++(if ps.length=0 then [] else [40]++(Zf cmm (ps.map Prod.snd)++[41])))
 else if op=3 then Zd1 n
 else if op=4 then Zqf text
 else if op=5 then [110,105,108]
 else if op=2 then [95]
 else text
mutual
def exT:Ex→Bs
 | .mk op text n args _=>exN op text n (Zin args)
def Zin:List Ex→List (Nat×Bs)
 | []=>[]
 | e::l=>(Zl (opE e),exT e)::Zin l
end
theorem Zqh (l:List Ex):Zin l=l.map fun e=>(Zl (opE e),exT e):=by induction l with | nil=>rfl | cons x l ih=>simp [Zin,ih]
theorem Zd2 (l:List Ex):(Zin l).length=l.length:=by rw [Zqh,Tf]
def exW (want:Nat) (e:Ex):Bs:=Zqg want (Zl (opE e),exT e)
def Zt0 (l:List Ex):List Bs:=l.map exT
theorem Zaz (l:List Ex):(Zin l).map Prod.snd=Zt0 l:=by rw [Zqh,TL];rfl
def Wt (fr fin:Bs) (l:List Ex):Bs:=fr++(Zf cmm (Zt0 l)++fin)
def Zqi (op:Nat):Bs:=if op=3 then [32,61,32] else if op=4 then [32,33,61,32] else if op=5 then [32,60,32] else if op=6 then [32,60,61,32] else if op=7 then [32,62,32] else [32,62,61,32]
def Zab (op:Nat):Bs:=if op=9 then [99,111,117,110,116] else if op=10 then [115,117,109] else if op=11 then [109,105,110] else [109,97,120]
def Zmp (l:List Ex):Bs:=(l.map fun e=>[32]++exT e).flatten
def Zjr:List Ex→Bs
 | []=>[]
 | e::_=>exT e
mutual
def liT:Li→Bs
 | .mk op rel args body _ =>
  if op=2 then [33]++(rel++Wt [40] [41] args)
  else if op=1 then rel++Wt [40] [41] args
  else if op≤8 then Zjr args++(Zqi op++Zjr args.tail)
  else Zjr args++([32,61,32]++(Zab op++(Zmp args.tail++([32,58,32,123,32]++(Zf cmm (Zio body)++[32,125])))))
def Zio:List Li→List Bs
 | []=>[]
 | e::l=>liT e::Zio l
end
theorem Ze8 (l:List Li):Zio l=l.map liT:=by induction l with | nil=>rfl | cons x l ih=>simp [Zio,ih]
def ruT (r:Ru):Bs:=r.head++(Wt [40] [41] r.args++((if 0<r.body.length then [32,58,45,32]++Zf cmm (Zio r.body) else [])++[46]))
def fiT (f:Fi):Bs:=f.name++([58,32]++f.typ)
def Um (fr:Bs) (l:List Fi) (fin:Bs):Bs:=fr++(Zf cmm (l.map fiT)++fin)
def JK (l:List Bs):Bs:=if l.length=0 then [] else [60]++(Zf cmm l++[62])
def caT (c:Ca):Bs:=Um (c.name++[32,123]) c.fields [125]
def tyT (t:Ty):Bs:=[116,121,112,101,32]++(t.name++((if t.kind=1 then [32,60,58,32]++t.base else if t.kind=2 then Um [32,61,32,91] t.fields [93] else [32,61,32]++Zf [32,124,32] (t.cases.map caT))++[10]))
def reT (d:Re):Bs:=Um ([100,101,99,108,32]++(d.name++[40])) d.fields [41]++((if d.inn then [32,105,110,112,117,116] else [])++((if d.out then [32,111,117,116,112,117,116] else [])++((if d.inl then [32,105,110,108,105,110,101] else [])++[10])))
def inT (i:Ini):Bs:=[105,110,105,116,32]++(i.name++([32,61,32]++(i.comp++(JK i.types++[10]))))
def ovT (o:Ov):Bs:=[111,118,101,114,114,105,100,101,32]++(o.rel++[10])
mutual
def unT:Un→Bs
 | .mk tys rels rules comps inits overs=>(tys.map tyT).flatten++((rels.map reT).flatten++((Zmq comps).flatten++((inits.map inT).flatten++((overs.map ovT).flatten++(rules.map fun r=>ruT r++[10]).flatten))))
def coT:Co→Bs
 | .mk nm ps base tys u _=>[99,111,109,112,32]++(nm++(JK ps++((if base=[] then [] else [32,58,32]++(base++JK tys))++([32,123,10]++(unT u++[125,10])))))
def Zmq:List Co→List Bs
 | []=>[]
 | c::l=>coT c::Zmq l
end
theorem ZvS (l:List Co):Zmq l=l.map coT:=by induction l with | nil=>rfl | cons x l ih=>simp [Zmq,ih]
end Go.PM.Lex
end
