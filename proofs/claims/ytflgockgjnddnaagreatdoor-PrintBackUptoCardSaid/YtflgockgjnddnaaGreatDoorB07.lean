/- A part of the proof: plain logic, contracts and laws over the given program. -/
import Derived.Test.YtflgockgjnddnaaGreatDoorB06
set_option linter.unusedVariables false
set_option linter.unusedSimpArgs false
set_option linter.all false
set_option maxRecDepth 100000
set_option maxHeartbeats 16000000
section
namespace Go.PM.Lex
open Go.Proofs
variable {w0:World} {nG:Nat}
def ZmI:Nat→Ts→R Un
 | 0=>fun _=>.err 0 150
 | d+1=>ZjO d
theorem Zrt (d:Nat):ZjO d=Zh2 true d (ZmI d):=by cases d <;> rfl
def Zuh (b:Bool) (d:Nat) (ts:Ts):R Un:=Zh2 b d (ZmI d) ts
noncomputable def Zc4 (d:Nat):ZA:=Wk fun rest L en dp a ts K=>match rest with
 | [.d (.bool b)]=>(dp=64 - (d:Int)∧0≤dp)∧∀x,Zuh b d ts=x→RKk (fun (v:Un)=>ZbC (Yf (Zd L en) v)) L en dp a x K
 | _=>False
theorem Zj2 (d:Nat):Zc (Zc4 d):=ZX fun rest L en dp a ts K K' hK h=>by
 exact m56
noncomputable def U0 (d:Nat):ZA:=Wk fun rest L en dp a ts K=>match rest with
 | [.d (.bool b)]=>(0<d∧dp=65 - (d:Int)∧0≤dp∧b=true)∧∀x,ZmI d ts=x→RKk (fun (v:Un)=>ZbC (Yf (Zd L en) v)) L en dp a x K
 | _=>False
theorem Zig (d:Nat):Zc (U0 d):=ZX fun rest L en dp a ts K K' hK h=>by
 exact m56
noncomputable abbrev Zld (d:Nat):ZA:=Zh8 (fun L en (v:Co)=>ZbC (ZW (Zd L en) v)) (Zh1 d (ZmI d)) 0 d
noncomputable def Zle (d:Nat):Tbl:=[(70,U0 d)]
noncomputable def Zlf (d:Nat):Tbl:=[(136,Zhl),(143,X9),(81,Xq),(205,ZjX Tryz.f205 (Zle d))]
noncomputable def Zui (d:Nat):Tbl:=[(141,WX),(142,Wx),(144,Zek),(200,WP),(204,ZjX Tryz.f204 (Zlf d))]
theorem Zuj {d:Nat} (ht:TblOK (GG w0 nG) (Zui d)):PCalls (GG w0 nG) 140 (Zld d):=by
 refine pc ht Tryz.func140 ?_
 intro args σ K h
 unfold Zld Zh8 Wk at h
 split at h
 ·rename_i rest t rows a en dp
  obtain ⟨L,ts,rfl,ho,h⟩:=h
  split at h
  ·obtain ⟨hdp,h⟩:=h
   have h0:=ho.lo
   have h1:=ho.hi
   have h2:=ho.big
   refine ⟨Za [],1,false,by simp,Tb rfl,?_⟩
   have h:=h _ rfl
   rw [Zh1] at h
   conv=>whnf
   refine ⟨L,ts,rfl,ho,?_⟩
   conv=>whnf
   refine ⟨L,ts,rfl,ho,fun x hx1=>?_⟩
   rcases x with ⟨v1,ts1⟩ | ⟨r1,e1⟩
   rotate_left
   ·exact m58
   rw [hx1,R.bind_ok] at h
   intro a1 hle1 ho1
   have hb1:=ho1.hi
   conv=>whnf
   refine ⟨L,ts1,rfl,ho1,fun x hx2=>?_⟩
   rcases x with ⟨v2,ts2⟩ | ⟨r2,e2⟩
   rotate_left
   ·exact m51
   rw [hx2,R.bind_ok] at h
   intro a2 hle2 ho2
   have hb2:=ho2.hi
   conv=>whnf
   refine ⟨L,ts2,rfl,ho2,[[58]],rfl,by simp,fun hw3 ho3=>?_,fun hw3=>?_⟩
   ·rw [Th hw3] at h
    have hb3:=ho3.hi
    conv=>whnf
    refine ⟨L,ts2.tail,rfl,ho3,fun x hx4=>?_⟩
    rcases x with ⟨v4,ts4⟩ | ⟨r4,e4⟩
    rotate_left
    ·exact m99
    rw [hx4,R.bind_ok] at h
    intro a4 hle4 ho4
    have hb4:=ho4.hi
    conv=>whnf
    refine ⟨L,ts4,rfl,ho4,fun x hx5=>?_⟩
    rcases x with ⟨v5,ts5⟩ | ⟨r5,e5⟩
    rotate_left
    ·exact m50
    rw [hx5,R.bind_ok] at h
    intro a5 hle5 ho5
    have hb5:=ho5.hi
    conv=>whnf
    refine ⟨_,fun _ _ h=>h,Tb rfl,?_⟩
    conv=>whnf
    refine ⟨L,ts5,rfl,ho5,[[123]],rfl,by simp,fun b hw7=>?_⟩
    cases b with
    | false =>
     rw [Zq,Tf (by rw [hw7];simp),R.bind_err] at h
     conv=>whnf
     refine ⟨L,ts5,rfl,ho5,fun x hx=>?_⟩
     rw [Yo,Tf (by rw [hw7];simp)] at hx
     subst hx
     intro a9 d9
     exact m55
    | true =>
     rw [Zq,Th hw7] at h
     conv=>whnf
     refine ZCX (fun hc=>?_) (fun hc=>?_)
     ·rw [Th (by omega),R.bind_err] at h
      conv=>whnf
      refine ⟨L,ts5,rfl,ho5,?_⟩
      exact m55
     ·rw [Tf (by omega)] at h
      conv=>whnf
      refine ⟨L,ts5,rfl,ho5,fun x hx=>?_⟩
      rw [Yo,Th hw7] at hx
      subst hx
      intro a7 hle7 ho7
      have hb7:=ho7.hi
      conv=>whnf
      refine oiO ?_
      conv=>whnf
      refine ⟨_,fun _ _ h=>h,Tb rfl,?_⟩
      conv=>whnf
      refine ⟨L,ts5.tail,rfl,ho7,⟨by omega,by omega,by omega,rfl⟩,fun x hx8=>?_⟩
      exact m46
   ·rw [Tf (by rw [hw3];simp)] at h
    conv=>whnf
    refine ⟨_,fun _ _ h=>h,Tb rfl,?_⟩
    conv=>whnf
    refine ⟨L,ts2,rfl,ho2,[[123]],rfl,by simp,fun b hw7=>?_⟩
    cases b with
    | false =>
     rw [Zq,Tf (by rw [hw7];simp),R.bind_err] at h
     conv=>whnf
     refine ⟨L,ts2,rfl,ho2,fun x hx=>?_⟩
     rw [Yo,Tf (by rw [hw7];simp)] at hx
     subst hx
     intro a9 d9
     exact m55
    | true =>
     rw [Zq,Th hw7] at h
     conv=>whnf
     refine ZCX (fun hc=>?_) (fun hc=>?_)
     ·rw [Th (by omega),R.bind_err] at h
      conv=>whnf
      refine ⟨L,ts2,rfl,ho2,?_⟩
      exact m55
     ·rw [Tf (by omega)] at h
      conv=>whnf
      refine ⟨L,ts2,rfl,ho2,fun x hx=>?_⟩
      rw [Yo,Th hw7] at hx
      subst hx
      intro a7 hle7 ho7
      have hb7:=ho7.hi
      conv=>whnf
      refine oiO ?_
      conv=>whnf
      refine ⟨_,fun _ _ h=>h,Tb rfl,?_⟩
      conv=>whnf
      refine ⟨L,ts2.tail,rfl,ho7,⟨by omega,by omega,by omega,rfl⟩,fun x hx8=>?_⟩
      exact m46
  ·exact h.elim
 ·exact h.elim
noncomputable def Zuk (d:Nat):Tbl:=[(136,Zhl),(137,Zh4),(138,Zgx),(139,Zk2),(140,Zld d),(141,WX),(142,Wx),(143,X9),(144,Zek),(145,Zag ZR),(146,Zif d),(81,Xq)]
theorem Zih (inside:Bool) (d:Nat) (un:Ts→R Un) (f:Nat) (tys:List Ty) (rels:List Re) (rules:List Ru) (comps:List Co) (inits:List Ini) (overs:List Ov) (ts:Ts):Yc inside d un (f+1) (.mk tys rels rules comps inits overs) ts =
  if ts=[]∨(inside=true∧isW ts [[125]]=true) then .ok (.mk tys rels rules comps inits overs) ts
  else if isW ts [[116,121,112,101]]=true then (if tys.length=256 then .err ts.length 3 else (Zee ts.tail).bind fun x ts=>Yc inside d un f (.mk (tys++[x]) rels rules comps inits overs) ts)
  else if isW ts [[100,101,99,108]]=true then (if rels.length=256 then .err ts.length 3 else (ZjK ts.tail).bind fun x ts=>Yc inside d un f (.mk tys (rels++[x]) rules comps inits overs) ts)
  else if isW ts [[99,111,109,112]]=true then (if comps.length=64 then .err ts.length 3 else (Zh1 d un ts.tail).bind fun x ts=>Yc inside d un f (.mk tys rels rules (comps++[x]) inits overs) ts)
  else if isW ts [[105,110,105,116]]=true then (if inits.length=256 then .err ts.length 3 else (ZjM ts.tail).bind fun x ts=>Yc inside d un f (.mk tys rels rules comps (inits++[x]) overs) ts)
  else if isW ts [[111,118,101,114,114,105,100,101]]=true then (if overs.length=256 then .err ts.length 3 else (ZjN ts.tail).bind fun x ts=>Yc inside d un f (.mk tys rels rules comps inits (overs++[x])) ts)
  else if ZR ts=true then (if rules.length=1024 then .err ts.length 3 else (ZjL d true ts).bind fun x ts=>Yc inside d un f (.mk tys rels (rules++[x]) comps inits overs) ts)
  else .err ts.length 150:=rfl
theorem Zul {d:Nat} (ht:TblOK (GG w0 nG) (Zuk d)):PCalls (GG w0 nG) 70 (Zc4 d):=by
 refine pc ht Tryz.func70 ?_
 intro args σ K h
 unfold Zc4 Wk at h
 split at h
 ·rename_i rest t rows a en dp
  obtain ⟨L,ts,rfl,ho,h⟩:=h
  split at h
  ·rename_i inside
   obtain ⟨hdp,h⟩:=h
   have h0:=ho.lo
   have h1:=ho.hi
   have h2:=ho.big
   refine ⟨Za [(1,⟨[],[0,1,4],fun vs σ=>∃(tys:List Ty) (rels:List Re) (rules:List Ru) (comps:List Co) (inits:List Ini) (overs:List Ov) (a':Int) (ts':Ts) (f:Nat),vs=[]∧σ=⟨[.cells t [.d (.sl (Z8 L)),.d (.int .i64 a'),.d (.int .i64 en),.d (.int .i64 dp)],.cells 44 [.sl 0 64 (tys.map (Zx (Zd L en))),.sl 1 68 (rels.map (ZG (Zd L en))),.sl 2 50 (rules.map (ZI (Zd L en))),.sl 3 71 (comps.map (ZW (Zd L en))),.sl 4 73 (inits.map (ZQ (Zd L en))),.sl 5 75 (overs.map (ZN (Zd L en)))]],[5,4,3,2,1,0],6⟩∧ROK L a' ts'∧a≤a'∧ts'.length<f∧(tys.length≤256∧rels.length≤256∧rules.length≤1024∧comps.length≤64∧inits.length≤256∧overs.length≤256)∧RKk (fun (v:Un)=>ZbC (Yf (Zd L en) v)) L en dp a (Yc inside d (ZmI d) f (.mk tys rels rules comps inits overs) ts') (fun pe a' dp'=>K pe ⟨[.cells t [.d (.sl (Z8 L)),.d (.int .i64 a'),.d (.int .i64 en),.d (.int .i64 dp')]],[],0⟩),fun _ σ=>match σ with | ⟨.cells _ [_,.d (.int _ i),_,_]::_,_,_⟩=>((L.length:Int) - i).toNat | _=>0⟩)],1,false,by simp,Tb rfl,?_⟩
   have h:=h _ rfl
   rw [Zuh,Zh2] at h
   conv=>whnf
   refine ⟨⟨[],[],[],[],[],[],a,ts,ts.length+1,rfl,rfl,ho,by omega,by omega,by simp,h⟩,?_⟩
   clear h
   intro vs σ hI
   obtain ⟨tys,rels,rules,comps,inits,overs,a',ts',f,rfl,rfl,ho',hle',hf,hlim,h⟩:=hI
   obtain ⟨f,rfl⟩:∃g,f=g+1:=⟨f - 1,by omega⟩
   rw [Zih] at h
   have hhi':=ho'.hi
   have hlen':=ho'.len
   have hlo':=ho'.lo
   conv=>whnf
   refine ZCX (fun hc=>?_) (fun hc=>?_)
   ·have hne:ts'≠[]:=by rintro rfl;have hc:a'<((Z8 L).length:Int):=hc;rw [XK] at hc;simp at hlen';omega
    conv=>whnf
    cases inside with
    | false =>
     rw [Tf (by simp [hne])] at h
     exact m1
    | true =>
     conv=>whnf
     refine ⟨L,ts',rfl,ho',[[125]],rfl,by simp,fun b hw=>?_⟩
     cases b with
     | true =>
      rw [Th (.inr ⟨rfl,hw⟩)] at h
      conv=>whnf
      repeat (refine ⟨rfl,?_⟩;conv=>whnf)
      have h:=h _ (by omega) ho'
      simp only [ZbC,Yf,ZH,Tz,TG] at h
      exact h
     | false =>
      rw [Tf (by simp [hne,hw])] at h
      exact m1
   have hnil:ts'=[]:=by have hc:¬a'<((Z8 L).length:Int):=hc;rw [XK] at hc;exact TA (by omega)
   rw [Th (.inl hnil)] at h
   conv=>whnf
   have h:=h _ (by omega) ho'
   simp only [ZbC,Yf,ZH,Tz,TG] at h
   exact h
  ·exact h.elim
 ·exact h.elim
end Go.PM.Lex
end

section
namespace Go.PM.Lex
open Go.Proofs
variable {w0:World} {nG:Nat}
theorem Zc5:PCalls (GG w0 nG) 141 WX:=Zrd ⟨⟨Za0,XW⟩,trivial⟩
theorem cIs:PCalls (GG w0 nG) 136 Zhl:=ZBb ⟨⟨Za0,XW⟩,⟨ZjR,Zei⟩,trivial⟩
theorem ZfO:PCalls (GG w0 nG) 145 (Zag ZR):=Zrf ⟨⟨Za0,XW⟩,⟨ZjQ,ZaZ⟩,trivial⟩
theorem U1:PCalls (GG w0 nG) 81 Xq:=ZtT ⟨⟨Zc5,YZ⟩,trivial⟩
theorem ZbI:PCalls (GG w0 nG) 200 WP:=ZtV ⟨⟨cIs,YK⟩,trivial⟩
theorem Za3:PCalls (GG w0 nG) 143 X9:=ZtX ⟨⟨ZbI,Z4⟩,⟨U1,ZF⟩,trivial⟩
theorem ZBc:PCalls (GG w0 nG) 137 Zh4:=ZtZ ⟨⟨U1,ZF⟩,trivial⟩
theorem Zay:PCalls (GG w0 nG) 142 Wx:=Zrh ⟨⟨ZfO,XE _⟩,⟨U1,ZF⟩,trivial⟩
theorem Zj3:PCalls (GG w0 nG) 262 (Zag Z1):=Zoz ⟨⟨Za0,XW⟩,⟨cIs,YK⟩,⟨ZjQ,ZaZ⟩,⟨Zco,V0⟩,trivial⟩
theorem ZoS:PCalls (GG w0 nG) 162 ZoA:=ZoB ⟨⟨Za0,XW⟩,trivial⟩
theorem Zum:PCalls (GG w0 nG) 259 Zgw:=ZoH ⟨⟨Zay,Xh _ _ _⟩,⟨Za3,ZU⟩,trivial⟩
theorem Zj4:PCalls (GG w0 nG) 201 UY:=ZoJ ⟨⟨cIs,YK⟩,⟨Zia ⟨⟨ZfO,XE _⟩,⟨U1,ZF⟩,⟨Zum,Zh6 _ _ _⟩,⟨ZbI,Z4⟩,trivial⟩,Zdn⟩,trivial⟩
theorem ZsI:PCalls (GG w0 nG) 144 Zek:=Zrj ⟨⟨ZbI,Z4⟩,⟨Zmz ⟨⟨ZfO,XE _⟩,⟨U1,ZF⟩,⟨Zay,Xh _ _ _⟩,⟨ZbI,Z4⟩,trivial⟩,Zfl⟩,⟨Za3,ZU⟩,trivial⟩
theorem ZxP:PCalls (GG w0 nG) 203 ZjW:=Zrl ⟨⟨Zay,Xh _ _ _⟩,⟨Za3,ZU⟩,⟨Zj4,UZ⟩,trivial⟩
theorem ZxQ:PCalls (GG w0 nG) 138 Zgx:=Zrn ⟨⟨Zc5,YZ⟩,⟨Zay,Xh _ _ _⟩,⟨ZbI,Z4⟩,⟨Za3,ZU⟩,⟨Zj4,UZ⟩,⟨ZjV ⟨⟨ZfO,XE _⟩,⟨U1,ZF⟩,⟨ZxP,Zh6 _ _ _⟩,⟨ZbI,Z4⟩,trivial⟩,Zej⟩,trivial⟩
theorem ZBd:PCalls (GG w0 nG) 139 Zk2:=Zt2 ⟨⟨Zc5,YZ⟩,⟨Zay,Xh _ _ _⟩,⟨ZbI,Z4⟩,⟨Za3,ZU⟩,⟨Zj4,UZ⟩,trivial⟩
theorem ZCy:PCalls (GG w0 nG) 253 ZmC:=ZxN ⟨⟨ZoK ⟨⟨ZbI,Z4⟩,trivial⟩,Zc1⟩,⟨ZoL ⟨⟨ZbI,Z4⟩,trivial⟩,Zc1⟩,trivial⟩
theorem Zii (h:Ve (GG w0 nG).P 261):PCalls (GG w0 nG) 261 (WQ 0):=⟨h,fun args σ K hs=>by
 exfalso
 unfold WQ at hs
 split at hs
 ·exact absurd hs.1.2.2.2.2.1 (by omega)
 ·exact hs⟩
theorem Zij {d:Nat} (h:PCalls (GG w0 nG) 261 (ZbE d)):PCalls (GG w0 nG) 261 (WQ (d+1)):=h.weaken1 fun args σ K hs=>by
 unfold WQ at hs
 unfold ZbE
 split at hs
 ·obtain ⟨⟨h1,h2,h3,h4,h5,h6,h7⟩,hs⟩:=hs
  exact ⟨⟨h1,h2,h3,h4,by omega,h7⟩,hs⟩
 ·exact hs.elim
theorem ZmJ (d:Nat) (h:Ve (GG w0 nG).P 82):PCalls (GG w0 nG) 82 (Zcq d 0):=⟨h,fun args σ K hs=>by
 exfalso
 unfold Zcq Wk at hs
 split at hs
 ·obtain ⟨L,ts,_,_,hs⟩:=hs
  split at hs
  ·exact absurd hs.1.2.1 (by omega)
  ·exact hs
 ·exact hs⟩
theorem ZmK {d j:Nat} (h:PCalls (GG w0 nG) 82 (Zeo d j)):PCalls (GG w0 nG) 82 (Zcq d (j+1)):=h.weaken1 fun args σ K hs=>by
 unfold Zcq Wk at hs
 unfold Zeo Wk
 split at hs
 ·obtain ⟨L,ts,h1,h2,hs⟩:=hs
  refine ⟨L,ts,h1,h2,?_⟩
  split at hs
  ·exact ⟨⟨hs.1.1,hs.1.2.2.1,hs.1.2.2.2.1,by have:=hs.1.2.2.2.2;omega⟩,hs.2⟩
  ·exact hs.elim
 ·exact hs
structure Deep (w0:World) (nG d:Nat):Prop where
 sg:PCalls (GG w0 nG) 161 (Zib d)
 ex:PCalls (GG w0 nG) 35 (ZjY d)
 many:PCalls (GG w0 nG) 261 (WQ d)
theorem Zlg {d:Nat} (D:Deep w0 nG d):PCalls (GG w0 nG) 207 (Zc2 d):=Zt5 ⟨⟨(Zcp (tb:=Zk5 d) ⟨⟨cIs,YK⟩,⟨Za3,ZU⟩,⟨U1,ZF⟩,⟨(Zcp (tb:=Zk4 d) ⟨⟨cIs,YK⟩,⟨D.many,Zfm d⟩,trivial⟩ Tryz.func260 rfl (by kernel_rfl) (by kernel_rfl)),YU _ _⟩,trivial⟩ Tryz.func204 rfl (by kernel_rfl) (by kernel_rfl)),YU _ _⟩,trivial⟩
theorem Zru {d:Nat} (D:Deep w0 nG d):PCalls (GG w0 nG) 283 (Zic d):=Zt7 ⟨⟨(Zcp (tb:=Zk7 d) ⟨⟨cIs,YK⟩,⟨Za3,ZU⟩,⟨U1,ZF⟩,⟨(ZxM (tb:=Zk6 d) ⟨⟨Za3,ZU⟩,⟨D.ex,ZbG _ _ _ _⟩,trivial⟩ Tryz.func313 rfl (by kernel_rfl) (by kernel_rfl)),ZmB _ _ _⟩,trivial⟩ Tryz.func204 rfl (by kernel_rfl) (by kernel_rfl)),YU _ _⟩,trivial⟩
theorem Zj5 {d:Nat} (D:Deep w0 nG d):PCalls (GG w0 nG) 229 (ZbH d):=ZmG ⟨⟨Zj3,XE _⟩,⟨U1,ZF⟩,⟨Za0,XW⟩,⟨(Zcp (tb:=Zk9 d) ⟨⟨cIs,YK⟩,⟨Za3,ZU⟩,⟨U1,ZF⟩,⟨(Zcp (tb:=Zk8 d) ⟨⟨D.ex,ZbG _ _ _ _⟩,trivial⟩ Tryz.func282 rfl (by kernel_rfl) (by kernel_rfl)),YU _ _⟩,trivial⟩ Tryz.func204 rfl (by kernel_rfl) (by kernel_rfl)),YU _ _⟩,⟨Zlg D,Za1 d⟩,⟨Zay,Xh _ _ _⟩,⟨cIs,YK⟩,⟨Zco,V0⟩,⟨Zru D,ZjZ d⟩,trivial⟩
theorem Zcs {d:Nat} (D:Deep w0 nG d):PCalls (GG w0 nG) 161 (Zdw d):=ZoN ⟨⟨Zc5,YZ⟩,⟨cIs,YK⟩,⟨(Zcp (tb:=Zlb d) ⟨⟨cIs,YK⟩,⟨Za3,ZU⟩,⟨U1,ZF⟩,⟨(Zcp (tb:=Zla d) ⟨⟨D.sg,ZbG _ _ _ _⟩,trivial⟩ Tryz.func228 rfl (by kernel_rfl) (by kernel_rfl)),YU _ _⟩,trivial⟩ Tryz.func204 rfl (by kernel_rfl) (by kernel_rfl)),YU _ _⟩,⟨Zj5 D,Wa _ _ _ _⟩,trivial⟩
theorem Zlh {d:Nat} (D:Deep w0 nG d):∀j,PCalls (GG w0 nG) 82 (Zeo d j)
 | 0=>ZoP ⟨⟨Zcs D,Wa _ _ _ _⟩,⟨ZoS,ZfM⟩,⟨ZmJ d (Zh Tryz.func82 (by kernel_rfl) rfl),Zc3 d 0⟩,trivial⟩
 | j+1=>ZoP ⟨⟨Zcs D,Wa _ _ _ _⟩,⟨ZoS,ZfM⟩,⟨ZmK (Zlh D j),Zc3 d (j+1)⟩,trivial⟩
theorem ZgB {d:Nat} (D:Deep w0 nG d):PCalls (GG w0 nG) 35 (Zen d):=Zub ⟨⟨Zlh D 6,Zj0 d 6⟩,trivial⟩
theorem ZoT {d:Nat} (h:PCalls (GG w0 nG) 35 (Zen d)):PCalls (GG w0 nG) 261 (ZbE d):=ZoD d ⟨⟨Zj3,XE _⟩,⟨U1,ZF⟩,⟨h,Wa _ _ _ _⟩,⟨ZbI,Z4⟩,trivial⟩
theorem ZxR:∀d,Deep w0 nG d
 | 0=>⟨Zel (Zh Tryz.func161 (by kernel_rfl) rfl),Zel (Zh Tryz.func35 (by kernel_rfl) rfl),Zii (Zh Tryz.func261 (by kernel_rfl) rfl)⟩
 | d+1=>⟨Zem (Zcs (ZxR d)),Zem (ZgB (ZxR d)),Zij (ZoT (ZgB (ZxR d)))⟩
theorem ZxS (d:Nat):PCalls (GG w0 nG) 207 (Zc2 d):=Zlg (ZxR d)
theorem ZxT (d:Nat):PCalls (GG w0 nG) 35 (Zen d):=ZgB (ZxR d)
theorem ZxU:PCalls (GG w0 nG) 264 (Zh7 Yu):=Zrs ⟨⟨Zj3,XE _⟩,⟨cIs,YK⟩,trivial⟩
theorem Zun {d:Nat} (h:PCalls (GG w0 nG) 208 (Zgz d)):PCalls (GG w0 nG) 265 (Zuc d):=ZxO ⟨⟨Zc5,YZ⟩,⟨ZbI,Z4⟩,⟨Za0,XW⟩,⟨ZfO,XE _⟩,⟨Zay,Xh _ _ _⟩,⟨ZxS d,Za1 d⟩,⟨ZxT d,Wa _ _ _ _⟩,⟨ZCy,ZmD⟩,⟨U1,ZF⟩,⟨Za3,ZU⟩,⟨(Zcp (tb:=ZoR d) ⟨⟨cIs,YK⟩,⟨Za3,ZU⟩,⟨U1,ZF⟩,⟨(Zcp (tb:=ZoQ d) ⟨⟨h,ZbG _ _ _ _⟩,trivial⟩ Tryz.func302 rfl (by kernel_rfl) (by kernel_rfl)),YU _ _⟩,trivial⟩ Tryz.func204 rfl (by kernel_rfl) (by kernel_rfl)),YU _ _⟩,trivial⟩
theorem Zli {d:Nat} (h:PCalls (GG w0 nG) 208 (Zgz d)):PCalls (GG w0 nG) 208 (Zie d):=Zue ⟨⟨ZoF d ⟨⟨ZxU,ZjT _⟩,⟨U1,ZF⟩,⟨Zun h,Wa _ _ _ _⟩,⟨ZbI,Z4⟩,trivial⟩,Zgv d⟩,trivial⟩
theorem ZsJ:∀d,PCalls (GG w0 nG) 208 (Zgz d)
 | 0=>Zel (Zh Tryz.func208 (by kernel_rfl) rfl)
 | d+1=>Zem (Zli (ZsJ d))
theorem ZBe (d:Nat):PCalls (GG w0 nG) 208 (Zie d):=Zli (ZsJ d)
theorem ZBf (d:Nat):PCalls (GG w0 nG) 146 (Zif d):=Zug ⟨⟨Zc5,YZ⟩,⟨Zay,Xh _ _ _⟩,⟨ZxS d,Za1 d⟩,⟨ZbI,Z4⟩,⟨ZBe d,Wa _ _ _ _⟩,⟨Za3,ZU⟩,trivial⟩
theorem ZmL (h:Ve (GG w0 nG).P 70):PCalls (GG w0 nG) 70 (U0 0):=⟨h,fun args σ K hs=>by
 exfalso
 unfold U0 Wk at hs
 split at hs
 ·obtain ⟨L,ts,_,_,hs⟩:=hs
  split at hs
  ·exact absurd hs.1.1 (by omega)
  ·exact hs
 ·exact hs⟩
theorem ZmM {d:Nat} (h:PCalls (GG w0 nG) 70 (Zc4 d)):PCalls (GG w0 nG) 70 (U0 (d+1)):=h.weaken1 fun args σ K hs=>by
 unfold U0 Wk at hs
 unfold Zc4 Wk
 split at hs
 ·obtain ⟨L,ts,h1,h2,hs⟩:=hs
  refine ⟨L,ts,h1,h2,?_⟩
  split at hs
  ·obtain ⟨⟨g1,g2,g3,rfl⟩,hs⟩:=hs
   refine ⟨by omega,?_⟩
   rw [ZmI,Zrt] at hs
   exact hs
  ·exact hs.elim
 ·exact hs
theorem Zrv {d:Nat} (h:PCalls (GG w0 nG) 70 (U0 d)):PCalls (GG w0 nG) 140 (Zld d):=Zuj ⟨⟨Zc5,YZ⟩,⟨Zay,Xh _ _ _⟩,⟨ZsI,Xh _ _ _⟩,⟨ZbI,Z4⟩,⟨(Zcp (tb:=Zlf d) ⟨⟨cIs,YK⟩,⟨Za3,ZU⟩,⟨U1,ZF⟩,⟨(Zcp (tb:=Zle d) ⟨⟨h,Zig d⟩,trivial⟩ Tryz.func205 rfl (by kernel_rfl) (by kernel_rfl)),YU _ _⟩,trivial⟩ Tryz.func204 rfl (by kernel_rfl) (by kernel_rfl)),YU _ _⟩,trivial⟩
theorem Zlj {d:Nat} (h:PCalls (GG w0 nG) 70 (U0 d)):PCalls (GG w0 nG) 70 (Zc4 d):=Zul ⟨⟨cIs,YK⟩,⟨ZBc,ZjP⟩,⟨ZxQ,Xh _ _ _⟩,⟨ZBd,Xh _ _ _⟩,⟨Zrv h,Wa _ _ _ _⟩,⟨Zc5,YZ⟩,⟨Zay,Xh _ _ _⟩,⟨Za3,ZU⟩,⟨ZsI,Xh _ _ _⟩,⟨ZfO,XE _⟩,⟨ZBf d,Zj1 d⟩,⟨U1,ZF⟩,trivial⟩
theorem ZsK:∀d,PCalls (GG w0 nG) 70 (U0 d)
 | 0=>ZmL (Zh Tryz.func70 (by kernel_rfl) rfl)
 | d+1=>ZmM (Zlj (ZsK d))
theorem ZBg (d:Nat):PCalls (GG w0 nG) 70 (Zc4 d):=Zlj (ZsK d)
end Go.PM.Lex
end

section
namespace Go.PM.Lex
open Go.Proofs
def R.good {α:Type} (x:R α):Prop:=match x with | .ok _ _=>True | .err _ e=>e≠0
theorem ZCZ {α β:Type} {x:R α} {f:α→Ts→R β} (h:x.good) (hf:∀a ts,(f a ts).good):(x.bind f).good:=by
 cases x with
 | ok a ts=>exact hf a ts
 | err r e=>exact h
theorem ZDd {α:Type} (a:α) (ts:Ts):(R.ok a ts:R α).good:=trivial
theorem ZC0 {α:Type} {c:Prop} [Decidable c] {x y:R α} (h1:x.good) (h2:y.good):(if c then x else y).good:=by split;exact h1;exact h2
theorem ZC2 {α:Type} {r e:Nat} (h:e≠0):(R.err r e:R α).good:=h
theorem YL (w:Bs) (ts:Ts):(Yo w ts).good:=ZC0 trivial (ZC2 (by decide))
theorem Z9 (ts:Ts):(Wj ts).good:=ZC0 trivial (ZC2 (by decide))
theorem Xr {α:Type} {d:Nat} {fr tw:Bs} {read:Ts→R α} (h:∀ts,(read ts).good) (ts:Ts):(Zq d fr tw read ts).good :=
 ZC0 (ZC0 (ZC2 (by decide)) (ZCZ (h _) fun _ _=>ZC0 trivial (ZCZ (YL _ _) fun _ _=>trivial))) (ZC2 (by decide))
theorem Zer {α:Type} {sign:Bs} {most:Nat} {st:Ts→Bool} {one:Ts→R α} (h:∀ts,(one ts).good):∀f l ts,(Wn sign most st one f l ts).good
 | 0,_,_=>ZC2 (by decide)
 | f+1,l,ts=>ZC0 (ZC2 (by decide)) (ZCZ (h _) fun _ _=>ZC0 (Zer h f _ _) trivial)
theorem Uu {α:Type} {sign:Bs} {most:Nat} {st:Ts→Bool} {one:Ts→R α} (h:∀ts,(one ts).good) (ts:Ts):(Ww sign most st one ts).good:=Zer h _ _ _
theorem ZmN (ts:Ts):(Uq ts).good:=ZCZ (Z9 _) fun _ _=>ZCZ (YL _ _) fun _ _=>ZCZ (Z9 _) fun _ _=>trivial
theorem Za4 (w:Bs) (ts:Ts):(JG w ts).good:=ZC0 trivial (Uu ZmN _)
theorem Zct (ts:Ts):(ZcY ts).good:=ZC0 (ZCZ (Uu Z9 _) fun _ _=>ZCZ (YL _ _) fun _ _=>trivial) trivial
theorem ZoU (ts:Ts):(Zcm ts).good:=ZCZ (Z9 _) fun _ _=>ZCZ (YL _ _) fun _ _=>ZCZ (Za4 _ _) fun _ _=>ZCZ (YL _ _) fun _ _=>trivial
theorem ZmO (ts:Ts):(Zee ts).good:=ZCZ (Z9 _) fun _ _=>ZC0 (ZCZ (Z9 _) fun _ _=>trivial) (ZCZ (YL _ _) fun _ _ =>
 ZC0 (ZCZ (Za4 _ _) fun _ _=>ZCZ (YL _ _) fun _ _=>trivial) (ZCZ (Uu ZoU _) fun _ _=>trivial))
theorem ZoV (ts:Ts):(ZjK ts).good:=ZCZ (Z9 _) fun _ _=>ZCZ (YL _ _) fun _ _=>ZCZ (Za4 _ _) fun _ _=>ZCZ (YL _ _) fun _ _=>trivial
theorem ZbJ {d:Nat} {ex:Ts→R Ex} (h:∀ts,(ex ts).good) (fr tw:Bs) (ts:Ts):(Zdm d ex fr tw ts).good:=by
 unfold Zdm
 exact Xr (fun ts=>ZC0 (ZDd _ _) (Uu h _)) ts
theorem Zes {ex:Ts→R Ex} (h:∀ts,(ex ts).good):∀k l ts,(Vl ex k l ts).good
 | 0,_,_=>trivial
 | k+1,l,ts=>ZCZ (ZC0 trivial (YL _ _)) fun _ _=>ZCZ (h _) fun _ _=>Zes h k _ _
theorem Zik {d:Nat} {ex:Ts→R Ex} (h:∀ts,(ex ts).good) (ts:Ts):(UW d ex ts).good :=
 ZC0 (ZC2 (by decide)) <| ZC0 trivial <| ZC0 trivial <| ZC0 (Xr h _) <| ZC0 (ZCZ (ZbJ h _ _ _) fun _ _=>trivial) <|
 ZC0 (ZCZ (Z9 _) fun _ _=>ZC0 (ZCZ (ZbJ h _ _ _) fun _ _=>trivial) trivial) <|
 ZC0 (ZCZ (Xr (Zes h _ _) _) fun _ _=>trivial) <| ZC0 trivial <| ZC0 trivial trivial
theorem Zet {sub:Nat→Ts→R Ex} (h:∀n ts,(sub n ts).good) (least:Nat):∀f e ts,(JH sub least f e ts).good
 | 0,_,_=>ZC2 (by decide)
 | f+1,e,ts=>ZC0 trivial (ZCZ (h _ _) fun _ _=>Zet h least f _ _)
theorem Zcu {sg:Ts→R Ex} (h:∀ts,(sg ts).good):∀k least ts,(Vm sg k least ts).good
 | 0,_,_=>h _
 | k+1,least,ts=>ZCZ (h _) fun _ _=>Zet (fun n ts=>Zcu h k n ts) _ _ _ _
theorem Zc6 {d:Nat} {sg:Ts→R Ex} (h:∀ts,(sg ts).good) (ts:Ts):(JI d sg ts).good :=
 ZC0 (ZCZ (Xr h _) fun _ _=>trivial) <| ZC0 (ZCZ (Xr h _) fun _ _=>trivial) (Zik (fun ts=>Zcu h _ _ _) _)
theorem Zeu:∀d ts,(YN d ts).good
 | 0,ts=>Zc6 (fun _=>(ZC2 (by decide))) ts
 | d+1,ts=>Zc6 (Zeu d) ts
theorem ZbK (d:Nat) (ts:Ts):(VB d ts).good:=Zcu (Zeu d) _ _ _
theorem ZfP:∀d ts,(Zcn d ts).good
 | 0,_=>(ZC2 (by decide))
 | d+1,ts=>ZbK d ts
theorem ZmP (ts:Ts):(JJ ts).good:=by
 unfold JJ
 split
 ·exact ZC2 (by decide)
 ·split <;> trivial
 ·trivial
theorem Zc7 (d op a:Nat) (ts:Ts):(ZaW d op a ts).good:=ZCZ (Z9 _) fun _ _=>ZCZ (ZbJ (ZfP d) _ _ _) fun _ _=>trivial
theorem Zev {d:Nat} {bd:Ts→R (List Li)} (h:∀ts,(bd ts).good) (a op:Nat) (l:List Ex) (ts:Ts):(Wo d bd a op l ts).good :=
 ZC0 (ZCZ (YL _ _) fun _ _=>ZCZ (Xr h _) fun _ _=>trivial) trivial
theorem Zlk {d:Nat} {bd:Ts→R (List Li)} (h:∀ts,(bd ts).good) (ts:Ts):(Ze8 d bd ts).good :=
 ZC0 (Zc7 _ _ _ _) <| ZC0 (Zc7 _ _ _ _) <| ZCZ (ZbK _ _) fun _ _=>ZCZ (ZmP _) fun _ _=>ZC0 (Zev h _ _ _ _) (ZCZ (ZbK _ _) fun _ _=>Zev h _ _ _ _)
theorem Zil:∀d ts,(Zh0 d ts).good
 | 0,ts=>Uu (Zlk fun _=>(ZC2 (by decide))) ts
 | d+1,ts=>Uu (Zlk (Zil d)) ts
theorem ZoW (d:Nat) (b:Bool) (ts:Ts):(ZjL d b ts).good:=ZCZ (Z9 _) fun _ _=>ZCZ (ZbJ (ZfP d) _ _ _) fun _ _ =>
 ZC0 (ZCZ (Zil _ _) fun _ _=>ZCZ (YL _ _) fun _ _=>trivial) (ZCZ (YL _ _) fun _ _=>trivial)
theorem ZoX {d:Nat} {un:Ts→R Un} (h:∀ts,(un ts).good) (ts:Ts):(Zh1 d un ts).good:=ZCZ (Z9 _) fun _ _=>ZCZ (Zct _) fun _ _ =>
 ZC0 (ZCZ (Z9 _) fun _ _=>ZCZ (Zct _) fun _ _=>ZCZ (Xr h _) fun _ _=>trivial) (ZCZ (Xr h _) fun _ _=>trivial)
theorem ZoY (ts:Ts):(ZjM ts).good:=ZCZ (Z9 _) fun _ _=>ZCZ (YL _ _) fun _ _=>ZCZ (Z9 _) fun _ _=>ZCZ (Zct _) fun _ _=>trivial
theorem ZoZ (ts:Ts):(ZjN ts).good:=ZCZ (Z9 _) fun _ _=>trivial
theorem Y1 {b:Bool} {d:Nat} {un:Ts→R Un} (h:∀ts,(un ts).good):∀f u ts,(Yc b d un f u ts).good
 | 0,_,_=>ZC2 (by decide)
 | f+1,.mk tys rels rules comps inits overs,ts=>by
  rw [Zih]
  exact ZC0 trivial <| ZC0 (ZC0 (ZC2 (by decide)) (ZCZ (ZmO _) fun _ _=>Y1 h f _ _)) <| ZC0 (ZC0 (ZC2 (by decide)) (ZCZ (ZoV _) fun _ _=>Y1 h f _ _)) <|
   ZC0 (ZC0 (ZC2 (by decide)) (ZCZ (ZoX h _) fun _ _=>Y1 h f _ _)) <| ZC0 (ZC0 (ZC2 (by decide)) (ZCZ (ZoY _) fun _ _=>Y1 h f _ _)) <|
   ZC0 (ZC0 (ZC2 (by decide)) (ZCZ (ZoZ _) fun _ _=>Y1 h f _ _)) <| ZC0 (ZC0 (ZC2 (by decide)) (ZCZ (ZoW _ _ _) fun _ _=>Y1 h f _ _)) (ZC2 (by decide))
theorem ZfQ:∀d ts,(ZjO d ts).good
 | 0,ts=>Y1 (fun _=>(ZC2 (by decide))) _ _ _
 | d+1,ts=>Y1 (ZfQ d) _ _ _
theorem Zim (ts:Ts):(ZaX ts).good:=Y1 (ZfQ 63) _ _ _
theorem ZmQ {a:Nat} {r:Bs} {room:Bool} {t:Tok} (h:VA a r room=.tok t):room=true:=by
 cases room with
 | true=>rfl
 | false =>
  unfold VA at h
  simp only at h
  split at h
  ·cases h
  ·simp at h
theorem Zll:∀(f:Nat) (m:Int) (a:Nat) (r:Bs),(WU f m a r).1.length≤m.toNat
 | 0,m,a,r=>by simp [WU]
 | f+1,m,a,r=>by
  unfold WU
  split
  ·simp
  ·simp only
   split
   ·simp
   ·split
    ·simp
    ·rename_i t ht
     have hr:=ZmQ ht
     rw [TT] at hr
     have:=Zll f (m - 1) t.fin ((r.drop (Z3 r).2).drop (t.fin - (a+(Z3 r).2)))
     simp only [Tc]
     omega
theorem Zo0 (s:Bs) (m:Int):(Zd3 s m).1.length≤m.toNat:=Zll _ _ _ _
inductive Top (α:Type) where
 | ok (v:α) (L:List Tok) | err (p:Int) (e:Nat)
def Wb {α:Type} (bytes most:Nat) (P:Ts→R α) (s:Bs):Top α :=
 if bytes<s.length then .err 0 3
 else if (Zd3 s most).2.2≠0 then .err (Zd3 s most).2.1 (Zd3 s most).2.2
 else match P ((Zd3 s most).1.map Tok.t0) with
  | .ok v []=>.ok v (Zd3 s most).1
  | .ok v (_::ts)=>.err (Zd (Zd3 s most).1 s.length (ts.length+1)) 150
  | .err r e=>.err (Zd (Zd3 s most).1 s.length r) e
theorem Zew {α:Type} {bytes most:Nat} {P:Ts→R α} (hP:∀ts,(P ts).good) {s:Bs} {p:Int} {e:Nat} (h:Wb bytes most P s=.err p e):e≠0:=by
 unfold Wb at h
 split at h
 ·cases h;decide
 ·split at h
  ·rename_i hn;cases h;exact hn
  ·split at h
   ·cases h
   ·cases h;decide
   ·rename_i r e' he
    cases h
    have:=hP ((Zd3 s most).1.map Tok.t0)
    rw [he] at this;exact this
end Go.PM.Lex
end

section
namespace Go.PM.Lex
open Go.Proofs
variable {w0:World} {nG:Nat}
noncomputable def Zex:ZA:=fun args σ K=>match args,σ with
 | [.d (.str s),.d (.int .i64 m)],⟨[],[],0⟩=>s.length<4294967281 ∧
   ∀l p c,Zd3 s m=(l,(p,c))→(c=0→K (.ret (.tuple [.d (.sl (Z8 l)),.d (.int .i64 p),.d (.int .i64 0)])) ⟨[],[],0⟩) ∧
    (c≠0→K (.ret (.tuple [.d (.sl []),.d (.int .i64 p),.d (.int .i64 c)])) ⟨[],[],0⟩)
 | _,_=>False
theorem Zey:Zc Zex:=fun args σ K K' hK h=>by
 unfold Zex at h ⊢
 split at h
 ·exact ⟨h.1,fun l p c hx=>⟨fun g=>hK _ _ ((h.2 l p c hx).1 g),fun g=>hK _ _ ((h.2 l p c hx).2 g)⟩⟩
 ·exact h.elim
theorem Zuo (h:PCalls (GG w0 nG) 79 Zbz):PCalls (GG w0 nG) 79 Zex:=h.weaken1 fun args σ K hs=>by
 unfold Zex at hs
 unfold Zbz
 split at hs
 ·rename_i s m
  obtain ⟨h1,hs⟩:=hs
  refine ⟨h1,?_⟩
  have hs:=hs (Zd3 s m).1 (Zd3 s m).2.1 (Zd3 s m).2.2 rfl
  by_cases hc:(Zd3 s m).2.2=0
  ·rw [Th hc,hc];exact hs.1 hc
  ·rw [Tf hc];exact hs.2 hc
 ·exact hs.elim
noncomputable def recOf:Nat×Nat×Code:=match ZAK (VD Tryz.f80) with | some x=>x | none=>(0,0,.skip)
noncomputable def ZxV:List PV→St→(St→Prop)→Prop:=fun args σ K=>args.length≤Tryz.f80.ntmps∧W (ctx ZjB [] (Za [])) recOf.2.2 (ZxK ZjB Tryz.f80 σ.bx.length K) (Zaj (Zaj (Ze7 0 args) recOf.1 (.d .nili)) recOf.2.1 (.d .nili)) σ
noncomputable def ZxW:PV→List PV→St→(St→Prop)→Prop:=fun pv args σ K=>args.length≤Tryz.f80.ntmps∧W (ctx ZjB [] (Za [])) recOf.2.2 (ZxK ZjB Tryz.f80 σ.bx.length K) (Zaj (Zaj (Ze7 0 args) recOf.1 pv) recOf.2.1 pv) σ
theorem ZsL:PDef (GG w0 nG) 80 ZxV ZxW :=
 ZtO (a:=recOf.1) (b:=recOf.2.1) (rest:=recOf.2.2) XG mixed (tbl:=[]) trivial Tryz.func80 rfl (by kernel_rfl) rfl (by kernel_rfl) (fun args σ K h=>⟨Za [],σ.bx.length,Tt _,h.1,h.2⟩) (fun pv args σ K h=>⟨Za [],σ.bx.length,Tt _,h.1,h.2⟩)
def WhK {α:Type} (tU:TypeId) (enc:List Tok→Int→α→List PV) (bad:List PV→Prop) (n:Int) (x:Top α) (K:PEnd→St→Prop):Prop:=match x with
 | .ok v L=>K (.ret (.tuple [.d (.int .i64 0),.d (.int .i64 0)])) ⟨[.cells tU (enc L n v)],[],0⟩
 | .err p e=>∀cs,bad cs→K (.ret (.tuple [.d (.int .i64 p),.d (.int .i64 e)])) ⟨[.cells tU cs],[],0⟩
theorem Zlm {α:Type} {tU:TypeId} {enc:List Tok→Int→α→List PV} {bad:List PV→Prop} {n:Int} {x:Top α} {K K':PEnd→St→Prop} (hK:∀e σ,K e σ→K' e σ) (h:WhK tU enc bad n x K):WhK tU enc bad n x K':=by
 cases x with
 | ok v L=>exact hK _ _ h
 | err p e=>exact fun cs hb=>hK _ _ (h cs hb)
theorem Zin {l:List Tok} (h:l.length≤1048576):ROK l 0 (l.map Tok.t0):=⟨by omega,by omega,h,by simp [tz]⟩
def ZCz (cs:List PV):Prop:=∃a b c d e f:List (List D),cs=[.d (.sl a),.d (.sl b),.d (.sl c),.d (.sl d),.d (.sl e),.d (.sl f)]
def ZCA (cs:List PV):Prop:=∃(a:Int) (b:Bs) (c:Int) (d:List (List D)) (e:Int),cs=[.d (.int .u8 a),.d (.str b),.d (.int .i64 c),.d (.sl d),.d (.int .i64 e)]
noncomputable def Zln:Tbl:=[(70,Zc4 64)]
noncomputable def Zlo:Tbl:=[(35,Zen 64)]
noncomputable def Zo1:ZA:=fun args σ K=>match args,σ with
 | [.d (.str s),.d (.int .i64 by'),.d (.int .i64 most),.func g [] [.ptr 0 0]],⟨[.cells tU c0],tk,n⟩=>(g=69∧by'=65536∧most=16384∧c0=[.sl 0 64 [],.sl 1 68 [],.sl 2 50 [],.sl 3 71 [],.sl 4 73 [],.sl 5 75 []]∧tk=[5,4,3,2,1,0]∧n=6)∧s.length<4294967281 ∧
   ∀x,Wb 65536 16384 ZaX s=x→WhK tU (fun L n (v:Un)=>(Yf (Zd L n) v).map .d) ZCz s.length x K
 | _,_=>False
theorem ZmR:Zc Zo1:=fun args σ K K' hK h=>by
 unfold Zo1 at h ⊢
 split at h
 ·exact ⟨h.1,h.2.1,fun x hx=>Zlm hK (h.2.2 x hx)⟩
 ·exact h.elim
noncomputable def ZsM:Tbl:=[(79,Zex),(69,ZjX Tryz.f69 Zln),(81,Xq)]
theorem Zo2 (ht:TblOK (GG w0 nG) ZsM):PCalls (GG w0 nG) 33 Zo1:=by
 refine Zow XG mixed (tbl:=ZsM) ht Tryz.func33 rfl (by kernel_rfl) (by kernel_rfl) ZsL ?_
 intro args σ K h
 unfold Zo1 at h
 split at h
 ·obtain ⟨⟨rfl,rfl,rfl,rfl,rfl,rfl⟩,hs,h⟩:=h
  rename_i s tU
  have h:=h _ rfl
  refine ⟨Za [],ZaS [],Vh [],1,false,by simp,Tb rfl,?_⟩
  unfold Wb at h
  conv=>whnf
  refine ZCX (fun hc=>?_) (fun hc=>?_)
  ·rw [Th (by omega)] at h
   conv=>whnf
   exact h _ ⟨_,_,_,_,_,_,rfl⟩
  rw [Tf (by omega)] at h
  conv=>whnf
  refine ⟨hs,fun l p c hx=>?_⟩
  have hlen:=Zo0 s 16384
  rw [show ((16384:Nat):Int)=16384 from rfl,hx] at h
  rw [hx] at hlen
  refine ⟨fun h0=>?_,fun h0=>?_⟩
  ·subst h0
   rw [Tf (by simp)] at h
   simp only at h hlen
   have ho:=Zin (l:=l) (by simp at hlen;omega)
   clear hx hlen
   generalize hts:l.map Tok.t0=ts at h ho
   conv=>whnf
   refine ⟨_,fun _ _ h=>h,Tb rfl,?_⟩
   conv=>whnf
   refine ⟨l,ts,rfl,ho,by omega,fun x hx=>?_⟩
   rw [show ZaX ts=Zuh false 64 ts from rfl,hx] at h
   rcases x with ⟨⟨v1,v2,v3,v4,v5,v6⟩,ts2⟩ | ⟨r,e⟩
   rotate_left
   ·intro a9 d9;(conv=>whnf);refine ⟨Tb rfl,?_⟩;(conv=>whnf);(repeat (refine ⟨rfl,?_⟩;conv=>whnf));exact h _ ⟨_,_,_,_,_,_,rfl⟩
   intro a2 hle2 ho2
   conv=>whnf
   have hl2:=ho2.len
   (repeat (refine ⟨rfl,?_⟩;conv=>whnf))
   refine ZCX (fun hc3=>?_) (fun hc3=>?_)
   ·have hc3:a2<l.length:=by have hc3:a2<((Z8 l).length:Int):=hc3;rw [XK] at hc3;exact hc3
    cases ts2 with
    | nil=>simp at hl2;omega
    | cons t0 ts3 =>
     conv=>whnf
     refine ⟨l,_,rfl,ho2,?_⟩
     conv=>whnf
     refine ⟨Tb rfl,?_⟩
     conv=>whnf
     (repeat (refine ⟨rfl,?_⟩;conv=>whnf))
     exact h _ ⟨_,_,_,_,_,_,rfl⟩
   exact m185
  rw [Th h0] at h
  conv=>whnf
  refine ZCY (fun hc2=>?_) (fun hc2=>absurd (show c=0 by omega) h0)
  conv=>whnf
  (repeat (refine ⟨rfl,?_⟩;conv=>whnf))
  exact h _ ⟨_,_,_,_,_,_,rfl⟩
 ·exact h.elim
noncomputable def Zo3:ZA:=fun args σ K=>match args,σ with
 | [.d (.str s),.d (.int .i64 by'),.d (.int .i64 most),.func g [] [.ptr 0 0]],⟨[.cells tU c0],tk,n⟩=>(g=34∧by'=65536∧most=16384∧c0=[.d (.int .u8 0),.d (.str []),.d (.int .i64 0),.sl 0 24 [],.d (.int .i64 0)]∧tk=[0]∧n=1)∧s.length<4294967281 ∧
   ∀x,Wb 65536 16384 (VB 64) s=x→WhK tU (fun L n (v:Ex)=>(Yh (Zd L n) v).map .d) ZCA s.length x K
 | _,_=>False
theorem ZmS:Zc Zo3:=fun args σ K K' hK h=>by
 unfold Zo3 at h ⊢
 split at h
 ·exact ⟨h.1,h.2.1,fun x hx=>Zlm hK (h.2.2 x hx)⟩
 ·exact h.elim
noncomputable def ZsN:Tbl:=[(79,Zex),(34,ZjX Tryz.f34 Zlo),(81,Xq)]
theorem Zo4 (ht:TblOK (GG w0 nG) ZsN):PCalls (GG w0 nG) 33 Zo3:=by
 refine Zow XG mixed (tbl:=ZsN) ht Tryz.func33 rfl (by kernel_rfl) (by kernel_rfl) ZsL ?_
 intro args σ K h
 unfold Zo3 at h
 split at h
 ·obtain ⟨⟨rfl,rfl,rfl,rfl,rfl,rfl⟩,hs,h⟩:=h
  rename_i s tU
  have h:=h _ rfl
  refine ⟨Za [],ZaS [],Vh [],1,false,by simp,Tb rfl,?_⟩
  unfold Wb at h
  conv=>whnf
  refine ZCX (fun hc=>?_) (fun hc=>?_)
  ·rw [Th (by omega)] at h
   conv=>whnf
   exact h _ ⟨_,_,_,_,_,rfl⟩
  rw [Tf (by omega)] at h
  conv=>whnf
  refine ⟨hs,fun l p c hx=>?_⟩
  have hlen:=Zo0 s 16384
  rw [show ((16384:Nat):Int)=16384 from rfl,hx] at h
  rw [hx] at hlen
  refine ⟨fun h0=>?_,fun h0=>?_⟩
  ·subst h0
   rw [Tf (by simp)] at h
   simp only at h hlen
   have ho:=Zin (l:=l) (by simp at hlen;omega)
   clear hx hlen
   generalize hts:l.map Tok.t0=ts at h ho
   conv=>whnf
   refine ⟨_,fun _ _ h=>h,Tb rfl,?_⟩
   conv=>whnf
   refine ⟨l,ts,rfl,ho,by omega,fun x hx=>?_⟩
   rw [hx] at h
   rcases x with ⟨⟨v1,v2,v3,v4,v5⟩,ts2⟩ | ⟨r,e⟩
   rotate_left
   ·intro a9 d9;(conv=>whnf);refine ⟨Tb rfl,?_⟩;(conv=>whnf);(repeat (refine ⟨rfl,?_⟩;conv=>whnf));exact h _ ⟨_,_,_,_,_,rfl⟩
   intro a2 hle2 ho2
   conv=>whnf
   have hl2:=ho2.len
   (repeat (refine ⟨rfl,?_⟩;conv=>whnf))
   refine ZCX (fun hc3=>?_) (fun hc3=>?_)
   ·have hc3:a2<l.length:=by have hc3:a2<((Z8 l).length:Int):=hc3;rw [XK] at hc3;exact hc3
    cases ts2 with
    | nil=>simp at hl2;omega
    | cons t0 ts3 =>
     conv=>whnf
     refine ⟨l,_,rfl,ho2,?_⟩
     conv=>whnf
     refine ⟨Tb rfl,?_⟩
     conv=>whnf
     (repeat (refine ⟨rfl,?_⟩;conv=>whnf))
     exact h _ ⟨_,_,_,_,_,rfl⟩
   exact m185
  rw [Th h0] at h
  conv=>whnf
  refine ZCY (fun hc2=>?_) (fun hc2=>absurd (show c=0 by omega) h0)
  conv=>whnf
  (repeat (refine ⟨rfl,?_⟩;conv=>whnf))
  exact h _ ⟨_,_,_,_,_,rfl⟩
 ·exact h.elim
end Go.PM.Lex
end

section
namespace Go.PM.Lex
open Go.Proofs
variable {w0:World} {nG:Nat}
def Zup {α:Type} (enc:List Tok→α→PV) (zero:PV) (x:Top α) (K:PEnd→St→Prop):Prop:=match x with
 | .ok v L=>K (.ret (.tuple [enc L v,.d (.int .i64 0),.d (.int .i64 0)])) ⟨[],[],0⟩
 | .err p e=>K (.ret (.tuple [zero,.d (.int .i64 p),.d (.int .i64 e)])) ⟨[],[],0⟩
theorem Zio {α:Type} {enc:List Tok→α→PV} {zero:PV} {x:Top α} {K K':PEnd→St→Prop} (hK:∀e σ,K e σ→K' e σ) (h:Zup enc zero x K):Zup enc zero x K':=by
 cases x <;> exact hK _ _ h
noncomputable def Zez:ZA:=fun args σ K=>match args,σ with
 | [.d (.str s)],⟨[],[],0⟩=>s.length<4294967281∧∀x,Wb 65536 16384 ZaX s=x→Zup (fun L (v:Un)=>ZbC (Yf (Zd L s.length) v)) (ZbC (Yf (fun _=>0) .nil)) x K
 | _,_=>False
theorem ZeA:Zc Zez:=fun args σ K K' hK h=>by
 unfold Zez at h ⊢
 split at h
 ·exact ⟨h.1,fun x hx=>Zio hK (h.2 x hx)⟩
 ·exact h.elim
noncomputable def Zuq:Tbl:=[(33,Zo1)]
theorem Zur (ht:TblOK (GG w0 nG) Zuq):PCalls (GG w0 nG) 28 Zez:=by
 refine pc ht Tryz.func28 ?_
 intro args σ K h
 unfold Zez at h
 split at h
 ·rename_i s
  obtain ⟨hs,h⟩:=h
  refine ⟨Za [],0,false,by simp,Tb rfl,?_⟩
  conv=>whnf
  refine ⟨⟨rfl,rfl,rfl,rfl,rfl,rfl⟩,hs,fun x hx=>?_⟩
  have h:=h x hx
  cases x with
  | ok v L =>
   obtain ⟨v1,v2,v3,v4,v5,v6⟩:=v
   exact m35
  | err p e =>
   have he:=Zew Zim hx
   intro cs hcs
   obtain ⟨b1,b2,b3,b4,b5,b6,rfl⟩:=hcs
   conv=>whnf
   refine ZCY (fun hc=>?_) (fun hc=>absurd (show e=0 by omega) he)
   exact m35
 ·exact h.elim
noncomputable def ZfR:ZA:=fun args σ K=>match args,σ with
 | [.d (.str s)],⟨[],[],0⟩=>s.length<4294967281∧∀x,Wb 65536 16384 (VB 64) s=x→Zup (fun L (v:Ex)=>ZbC (Yh (Zd L s.length) v)) (ZbC [.int .u8 0,.str [],.int .i64 0,.sl [],.int .i64 0]) x K
 | _,_=>False
theorem Zj6:Zc ZfR:=fun args σ K K' hK h=>by
 unfold ZfR at h ⊢
 split at h
 ·exact ⟨h.1,fun x hx=>Zio hK (h.2 x hx)⟩
 ·exact h.elim
noncomputable def Zus:Tbl:=[(33,Zo3)]
theorem Zut (ht:TblOK (GG w0 nG) Zus):PCalls (GG w0 nG) 14 ZfR:=by
 refine pc ht Tryz.func14 ?_
 intro args σ K h
 unfold ZfR at h
 split at h
 ·rename_i s
  obtain ⟨hs,h⟩:=h
  refine ⟨Za [],0,false,by simp,Tb rfl,?_⟩
  conv=>whnf
  refine ⟨⟨rfl,rfl,rfl,rfl,rfl,rfl⟩,hs,fun x hx=>?_⟩
  have h:=h x hx
  cases x with
  | ok v L =>
   obtain ⟨v1,v2,v3,v4,v5⟩:=v
   exact m35
  | err p e =>
   have he:=Zew (ZbK 64) hx
   intro cs hcs
   obtain ⟨b1,b2,b3,b4,b5,rfl⟩:=hcs
   conv=>whnf
   refine ZCY (fun hc=>?_) (fun hc=>absurd (show e=0 by omega) he)
   exact m35
 ·exact h.elim
theorem ZfS (hg:GlobOK w0 nG):PCalls (GG w0 nG) 79 Zex:=Zuo (ZtN hg)
theorem ZxX (hg:GlobOK w0 nG):PCalls (GG w0 nG) 28 Zez:=Zur ⟨⟨Zo2 ⟨⟨ZfS hg,Zey⟩,⟨Zcp (tb:=Zln) ⟨⟨ZBg 64,Zj2 64⟩,trivial⟩ Tryz.func69 rfl (by kernel_rfl) (by kernel_rfl),YU _ _⟩,⟨U1,ZF⟩,trivial⟩,ZmR⟩,trivial⟩
theorem ZBh (hg:GlobOK w0 nG):PCalls (GG w0 nG) 14 ZfR:=Zut ⟨⟨Zo4 ⟨⟨ZfS hg,Zey⟩,⟨Zcp (tb:=Zlo) ⟨⟨ZxT 64,Wa _ _ _ _⟩,trivial⟩ Tryz.func34 rfl (by kernel_rfl) (by kernel_rfl),YU _ _⟩,⟨U1,ZF⟩,trivial⟩,ZmS⟩,trivial⟩
end Go.PM.Lex
end

section
namespace Go.PM.Lex
open Go.Proofs
variable {w0:World} {nG:Nat}
mutual
def Xs:Ex→Ex→Bool
 | .mk o1 t1 n1 l1 _,.mk o2 t2 n2 l2 _=>decide (o1=o2) && (decide (t1=t2) && (decide (n1=n2) && W1 l1 l2))
def W1:List Ex→List Ex→Bool
 | [],[]=>true
 | x::l,y::m=>Xs x y && W1 l m
 | _,_=>false
end
mutual
def szE:Ex→Nat
 | .mk _ _ _ l _=>1+ZqI l
def ZqI:List Ex→Nat
 | []=>0
 | x::l=>1+szE x+ZqI l
end
theorem ZgC:∀(l:List Ex),l.length≤ZqI l
 | []=>Tt _
 | x::l=>by have:=ZgC l;simp only [Tc,ZqI];omega
theorem ZgD:∀(l:List Ex) (i:Nat) (h:i<l.length),szE l[i]<ZqI l
 | x::l,0,h=>by simp only [List.getElem_cons_zero,ZqI];omega
 | x::l,i+1,h=>by have:=ZgD l i (by simpa using h);simp only [List.getElem_cons_succ,ZqI];omega
theorem Zip:∀(l m:List Ex),l.length≠m.length→W1 l m=false
 | [],[],h=>absurd rfl h
 | [],_::_,_=>by simp [W1]
 | _::_,[],_=>by simp [W1]
 | x::l,y::m,h=>by simp [W1,Zip l m (by simpa using h)]
theorem Zj7 {l m:List Ex} {i:Nat} (h1:i<l.length) (h2:i<m.length):W1 (l.drop i) (m.drop i)=(Xs l[i] m[i] && W1 (l.drop (i+1)) (m.drop (i+1))):=by
 rw [T1 h1,T1 h2,W1]
noncomputable def Zcv (n:Nat):ZA:=fun args σ K=>match args,σ with
 | [.agg c1,.agg c2,.d (.bool at')],⟨[],[],0⟩=>∃pl1 e1 pl2 e2,c1=(Yh pl1 e1).map .d∧c2=(Yh pl2 e2).map .d∧(at'=false∧szE e1≤n∧n≤1099511627776)∧∀b,Xs e1 e2=b→K (.ret (.d (.bool b))) ⟨[],[],0⟩
 | _,_=>False
theorem Ziq (n:Nat):Zc (Zcv n):=fun args σ K K' hK h=>by
 unfold Zcv at h ⊢
 exact m131
noncomputable def U2 (n:Nat):ZA:=fun args σ K=>match args,σ with
 | [.d (.sl r1),.d (.sl r2),.d (.bool at')],⟨[],[],0⟩=>∃pl1 l1 pl2 l2,r1=Yi pl1 l1∧r2=Yi pl2 l2∧(at'=false∧ZqI l1≤n∧n≤1099511627776)∧∀b,W1 l1 l2=b→K (.ret (.d (.bool b))) ⟨[],[],0⟩
 | _,_=>False
theorem ZgE (n:Nat):Zc (U2 n):=fun args σ K K' hK h=>by
 unfold U2 at h ⊢
 exact m131
noncomputable def Zlp (n:Nat):ZA:=fun args σ K=>0<n∧Zcv (n - 1) args σ K
theorem ZbL (n:Nat):Zc (Zlp n):=fun args σ K K' hK h=>⟨h.1,Ziq _ _ _ _ _ hK h.2⟩
noncomputable def Zir (n:Nat):ZA:=fun args σ K=>0<n∧U2 (n - 1) args σ K
theorem Zaz (n:Nat):Zc (Zir n):=fun args σ K K' hK h=>⟨h.1,ZgE _ _ _ _ _ hK h.2⟩
noncomputable def Zrw (n:Nat):Tbl:=[(36,Zir n)]
theorem Zlq {n:Nat} (ht:TblOK (GG w0 nG) (Zrw n)):PCalls (GG w0 nG) 15 (Zcv n):=by
 refine pc ht Tryz.func15 ?_
 intro args σ K h
 unfold Zcv at h
 split at h
 ·obtain ⟨p1,⟨a1,a2,a3,a4,a5⟩,p2,⟨b1,b2,b3,b4,b5⟩,rfl,rfl,⟨rfl,hz,hn⟩,h⟩:=h
  have h:=h _ rfl
  rw [Xs] at h
  rw [szE] at hz
  refine ⟨Za [],0,false,by simp,Tb rfl,?_⟩
  conv=>whnf
  refine ZCX (fun h1=>?_) (fun h1=>?_)
  ·rw [Sq (show a1=b1 by omega),Tu] at h
   conv=>whnf
   refine ZCX (fun h2=>?_) (fun h2=>?_)
   ·rw [Sq h2,Tu] at h
    conv=>whnf
    refine ZCX (fun h3=>?_) (fun h3=>?_)
    ·rw [Sq h3,Tu] at h
     conv=>whnf
     refine ⟨by omega,p1,a4,p2,b4,rfl,rfl,⟨rfl,by omega,by omega⟩,fun b hb=>?_⟩
     rw [hb] at h
     exact m35
    ·rw [decide_eq_false h3,Tx] at h
     exact m35
   ·rw [decide_eq_false h2,Tx] at h
    exact m35
  ·rw [decide_eq_false (show ¬a1=b1 by omega),Tx] at h
   exact m35
 ·exact h.elim
noncomputable def Zo5 (n:Nat):Tbl:=[(15,Zlp n)]
theorem Zis {n:Nat} (ht:TblOK (GG w0 nG) (Zo5 n)):PCalls (GG w0 nG) 36 (U2 n):=by
 refine pc ht Tryz.func36 ?_
 intro args σ K h
 unfold U2 at h
 split at h
 ·obtain ⟨p1,l1,p2,l2,rfl,rfl,⟨rfl,hz,hn⟩,h⟩:=h
  have h:=h _ rfl
  have hlen1:(Yi p1 l1).length=l1.length:=by rw [Zf,Te]
  have hlen2:(Yi p2 l2).length=l2.length:=by rw [Zf,Te]
  have hsz:=ZgC l1
  refine ⟨Za [(4,⟨[7],[0,1,2],fun vs σ=>∃i:Nat,vs=[.d (.int .i64 i)]∧σ=⟨[],[],0⟩∧i≤l1.length∧W1 l1 l2=W1 (l1.drop i) (l2.drop i),fun vs _=>match vs with | [.d (.int _ i)]=>((l1.length:Int) - i).toNat | _=>0⟩)],0,false,by simp,Tb rfl,?_⟩
  conv=>whnf
  refine ZCY (fun hc=>?_) (fun hc=>?_)
  ·have hc:l1.length≠l2.length:=fun g=>hc (by show ((Yi p1 l1).length:Int)=(Yi p2 l2).length;rw [hlen1,hlen2,g])
   rw [Zip _ _ hc] at h
   exact m35
  ·have hc:l1.length=l2.length:=by have hc:((Yi p1 l1).length:Int)=(Yi p2 l2).length:=hc;rw [hlen1,hlen2] at hc;omega
   conv=>whnf
   refine ⟨⟨0,rfl,rfl,by omega,rfl⟩,?_⟩
   intro vs σ hI
   obtain ⟨i,rfl,rfl,hi,hs⟩:=hI
   conv=>whnf
   refine ZCX (fun hi2=>?_) (fun hi2=>?_)
   ·have hi2:i<l1.length:=by have hi2:(i:Int)<(Yi p1 l1).length:=hi2;rw [hlen1] at hi2;omega
    have hi3:i<l2.length:=by omega
    have hg:=ZgD l1 i hi2
    rw [Zj7 hi2 hi3] at hs
    obtain ⟨eA,hA⟩:∃e,l1[i]=e:=⟨_,rfl⟩
    obtain ⟨eB,hB⟩:∃e,l2[i]=e:=⟨_,rfl⟩
    obtain ⟨a1,a2,a3,a4,a5⟩:=eA
    obtain ⟨b1,b2,b3,b4,b5⟩:=eB
    rw [hA,hB] at hs
    rw [hA] at hg
    conv=>whnf
    refine ⟨Yh p1 (.mk a1 a2 a3 a4 a5),by omega,by rw [Zf];simp [hi2,hA],?_⟩
    conv=>whnf
    refine ⟨Yh p2 (.mk b1 b2 b3 b4 b5),by omega,by rw [Zf];simp [hi3,hB],?_⟩
    conv=>whnf
    refine ⟨by omega,p1,.mk a1 a2 a3 a4 a5,p2,.mk b1 b2 b3 b4 b5,rfl,rfl,⟨rfl,by omega,by omega⟩,fun b hb=>?_⟩
    rw [hb] at hs
    cases b with
    | true =>
     rw [Tu] at hs
     conv=>whnf
     (repeat (refine ⟨rfl,?_⟩;conv=>whnf))
     exact m11
    | false =>
     rw [hs,Tx] at h
     conv=>whnf
     (repeat (refine ⟨rfl,?_⟩;conv=>whnf))
     exact h
   ·have hi2:l1.length≤i:=by have hi2:¬(i:Int)<(Yi p1 l1).length:=hi2;rw [hlen1] at hi2;omega
    rw [TP hi2,TP (by omega)] at hs
    rw [hs] at h
    exact m35
 ·exact h.elim
theorem Zuu:∀n,PCalls (GG w0 nG) 15 (Zcv n)∧PCalls (GG w0 nG) 36 (U2 n)
 | 0=>⟨Zlq ⟨⟨⟨Zh Tryz.func36 (by kernel_rfl) rfl,fun args σ K hs=>absurd hs.1 (by omega)⟩,Zaz 0⟩,trivial⟩,Zis ⟨⟨⟨Zh Tryz.func15 (by kernel_rfl) rfl,fun args σ K hs=>absurd hs.1 (by omega)⟩,ZbL 0⟩,trivial⟩⟩
 | n+1=>⟨Zlq ⟨⟨(Zuu n).2.weaken1 fun args σ K hs=>hs.2,Zaz _⟩,trivial⟩,Zis ⟨⟨(Zuu n).1.weaken1 fun args σ K hs=>hs.2,ZbL _⟩,trivial⟩⟩
def Li.op:Li→Nat | .mk o _ _ _ _=>o
end Go.PM.Lex
end

section
namespace Go.PM.Lex
mutual
def erE:Ex→Ex
 | .mk op t n args _=>.mk op t n (Zdx args) 0
def Zdx:List Ex→List Ex
 | []=>[]
 | e::l=>erE e::Zdx l
end
theorem U3 (l:List Ex):Zdx l=l.map erE:=by induction l with | nil=>rfl | cons x l ih=>simp [Zdx,ih]
mutual
def erL:Li→Li
 | .mk op rel args body _=>.mk op rel (Zdx args) (Zit body) 0
def Zit:List Li→List Li
 | []=>[]
 | e::l=>erL e::Zit l
end
theorem ZgF (l:List Li):Zit l=l.map erL:=by induction l with | nil=>rfl | cons x l ih=>simp [Zit,ih]
def ZfT (r:Ru):Ru:=⟨r.head,r.args.map erE,r.body.map erL,0⟩
def ZmT (t:Ty):Ty:={ t with at':=0 }
def ZmU (t:Re):Re:={ t with at':=0 }
def ZmV (t:Ini):Ini:={ t with at':=0 }
def ZmW (t:Ov):Ov:={ t with at':=0 }
mutual
def UI:Un→Un
 | .mk a b c d e f=>.mk (a.map ZmT) (b.map ZmU) (c.map ZfT) (Zah d) (e.map ZmV) (f.map ZmW)
def Zfn:Co→Co
 | .mk nm ps base tys u _=>.mk nm ps base tys (UI u) 0
def Zah:List Co→List Co
 | []=>[]
 | e::l=>Zfn e::Zah l
end
theorem Zlr (l:List Co):Zah l=l.map Zfn:=by induction l with | nil=>rfl | cons x l ih=>simp [Zah,ih]
def Stb {α:Type} (er:α→α) (m:Ts) (x y:R α):Prop:=∀v ts,x=.ok v ts→∃v',er v'=er v∧y=.ok v' (ts++m)
section
variable {α β:Type} {er:α→α} {er2:β→β} {m:Ts}
theorem Stb.ok {v v':α} {ts:Ts} (h:er v'=er v):Stb er m (.ok v ts) (.ok v' (ts++m)):=fun w rest e=>by cases e;exact ⟨v',h,rfl⟩
theorem Stb.ok' {v v':α} {ts ts':Ts} (h:er v'=er v) (e:ts'=ts++m):Stb er m (.ok v ts) (.ok v' ts'):=e ▸ Stb.ok h
theorem Stb.err {r e:Nat} {y:R α}:Stb er m (.err r e) y:=fun w rest e=>by cases e
theorem Stb.bind {x y:R α} {f g:α→Ts→R β} (h:Stb er m x y) (hf:∀v v' ts,er v'=er v→Stb er2 m (f v ts) (g v' (ts++m))):Stb er2 m (x.bind f) (y.bind g):=fun w rest e=>by
 cases x with
 | ok v ts =>
  obtain ⟨v',h1,rfl⟩:=h v ts rfl
  exact hf v v' ts h1 w rest e
 | err r e'=>cases e
theorem Stb.binds {x y:R α} {f g:α→Ts→R β} (h:Stb id m x y) (hf:∀v ts,Stb er2 m (f v ts) (g v (ts++m))):Stb er2 m (x.bind f) (y.bind g):=Stb.bind h fun v v' ts e=>by cases (show v'=v from e);exact hf v ts
end
variable {m:Ts}
theorem Zuv (ws:List Bs):isW [] ws=false:=by simp [isW,hd]
theorem map_id' {α:Type} (l:List α):l.map id=l:=by simp
theorem Stb.idl {α:Type} {x y:R (List α)} (h:Stb (List.map id) m x y):Stb id m x y:=fun v ts e=>by
 obtain ⟨v',h1,h2⟩:=h v ts e
 exact ⟨v',by simpa using h1,h2⟩
def Un.app:Un→Un→Un
 | .mk a1 a2 a3 a4 a5 a6,.mk b1 b2 b3 b4 b5 b6=>.mk (a1++b1) (a2++b2) (a3++b3) (a4++b4) (a5++b5) (a6++b6)
def Un.le:Un→Un→Prop
 | .mk a1 a2 a3 a4 a5 a6,.mk b1 b2 b3 b4 b5 b6=>a1.length≤b1.length∧a2.length≤b2.length∧a3.length≤b3.length∧a4.length≤b4.length∧a5.length≤b5.length∧a6.length≤b6.length
theorem Un.le_refl:∀u:Un,Un.le u u | .mk ..=>⟨Tt _,Tt _,Tt _,Tt _,Tt _,Tt _⟩
theorem Un.le_trans:∀{u v w:Un},Un.le u v→Un.le v w→Un.le u w
 | .mk ..,.mk ..,.mk ..,⟨h1,h2,h3,h4,h5,h6⟩,⟨k1,k2,k3,k4,k5,k6⟩=>⟨by omega,by omega,by omega,by omega,by omega,by omega⟩
def Un.room:Un→Un→Prop
 | .mk a1 a2 a3 a4 a5 a6,.mk b1 b2 b3 b4 b5 b6=>a1.length+b1.length≤256∧a2.length+b2.length≤256∧a3.length+b3.length≤1024∧a4.length+b4.length≤64∧a5.length+b5.length≤256∧a6.length+b6.length≤256
end Go.PM.Lex
end

section
namespace Go.PM.Lex
open Go.Proofs
variable {w0:World} {nG:Nat}
def Yv {α:Type} (f:α→α→Bool):List α→List α→Bool
 | [],[]=>true
 | x::l,y::m=>f x y && Yv f l m
 | _,_=>false
theorem Yw {α:Type} (f:α→α→Bool):∀(l m:List α),l.length≠m.length→Yv f l m=false
 | [],[],h=>absurd rfl h
 | [],_::_,_=>rfl
 | _::_,[],_=>rfl
 | x::l,y::m,h=>by rw [Yv,Yw f l m (by simpa using h),Bool.and_false]
theorem ZP {α:Type} (f:α→α→Bool) {l m:List α} {i:Nat} (h1:i<l.length) (h2:i<m.length):Yv f (l.drop i) (m.drop i)=(f l[i] m[i] && Yv f (l.drop (i+1)) (m.drop (i+1))):=by
 rw [T1 h1,T1 h2,Yv]
theorem Z6 {α:Type} (f:α→α→Bool) {l m:List α} {i:Nat} (h1:l.length≤i) (h2:m.length≤i):Yv f (l.drop i) (m.drop i)=true:=by
 rw [TP h1,TP h2];rfl
def szS {α:Type} (f:α→Nat):List α→Nat
 | []=>0
 | x::l=>1+f x+szS f l
theorem Zj {α:Type} (f:α→Nat):∀(l:List α),l.length≤szS f l
 | []=>Tt _
 | x::l=>by have:=Zj f l;simp only [Tc,szS];omega
theorem Zn {α:Type} (f:α→Nat):∀(l:List α) (i:Nat) (h:i<l.length),f l[i]<szS f l
 | x::l,0,h=>by simp only [List.getElem_cons_zero,szS];omega
 | x::l,i+1,h=>by have:=Zn f l i (by simpa using h);simp only [List.getElem_cons_succ,szS];omega
theorem Vp:∀(l m:List Ex),W1 l m=Yv Xs l m
 | [],[]=>rfl
 | [],_::_=>by rw [W1,Yv] <;> simp
 | _::_,[]=>by rw [W1,Yv] <;> simp
 | x::l,y::m=>by rw [W1,Yv,Vp l m]
theorem XX:∀(l:List Ex),ZqI l=szS szE l
 | []=>rfl
 | x::l=>by rw [ZqI,szS,XX l]
def eqB (a b:Bs):Bool:=decide (a=b)
mutual
def YX:Li→Li→Bool
 | .mk o1 r1 a1 b1 _,.mk o2 r2 a2 b2 _=>decide ((o1:Int)=o2) && (decide (r1=r2) && (Yv Xs a1 a2 && ZeB b1 b2))
def ZeB:List Li→List Li→Bool
 | [],[]=>true
 | x::l,y::m=>YX x y && ZeB l m
 | _,_=>false
end
theorem Xt:∀(l m:List Li),ZeB l m=Yv YX l m
 | [],[]=>by rw [ZeB,Yv]
 | [],_::_=>by rw [ZeB,Yv] <;> simp
 | _::_,[]=>by rw [ZeB,Yv] <;> simp
 | x::l,y::m=>by rw [ZeB,Yv,Xt l m]
mutual
def szL:Li→Nat
 | .mk _ _ a b _=>1+szS szE a+ZxY b
def ZxY:List Li→Nat
 | []=>0
 | x::l=>1+szL x+ZxY l
end
theorem Xu:∀(l:List Li),ZxY l=szS szL l
 | []=>by rw [ZxY,szS]
 | x::l=>by rw [ZxY,szS,Xu l]
def XH (f g:Fi):Bool:=decide (f.name=g.name) && (decide (f.typ=g.typ) && true)
def YV (r s:Ru):Bool:=decide (r.head=s.head) && (Yv Xs r.args s.args && Yv YX r.body s.body)
def Zdo (r:Ru):Nat:=1+szS szE r.args+szS szL r.body
def sz0 {α:Type} (_:α):Nat:=0
def Yx (c d:Ca):Bool:=decide (c.name=d.name) && Yv XH c.fields d.fields
def Zbf (c:Ca):Nat:=1+szS sz0 c.fields
def ZT (a b:Ty):Bool:=decide ((a.kind:Int)=b.kind) && (decide (a.name=b.name) && (decide (a.base=b.base) && (Yv XH a.fields b.fields && Yv Yx a.cases b.cases)))
def ZeC (a:Ty):Nat:=1+szS sz0 a.fields+szS Zbf a.cases
def Z2 (a b:Re):Bool:=decide (a.name=b.name) && (decide (a.inn=b.inn) && (decide (a.out=b.out) && (decide (a.inl=b.inl) && Yv XH a.fields b.fields)))
def Zdp (a:Re):Nat:=1+szS sz0 a.fields
def Yy (a b:Ini):Bool:=decide (a.name=b.name) && (decide (a.comp=b.comp) && Yv eqB a.types b.types)
def ZgG (a:Ini):Nat:=1+szS sz0 a.types
def X1 (a b:Ov):Bool:=decide (a.rel=b.rel)
mutual
def Yl:Un→Un→Bool
 | .mk a1 a2 a3 a4 a5 a6,.mk b1 b2 b3 b4 b5 b6=>Yv ZT a1 b1 && (Yv Z2 a2 b2 && (Yv YV a3 b3 && (Za5 a4 b4 && (Yv Yy a5 b5 && Yv X1 a6 b6))))
def ZY:Co→Co→Bool
 | .mk n1 p1 b1 t1 u1 _,.mk n2 p2 b2 t2 u2 _=>decide (n1=n2) && (decide (b1=b2) && (Yv eqB p1 p2 && (Yv eqB t1 t2 && Yl u1 u2)))
def Za5:List Co→List Co→Bool
 | [],[]=>true
 | x::l,y::m=>ZY x y && Za5 l m
 | _,_=>false
end
theorem Xb:∀(l m:List Co),Za5 l m=Yv ZY l m
 | [],[]=>by rw [Za5,Yv]
 | [],_::_=>by rw [Za5,Yv] <;> simp
 | _::_,[]=>by rw [Za5,Yv] <;> simp
 | x::l,y::m=>by rw [Za5,Yv,Xb l m]
mutual
def Zc8:Un→Nat
 | .mk a1 a2 a3 a4 a5 a6=>1+szS ZeC a1+szS Zdp a2+szS Zdo a3+Zo6 a4+szS ZgG a5+szS sz0 a6
def Zbg:Co→Nat
 | .mk _ p _ t u _=>1+szS sz0 p+szS sz0 t+Zc8 u
def Zo6:List Co→Nat
 | []=>0
 | x::l=>1+Zbg x+Zo6 l
end
theorem YQ:∀(l:List Co),Zo6 l=szS Zbg l
 | []=>by rw [Zo6,szS]
 | x::l=>by rw [Zo6,szS,YQ l]
noncomputable def Zdy {α:Type} (enc:Pl→α→List D) (f:α→α→Bool) (sz:α→Nat) (n:Nat):ZA:=fun args σ K=>match args,σ with
 | [.d (.sl r1),.d (.sl r2),.d (.bool at')],⟨[],[],0⟩=>∃pl1 l1 pl2 l2,r1=l1.map (enc pl1)∧r2=l2.map (enc pl2)∧(at'=false∧szS sz l1≤n∧n≤1099511627776)∧∀b,Yv f l1 l2=b→K (.ret (.d (.bool b))) ⟨[],[],0⟩
 | _,_=>False
theorem Wc {α:Type} (enc:Pl→α→List D) (f:α→α→Bool) (sz:α→Nat) (n:Nat):Zc (Zdy enc f sz n):=fun args σ K K' hK h=>by
 unfold Zdy at h ⊢
 exact m62
noncomputable def Ze9 {α:Type} (enc:α→List D) (f:α→α→Bool) (n:Nat):ZA:=fun args σ K=>match args,σ with
 | [.d (.sl r1),.d (.sl r2)],⟨[],[],0⟩=>∃l1 l2,r1=l1.map enc∧r2=l2.map enc∧(szS (sz0 (α:=α)) l1≤n∧n≤1099511627776)∧∀b,Yv f l1 l2=b→K (.ret (.d (.bool b))) ⟨[],[],0⟩
 | _,_=>False
theorem XL {α:Type} (enc:α→List D) (f:α→α→Bool) (n:Nat):Zc (Ze9 enc f n):=fun args σ K K' hK h=>by
 unfold Ze9 at h ⊢
 split at h
 ·obtain ⟨l1,l2,h1,h2,h3,h4⟩:=h
  exact ⟨l1,l2,h1,h2,h3,fun b hb=>hK _ _ (h4 b hb)⟩
 ·exact h.elim
noncomputable def Jk {α:Type} (g0:FuncId) (enc:Pl→α→List D) (f:α→α→Bool) (sz:α→Nat) (n:Nat):ZA:=fun args σ K=>match args,σ with
 | [.d (.sl r1),.d (.sl r2),.func g [] []],⟨[],[],0⟩=>∃pl1 l1 pl2 l2,r1=l1.map (enc pl1)∧r2=l2.map (enc pl2)∧(g=g0∧szS sz l1≤n∧n≤1099511627776)∧∀b,Yv f l1 l2=b→K (.ret (.d (.bool b))) ⟨[],[],0⟩
 | _,_=>False
theorem Yz {α:Type} (g0:FuncId) (enc:Pl→α→List D) (f:α→α→Bool) (sz:α→Nat) (n:Nat):Zc (Jk g0 enc f sz n):=fun args σ K K' hK h=>by
 unfold Jk at h ⊢
 exact m62
noncomputable def UJ {α:Type} (enc:Pl→α→List D) (f:α→α→Bool) (sz:α→Nat) (n:Nat):ZA:=fun args σ K=>match args,σ with
 | [.agg c1,.agg c2],⟨[],[],0⟩=>∃pl1 x1 pl2 x2,c1=(enc pl1 x1).map .d∧c2=(enc pl2 x2).map .d∧(sz x1≤n∧n≤1099511627776)∧∀b,f x1 x2=b→K (.ret (.d (.bool b))) ⟨[],[],0⟩
 | _,_=>False
theorem YA {α:Type} (enc:Pl→α→List D) (f:α→α→Bool) (sz:α→Nat) (n:Nat):Zc (UJ enc f sz n):=fun args σ K K' hK h=>by
 unfold UJ at h ⊢
 exact m62
def spB (sp:Nat→ZA) (n:Nat):ZA:=fun args σ K=>0<n∧sp (n - 1) args σ K
theorem Zy {sp:Nat→ZA} (h:∀n,Zc (sp n)) (n:Nat):Zc (spB sp n):=fun args σ K K' hK g=>⟨g.1,h _ _ _ _ _ hK g.2⟩
theorem ZK {g:FuncId} {sp:Nat→ZA} (h:Ve (GG w0 nG).P g):PCalls (GG w0 nG) g (spB sp 0):=⟨h,fun args σ K hs=>absurd hs.1 (by omega)⟩
theorem ZL {g:FuncId} {sp:Nat→ZA} {n:Nat} (h:PCalls (GG w0 nG) g (sp n)):PCalls (GG w0 nG) g (spB sp (n+1)):=h.weaken1 fun args σ K hs=>hs.2
theorem Zj8 (n:Nat):PCalls (GG w0 nG) 36 (Zdy Yh Xs szE n):=(Zuu n).2.weaken1 fun args σ K hs=>by
 unfold Zdy at hs
 unfold U2
 split at hs
 ·obtain ⟨p1,l1,p2,l2,rfl,rfl,⟨h1,h2,h3⟩,h4⟩:=hs
  exact ⟨p1,l1,p2,l2,(Zf _ _).symm,(Zf _ _).symm,⟨h1,by rw [XX];exact h2,h3⟩,fun b hb=>h4 b (by rw [← Vp];exact hb)⟩
 ·exact hs.elim
theorem ZfU {n:Nat} :PCalls (GG w0 nG) 91 (Ze9 Zt XH n):=by
 refine pc (tbl:=[]) trivial Tryz.func91 ?_
 intro args σ K h
 unfold Ze9 at h
 split at h
 ·obtain ⟨l1,l2,rfl,rfl,⟨hz,hn⟩,h⟩:=h
  have h:=h _ rfl
  have hlen1:(l1.map Zt).length=l1.length:=Te ..
  have hlen2:(l2.map Zt).length=l2.length:=Te ..
  have hsz:=Zj sz0 l1
  refine ⟨Za [(4,⟨[5],[0,1],fun vs σ=>∃i:Nat,vs=[.d (.int .i64 i)]∧σ=⟨[],[],0⟩∧i≤l1.length∧Yv XH l1 l2=Yv XH (l1.drop i) (l2.drop i),fun vs _=>match vs with | [.d (.int _ i)]=>((l1.length:Int) - i).toNat | _=>0⟩)],0,false,by simp,Tb rfl,?_⟩
  exact m153
 ·exact h.elim
theorem Zo7 {n:Nat} :PCalls (GG w0 nG) 54 (Ze9 Zr eqB n):=by
 refine pc (tbl:=[]) trivial Tryz.func54 ?_
 intro args σ K h
 unfold Ze9 at h
 split at h
 ·obtain ⟨l1,l2,rfl,rfl,⟨hz,hn⟩,h⟩:=h
  have h:=h _ rfl
  have hlen1:(l1.map Zr).length=l1.length:=Te ..
  have hlen2:(l2.map Zr).length=l2.length:=Te ..
  have hsz:=Zj sz0 l1
  refine ⟨Za [(4,⟨[5],[0,1],fun vs σ=>∃i:Nat,vs=[.d (.int .i64 i)]∧σ=⟨[],[],0⟩∧i≤l1.length∧Yv eqB l1 l2=Yv eqB (l1.drop i) (l2.drop i),fun vs _=>match vs with | [.d (.int _ i)]=>((l1.length:Int) - i).toNat | _=>0⟩)],0,false,by simp,Tb rfl,?_⟩
  exact m154
 ·exact h.elim
noncomputable def Zrx (n:Nat):Tbl:=[(36,Zdy Yh Xs szE n),(92,spB (Zdy Yt YX szL) n)]
theorem Zls {n:Nat} (ht:TblOK (GG w0 nG) (Zrx n)):PCalls (GG w0 nG) 92 (Zdy Yt YX szL n):=by
 refine pc ht Tryz.func92 ?_
 intro args σ K h
 unfold Zdy at h
 split at h
 ·obtain ⟨p1,l1,p2,l2,rfl,rfl,⟨rfl,hz,hn⟩,h⟩:=h
  have h:=h _ rfl
  have hlen1:(l1.map (Yt p1)).length=l1.length:=Te ..
  have hlen2:(l2.map (Yt p2)).length=l2.length:=Te ..
  have hsz:=Zj szL l1
  refine ⟨Za [(4,⟨[7],[0,1,2],fun vs σ=>∃i:Nat,vs=[.d (.int .i64 i)]∧σ=⟨[],[],0⟩∧i≤l1.length∧Yv YX l1 l2=Yv YX (l1.drop i) (l2.drop i),fun vs _=>match vs with | [.d (.int _ i)]=>((l1.length:Int) - i).toNat | _=>0⟩)],0,false,by simp,Tb rfl,?_⟩
  conv=>whnf
  refine ZCY (fun hc=>?_) (fun hc=>?_)
  ·exact m216
  have hc:l1.length=l2.length:=by have hc:((l1.map (Yt p1)).length:Int)=(l2.map (Yt p2)).length:=hc;rw [hlen1,hlen2] at hc;omega
  conv=>whnf
  refine ⟨⟨0,rfl,rfl,by omega,rfl⟩,?_⟩
  intro vs σ hI
  obtain ⟨i,rfl,rfl,hi,hs⟩:=hI
  conv=>whnf
  refine ZCX (fun hi2=>?_) (fun hi2=>?_)
  rotate_left
  ·exact m208
  have hi2:i<l1.length:=by have hi2:(i:Int)<(l1.map (Yt p1)).length:=hi2;rw [hlen1] at hi2;omega
  have hi3:i<l2.length:=by omega
  have hg:=Zn szL l1 i hi2
  rw [ZP _ hi2 hi3] at hs
  obtain ⟨eA,hA⟩:∃e,l1[i]=e:=⟨_,rfl⟩
  obtain ⟨eB,hB⟩:∃e,l2[i]=e:=⟨_,rfl⟩
  obtain ⟨a1,a2,a3,a4,a5⟩:=eA
  obtain ⟨b1,b2,b3,b4,b5⟩:=eB
  have hr1:(l1.map (Yt p1))[((i:Nat):Int).toNat]?=some ((Yt p1) (.mk a1 a2 a3 a4 a5)):=by simp [hi2,hA]
  have hr2:(l2.map (Yt p2))[((i:Nat):Int).toNat]?=some ((Yt p2) (.mk b1 b2 b3 b4 b5)):=by simp [hi3,hB]
  rw [hA,hB] at hs
  rw [hA] at hg
  simp only [szL,Xu] at hg
  have hneg:YX (.mk a1 a2 a3 a4 a5) (.mk b1 b2 b3 b4 b5)=false→K (.ret (.d (.bool false))) ⟨[],[],0⟩:=fun he=>by rw [hs,he,Tx] at h;exact h
  conv=>whnf
  (repeat (first | (refine ⟨_,by omega,hr1,?_⟩;conv=>whnf) | (refine ⟨_,by omega,hr2,?_⟩;conv=>whnf)))
  refine ZCY (fun hc1=>?_) (fun hc1=>?_)
  ·(conv=>whnf);exact hneg (by simp [YX,Xt,hc1])
  (try dsimp only at hc1)
  conv=>whnf
  (repeat (first | (refine ⟨_,by omega,hr1,?_⟩;conv=>whnf) | (refine ⟨_,by omega,hr2,?_⟩;conv=>whnf)))
  refine ZCY (fun hc2=>?_) (fun hc2=>?_)
  ·(conv=>whnf);exact hneg (by simp [YX,Xt,hc2])
  (try dsimp only at hc2)
  conv=>whnf
  (repeat (first | (refine ⟨_,by omega,hr1,?_⟩;conv=>whnf) | (refine ⟨_,by omega,hr2,?_⟩;conv=>whnf)))
  refine ⟨p1,a3,p2,b3,Zf _ _,Zf _ _,⟨rfl,by omega,by omega⟩,fun b_3 hb3=>?_⟩
  cases b_3 with
  | false =>
   conv=>whnf
   (repeat (refine ⟨rfl,?_⟩;conv=>whnf))
   exact hneg (by simp [YX,Xt,hb3])
  | true =>
   conv=>whnf
   (repeat (refine ⟨rfl,?_⟩;conv=>whnf))
   (repeat (first | (refine ⟨_,by omega,hr1,?_⟩;conv=>whnf) | (refine ⟨_,by omega,hr2,?_⟩;conv=>whnf)))
   refine ⟨by omega,p1,a4,p2,b4,Zp _ _,Zp _ _,⟨rfl,by omega,by omega⟩,fun b_4 hb4=>?_⟩
   cases b_4 with
   | false =>
    conv=>whnf
    (repeat (refine ⟨rfl,?_⟩;conv=>whnf))
    exact hneg (by simp [YX,Xt,hb4])
   | true =>
    conv=>whnf
    (repeat (refine ⟨rfl,?_⟩;conv=>whnf))
    have he:YX (.mk a1 a2 a3 a4 a5) (.mk b1 b2 b3 b4 b5)=true:=by simp [YX,Xt,hc1,hc2,hb3,hb4]
    rw [he,Tu] at hs
    exact m11
 ·exact h.elim
theorem ZxZ:∀n,PCalls (GG w0 nG) 92 (Zdy Yt YX szL n)
 | 0=>Zls ⟨⟨Zj8 0,Wc _ _ _ _⟩,⟨ZK (Zh Tryz.func92 (by kernel_rfl) rfl),Zy (fun n=>Wc _ _ _ n) _⟩,trivial⟩
 | n+1=>Zls ⟨⟨Zj8 _,Wc _ _ _ _⟩,⟨ZL (sp:=fun n=>Zdy Yt YX szL n) (ZxZ n),Zy (fun n=>Wc _ _ _ n) _⟩,trivial⟩
noncomputable def Zo8 (n:Nat):Tbl:=[(36,Zdy Yh Xs szE n),(92,Zdy Yt YX szL n)]
theorem Zo9 {n:Nat} (ht:TblOK (GG w0 nG) (Zo8 n)):PCalls (GG w0 nG) 53 (Zdy ZI YV Zdo n):=by
 refine pc ht Tryz.func53 ?_
 intro args σ K h
 unfold Zdy at h
 split at h
 ·obtain ⟨p1,l1,p2,l2,rfl,rfl,⟨rfl,hz,hn⟩,h⟩:=h
  have h:=h _ rfl
  have hlen1:(l1.map (ZI p1)).length=l1.length:=Te ..
  have hlen2:(l2.map (ZI p2)).length=l2.length:=Te ..
  have hsz:=Zj Zdo l1
  refine ⟨Za [(4,⟨[7],[0,1,2],fun vs σ=>∃i:Nat,vs=[.d (.int .i64 i)]∧σ=⟨[],[],0⟩∧i≤l1.length∧Yv YV l1 l2=Yv YV (l1.drop i) (l2.drop i),fun vs _=>match vs with | [.d (.int _ i)]=>((l1.length:Int) - i).toNat | _=>0⟩)],0,false,by simp,Tb rfl,?_⟩
  conv=>whnf
  refine ZCY (fun hc=>?_) (fun hc=>?_)
  ·exact m214
  have hc:l1.length=l2.length:=by have hc:((l1.map (ZI p1)).length:Int)=(l2.map (ZI p2)).length:=hc;rw [hlen1,hlen2] at hc;omega
  conv=>whnf
  refine ⟨⟨0,rfl,rfl,by omega,rfl⟩,?_⟩
  intro vs σ hI
  obtain ⟨i,rfl,rfl,hi,hs⟩:=hI
  conv=>whnf
  refine ZCX (fun hi2=>?_) (fun hi2=>?_)
  rotate_left
  ·exact m205
  have hi2:i<l1.length:=by have hi2:(i:Int)<(l1.map (ZI p1)).length:=hi2;rw [hlen1] at hi2;omega
  have hi3:i<l2.length:=by omega
  have hg:=Zn Zdo l1 i hi2
  rw [ZP _ hi2 hi3] at hs
  obtain ⟨eA,hA⟩:∃e,l1[i]=e:=⟨_,rfl⟩
  obtain ⟨eB,hB⟩:∃e,l2[i]=e:=⟨_,rfl⟩
  obtain ⟨a1,a2,a3,a4⟩:=eA
  obtain ⟨b1,b2,b3,b4⟩:=eB
  have hr1:(l1.map (ZI p1))[((i:Nat):Int).toNat]?=some ((ZI p1) (⟨a1,a2,a3,a4⟩:Ru)):=by simp [hi2,hA]
  have hr2:(l2.map (ZI p2))[((i:Nat):Int).toNat]?=some ((ZI p2) (⟨b1,b2,b3,b4⟩:Ru)):=by simp [hi3,hB]
  rw [hA,hB] at hs
  rw [hA] at hg
  simp only [Zdo] at hg
  have hneg:YV (⟨a1,a2,a3,a4⟩:Ru) (⟨b1,b2,b3,b4⟩:Ru)=false→K (.ret (.d (.bool false))) ⟨[],[],0⟩:=fun he=>by rw [hs,he,Tx] at h;exact h
  conv=>whnf
  (repeat (first | (refine ⟨_,by omega,hr1,?_⟩;conv=>whnf) | (refine ⟨_,by omega,hr2,?_⟩;conv=>whnf)))
  refine ZCY (fun hc1=>?_) (fun hc1=>?_)
  ·(conv=>whnf);exact hneg (by simp [YV,hc1])
  (try dsimp only at hc1)
  conv=>whnf
  (repeat (first | (refine ⟨_,by omega,hr1,?_⟩;conv=>whnf) | (refine ⟨_,by omega,hr2,?_⟩;conv=>whnf)))
  refine ⟨p1,a2,p2,b2,Zf _ _,Zf _ _,⟨rfl,by omega,by omega⟩,fun b_2 hb2=>?_⟩
  cases b_2 with
  | false =>
   conv=>whnf
   (repeat (refine ⟨rfl,?_⟩;conv=>whnf))
   exact hneg (by simp [YV,hb2])
  | true =>
   conv=>whnf
   (repeat (refine ⟨rfl,?_⟩;conv=>whnf))
   (repeat (first | (refine ⟨_,by omega,hr1,?_⟩;conv=>whnf) | (refine ⟨_,by omega,hr2,?_⟩;conv=>whnf)))
   refine ⟨p1,a3,p2,b3,Zp _ _,Zp _ _,⟨rfl,by omega,by omega⟩,fun b_3 hb3=>?_⟩
   cases b_3 with
   | false =>
    conv=>whnf
    (repeat (refine ⟨rfl,?_⟩;conv=>whnf))
    exact hneg (by simp [YV,hb3])
   | true =>
    conv=>whnf
    (repeat (refine ⟨rfl,?_⟩;conv=>whnf))
    have he:YV (⟨a1,a2,a3,a4⟩:Ru) (⟨b1,b2,b3,b4⟩:Ru)=true:=by simp [YV,hc1,hb2,hb3]
    rw [he,Tu] at hs
    exact m11
 ·exact h.elim
end Go.PM.Lex
end

section
namespace Go.PM.Lex
open Go.Proofs
variable {w0:World} {nG:Nat}
noncomputable def Zry (n:Nat):Tbl:=[(91,Ze9 Zt XH n)]
theorem Zrz {n:Nat} (ht:TblOK (GG w0 nG) (Zry n)):PCalls (GG w0 nG) 52 (Zdy ZG Z2 Zdp n):=by
 refine pc ht Tryz.func52 ?_
 intro args σ K h
 unfold Zdy at h
 split at h
 ·obtain ⟨p1,l1,p2,l2,rfl,rfl,⟨rfl,hz,hn⟩,h⟩:=h
  have h:=h _ rfl
  have hlen1:(l1.map (ZG p1)).length=l1.length:=Te ..
  have hlen2:(l2.map (ZG p2)).length=l2.length:=Te ..
  have hsz:=Zj Zdp l1
  refine ⟨Za [(4,⟨[7],[0,1,2],fun vs σ=>∃i:Nat,vs=[.d (.int .i64 i)]∧σ=⟨[],[],0⟩∧i≤l1.length∧Yv Z2 l1 l2=Yv Z2 (l1.drop i) (l2.drop i),fun vs _=>match vs with | [.d (.int _ i)]=>((l1.length:Int) - i).toNat | _=>0⟩)],0,false,by simp,Tb rfl,?_⟩
  conv=>whnf
  refine ZCY (fun hc=>?_) (fun hc=>?_)
  ·exact m215
  have hc:l1.length=l2.length:=by have hc:((l1.map (ZG p1)).length:Int)=(l2.map (ZG p2)).length:=hc;rw [hlen1,hlen2] at hc;omega
  conv=>whnf
  refine ⟨⟨0,rfl,rfl,by omega,rfl⟩,?_⟩
  intro vs σ hI
  obtain ⟨i,rfl,rfl,hi,hs⟩:=hI
  conv=>whnf
  refine ZCX (fun hi2=>?_) (fun hi2=>?_)
  rotate_left
  ·exact m206
  have hi2:i<l1.length:=by have hi2:(i:Int)<(l1.map (ZG p1)).length:=hi2;rw [hlen1] at hi2;omega
  have hi3:i<l2.length:=by omega
  have hg:=Zn Zdp l1 i hi2
  rw [ZP _ hi2 hi3] at hs
  obtain ⟨eA,hA⟩:∃e,l1[i]=e:=⟨_,rfl⟩
  obtain ⟨eB,hB⟩:∃e,l2[i]=e:=⟨_,rfl⟩
  obtain ⟨a1,a2,a3,a4,a5,a6⟩:=eA
  obtain ⟨b1,b2,b3,b4,b5,b6⟩:=eB
  have hr1:(l1.map (ZG p1))[((i:Nat):Int).toNat]?=some ((ZG p1) (⟨a1,a2,a3,a4,a5,a6⟩:Re)):=by simp [hi2,hA]
  have hr2:(l2.map (ZG p2))[((i:Nat):Int).toNat]?=some ((ZG p2) (⟨b1,b2,b3,b4,b5,b6⟩:Re)):=by simp [hi3,hB]
  rw [hA,hB] at hs
  rw [hA] at hg
  simp only [Zdp] at hg
  have hneg:Z2 (⟨a1,a2,a3,a4,a5,a6⟩:Re) (⟨b1,b2,b3,b4,b5,b6⟩:Re)=false→K (.ret (.d (.bool false))) ⟨[],[],0⟩:=fun he=>by rw [hs,he,Tx] at h;exact h
  conv=>whnf
  (repeat (first | (refine ⟨_,by omega,hr1,?_⟩;conv=>whnf) | (refine ⟨_,by omega,hr2,?_⟩;conv=>whnf)))
  refine ⟨?_,?_,trivial⟩
  ·exact m155
  ·exact m155
 ·exact h.elim
noncomputable def Ziu (n:Nat):Tbl:=[(91,Ze9 Zt XH n)]
theorem Zpa {n:Nat} (ht:TblOK (GG w0 nG) (Ziu n)):PCalls (GG w0 nG) 51 (Zdy Zx ZT ZeC n):=by
 refine Zgl XG mixed (tbl:=(Ziu n)) ht Tryz.func51 rfl (by kernel_rfl) (by kernel_rfl) ?_
 intro args σ K h
 unfold Zdy at h
 split at h
 ·obtain ⟨p1,l1,p2,l2,rfl,rfl,⟨rfl,hz,hn⟩,h⟩:=h
  have h:=h _ rfl
  have hlen1:(l1.map (Zx p1)).length=l1.length:=Te ..
  have hlen2:(l2.map (Zx p2)).length=l2.length:=Te ..
  have hsz:=Zj ZeC l1
  refine ⟨Za [(4,⟨[7],[0,1,2],fun vs σ=>∃i:Nat,vs=[.d (.int .i64 i)]∧σ=⟨[],[],0⟩∧i≤l1.length∧Yv ZT l1 l2=Yv ZT (l1.drop i) (l2.drop i),fun vs _=>match vs with | [.d (.int _ i)]=>((l1.length:Int) - i).toNat | _=>0⟩),(10,⟨[10],[0,1,2,7,8,9],fun vs σ=>∃(i k x y:Nat) (a1:Nat) (a2 a3:Bs) (a4:List Fi) (a5:List Ca) (a6:Nat) (b1:Nat) (b2 b3:Bs) (b4:List Fi) (b5:List Ca) (b6:Nat),vs=[.d (.sl (l1.map (Zx p1))),.d (.sl (l2.map (Zx p2))),.d (.bool false),.d (.int .i64 i),.ptr x 0,.ptr y 0,.d (.int .i64 k)]∧((x=0∧y=1∧σ=⟨[.cells 64 ((Zx p1 (⟨a1,a2,a3,a4,a5,a6⟩:Ty)).map .d),.cells 64 ((Zx p2 (⟨b1,b2,b3,b4,b5,b6⟩:Ty)).map .d)],[],0⟩)∨(x=1∧y=0∧σ=⟨[.cells 64 ((Zx p2 (⟨b1,b2,b3,b4,b5,b6⟩:Ty)).map .d),.cells 64 ((Zx p1 (⟨a1,a2,a3,a4,a5,a6⟩:Ty)).map .d)],[],0⟩))∧i<l1.length∧(k≤a5.length∧a5.length=b5.length∧szS Zbf a5≤n)∧Yv ZT l1 l2=(Yv Yx (a5.drop k) (b5.drop k) && Yv ZT (l1.drop (i+1)) (l2.drop (i+1))),fun vs _=>match vs with | [_,_,_,_,_,_,.d (.int _ k)]=>((n:Int) - k).toNat | _=>0⟩)],ZaS [],Vh [10],0,false,by simp,Tb rfl,?_⟩
  conv=>whnf
  refine ZCY (fun hc=>?_) (fun hc=>?_)
  ·exact m213
  have hc:l1.length=l2.length:=by have hc:((l1.map (Zx p1)).length:Int)=(l2.map (Zx p2)).length:=hc;rw [hlen1,hlen2] at hc;omega
  conv=>whnf
  refine ⟨⟨0,rfl,rfl,by omega,rfl⟩,?_⟩
  intro vs σ hI
  obtain ⟨i,rfl,rfl,hi,hs⟩:=hI
  conv=>whnf
  refine ZCX (fun hi2=>?_) (fun hi2=>?_)
  rotate_left
  ·exact m204
  have hi2:i<l1.length:=by have hi2:(i:Int)<(l1.map (Zx p1)).length:=hi2;rw [hlen1] at hi2;omega
  have hi3:i<l2.length:=by omega
  have hg:=Zn ZeC l1 i hi2
  rw [ZP _ hi2 hi3] at hs
  obtain ⟨eA,hA⟩:∃e,l1[i]=e:=⟨_,rfl⟩
  obtain ⟨eB,hB⟩:∃e,l2[i]=e:=⟨_,rfl⟩
  obtain ⟨a1,a2,a3,a4,a5,a6⟩:=eA
  obtain ⟨b1,b2,b3,b4,b5,b6⟩:=eB
  have hr1:(l1.map (Zx p1))[((i:Nat):Int).toNat]?=some ((Zx p1) (⟨a1,a2,a3,a4,a5,a6⟩:Ty)):=by simp [hi2,hA]
  have hr2:(l2.map (Zx p2))[((i:Nat):Int).toNat]?=some ((Zx p2) (⟨b1,b2,b3,b4,b5,b6⟩:Ty)):=by simp [hi3,hB]
  rw [hA,hB] at hs
  rw [hA] at hg
  simp only [ZeC] at hg
  have hneg:ZT (⟨a1,a2,a3,a4,a5,a6⟩:Ty) (⟨b1,b2,b3,b4,b5,b6⟩:Ty)=false→K (.ret (.d (.bool false))) ⟨[],[],0⟩:=fun he=>by rw [hs,he,Tx] at h;exact h
  conv=>whnf
  (repeat (first | (refine ⟨_,by omega,hr1,?_⟩;conv=>whnf) | (refine ⟨_,by omega,hr2,?_⟩;conv=>whnf)))
  refine ⟨?_,?_,trivial⟩
  ·conv=>whnf
   (repeat (first | (refine ⟨?_,trivial⟩;conv=>whnf) | (refine ⟨rfl,?_⟩;conv=>whnf)))
   refine ZCY (fun hc1=>?_) (fun hc1=>?_)
   ·(conv=>whnf);exact hneg (by simp [ZT,hc1])
   (try dsimp only at hc1)
   conv=>whnf
   refine ZCY (fun hc2=>?_) (fun hc2=>?_)
   ·(conv=>whnf);exact hneg (by simp [ZT,hc2])
   (try dsimp only at hc2)
   conv=>whnf
   refine ZCY (fun hc3=>?_) (fun hc3=>?_)
   ·(conv=>whnf);exact hneg (by simp [ZT,hc3])
   (try dsimp only at hc3)
   conv=>whnf
   refine ⟨a4,b4,rfl,rfl,⟨by omega,by omega⟩,fun b_4 hb4=>?_⟩
   cases b_4 with
   | false =>
    conv=>whnf
    (repeat (refine ⟨rfl,?_⟩;conv=>whnf))
    exact hneg (by simp [ZT,hb4])
   | true =>
    conv=>whnf
    (repeat (refine ⟨rfl,?_⟩;conv=>whnf))
    have hl5:(a5.map Zs).length=a5.length:=Te ..
    have hm5:(b5.map Zs).length=b5.length:=Te ..
    refine ZCY (fun hc9=>?_) (fun hc9=>?_)
    ·exact m106
    have hc9:a5.length=b5.length:=by have hc9:((a5.map Zs).length:Int)=(b5.map Zs).length:=hc9;rw [hl5,hm5] at hc9;omega
    have hs5:=Zj Zbf a5
    have he:ZT (⟨a1,a2,a3,a4,a5,a6⟩:Ty) (⟨b1,b2,b3,b4,b5,b6⟩:Ty)=Yv Yx a5 b5:=by simp [ZT,hc1,hc2,hc3,hb4]
    rw [he] at hs
    conv=>whnf
    first
     | refine ⟨⟨i,0,0,1,a1,a2,a3,a4,a5,a6,b1,b2,b3,b4,b5,b6,rfl,.inl ⟨rfl,rfl,rfl⟩,hi2,⟨by omega,hc9,by omega⟩,hs⟩,?_⟩
     | refine ⟨⟨i,0,1,0,a1,a2,a3,a4,a5,a6,b1,b2,b3,b4,b5,b6,rfl,.inr ⟨rfl,rfl,rfl⟩,hi2,⟨by omega,hc9,by omega⟩,hs⟩,?_⟩
    intro vs' σ' hI'
    obtain ⟨i',j,x',y',a1',a2',a3',a4',a5',a6',b1',b2',b3',b4',b5',b6',hvs,hσ,hi',⟨hj,hlen5,hz5⟩,hs'⟩:=hI'
    have ex:(some (PV.ptr 0 0):Option PV)=some (PV.ptr x' 0):=congrArg (fun l:List PV=>l[4]?) hvs
    have ei:(some (PV.d (D.int IntKind.i64 (i:Int))):Option PV)=some (PV.d (D.int IntKind.i64 (i':Int))):=congrArg (fun l:List PV=>l[3]?) hvs
    simp only [Option.some.injEq,PV.ptr.injEq,PV.d.injEq,D.int.injEq,and_true,true_and] at ex ei
    obtain rfl:i'=i:=by omega
    have hvs:vs'=[.d (.int .i64 j)]:=congrArg (List.drop 6) hvs
    subst hvs
    have hσ:σ'=⟨[.cells 64 ((Zx p1 (⟨a1',a2',a3',a4',a5',a6'⟩:Ty)).map .d),.cells 64 ((Zx p2 (⟨b1',b2',b3',b4',b5',b6'⟩:Ty)).map .d)],[],0⟩:=by rcases hσ with ⟨e1,e2,e3⟩ | ⟨e1,e2,e3⟩ <;> first | exact e3 | (exfalso;omega)
    exact m12
  ·conv=>whnf
   (repeat (first | (refine ⟨?_,trivial⟩;conv=>whnf) | (refine ⟨rfl,?_⟩;conv=>whnf)))
   refine ZCY (fun hc1=>?_) (fun hc1=>?_)
   ·(conv=>whnf);exact hneg (by simp [ZT,hc1])
   (try dsimp only at hc1)
   conv=>whnf
   refine ZCY (fun hc2=>?_) (fun hc2=>?_)
   ·(conv=>whnf);exact hneg (by simp [ZT,hc2])
   (try dsimp only at hc2)
   conv=>whnf
   refine ZCY (fun hc3=>?_) (fun hc3=>?_)
   ·(conv=>whnf);exact hneg (by simp [ZT,hc3])
   (try dsimp only at hc3)
   conv=>whnf
   refine ⟨a4,b4,rfl,rfl,⟨by omega,by omega⟩,fun b_4 hb4=>?_⟩
   cases b_4 with
   | false =>
    conv=>whnf
    (repeat (refine ⟨rfl,?_⟩;conv=>whnf))
    exact hneg (by simp [ZT,hb4])
   | true =>
    conv=>whnf
    (repeat (refine ⟨rfl,?_⟩;conv=>whnf))
    have hl5:(a5.map Zs).length=a5.length:=Te ..
    have hm5:(b5.map Zs).length=b5.length:=Te ..
    refine ZCY (fun hc9=>?_) (fun hc9=>?_)
    ·exact m106
    have hc9:a5.length=b5.length:=by have hc9:((a5.map Zs).length:Int)=(b5.map Zs).length:=hc9;rw [hl5,hm5] at hc9;omega
    have hs5:=Zj Zbf a5
    have he:ZT (⟨a1,a2,a3,a4,a5,a6⟩:Ty) (⟨b1,b2,b3,b4,b5,b6⟩:Ty)=Yv Yx a5 b5:=by simp [ZT,hc1,hc2,hc3,hb4]
    rw [he] at hs
    conv=>whnf
    first
     | refine ⟨⟨i,0,0,1,a1,a2,a3,a4,a5,a6,b1,b2,b3,b4,b5,b6,rfl,.inl ⟨rfl,rfl,rfl⟩,hi2,⟨by omega,hc9,by omega⟩,hs⟩,?_⟩
     | refine ⟨⟨i,0,1,0,a1,a2,a3,a4,a5,a6,b1,b2,b3,b4,b5,b6,rfl,.inr ⟨rfl,rfl,rfl⟩,hi2,⟨by omega,hc9,by omega⟩,hs⟩,?_⟩
    intro vs' σ' hI'
    obtain ⟨i',j,x',y',a1',a2',a3',a4',a5',a6',b1',b2',b3',b4',b5',b6',hvs,hσ,hi',⟨hj,hlen5,hz5⟩,hs'⟩:=hI'
    have ex:(some (PV.ptr 1 0):Option PV)=some (PV.ptr x' 0):=congrArg (fun l:List PV=>l[4]?) hvs
    have ei:(some (PV.d (D.int IntKind.i64 (i:Int))):Option PV)=some (PV.d (D.int IntKind.i64 (i':Int))):=congrArg (fun l:List PV=>l[3]?) hvs
    simp only [Option.some.injEq,PV.ptr.injEq,PV.d.injEq,D.int.injEq,and_true,true_and] at ex ei
    obtain rfl:i'=i:=by omega
    have hvs:vs'=[.d (.int .i64 j)]:=congrArg (List.drop 6) hvs
    subst hvs
    have hσ:σ'=⟨[.cells 64 ((Zx p2 (⟨b1',b2',b3',b4',b5',b6'⟩:Ty)).map .d),.cells 64 ((Zx p1 (⟨a1',a2',a3',a4',a5',a6'⟩:Ty)).map .d)],[],0⟩:=by rcases hσ with ⟨e1,e2,e3⟩ | ⟨e1,e2,e3⟩ <;> first | exact e3 | (exfalso;omega)
    exact m12
 ·exact h.elim
noncomputable def ZsO (n:Nat):ZA:=fun args σ K=>match args,σ with
 | [.agg c1,.agg c2,.d (.bool at')],⟨[],[],0⟩=>∃pl1 x1 pl2 x2,c1=(Yf pl1 x1).map .d∧c2=(Yf pl2 x2).map .d∧(at'=false∧Zc8 x1≤n∧n≤1099511627776)∧∀b,Yl x1 x2=b→K (.ret (.d (.bool b))) ⟨[],[],0⟩
 | _,_=>False
theorem ZeD (n:Nat):Zc (ZsO n):=fun args σ K K' hK h=>by
 unfold ZsO at h ⊢
 exact m62
noncomputable def ZrA (n:Nat):Tbl:=[(51,Zdy Zx ZT ZeC n),(52,Zdy ZG Z2 Zdp n),(53,Zdy ZI YV Zdo n),(54,Ze9 Zr eqB n),(20,spB ZsO n)]
theorem Zlt {n:Nat} (ht:TblOK (GG w0 nG) (ZrA n)):PCalls (GG w0 nG) 20 (ZsO n):=by
 refine pc ht Tryz.func20 ?_
 intro args σ K h
 unfold ZsO at h
 split at h
 ·obtain ⟨p1,⟨a1,a2,a3,a4,a5,a6⟩,p2,⟨b1,b2,b3,b4,b5,b6⟩,rfl,rfl,⟨rfl,hz,hn⟩,h⟩:=h
  have h:=h _ rfl
  simp only [Zc8,YQ] at hz
  have e4:∀(p:Pl) (l:List Co),(Xp p l).length=l.length:=fun p l=>by rw [ZH,Te]
  have e5:∀(p:Pl) (l:List Ini),(l.map (ZQ p)).length=l.length:=fun p l=>Te ..
  have e6:∀(p:Pl) (l:List Ov),(l.map (ZN p)).length=l.length:=fun p l=>Te ..
  have z4:=Zj Zbg a4
  have z5:=Zj ZgG a5
  have z6:=Zj (sz0 (α:=Ov)) a6
  refine ⟨Za [(4,⟨[7],[2,3,4],fun vs σ=>∃i:Nat,vs=[.d (.int .i64 i)]∧σ=⟨[.cells 44 ((Yf p1 (.mk a1 a2 a3 a4 a5 a6)).map .d),.cells 44 ((Yf p2 (.mk b1 b2 b3 b4 b5 b6)).map .d)],[],0⟩∧i≤a4.length∧Yl (.mk a1 a2 a3 a4 a5 a6) (.mk b1 b2 b3 b4 b5 b6)=(Yv ZY (a4.drop i) (b4.drop i) && (Yv Yy a5 b5 && Yv X1 a6 b6)),fun vs _=>match vs with | [.d (.int _ i)]=>((a4.length:Int) - i).toNat | _=>0⟩),(10,⟨[10],[2,3,4],fun vs σ=>∃i:Nat,vs=[.d (.int .i64 i)]∧σ=⟨[.cells 44 ((Yf p1 (.mk a1 a2 a3 a4 a5 a6)).map .d),.cells 44 ((Yf p2 (.mk b1 b2 b3 b4 b5 b6)).map .d)],[],0⟩∧i≤a5.length∧Yl (.mk a1 a2 a3 a4 a5 a6) (.mk b1 b2 b3 b4 b5 b6)=(Yv Yy (a5.drop i) (b5.drop i) && Yv X1 a6 b6),fun vs _=>match vs with | [.d (.int _ i)]=>((a5.length:Int) - i).toNat | _=>0⟩),(16,⟨[13],[2,3,4],fun vs σ=>∃i:Nat,vs=[.d (.int .i64 i)]∧σ=⟨[.cells 44 ((Yf p1 (.mk a1 a2 a3 a4 a5 a6)).map .d),.cells 44 ((Yf p2 (.mk b1 b2 b3 b4 b5 b6)).map .d)],[],0⟩∧i≤a6.length∧Yl (.mk a1 a2 a3 a4 a5 a6) (.mk b1 b2 b3 b4 b5 b6)=(Yv X1 (a6.drop i) (b6.drop i)),fun vs _=>match vs with | [.d (.int _ i)]=>((a6.length:Int) - i).toNat | _=>0⟩)],0,false,by simp,Tb rfl,?_⟩
  have hneg0:Yl (.mk a1 a2 a3 a4 a5 a6) (.mk b1 b2 b3 b4 b5 b6)=false→K (.ret (.d (.bool false))) ⟨[],[],0⟩:=fun he=>by rw [he] at h;exact h
  conv=>whnf
  refine ⟨p1,a1,p2,b1,rfl,rfl,⟨rfl,by omega,by omega⟩,fun bq hq1=>?_⟩
  cases bq with
  | false =>
   conv=>whnf
   exact hneg0 (by simp [Yl,hq1])
  | true =>
   conv=>whnf
   refine ⟨p1,a2,p2,b2,rfl,rfl,⟨rfl,by omega,by omega⟩,fun bq hq2=>?_⟩
   cases bq with
   | false =>
    conv=>whnf
    exact hneg0 (by simp [Yl,hq2])
   | true =>
    conv=>whnf
    refine ⟨p1,a3,p2,b3,rfl,rfl,⟨rfl,by omega,by omega⟩,fun bq hq3=>?_⟩
    cases bq with
    | false =>
     conv=>whnf
     exact hneg0 (by simp [Yl,hq3])
    | true =>
     conv=>whnf
     refine ZCY (fun hl0=>?_) (fun hl0=>?_)
     ·have hl0:a4.length≠b4.length:=fun g=>hl0 (by show ((Xp p1 a4).length:Int)=(Xp p2 b4).length;rw [e4,e4,g])
      (conv=>whnf);exact hneg0 (by simp [Yl,Xb,Yw ZY _ _ hl0])
     have hl0:a4.length=b4.length:=by have hl0:((Xp p1 a4).length:Int)=(Xp p2 b4).length:=hl0;rw [e4,e4] at hl0;omega
     conv=>whnf
     refine ZCY (fun hl1=>?_) (fun hl1=>?_)
     ·have hl1:a5.length≠b5.length:=fun g=>hl1 (by show ((a5.map (ZQ p1)).length:Int)=(b5.map (ZQ p2)).length;rw [e5,e5,g])
      (conv=>whnf);exact hneg0 (by simp [Yl,Yw Yy _ _ hl1])
     have hl1:a5.length=b5.length:=by have hl1:((a5.map (ZQ p1)).length:Int)=(b5.map (ZQ p2)).length:=hl1;rw [e5,e5] at hl1;omega
     conv=>whnf
     refine ZCY (fun hl2=>?_) (fun hl2=>?_)
     ·have hl2:a6.length≠b6.length:=fun g=>hl2 (by show ((a6.map (ZN p1)).length:Int)=(b6.map (ZN p2)).length;rw [e6,e6,g])
      (conv=>whnf);exact hneg0 (by simp [Yl,Yw X1 _ _ hl2])
     have hl2:a6.length=b6.length:=by have hl2:((a6.map (ZN p1)).length:Int)=(b6.map (ZN p2)).length:=hl2;rw [e6,e6] at hl2;omega
     conv=>whnf
     have hs0:Yl (.mk a1 a2 a3 a4 a5 a6) (.mk b1 b2 b3 b4 b5 b6)=(Yv ZY a4 b4 && (Yv Yy a5 b5 && Yv X1 a6 b6)):=by simp [Yl,Xb,hq1,hq2,hq3]
     refine ⟨⟨0,rfl,rfl,by omega,hs0⟩,?_⟩
     intro vs σ hI
     obtain ⟨i,rfl,rfl,hi,hs⟩:=hI
     conv=>whnf
     refine ZCX (fun hi2=>?_) (fun hi2=>?_)
     ·have hi2:i<a4.length:=by have hi2:(i:Int)<(Xp p1 a4).length:=hi2;rw [e4] at hi2;omega
      have hi3:i<b4.length:=by omega
      have hg:=Zn Zbg a4 i hi2
      rw [ZP _ hi2 hi3] at hs
      obtain ⟨eA,hA⟩:∃e,a4[i]=e:=⟨_,rfl⟩
      obtain ⟨eB,hB⟩:∃e,b4[i]=e:=⟨_,rfl⟩
      obtain ⟨a1e,a2e,a3e,a4e,⟨u1,u2,u3,u4,u5,u6⟩,a6e⟩:=eA
      obtain ⟨b1e,b2e,b3e,b4e,⟨v1,v2,v3,v4,v5,v6⟩,b6e⟩:=eB
      have hr1:(Xp p1 a4)[((i:Nat):Int).toNat]?=some (ZW p1 (.mk a1e a2e a3e a4e (.mk u1 u2 u3 u4 u5 u6) a6e)):=by rw [ZH];simp [hi2,hA]
      have hr2:(Xp p2 b4)[((i:Nat):Int).toNat]?=some (ZW p2 (.mk b1e b2e b3e b4e (.mk v1 v2 v3 v4 v5 v6) b6e)):=by rw [ZH];simp [hi3,hB]
      rw [hA,hB] at hs
      rw [hA] at hg
      simp only [Zbg] at hg
      have hneg:ZY (.mk a1e a2e a3e a4e (.mk u1 u2 u3 u4 u5 u6) a6e) (.mk b1e b2e b3e b4e (.mk v1 v2 v3 v4 v5 v6) b6e)=false→K (.ret (.d (.bool false))) ⟨[],[],0⟩:=fun he=>by rw [he] at hs;simp only [Tx] at hs;exact hneg0 hs
      conv=>whnf
      (repeat (first | (refine ⟨_,by omega,hr1,?_⟩;conv=>whnf) | (refine ⟨_,by omega,hr2,?_⟩;conv=>whnf)))
      refine ⟨?_,?_,trivial⟩
      ·exact m18
      ·exact m18
     have hi2:a4.length≤i:=by have hi2:¬(i:Int)<(Xp p1 a4).length:=hi2;rw [e4] at hi2;omega
     rw [Z6 _ hi2 (by omega)] at hs
     rw [Tu] at hs
     conv=>whnf
     refine ⟨⟨0,rfl,rfl,by omega,hs⟩,?_⟩
     intro vs σ hI
     obtain ⟨i,rfl,rfl,hi,hs⟩:=hI
     conv=>whnf
     refine ZCX (fun hi2=>?_) (fun hi2=>?_)
     ·have hi2:i<a5.length:=by have hi2:(i:Int)<(a5.map (ZQ p1)).length:=hi2;rw [e5] at hi2;omega
      have hi3:i<b5.length:=by omega
      have hg:=Zn ZgG a5 i hi2
      rw [ZP _ hi2 hi3] at hs
      obtain ⟨eA,hA⟩:∃e,a5[i]=e:=⟨_,rfl⟩
      obtain ⟨eB,hB⟩:∃e,b5[i]=e:=⟨_,rfl⟩
      obtain ⟨a1e,a2e,a3e,a4e⟩:=eA
      obtain ⟨b1e,b2e,b3e,b4e⟩:=eB
      have hr1:(a5.map (ZQ p1))[((i:Nat):Int).toNat]?=some (ZQ p1 (⟨a1e,a2e,a3e,a4e⟩:Ini)):=by simp [hi2,hA]
      have hr2:(b5.map (ZQ p2))[((i:Nat):Int).toNat]?=some (ZQ p2 (⟨b1e,b2e,b3e,b4e⟩:Ini)):=by simp [hi3,hB]
      rw [hA,hB] at hs
      rw [hA] at hg
      simp only [ZgG] at hg
      have hneg:Yy (⟨a1e,a2e,a3e,a4e⟩:Ini) (⟨b1e,b2e,b3e,b4e⟩:Ini)=false→K (.ret (.d (.bool false))) ⟨[],[],0⟩:=fun he=>by rw [he] at hs;simp only [Tx] at hs;exact hneg0 hs
      conv=>whnf
      (repeat (first | (refine ⟨_,by omega,hr1,?_⟩;conv=>whnf) | (refine ⟨_,by omega,hr2,?_⟩;conv=>whnf)))
      refine ⟨?_,?_,trivial⟩
      ·exact m33
      ·exact m33
     have hi2:a5.length≤i:=by have hi2:¬(i:Int)<(a5.map (ZQ p1)).length:=hi2;rw [e5] at hi2;omega
     rw [Z6 _ hi2 (by omega)] at hs
     rw [Tu] at hs
     conv=>whnf
     refine ⟨⟨0,rfl,rfl,by omega,hs⟩,?_⟩
     intro vs σ hI
     obtain ⟨i,rfl,rfl,hi,hs⟩:=hI
     conv=>whnf
     refine ZCX (fun hi2=>?_) (fun hi2=>?_)
     ·have hi2:i<a6.length:=by have hi2:(i:Int)<(a6.map (ZN p1)).length:=hi2;rw [e6] at hi2;omega
      have hi3:i<b6.length:=by omega
      have hg:=Zn (sz0 (α:=Ov)) a6 i hi2
      rw [ZP _ hi2 hi3] at hs
      obtain ⟨eA,hA⟩:∃e,a6[i]=e:=⟨_,rfl⟩
      obtain ⟨eB,hB⟩:∃e,b6[i]=e:=⟨_,rfl⟩
      obtain ⟨a1e,a2e⟩:=eA
      obtain ⟨b1e,b2e⟩:=eB
      have hr1:(a6.map (ZN p1))[((i:Nat):Int).toNat]?=some (ZN p1 (⟨a1e,a2e⟩:Ov)):=by simp [hi2,hA]
      have hr2:(b6.map (ZN p2))[((i:Nat):Int).toNat]?=some (ZN p2 (⟨b1e,b2e⟩:Ov)):=by simp [hi3,hB]
      rw [hA,hB] at hs
      have hneg:X1 (⟨a1e,a2e⟩:Ov) (⟨b1e,b2e⟩:Ov)=false→K (.ret (.d (.bool false))) ⟨[],[],0⟩:=fun he=>by rw [he] at hs;simp only [Tx] at hs;exact hneg0 hs
      conv=>whnf
      (repeat (first | (refine ⟨_,by omega,hr1,?_⟩;conv=>whnf) | (refine ⟨_,by omega,hr2,?_⟩;conv=>whnf)))
      refine ZCY (fun hc1=>?_) (fun hc1=>?_)
      ·(conv=>whnf);exact hneg (by simp [X1,hc1])
      (try dsimp only at hc1)
      conv=>whnf
      have he:X1 (⟨a1e,a2e⟩:Ov) (⟨b1e,b2e⟩:Ov)=true:=by simp [X1,hc1]
      rw [he,Tu] at hs
      refine oiO ?_
      conv=>whnf
      refine ⟨⟨i+1,rfl,rfl,by omega,hs⟩,?_⟩
      show ((a6.length:Int) - ((i:Int)+1)).toNat<((a6.length:Int) - (i:Int)).toNat
      omega
     have hi2:a6.length≤i:=by have hi2:¬(i:Int)<(a6.map (ZN p1)).length:=hi2;rw [e6] at hi2;omega
     exact m27
 ·exact h.elim
theorem Zx0 (n:Nat) {sp:ZA} (h:PCalls (GG w0 nG) 20 sp) (hm:Zc sp):TblOK (GG w0 nG) [(51,Zdy Zx ZT ZeC n),(52,Zdy ZG Z2 Zdp n),(53,Zdy ZI YV Zdo n),(54,Ze9 Zr eqB n),(20,sp)] :=
 ⟨⟨Zpa ⟨⟨ZfU,XL _ _ _⟩,trivial⟩,Wc _ _ _ _⟩,⟨Zrz ⟨⟨ZfU,XL _ _ _⟩,trivial⟩,Wc _ _ _ _⟩,⟨Zo9 ⟨⟨Zj8 n,Wc _ _ _ _⟩,⟨ZxZ n,Wc _ _ _ _⟩,trivial⟩,Wc _ _ _ _⟩,⟨Zo7,XL _ _ _⟩,⟨h,hm⟩,trivial⟩
theorem ZsP:∀n,PCalls (GG w0 nG) 20 (ZsO n)
 | 0=>Zlt (Zx0 0 (ZK (Zh Tryz.func20 (by kernel_rfl) rfl)) (Zy ZeD _))
 | n+1=>Zlt (Zx0 _ (ZL (sp:=ZsO) (ZsP n)) (Zy ZeD _))
end Go.PM.Lex
end

section
namespace Go.PM.Lex
open Go.Proofs
variable {w0:World} {nG:Nat}
noncomputable def ZBi (n:Nat):Tbl:=[(88,spB (UJ Yh Xs szE) n)]
theorem ZsQ {n:Nat} (ht:TblOK (GG w0 nG) (ZBi n)):PCalls (GG w0 nG) 87 (Jk 88 Yh Xs szE n):=by
 refine pc ht Tryz.func87 ?_
 intro args σ K h
 unfold Jk at h
 split at h
 ·obtain ⟨p1,l1,p2,l2,rfl,rfl,⟨rfl,hz,hn⟩,h⟩:=h
  have h:=h _ rfl
  have hlen1:(l1.map (Yh p1)).length=l1.length:=Te ..
  have hlen2:(l2.map (Yh p2)).length=l2.length:=Te ..
  have hsz:=Zj szE l1
  refine ⟨Za [(4,⟨[17],[0,1,2,15,16],fun vs σ=>∃i:Nat,vs=[.d (.int .i64 i)]∧σ=⟨[],[],0⟩∧i≤l1.length∧Yv Xs l1 l2=Yv Xs (l1.drop i) (l2.drop i),fun vs _=>match vs with | [.d (.int _ i)]=>((l1.length:Int) - i).toNat | _=>0⟩)],0,false,by simp,Tb rfl,?_⟩
  conv=>whnf
  refine ZCY (fun hc=>?_) (fun hc=>?_)
  ·have hc:l1.length≠l2.length:=fun g=>hc (by show ((l1.map (Yh p1)).length:Int)=(l2.map (Yh p2)).length;rw [hlen1,hlen2,g])
   exact m161
  have hc:l1.length=l2.length:=by have hc:((l1.map (Yh p1)).length:Int)=(l2.map (Yh p2)).length:=hc;rw [hlen1,hlen2] at hc;omega
  conv=>whnf
  refine ⟨⟨0,rfl,rfl,by omega,rfl⟩,?_⟩
  intro vs σ hI
  obtain ⟨i,rfl,rfl,hi,hs⟩:=hI
  conv=>whnf
  refine ZCX (fun hi2=>?_) (fun hi2=>?_)
  rotate_left
  ·have hi2:l1.length≤i:=by have hi2:¬(i:Int)<(l1.map (Yh p1)).length:=hi2;rw [hlen1] at hi2;omega
   exact m27
  have hi2:i<l1.length:=by have hi2:(i:Int)<(l1.map (Yh p1)).length:=hi2;rw [hlen1] at hi2;omega
  have hi3:i<l2.length:=by omega
  have hg:=Zn szE l1 i hi2
  rw [ZP _ hi2 hi3] at hs
  obtain ⟨eA,hA⟩:∃e,l1[i]=e:=⟨_,rfl⟩
  obtain ⟨eB,hB⟩:∃e,l2[i]=e:=⟨_,rfl⟩
  obtain ⟨a1,a2,a3,a4,a5⟩:=eA
  obtain ⟨b1,b2,b3,b4,b5⟩:=eB
  have hr1:(l1.map (Yh p1))[((i:Nat):Int).toNat]?=some ((Yh p1) (.mk a1 a2 a3 a4 a5)):=by simp [hi2,hA]
  have hr2:(l2.map (Yh p2))[((i:Nat):Int).toNat]?=some ((Yh p2) (.mk b1 b2 b3 b4 b5)):=by simp [hi3,hB]
  rw [hA,hB] at hs
  rw [hA] at hg
  have hneg:Xs (.mk a1 a2 a3 a4 a5) (.mk b1 b2 b3 b4 b5)=false→K (.ret (.d (.bool false))) ⟨[],[],0⟩:=fun he=>by rw [hs,he,Tx] at h;exact h
  exact m211
 ·exact h.elim
noncomputable def ZBj (n:Nat):Tbl:=[(87,Jk 88 Yh Xs szE n)]
theorem ZsR {n:Nat} (ht:TblOK (GG w0 nG) (ZBj n)):PCalls (GG w0 nG) 88 (UJ Yh Xs szE n):=by
 refine pc ht Tryz.func88 ?_
 intro args σ K h
 unfold UJ at h
 split at h
 ·obtain ⟨p1,⟨a1,a2,a3,a4,a5⟩,p2,⟨b1,b2,b3,b4,b5⟩,rfl,rfl,⟨hz,hn⟩,h⟩:=h
  have h:=h _ rfl
  simp only [szE,XX] at hz
  refine ⟨Za [],0,false,by simp,Tb rfl,?_⟩
  conv=>whnf
  refine ZCX (fun hc0=>?_) (fun hc0=>?_)
  rotate_left
  ·have hc0:¬a1=b1:=by omega
   rw [show Xs (.mk a1 a2 a3 a4 a5) (.mk b1 b2 b3 b4 b5)=false by simp [Xs,Vp,hc0]] at h;(conv=>whnf);exact h
  have hc0:a1=b1:=by omega
  (try dsimp only at hc0)
  conv=>whnf
  refine ZCX (fun hc1=>?_) (fun hc1=>?_)
  rotate_left
  ·rw [show Xs (.mk a1 a2 a3 a4 a5) (.mk b1 b2 b3 b4 b5)=false by simp [Xs,Vp,hc1]] at h;(conv=>whnf);exact h
  (try dsimp only at hc1)
  conv=>whnf
  refine ZCX (fun hc2=>?_) (fun hc2=>?_)
  rotate_left
  ·rw [show Xs (.mk a1 a2 a3 a4 a5) (.mk b1 b2 b3 b4 b5)=false by simp [Xs,Vp,hc2]] at h;(conv=>whnf);exact h
  (try dsimp only at hc2)
  conv=>whnf
  refine ⟨p1,a4,p2,b4,Zf _ _,Zf _ _,⟨rfl,by omega,by omega⟩,fun b_3 hc3=>?_⟩
  have he:Xs (.mk a1 a2 a3 a4 a5) (.mk b1 b2 b3 b4 b5)=b_3:=by simp [Xs,Vp,hc0,hc1,hc2,hc3]
  rw [he] at h
  exact m35
 ·exact h.elim
theorem ZAL:∀n,PCalls (GG w0 nG) 87 (Jk 88 Yh Xs szE n)∧PCalls (GG w0 nG) 88 (UJ Yh Xs szE n)
 | 0=>have h:=ZsQ (n:=0) ⟨⟨ZK (Zh Tryz.func88 (by kernel_rfl) rfl),Zy (YA _ _ _) _⟩,trivial⟩;⟨h,ZsR ⟨⟨h,Yz _ _ _ _ _⟩,trivial⟩⟩
 | n+1=>have h:=ZsQ (n:=n+1) ⟨⟨ZL (sp:=UJ Yh Xs szE) (ZAL n).2,Zy (YA _ _ _) _⟩,trivial⟩;⟨h,ZsR ⟨⟨h,Yz _ _ _ _ _⟩,trivial⟩⟩
noncomputable def ZBk (n:Nat):Tbl:=[(90,spB (UJ Yt YX szL) n)]
theorem ZsS {n:Nat} (ht:TblOK (GG w0 nG) (ZBk n)):PCalls (GG w0 nG) 89 (Jk 90 Yt YX szL n):=by
 refine pc ht Tryz.func89 ?_
 intro args σ K h
 unfold Jk at h
 split at h
 ·obtain ⟨p1,l1,p2,l2,rfl,rfl,⟨rfl,hz,hn⟩,h⟩:=h
  have h:=h _ rfl
  have hlen1:(l1.map (Yt p1)).length=l1.length:=Te ..
  have hlen2:(l2.map (Yt p2)).length=l2.length:=Te ..
  have hsz:=Zj szL l1
  refine ⟨Za [(4,⟨[17],[0,1,2,15,16],fun vs σ=>∃i:Nat,vs=[.d (.int .i64 i)]∧σ=⟨[],[],0⟩∧i≤l1.length∧Yv YX l1 l2=Yv YX (l1.drop i) (l2.drop i),fun vs _=>match vs with | [.d (.int _ i)]=>((l1.length:Int) - i).toNat | _=>0⟩)],0,false,by simp,Tb rfl,?_⟩
  conv=>whnf
  refine ZCY (fun hc=>?_) (fun hc=>?_)
  ·exact m216
  have hc:l1.length=l2.length:=by have hc:((l1.map (Yt p1)).length:Int)=(l2.map (Yt p2)).length:=hc;rw [hlen1,hlen2] at hc;omega
  conv=>whnf
  refine ⟨⟨0,rfl,rfl,by omega,rfl⟩,?_⟩
  intro vs σ hI
  obtain ⟨i,rfl,rfl,hi,hs⟩:=hI
  conv=>whnf
  refine ZCX (fun hi2=>?_) (fun hi2=>?_)
  rotate_left
  ·exact m208
  have hi2:i<l1.length:=by have hi2:(i:Int)<(l1.map (Yt p1)).length:=hi2;rw [hlen1] at hi2;omega
  have hi3:i<l2.length:=by omega
  have hg:=Zn szL l1 i hi2
  rw [ZP _ hi2 hi3] at hs
  obtain ⟨eA,hA⟩:∃e,l1[i]=e:=⟨_,rfl⟩
  obtain ⟨eB,hB⟩:∃e,l2[i]=e:=⟨_,rfl⟩
  obtain ⟨a1,a2,a3,a4,a5⟩:=eA
  obtain ⟨b1,b2,b3,b4,b5⟩:=eB
  have hr1:(l1.map (Yt p1))[((i:Nat):Int).toNat]?=some ((Yt p1) (.mk a1 a2 a3 a4 a5)):=by simp [hi2,hA]
  have hr2:(l2.map (Yt p2))[((i:Nat):Int).toNat]?=some ((Yt p2) (.mk b1 b2 b3 b4 b5)):=by simp [hi3,hB]
  rw [hA,hB] at hs
  rw [hA] at hg
  have hneg:YX (.mk a1 a2 a3 a4 a5) (.mk b1 b2 b3 b4 b5)=false→K (.ret (.d (.bool false))) ⟨[],[],0⟩:=fun he=>by rw [hs,he,Tx] at h;exact h
  exact m211
 ·exact h.elim
noncomputable def ZBl (n:Nat):Tbl:=[(87,Jk 88 Yh Xs szE n),(89,Jk 90 Yt YX szL n)]
theorem ZsT {n:Nat} (ht:TblOK (GG w0 nG) (ZBl n)):PCalls (GG w0 nG) 90 (UJ Yt YX szL n):=by
 refine pc ht Tryz.func90 ?_
 intro args σ K h
 unfold UJ at h
 split at h
 ·obtain ⟨p1,⟨a1,a2,a3,a4,a5⟩,p2,⟨b1,b2,b3,b4,b5⟩,rfl,rfl,⟨hz,hn⟩,h⟩:=h
  have h:=h _ rfl
  simp only [szL,Xu] at hz
  refine ⟨Za [],0,false,by simp,Tb rfl,?_⟩
  conv=>whnf
  refine ZCX (fun hc0=>?_) (fun hc0=>?_)
  rotate_left
  ·rw [show YX (.mk a1 a2 a3 a4 a5) (.mk b1 b2 b3 b4 b5)=false by simp [YX,Xt,hc0]] at h;(conv=>whnf);exact h
  (try dsimp only at hc0)
  conv=>whnf
  refine ZCX (fun hc1=>?_) (fun hc1=>?_)
  rotate_left
  ·rw [show YX (.mk a1 a2 a3 a4 a5) (.mk b1 b2 b3 b4 b5)=false by simp [YX,Xt,hc1]] at h;(conv=>whnf);exact h
  (try dsimp only at hc1)
  conv=>whnf
  refine ⟨p1,a3,p2,b3,Zf _ _,Zf _ _,⟨rfl,by omega,by omega⟩,fun b_2 hc2=>?_⟩
  cases b_2 with
  | false =>
   conv=>whnf
   rw [show YX (.mk a1 a2 a3 a4 a5) (.mk b1 b2 b3 b4 b5)=false by simp [YX,Xt,hc2]] at h;exact h
  | true =>
   conv=>whnf
   refine ⟨p1,a4,p2,b4,Zp _ _,Zp _ _,⟨rfl,by omega,by omega⟩,fun b_3 hc3=>?_⟩
   have he:YX (.mk a1 a2 a3 a4 a5) (.mk b1 b2 b3 b4 b5)=b_3:=by simp [YX,Xt,hc0,hc1,hc2,hc3]
   rw [he] at h
   exact m35
 ·exact h.elim
theorem ZB8:∀n,PCalls (GG w0 nG) 89 (Jk 90 Yt YX szL n)∧PCalls (GG w0 nG) 90 (UJ Yt YX szL n)
 | 0=>have h:=ZsS (n:=0) ⟨⟨ZK (Zh Tryz.func90 (by kernel_rfl) rfl),Zy (YA _ _ _) _⟩,trivial⟩;⟨h,ZsT ⟨⟨(ZAL 0).1,Yz _ _ _ _ _⟩,⟨h,Yz _ _ _ _ _⟩,trivial⟩⟩
 | n+1=>have h:=ZsS (n:=n+1) ⟨⟨ZL (sp:=UJ Yt YX szL) (ZB8 n).2,Zy (YA _ _ _) _⟩,trivial⟩;⟨h,ZsT ⟨⟨(ZAL _).1,Yz _ _ _ _ _⟩,⟨h,Yz _ _ _ _ _⟩,trivial⟩⟩
noncomputable def Zx1 (n:Nat):Tbl:=[(43,spB (UJ ZI YV Zdo) n)]
theorem Zuw {n:Nat} (ht:TblOK (GG w0 nG) (Zx1 n)):PCalls (GG w0 nG) 42 (Jk 43 ZI YV Zdo n):=by
 refine pc ht Tryz.func42 ?_
 intro args σ K h
 unfold Jk at h
 split at h
 ·obtain ⟨p1,l1,p2,l2,rfl,rfl,⟨rfl,hz,hn⟩,h⟩:=h
  have h:=h _ rfl
  have hlen1:(l1.map (ZI p1)).length=l1.length:=Te ..
  have hlen2:(l2.map (ZI p2)).length=l2.length:=Te ..
  have hsz:=Zj Zdo l1
  refine ⟨Za [(4,⟨[17],[0,1,2,15,16],fun vs σ=>∃i:Nat,vs=[.d (.int .i64 i)]∧σ=⟨[],[],0⟩∧i≤l1.length∧Yv YV l1 l2=Yv YV (l1.drop i) (l2.drop i),fun vs _=>match vs with | [.d (.int _ i)]=>((l1.length:Int) - i).toNat | _=>0⟩)],0,false,by simp,Tb rfl,?_⟩
  conv=>whnf
  refine ZCY (fun hc=>?_) (fun hc=>?_)
  ·exact m214
  have hc:l1.length=l2.length:=by have hc:((l1.map (ZI p1)).length:Int)=(l2.map (ZI p2)).length:=hc;rw [hlen1,hlen2] at hc;omega
  conv=>whnf
  refine ⟨⟨0,rfl,rfl,by omega,rfl⟩,?_⟩
  intro vs σ hI
  obtain ⟨i,rfl,rfl,hi,hs⟩:=hI
  conv=>whnf
  refine ZCX (fun hi2=>?_) (fun hi2=>?_)
  rotate_left
  ·exact m205
  have hi2:i<l1.length:=by have hi2:(i:Int)<(l1.map (ZI p1)).length:=hi2;rw [hlen1] at hi2;omega
  have hi3:i<l2.length:=by omega
  have hg:=Zn Zdo l1 i hi2
  rw [ZP _ hi2 hi3] at hs
  obtain ⟨eA,hA⟩:∃e,l1[i]=e:=⟨_,rfl⟩
  obtain ⟨eB,hB⟩:∃e,l2[i]=e:=⟨_,rfl⟩
  obtain ⟨a1,a2,a3,a4⟩:=eA
  obtain ⟨b1,b2,b3,b4⟩:=eB
  have hr1:(l1.map (ZI p1))[((i:Nat):Int).toNat]?=some ((ZI p1) (⟨a1,a2,a3,a4⟩:Ru)):=by simp [hi2,hA]
  have hr2:(l2.map (ZI p2))[((i:Nat):Int).toNat]?=some ((ZI p2) (⟨b1,b2,b3,b4⟩:Ru)):=by simp [hi3,hB]
  rw [hA,hB] at hs
  rw [hA] at hg
  have hneg:YV (⟨a1,a2,a3,a4⟩:Ru) (⟨b1,b2,b3,b4⟩:Ru)=false→K (.ret (.d (.bool false))) ⟨[],[],0⟩:=fun he=>by rw [hs,he,Tx] at h;exact h
  conv=>whnf
  refine ⟨_,by omega,hr1,?_⟩
  conv=>whnf
  refine ⟨_,by omega,hr2,?_⟩
  conv=>whnf
  refine ⟨by omega,p1,(⟨a1,a2,a3,a4⟩:Ru),p2,(⟨b1,b2,b3,b4⟩:Ru),rfl,rfl,⟨by omega,by omega⟩,fun b_1 hb1=>?_⟩
  exact m156
 ·exact h.elim
noncomputable def Zx2 (n:Nat):Tbl:=[(87,Jk 88 Yh Xs szE n),(89,Jk 90 Yt YX szL n)]
theorem Zux {n:Nat} (ht:TblOK (GG w0 nG) (Zx2 n)):PCalls (GG w0 nG) 43 (UJ ZI YV Zdo n):=by
 refine pc ht Tryz.func43 ?_
 intro args σ K h
 unfold UJ at h
 split at h
 ·obtain ⟨p1,⟨a1,a2,a3,a4⟩,p2,⟨b1,b2,b3,b4⟩,rfl,rfl,⟨hz,hn⟩,h⟩:=h
  have h:=h _ rfl
  simp only [Zdo] at hz
  refine ⟨Za [],0,false,by simp,Tb rfl,?_⟩
  conv=>whnf
  refine ZCX (fun hc0=>?_) (fun hc0=>?_)
  rotate_left
  ·rw [show YV (⟨a1,a2,a3,a4⟩:Ru) (⟨b1,b2,b3,b4⟩:Ru)=false by simp [YV,hc0]] at h;(conv=>whnf);exact h
  (try dsimp only at hc0)
  conv=>whnf
  refine ⟨p1,a2,p2,b2,Zf _ _,Zf _ _,⟨rfl,by omega,by omega⟩,fun b_1 hc1=>?_⟩
  cases b_1 with
  | false =>
   conv=>whnf
   rw [show YV (⟨a1,a2,a3,a4⟩:Ru) (⟨b1,b2,b3,b4⟩:Ru)=false by simp [YV,hc1]] at h;exact h
  | true =>
   conv=>whnf
   refine ⟨p1,a3,p2,b3,Zp _ _,Zp _ _,⟨rfl,by omega,by omega⟩,fun b_2 hc2=>?_⟩
   have he:YV (⟨a1,a2,a3,a4⟩:Ru) (⟨b1,b2,b3,b4⟩:Ru)=b_2:=by simp [YV,hc0,hc1,hc2]
   rw [he] at h
   exact m35
 ·exact h.elim
theorem ZgH {n:Nat}:PCalls (GG w0 nG) 84 (Ze9 Zt XH n):=by
 refine pc (tbl:=[]) trivial Tryz.func84 ?_
 intro args σ K h
 unfold Ze9 at h
 split at h
 ·obtain ⟨l1,l2,rfl,rfl,⟨hz,hn⟩,h⟩:=h
  have h:=h _ rfl
  have hlen1:(l1.map Zt).length=l1.length:=Te ..
  have hlen2:(l2.map Zt).length=l2.length:=Te ..
  have hsz:=Zj sz0 l1
  refine ⟨Za [(4,⟨[13],[0,1,12],fun vs σ=>∃i:Nat,vs=[.d (.int .i64 i)]∧σ=⟨[],[],0⟩∧i≤l1.length∧Yv XH l1 l2=Yv XH (l1.drop i) (l2.drop i),fun vs _=>match vs with | [.d (.int _ i)]=>((l1.length:Int) - i).toNat | _=>0⟩)],0,false,by simp,Tb rfl,?_⟩
  exact m153
 ·exact h.elim
theorem Zj9 {n:Nat}:PCalls (GG w0 nG) 46 (Ze9 Zr eqB n):=by
 refine pc (tbl:=[]) trivial Tryz.func46 ?_
 intro args σ K h
 unfold Ze9 at h
 split at h
 ·obtain ⟨l1,l2,rfl,rfl,⟨hz,hn⟩,h⟩:=h
  have h:=h _ rfl
  have hlen1:(l1.map Zr).length=l1.length:=Te ..
  have hlen2:(l2.map Zr).length=l2.length:=Te ..
  have hsz:=Zj sz0 l1
  refine ⟨Za [(4,⟨[13],[0,1,12],fun vs σ=>∃i:Nat,vs=[.d (.int .i64 i)]∧σ=⟨[],[],0⟩∧i≤l1.length∧Yv eqB l1 l2=Yv eqB (l1.drop i) (l2.drop i),fun vs _=>match vs with | [.d (.int _ i)]=>((l1.length:Int) - i).toNat | _=>0⟩)],0,false,by simp,Tb rfl,?_⟩
  exact m154
 ·exact h.elim
noncomputable def Zx3 (n:Nat):Tbl:=[(86,spB (UJ (fun _=>Zs) Yx Zbf) n)]
theorem Zuy {n:Nat} (ht:TblOK (GG w0 nG) (Zx3 n)):PCalls (GG w0 nG) 85 (Jk 86 (fun _=>Zs) Yx Zbf n):=by
 refine pc ht Tryz.func85 ?_
 intro args σ K h
 unfold Jk at h
 split at h
 ·obtain ⟨p1,l1,p2,l2,rfl,rfl,⟨rfl,hz,hn⟩,h⟩:=h
  have h:=h _ rfl
  have hlen1:(l1.map Zs).length=l1.length:=Te ..
  have hlen2:(l2.map Zs).length=l2.length:=Te ..
  have hsz:=Zj Zbf l1
  refine ⟨Za [(4,⟨[17],[0,1,2,15,16],fun vs σ=>∃i:Nat,vs=[.d (.int .i64 i)]∧σ=⟨[],[],0⟩∧i≤l1.length∧Yv Yx l1 l2=Yv Yx (l1.drop i) (l2.drop i),fun vs _=>match vs with | [.d (.int _ i)]=>((l1.length:Int) - i).toNat | _=>0⟩)],0,false,by simp,Tb rfl,?_⟩
  conv=>whnf
  refine ZCY (fun hc=>?_) (fun hc=>?_)
  ·have hc:l1.length≠l2.length:=fun g=>hc (by show ((l1.map Zs).length:Int)=(l2.map Zs).length;rw [hlen1,hlen2,g])
   exact m161
  have hc:l1.length=l2.length:=by have hc:((l1.map Zs).length:Int)=(l2.map Zs).length:=hc;rw [hlen1,hlen2] at hc;omega
  conv=>whnf
  refine ⟨⟨0,rfl,rfl,by omega,rfl⟩,?_⟩
  intro vs σ hI
  obtain ⟨i,rfl,rfl,hi,hs⟩:=hI
  conv=>whnf
  refine ZCX (fun hi2=>?_) (fun hi2=>?_)
  rotate_left
  ·have hi2:l1.length≤i:=by have hi2:¬(i:Int)<(l1.map Zs).length:=hi2;rw [hlen1] at hi2;omega
   exact m27
  have hi2:i<l1.length:=by have hi2:(i:Int)<(l1.map Zs).length:=hi2;rw [hlen1] at hi2;omega
  have hi3:i<l2.length:=by omega
  have hg:=Zn Zbf l1 i hi2
  rw [ZP _ hi2 hi3] at hs
  obtain ⟨eA,hA⟩:∃e,l1[i]=e:=⟨_,rfl⟩
  obtain ⟨eB,hB⟩:∃e,l2[i]=e:=⟨_,rfl⟩
  obtain ⟨a1,a2⟩:=eA
  obtain ⟨b1,b2⟩:=eB
  have hr1:(l1.map Zs)[((i:Nat):Int).toNat]?=some (Zs (⟨a1,a2⟩:Ca)):=by simp [hi2,hA]
  have hr2:(l2.map Zs)[((i:Nat):Int).toNat]?=some (Zs (⟨b1,b2⟩:Ca)):=by simp [hi3,hB]
  rw [hA,hB] at hs
  rw [hA] at hg
  have hneg:Yx (⟨a1,a2⟩:Ca) (⟨b1,b2⟩:Ca)=false→K (.ret (.d (.bool false))) ⟨[],[],0⟩:=fun he=>by rw [hs,he,Tx] at h;exact h
  conv=>whnf
  refine ⟨_,by omega,hr1,?_⟩
  conv=>whnf
  refine ⟨_,by omega,hr2,?_⟩
  conv=>whnf
  refine ⟨by omega,p1,(⟨a1,a2⟩:Ca),p2,(⟨b1,b2⟩:Ca),rfl,rfl,⟨by omega,by omega⟩,fun b_1 hb1=>?_⟩
  exact m156
 ·exact h.elim
noncomputable def Zx4 (n:Nat):Tbl:=[(84,Ze9 Zt XH n)]
theorem Zuz {n:Nat} (ht:TblOK (GG w0 nG) (Zx4 n)):PCalls (GG w0 nG) 86 (UJ (fun _=>Zs) Yx Zbf n):=by
 refine pc ht Tryz.func86 ?_
 intro args σ K h
 unfold UJ at h
 split at h
 ·obtain ⟨p1,⟨a1,a2⟩,p2,⟨b1,b2⟩,rfl,rfl,⟨hz,hn⟩,h⟩:=h
  have h:=h _ rfl
  simp only [Zbf] at hz
  refine ⟨Za [],0,false,by simp,Tb rfl,?_⟩
  conv=>whnf
  refine ZCX (fun hc0=>?_) (fun hc0=>?_)
  rotate_left
  ·rw [show Yx (⟨a1,a2⟩:Ca) (⟨b1,b2⟩:Ca)=false by simp [Yx,hc0]] at h;(conv=>whnf);exact h
  (try dsimp only at hc0)
  conv=>whnf
  refine ⟨a2,b2,rfl,rfl,⟨by omega,by omega⟩,fun b_1 hc1=>?_⟩
  have he:Yx (⟨a1,a2⟩:Ca) (⟨b1,b2⟩:Ca)=b_1:=by simp [Yx,hc0,hc1]
  rw [he] at h
  exact m35
 ·exact h.elim
noncomputable def Zx5 (n:Nat):Tbl:=[(84,Ze9 Zt XH n),(85,Jk 86 (fun _=>Zs) Yx Zbf n)]
theorem ZuA {n:Nat} (ht:TblOK (GG w0 nG) (Zx5 n)):PCalls (GG w0 nG) 39 (UJ Zx ZT ZeC n):=by
 refine pc ht Tryz.func39 ?_
 intro args σ K h
 unfold UJ at h
 split at h
 ·obtain ⟨p1,⟨a1,a2,a3,a4,a5,a6⟩,p2,⟨b1,b2,b3,b4,b5,b6⟩,rfl,rfl,⟨hz,hn⟩,h⟩:=h
  have h:=h _ rfl
  simp only [ZeC] at hz
  refine ⟨Za [],0,false,by simp,Tb rfl,?_⟩
  conv=>whnf
  refine ZCX (fun hc0=>?_) (fun hc0=>?_)
  rotate_left
  ·rw [show ZT (⟨a1,a2,a3,a4,a5,a6⟩:Ty) (⟨b1,b2,b3,b4,b5,b6⟩:Ty)=false by simp [ZT,hc0]] at h;(conv=>whnf);exact h
  (try dsimp only at hc0)
  conv=>whnf
  refine ZCX (fun hc1=>?_) (fun hc1=>?_)
  rotate_left
  ·rw [show ZT (⟨a1,a2,a3,a4,a5,a6⟩:Ty) (⟨b1,b2,b3,b4,b5,b6⟩:Ty)=false by simp [ZT,hc1]] at h;(conv=>whnf);exact h
  (try dsimp only at hc1)
  conv=>whnf
  refine ZCX (fun hc2=>?_) (fun hc2=>?_)
  rotate_left
  ·rw [show ZT (⟨a1,a2,a3,a4,a5,a6⟩:Ty) (⟨b1,b2,b3,b4,b5,b6⟩:Ty)=false by simp [ZT,hc2]] at h;(conv=>whnf);exact h
  (try dsimp only at hc2)
  conv=>whnf
  refine ⟨a4,b4,rfl,rfl,⟨by omega,by omega⟩,fun b_3 hc3=>?_⟩
  cases b_3 with
  | false =>
   conv=>whnf
   rw [show ZT (⟨a1,a2,a3,a4,a5,a6⟩:Ty) (⟨b1,b2,b3,b4,b5,b6⟩:Ty)=false by simp [ZT,hc3]] at h;exact h
  | true =>
   conv=>whnf
   refine ⟨p1,a5,p2,b5,rfl,rfl,⟨rfl,by omega,by omega⟩,fun b_4 hc4=>?_⟩
   have he:ZT (⟨a1,a2,a3,a4,a5,a6⟩:Ty) (⟨b1,b2,b3,b4,b5,b6⟩:Ty)=b_4:=by simp [ZT,hc0,hc1,hc2,hc3,hc4]
   rw [he] at h
   exact m35
 ·exact h.elim
noncomputable def Zx6 (n:Nat):Tbl:=[(39,spB (UJ Zx ZT ZeC) n)]
theorem ZuB {n:Nat} (ht:TblOK (GG w0 nG) (Zx6 n)):PCalls (GG w0 nG) 38 (Jk 39 Zx ZT ZeC n):=by
 refine pc ht Tryz.func38 ?_
 intro args σ K h
 unfold Jk at h
 split at h
 ·obtain ⟨p1,l1,p2,l2,rfl,rfl,⟨rfl,hz,hn⟩,h⟩:=h
  have h:=h _ rfl
  have hlen1:(l1.map (Zx p1)).length=l1.length:=Te ..
  have hlen2:(l2.map (Zx p2)).length=l2.length:=Te ..
  have hsz:=Zj ZeC l1
  refine ⟨Za [(4,⟨[17],[0,1,2,15,16],fun vs σ=>∃i:Nat,vs=[.d (.int .i64 i)]∧σ=⟨[],[],0⟩∧i≤l1.length∧Yv ZT l1 l2=Yv ZT (l1.drop i) (l2.drop i),fun vs _=>match vs with | [.d (.int _ i)]=>((l1.length:Int) - i).toNat | _=>0⟩)],0,false,by simp,Tb rfl,?_⟩
  conv=>whnf
  refine ZCY (fun hc=>?_) (fun hc=>?_)
  ·exact m213
  have hc:l1.length=l2.length:=by have hc:((l1.map (Zx p1)).length:Int)=(l2.map (Zx p2)).length:=hc;rw [hlen1,hlen2] at hc;omega
  conv=>whnf
  refine ⟨⟨0,rfl,rfl,by omega,rfl⟩,?_⟩
  intro vs σ hI
  obtain ⟨i,rfl,rfl,hi,hs⟩:=hI
  conv=>whnf
  refine ZCX (fun hi2=>?_) (fun hi2=>?_)
  rotate_left
  ·exact m204
  have hi2:i<l1.length:=by have hi2:(i:Int)<(l1.map (Zx p1)).length:=hi2;rw [hlen1] at hi2;omega
  have hi3:i<l2.length:=by omega
  have hg:=Zn ZeC l1 i hi2
  rw [ZP _ hi2 hi3] at hs
  obtain ⟨eA,hA⟩:∃e,l1[i]=e:=⟨_,rfl⟩
  obtain ⟨eB,hB⟩:∃e,l2[i]=e:=⟨_,rfl⟩
  obtain ⟨a1,a2,a3,a4,a5,a6⟩:=eA
  obtain ⟨b1,b2,b3,b4,b5,b6⟩:=eB
  have hr1:(l1.map (Zx p1))[((i:Nat):Int).toNat]?=some ((Zx p1) (⟨a1,a2,a3,a4,a5,a6⟩:Ty)):=by simp [hi2,hA]
  have hr2:(l2.map (Zx p2))[((i:Nat):Int).toNat]?=some ((Zx p2) (⟨b1,b2,b3,b4,b5,b6⟩:Ty)):=by simp [hi3,hB]
  rw [hA,hB] at hs
  rw [hA] at hg
  have hneg:ZT (⟨a1,a2,a3,a4,a5,a6⟩:Ty) (⟨b1,b2,b3,b4,b5,b6⟩:Ty)=false→K (.ret (.d (.bool false))) ⟨[],[],0⟩:=fun he=>by rw [hs,he,Tx] at h;exact h
  conv=>whnf
  refine ⟨_,by omega,hr1,?_⟩
  conv=>whnf
  refine ⟨_,by omega,hr2,?_⟩
  conv=>whnf
  refine ⟨by omega,p1,(⟨a1,a2,a3,a4,a5,a6⟩:Ty),p2,(⟨b1,b2,b3,b4,b5,b6⟩:Ty),rfl,rfl,⟨by omega,by omega⟩,fun b_1 hb1=>?_⟩
  exact m156
 ·exact h.elim
noncomputable def Zx7 (n:Nat):Tbl:=[(84,Ze9 Zt XH n)]
theorem ZuC {n:Nat} (ht:TblOK (GG w0 nG) (Zx7 n)):PCalls (GG w0 nG) 41 (UJ ZG Z2 Zdp n):=by
 refine pc ht Tryz.func41 ?_
 intro args σ K h
 unfold UJ at h
 split at h
 ·obtain ⟨p1,⟨a1,a2,a3,a4,a5,a6⟩,p2,⟨b1,b2,b3,b4,b5,b6⟩,rfl,rfl,⟨hz,hn⟩,h⟩:=h
  have h:=h _ rfl
  simp only [Zdp] at hz
  refine ⟨Za [],0,false,by simp,Tb rfl,?_⟩
  conv=>whnf
  refine ZCX (fun hc0=>?_) (fun hc0=>?_)
  rotate_left
  ·rw [show Z2 (⟨a1,a2,a3,a4,a5,a6⟩:Re) (⟨b1,b2,b3,b4,b5,b6⟩:Re)=false by simp [Z2,hc0]] at h;(conv=>whnf);exact h
  (try dsimp only at hc0)
  conv=>whnf
  refine ZCX (fun hc1=>?_) (fun hc1=>?_)
  rotate_left
  ·rw [show Z2 (⟨a1,a2,a3,a4,a5,a6⟩:Re) (⟨b1,b2,b3,b4,b5,b6⟩:Re)=false by simp [Z2,hc1]] at h;(conv=>whnf);exact h
  (try dsimp only at hc1)
  conv=>whnf
  refine ZCX (fun hc2=>?_) (fun hc2=>?_)
  rotate_left
  ·rw [show Z2 (⟨a1,a2,a3,a4,a5,a6⟩:Re) (⟨b1,b2,b3,b4,b5,b6⟩:Re)=false by simp [Z2,hc2]] at h;(conv=>whnf);exact h
  (try dsimp only at hc2)
  conv=>whnf
  refine ZCX (fun hc3=>?_) (fun hc3=>?_)
  rotate_left
  ·rw [show Z2 (⟨a1,a2,a3,a4,a5,a6⟩:Re) (⟨b1,b2,b3,b4,b5,b6⟩:Re)=false by simp [Z2,hc3]] at h;(conv=>whnf);exact h
  (try dsimp only at hc3)
  conv=>whnf
  refine ⟨a2,b2,rfl,rfl,⟨by omega,by omega⟩,fun b_4 hc4=>?_⟩
  have he:Z2 (⟨a1,a2,a3,a4,a5,a6⟩:Re) (⟨b1,b2,b3,b4,b5,b6⟩:Re)=b_4:=by simp [Z2,hc0,hc1,hc2,hc3,hc4]
  rw [he] at h
  exact m35
 ·exact h.elim
noncomputable def Zx8 (n:Nat):Tbl:=[(41,spB (UJ ZG Z2 Zdp) n)]
theorem ZuD {n:Nat} (ht:TblOK (GG w0 nG) (Zx8 n)):PCalls (GG w0 nG) 40 (Jk 41 ZG Z2 Zdp n):=by
 refine pc ht Tryz.func40 ?_
 intro args σ K h
 unfold Jk at h
 split at h
 ·obtain ⟨p1,l1,p2,l2,rfl,rfl,⟨rfl,hz,hn⟩,h⟩:=h
  have h:=h _ rfl
  have hlen1:(l1.map (ZG p1)).length=l1.length:=Te ..
  have hlen2:(l2.map (ZG p2)).length=l2.length:=Te ..
  have hsz:=Zj Zdp l1
  refine ⟨Za [(4,⟨[17],[0,1,2,15,16],fun vs σ=>∃i:Nat,vs=[.d (.int .i64 i)]∧σ=⟨[],[],0⟩∧i≤l1.length∧Yv Z2 l1 l2=Yv Z2 (l1.drop i) (l2.drop i),fun vs _=>match vs with | [.d (.int _ i)]=>((l1.length:Int) - i).toNat | _=>0⟩)],0,false,by simp,Tb rfl,?_⟩
  conv=>whnf
  refine ZCY (fun hc=>?_) (fun hc=>?_)
  ·exact m215
  have hc:l1.length=l2.length:=by have hc:((l1.map (ZG p1)).length:Int)=(l2.map (ZG p2)).length:=hc;rw [hlen1,hlen2] at hc;omega
  conv=>whnf
  refine ⟨⟨0,rfl,rfl,by omega,rfl⟩,?_⟩
  intro vs σ hI
  obtain ⟨i,rfl,rfl,hi,hs⟩:=hI
  conv=>whnf
  refine ZCX (fun hi2=>?_) (fun hi2=>?_)
  rotate_left
  ·exact m206
  have hi2:i<l1.length:=by have hi2:(i:Int)<(l1.map (ZG p1)).length:=hi2;rw [hlen1] at hi2;omega
  have hi3:i<l2.length:=by omega
  have hg:=Zn Zdp l1 i hi2
  rw [ZP _ hi2 hi3] at hs
  obtain ⟨eA,hA⟩:∃e,l1[i]=e:=⟨_,rfl⟩
  obtain ⟨eB,hB⟩:∃e,l2[i]=e:=⟨_,rfl⟩
  obtain ⟨a1,a2,a3,a4,a5,a6⟩:=eA
  obtain ⟨b1,b2,b3,b4,b5,b6⟩:=eB
  have hr1:(l1.map (ZG p1))[((i:Nat):Int).toNat]?=some ((ZG p1) (⟨a1,a2,a3,a4,a5,a6⟩:Re)):=by simp [hi2,hA]
  have hr2:(l2.map (ZG p2))[((i:Nat):Int).toNat]?=some ((ZG p2) (⟨b1,b2,b3,b4,b5,b6⟩:Re)):=by simp [hi3,hB]
  rw [hA,hB] at hs
  rw [hA] at hg
  have hneg:Z2 (⟨a1,a2,a3,a4,a5,a6⟩:Re) (⟨b1,b2,b3,b4,b5,b6⟩:Re)=false→K (.ret (.d (.bool false))) ⟨[],[],0⟩:=fun he=>by rw [hs,he,Tx] at h;exact h
  conv=>whnf
  refine ⟨_,by omega,hr1,?_⟩
  conv=>whnf
  refine ⟨_,by omega,hr2,?_⟩
  conv=>whnf
  refine ⟨by omega,p1,(⟨a1,a2,a3,a4,a5,a6⟩:Re),p2,(⟨b1,b2,b3,b4,b5,b6⟩:Re),rfl,rfl,⟨by omega,by omega⟩,fun b_1 hb1=>?_⟩
  exact m156
 ·exact h.elim
noncomputable def Zx9 (n:Nat):Tbl:=[(46,Ze9 Zr eqB n)]
theorem ZuE {n:Nat} (ht:TblOK (GG w0 nG) (Zx9 n)):PCalls (GG w0 nG) 48 (UJ ZQ Yy ZgG n):=by
 refine pc ht Tryz.func48 ?_
 intro args σ K h
 unfold UJ at h
 split at h
 ·obtain ⟨p1,⟨a1,a2,a3,a4⟩,p2,⟨b1,b2,b3,b4⟩,rfl,rfl,⟨hz,hn⟩,h⟩:=h
  have h:=h _ rfl
  simp only [ZgG] at hz
  refine ⟨Za [],0,false,by simp,Tb rfl,?_⟩
  conv=>whnf
  refine ZCX (fun hc0=>?_) (fun hc0=>?_)
  rotate_left
  ·rw [show Yy (⟨a1,a2,a3,a4⟩:Ini) (⟨b1,b2,b3,b4⟩:Ini)=false by simp [Yy,hc0]] at h;(conv=>whnf);exact h
  (try dsimp only at hc0)
  conv=>whnf
  refine ZCX (fun hc1=>?_) (fun hc1=>?_)
  rotate_left
  ·rw [show Yy (⟨a1,a2,a3,a4⟩:Ini) (⟨b1,b2,b3,b4⟩:Ini)=false by simp [Yy,hc1]] at h;(conv=>whnf);exact h
  (try dsimp only at hc1)
  conv=>whnf
  refine ⟨a3,b3,rfl,rfl,⟨by omega,by omega⟩,fun b_2 hc2=>?_⟩
  have he:Yy (⟨a1,a2,a3,a4⟩:Ini) (⟨b1,b2,b3,b4⟩:Ini)=b_2:=by simp [Yy,hc0,hc1,hc2]
  rw [he] at h
  exact m35
 ·exact h.elim
noncomputable def Zya (n:Nat):Tbl:=[(48,spB (UJ ZQ Yy ZgG) n)]
theorem ZuF {n:Nat} (ht:TblOK (GG w0 nG) (Zya n)):PCalls (GG w0 nG) 47 (Jk 48 ZQ Yy ZgG n):=by
 refine pc ht Tryz.func47 ?_
 intro args σ K h
 unfold Jk at h
 split at h
 ·obtain ⟨p1,l1,p2,l2,rfl,rfl,⟨rfl,hz,hn⟩,h⟩:=h
  have h:=h _ rfl
  have hlen1:(l1.map (ZQ p1)).length=l1.length:=Te ..
  have hlen2:(l2.map (ZQ p2)).length=l2.length:=Te ..
  have hsz:=Zj ZgG l1
  refine ⟨Za [(4,⟨[17],[0,1,2,15,16],fun vs σ=>∃i:Nat,vs=[.d (.int .i64 i)]∧σ=⟨[],[],0⟩∧i≤l1.length∧Yv Yy l1 l2=Yv Yy (l1.drop i) (l2.drop i),fun vs _=>match vs with | [.d (.int _ i)]=>((l1.length:Int) - i).toNat | _=>0⟩)],0,false,by simp,Tb rfl,?_⟩
  conv=>whnf
  refine ZCY (fun hc=>?_) (fun hc=>?_)
  ·have hc:l1.length≠l2.length:=fun g=>hc (by show ((l1.map (ZQ p1)).length:Int)=(l2.map (ZQ p2)).length;rw [hlen1,hlen2,g])
   exact m161
  have hc:l1.length=l2.length:=by have hc:((l1.map (ZQ p1)).length:Int)=(l2.map (ZQ p2)).length:=hc;rw [hlen1,hlen2] at hc;omega
  conv=>whnf
  refine ⟨⟨0,rfl,rfl,by omega,rfl⟩,?_⟩
  intro vs σ hI
  obtain ⟨i,rfl,rfl,hi,hs⟩:=hI
  conv=>whnf
  refine ZCX (fun hi2=>?_) (fun hi2=>?_)
  rotate_left
  ·have hi2:l1.length≤i:=by have hi2:¬(i:Int)<(l1.map (ZQ p1)).length:=hi2;rw [hlen1] at hi2;omega
   exact m27
  have hi2:i<l1.length:=by have hi2:(i:Int)<(l1.map (ZQ p1)).length:=hi2;rw [hlen1] at hi2;omega
  have hi3:i<l2.length:=by omega
  have hg:=Zn ZgG l1 i hi2
  rw [ZP _ hi2 hi3] at hs
  obtain ⟨eA,hA⟩:∃e,l1[i]=e:=⟨_,rfl⟩
  obtain ⟨eB,hB⟩:∃e,l2[i]=e:=⟨_,rfl⟩
  obtain ⟨a1,a2,a3,a4⟩:=eA
  obtain ⟨b1,b2,b3,b4⟩:=eB
  have hr1:(l1.map (ZQ p1))[((i:Nat):Int).toNat]?=some ((ZQ p1) (⟨a1,a2,a3,a4⟩:Ini)):=by simp [hi2,hA]
  have hr2:(l2.map (ZQ p2))[((i:Nat):Int).toNat]?=some ((ZQ p2) (⟨b1,b2,b3,b4⟩:Ini)):=by simp [hi3,hB]
  rw [hA,hB] at hs
  rw [hA] at hg
  have hneg:Yy (⟨a1,a2,a3,a4⟩:Ini) (⟨b1,b2,b3,b4⟩:Ini)=false→K (.ret (.d (.bool false))) ⟨[],[],0⟩:=fun he=>by rw [hs,he,Tx] at h;exact h
  conv=>whnf
  refine ⟨_,by omega,hr1,?_⟩
  conv=>whnf
  refine ⟨_,by omega,hr2,?_⟩
  conv=>whnf
  refine ⟨by omega,p1,(⟨a1,a2,a3,a4⟩:Ini),p2,(⟨b1,b2,b3,b4⟩:Ini),rfl,rfl,⟨by omega,by omega⟩,fun b_1 hb1=>?_⟩
  exact m156
 ·exact h.elim
theorem ZuG {n:Nat} :PCalls (GG w0 nG) 50 (UJ ZN X1 sz0 n):=by
 refine pc (tbl:=[]) trivial Tryz.func50 ?_
 intro args σ K h
 unfold UJ at h
 split at h
 ·obtain ⟨p1,⟨a1,a2⟩,p2,⟨b1,b2⟩,rfl,rfl,⟨hz,hn⟩,h⟩:=h
  have h:=h _ rfl
  refine ⟨Za [],0,false,by simp,Tb rfl,?_⟩
  conv=>whnf
  simp only [X1,decide_true,Tu] at h
  exact m35
 ·exact h.elim
noncomputable def Zyb (n:Nat):Tbl:=[(50,spB (UJ ZN X1 sz0) n)]
theorem ZuH {n:Nat} (ht:TblOK (GG w0 nG) (Zyb n)):PCalls (GG w0 nG) 49 (Jk 50 ZN X1 sz0 n):=by
 refine pc ht Tryz.func49 ?_
 intro args σ K h
 unfold Jk at h
 split at h
 ·obtain ⟨p1,l1,p2,l2,rfl,rfl,⟨rfl,hz,hn⟩,h⟩:=h
  have h:=h _ rfl
  have hlen1:(l1.map (ZN p1)).length=l1.length:=Te ..
  have hlen2:(l2.map (ZN p2)).length=l2.length:=Te ..
  have hsz:=Zj sz0 l1
  refine ⟨Za [(4,⟨[17],[0,1,2,15,16],fun vs σ=>∃i:Nat,vs=[.d (.int .i64 i)]∧σ=⟨[],[],0⟩∧i≤l1.length∧Yv X1 l1 l2=Yv X1 (l1.drop i) (l2.drop i),fun vs _=>match vs with | [.d (.int _ i)]=>((l1.length:Int) - i).toNat | _=>0⟩)],0,false,by simp,Tb rfl,?_⟩
  conv=>whnf
  refine ZCY (fun hc=>?_) (fun hc=>?_)
  ·have hc:l1.length≠l2.length:=fun g=>hc (by show ((l1.map (ZN p1)).length:Int)=(l2.map (ZN p2)).length;rw [hlen1,hlen2,g])
   exact m161
  have hc:l1.length=l2.length:=by have hc:((l1.map (ZN p1)).length:Int)=(l2.map (ZN p2)).length:=hc;rw [hlen1,hlen2] at hc;omega
  conv=>whnf
  refine ⟨⟨0,rfl,rfl,by omega,rfl⟩,?_⟩
  intro vs σ hI
  obtain ⟨i,rfl,rfl,hi,hs⟩:=hI
  conv=>whnf
  refine ZCX (fun hi2=>?_) (fun hi2=>?_)
  rotate_left
  ·have hi2:l1.length≤i:=by have hi2:¬(i:Int)<(l1.map (ZN p1)).length:=hi2;rw [hlen1] at hi2;omega
   exact m27
  have hi2:i<l1.length:=by have hi2:(i:Int)<(l1.map (ZN p1)).length:=hi2;rw [hlen1] at hi2;omega
  have hi3:i<l2.length:=by omega
  have hg:=Zn sz0 l1 i hi2
  rw [ZP _ hi2 hi3] at hs
  obtain ⟨eA,hA⟩:∃e,l1[i]=e:=⟨_,rfl⟩
  obtain ⟨eB,hB⟩:∃e,l2[i]=e:=⟨_,rfl⟩
  obtain ⟨a1,a2⟩:=eA
  obtain ⟨b1,b2⟩:=eB
  have hr1:(l1.map (ZN p1))[((i:Nat):Int).toNat]?=some ((ZN p1) (⟨a1,a2⟩:Ov)):=by simp [hi2,hA]
  have hr2:(l2.map (ZN p2))[((i:Nat):Int).toNat]?=some ((ZN p2) (⟨b1,b2⟩:Ov)):=by simp [hi3,hB]
  rw [hA,hB] at hs
  rw [hA] at hg
  have hneg:X1 (⟨a1,a2⟩:Ov) (⟨b1,b2⟩:Ov)=false→K (.ret (.d (.bool false))) ⟨[],[],0⟩:=fun he=>by rw [hs,he,Tx] at h;exact h
  conv=>whnf
  refine ⟨_,by omega,hr1,?_⟩
  conv=>whnf
  refine ⟨_,by omega,hr2,?_⟩
  conv=>whnf
  refine ⟨by omega,p1,(⟨a1,a2⟩:Ov),p2,(⟨b1,b2⟩:Ov),rfl,rfl,⟨by omega,by omega⟩,fun b_1 hb1=>?_⟩
  exact m156
 ·exact h.elim
noncomputable def Zyc (n:Nat):Tbl:=[(46,Ze9 Zr eqB n),(19,UJ Yf Yl Zc8 n)]
theorem ZuI {n:Nat} (ht:TblOK (GG w0 nG) (Zyc n)):PCalls (GG w0 nG) 45 (UJ ZW ZY Zbg n):=by
 refine pc ht Tryz.func45 ?_
 intro args σ K h
 unfold UJ at h
 split at h
 ·obtain ⟨p1,⟨a1,a2,a3,a4,⟨u1,u2,u3,u4,u5,u6⟩,a6⟩,p2,⟨b1,b2,b3,b4,⟨v1,v2,v3,v4,v5,v6⟩,b6⟩,rfl,rfl,⟨hz,hn⟩,h⟩:=h
  have h:=h _ rfl
  simp only [Zbg] at hz
  refine ⟨Za [],0,false,by simp,Tb rfl,?_⟩
  conv=>whnf
  refine ZCX (fun hc0=>?_) (fun hc0=>?_)
  rotate_left
  ·rw [show ZY (.mk a1 a2 a3 a4 (.mk u1 u2 u3 u4 u5 u6) a6) (.mk b1 b2 b3 b4 (.mk v1 v2 v3 v4 v5 v6) b6)=false by simp [ZY,hc0]] at h;(conv=>whnf);exact h
  (try dsimp only at hc0)
  conv=>whnf
  refine ZCX (fun hc1=>?_) (fun hc1=>?_)
  rotate_left
  ·rw [show ZY (.mk a1 a2 a3 a4 (.mk u1 u2 u3 u4 u5 u6) a6) (.mk b1 b2 b3 b4 (.mk v1 v2 v3 v4 v5 v6) b6)=false by simp [ZY,hc1]] at h;(conv=>whnf);exact h
  (try dsimp only at hc1)
  conv=>whnf
  refine ⟨a2,b2,rfl,rfl,⟨by omega,by omega⟩,fun b_2 hc2=>?_⟩
  cases b_2 with
  | false =>
   conv=>whnf
   rw [show ZY (.mk a1 a2 a3 a4 (.mk u1 u2 u3 u4 u5 u6) a6) (.mk b1 b2 b3 b4 (.mk v1 v2 v3 v4 v5 v6) b6)=false by simp [ZY,hc2]] at h;exact h
  | true =>
   conv=>whnf
   refine ⟨a4,b4,rfl,rfl,⟨by omega,by omega⟩,fun b_3 hc3=>?_⟩
   cases b_3 with
   | false =>
    conv=>whnf
    rw [show ZY (.mk a1 a2 a3 a4 (.mk u1 u2 u3 u4 u5 u6) a6) (.mk b1 b2 b3 b4 (.mk v1 v2 v3 v4 v5 v6) b6)=false by simp [ZY,hc3]] at h;exact h
   | true =>
    conv=>whnf
    refine ⟨p1,(.mk u1 u2 u3 u4 u5 u6),p2,(.mk v1 v2 v3 v4 v5 v6),rfl,rfl,⟨by omega,by omega⟩,fun b_4 hc4=>?_⟩
    have he:ZY (.mk a1 a2 a3 a4 (.mk u1 u2 u3 u4 u5 u6) a6) (.mk b1 b2 b3 b4 (.mk v1 v2 v3 v4 v5 v6) b6)=b_4:=by simp [ZY,hc0,hc1,hc2,hc3,hc4]
    rw [he] at h
    exact m35
 ·exact h.elim
noncomputable def Zyd (n:Nat):Tbl:=[(45,spB (UJ ZW ZY Zbg) n)]
theorem Zpb {n:Nat} (ht:TblOK (GG w0 nG) (Zyd n)):PCalls (GG w0 nG) 44 (Jk 45 ZW ZY Zbg n):=by
 refine pc ht Tryz.func44 ?_
 intro args σ K h
 unfold Jk at h
 split at h
 ·obtain ⟨p1,l1,p2,l2,rfl,rfl,⟨rfl,hz,hn⟩,h⟩:=h
  have h:=h _ rfl
  have hlen1:(l1.map (ZW p1)).length=l1.length:=Te ..
  have hlen2:(l2.map (ZW p2)).length=l2.length:=Te ..
  have hsz:=Zj Zbg l1
  refine ⟨Za [(4,⟨[17],[0,1,2,15,16],fun vs σ=>∃i:Nat,vs=[.d (.int .i64 i)]∧σ=⟨[],[],0⟩∧i≤l1.length∧Yv ZY l1 l2=Yv ZY (l1.drop i) (l2.drop i),fun vs _=>match vs with | [.d (.int _ i)]=>((l1.length:Int) - i).toNat | _=>0⟩)],0,false,by simp,Tb rfl,?_⟩
  conv=>whnf
  refine ZCY (fun hc=>?_) (fun hc=>?_)
  ·have hc:l1.length≠l2.length:=fun g=>hc (by show ((l1.map (ZW p1)).length:Int)=(l2.map (ZW p2)).length;rw [hlen1,hlen2,g])
   exact m161
  have hc:l1.length=l2.length:=by have hc:((l1.map (ZW p1)).length:Int)=(l2.map (ZW p2)).length:=hc;rw [hlen1,hlen2] at hc;omega
  conv=>whnf
  refine ⟨⟨0,rfl,rfl,by omega,rfl⟩,?_⟩
  intro vs σ hI
  obtain ⟨i,rfl,rfl,hi,hs⟩:=hI
  conv=>whnf
  refine ZCX (fun hi2=>?_) (fun hi2=>?_)
  rotate_left
  ·have hi2:l1.length≤i:=by have hi2:¬(i:Int)<(l1.map (ZW p1)).length:=hi2;rw [hlen1] at hi2;omega
   exact m27
  have hi2:i<l1.length:=by have hi2:(i:Int)<(l1.map (ZW p1)).length:=hi2;rw [hlen1] at hi2;omega
  have hi3:i<l2.length:=by omega
  have hg:=Zn Zbg l1 i hi2
  rw [ZP _ hi2 hi3] at hs
  obtain ⟨eA,hA⟩:∃e,l1[i]=e:=⟨_,rfl⟩
  obtain ⟨eB,hB⟩:∃e,l2[i]=e:=⟨_,rfl⟩
  obtain ⟨a1,a2,a3,a4,⟨u1,u2,u3,u4,u5,u6⟩,a6⟩:=eA
  obtain ⟨b1,b2,b3,b4,⟨v1,v2,v3,v4,v5,v6⟩,b6⟩:=eB
  have hr1:(l1.map (ZW p1))[((i:Nat):Int).toNat]?=some (ZW p1 (.mk a1 a2 a3 a4 (.mk u1 u2 u3 u4 u5 u6) a6)):=by simp [hi2,hA]
  have hr2:(l2.map (ZW p2))[((i:Nat):Int).toNat]?=some (ZW p2 (.mk b1 b2 b3 b4 (.mk v1 v2 v3 v4 v5 v6) b6)):=by simp [hi3,hB]
  rw [hA,hB] at hs
  rw [hA] at hg
  have hneg:ZY (.mk a1 a2 a3 a4 (.mk u1 u2 u3 u4 u5 u6) a6) (.mk b1 b2 b3 b4 (.mk v1 v2 v3 v4 v5 v6) b6)=false→K (.ret (.d (.bool false))) ⟨[],[],0⟩:=fun he=>by rw [hs,he,Tx] at h;exact h
  conv=>whnf
  refine ⟨_,by omega,hr1,?_⟩
  conv=>whnf
  refine ⟨_,by omega,hr2,?_⟩
  conv=>whnf
  refine ⟨by omega,p1,(.mk a1 a2 a3 a4 (.mk u1 u2 u3 u4 u5 u6) a6),p2,(.mk b1 b2 b3 b4 (.mk v1 v2 v3 v4 v5 v6) b6),rfl,rfl,⟨by omega,by omega⟩,fun b_1 hb1=>?_⟩
  exact m156
 ·exact h.elim
noncomputable def ZsU (n:Nat):Tbl:=[(38,Jk 39 Zx ZT ZeC n),(40,Jk 41 ZG Z2 Zdp n),(42,Jk 43 ZI YV Zdo n),(44,Jk 45 ZW ZY Zbg n),(47,Jk 48 ZQ Yy ZgG n),(49,Jk 50 ZN X1 sz0 n)]
theorem Zpc {n:Nat} (ht:TblOK (GG w0 nG) (ZsU n)):PCalls (GG w0 nG) 19 (UJ Yf Yl Zc8 n):=by
 refine pc ht Tryz.func19 ?_
 intro args σ K h
 unfold UJ at h
 split at h
 ·obtain ⟨p1,⟨a1,a2,a3,a4,a5,a6⟩,p2,⟨b1,b2,b3,b4,b5,b6⟩,rfl,rfl,⟨hz,hn⟩,h⟩:=h
  have h:=h _ rfl
  simp only [Zc8,YQ] at hz
  refine ⟨Za [],0,false,by simp,Tb rfl,?_⟩
  conv=>whnf
  refine ⟨p1,a1,p2,b1,rfl,rfl,⟨rfl,by omega,by omega⟩,fun b_0 hc0=>?_⟩
  cases b_0 with
  | false =>
   conv=>whnf
   rw [show Yl (.mk a1 a2 a3 a4 a5 a6) (.mk b1 b2 b3 b4 b5 b6)=false by simp [Yl,Xb,hc0]] at h;exact h
  | true =>
   conv=>whnf
   refine ⟨p1,a2,p2,b2,rfl,rfl,⟨rfl,by omega,by omega⟩,fun b_1 hc1=>?_⟩
   cases b_1 with
   | false =>
    conv=>whnf
    rw [show Yl (.mk a1 a2 a3 a4 a5 a6) (.mk b1 b2 b3 b4 b5 b6)=false by simp [Yl,Xb,hc1]] at h;exact h
   | true =>
    conv=>whnf
    refine ⟨p1,a3,p2,b3,rfl,rfl,⟨rfl,by omega,by omega⟩,fun b_2 hc2=>?_⟩
    cases b_2 with
    | false =>
     conv=>whnf
     rw [show Yl (.mk a1 a2 a3 a4 a5 a6) (.mk b1 b2 b3 b4 b5 b6)=false by simp [Yl,Xb,hc2]] at h;exact h
    | true =>
     conv=>whnf
     refine ⟨p1,a4,p2,b4,ZH _ _,ZH _ _,⟨rfl,by omega,by omega⟩,fun b_3 hc3=>?_⟩
     cases b_3 with
     | false =>
      conv=>whnf
      rw [show Yl (.mk a1 a2 a3 a4 a5 a6) (.mk b1 b2 b3 b4 b5 b6)=false by simp [Yl,Xb,hc3]] at h;exact h
     | true =>
      conv=>whnf
      refine ⟨p1,a5,p2,b5,rfl,rfl,⟨rfl,by omega,by omega⟩,fun b_4 hc4=>?_⟩
      cases b_4 with
      | false =>
       conv=>whnf
       rw [show Yl (.mk a1 a2 a3 a4 a5 a6) (.mk b1 b2 b3 b4 b5 b6)=false by simp [Yl,Xb,hc4]] at h;exact h
      | true =>
       conv=>whnf
       refine ⟨p1,a6,p2,b6,rfl,rfl,⟨rfl,by omega,by omega⟩,fun b_5 hc5=>?_⟩
       have he:Yl (.mk a1 a2 a3 a4 a5 a6) (.mk b1 b2 b3 b4 b5 b6)=b_5:=by simp [Yl,Xb,hc0,hc1,hc2,hc3,hc4,hc5]
       rw [he] at h
       exact m35
 ·exact h.elim
theorem Zlu (n:Nat) (h:PCalls (GG w0 nG) 44 (Jk 45 ZW ZY Zbg n)):TblOK (GG w0 nG) (ZsU n):=by
 have hF:TblOK (GG w0 nG) [(84,Ze9 Zt XH n)]:=⟨⟨ZgH,XL _ _ _⟩,trivial⟩
 have hS:TblOK (GG w0 nG) [(46,Ze9 Zr eqB n)]:=⟨⟨Zj9,XL _ _ _⟩,trivial⟩
 have lt:∀{g:FuncId} {sp:Nat→ZA},Ve (GG w0 nG).P g→(∀n,Zc (sp n))→(∀n,PCalls (GG w0 nG) g (sp n))→PCalls (GG w0 nG) g (spB sp n)∧Zc (spB sp n):=fun {g sp} he hm hp=>⟨by
  cases n with
  | zero=>exact ZK he
  | succ n=>exact ZL (hp n),Zy hm _⟩
 have hCa:∀n,PCalls (GG w0 nG) 85 (Jk 86 (fun _=>Zs) Yx Zbf n):=fun n=>Zuy ⟨by
  have hF:∀n,TblOK (GG w0 nG) [(84,Ze9 Zt XH n)]:=fun n=>⟨⟨ZgH,XL _ _ _⟩,trivial⟩
  cases n with
  | zero=>exact ⟨ZK (Zh Tryz.func86 (by kernel_rfl) rfl),Zy (YA _ _ _) _⟩
  | succ n=>exact ⟨ZL (sp:=UJ (fun _=>Zs) Yx Zbf) (Zuz (hF n)),Zy (YA _ _ _) _⟩,trivial⟩
 refine ⟨⟨ZuB ⟨lt (Zh Tryz.func39 (by kernel_rfl) rfl) (YA _ _ _) fun n=>ZuA ⟨⟨ZgH,XL _ _ _⟩,⟨hCa n,Yz _ _ _ _ _⟩,trivial⟩,trivial⟩,Yz _ _ _ _ _⟩,
  ⟨ZuD ⟨lt (Zh Tryz.func41 (by kernel_rfl) rfl) (YA _ _ _) fun n=>ZuC ⟨⟨ZgH,XL _ _ _⟩,trivial⟩,trivial⟩,Yz _ _ _ _ _⟩,
  ⟨Zuw ⟨lt (Zh Tryz.func43 (by kernel_rfl) rfl) (YA _ _ _) fun n=>Zux ⟨⟨(ZAL n).1,Yz _ _ _ _ _⟩,⟨(ZB8 n).1,Yz _ _ _ _ _⟩,trivial⟩,trivial⟩,Yz _ _ _ _ _⟩,
  ⟨h,Yz _ _ _ _ _⟩,
  ⟨ZuF ⟨lt (Zh Tryz.func48 (by kernel_rfl) rfl) (YA _ _ _) fun n=>ZuE ⟨⟨Zj9,XL _ _ _⟩,trivial⟩,trivial⟩,Yz _ _ _ _ _⟩,
  ⟨ZuH ⟨lt (Zh Tryz.func50 (by kernel_rfl) rfl) (YA _ _ _) fun n=>ZuG,trivial⟩,Yz _ _ _ _ _⟩,trivial⟩
theorem ZsV:∀n,PCalls (GG w0 nG) 19 (UJ Yf Yl Zc8 n)
 | 0=>Zpc (Zlu 0 (Zpb ⟨⟨ZK (Zh Tryz.func45 (by kernel_rfl) rfl),Zy (YA _ _ _) _⟩,trivial⟩))
 | n+1=>Zpc (Zlu _ (Zpb ⟨⟨ZL (sp:=UJ ZW ZY Zbg) (ZuI ⟨⟨Zj9,XL _ _ _⟩,⟨ZsV n,YA _ _ _ _⟩,trivial⟩),Zy (YA _ _ _) _⟩,trivial⟩))
end Go.PM.Lex
end

section
namespace Go.PM.Lex
theorem ZuJ {n len b0 b1 b2 b3 b1' b2' b3':Nat} (h1:1<n→b1'=b1) (h2:2<n→b2'=b2) (h3:3<n→b3'=b3) (hn:1≤n) (hd:(Lib.decodeN len b0 b1 b2 b3).2≤n) :
  Lib.decodeN (min n len) b0 b1' b2' b3'=Lib.decodeN len b0 b1 b2 b3:=by
 rcases Lib.decodeN_shape len b0 b1 b2 b3 with ⟨c,e⟩ | ⟨c1,c2,c3,cv,e⟩ | ⟨c1,c2,c3,c4,cv,cs,e⟩ | ⟨c1,c2,c3,c4,c5,cv,cw,e⟩ | e
 ·rw [e];unfold Lib.decodeN;rw [Th c]
 ·rw [e] at hd ⊢
  simp only at hd
  rw [h1 (by omega)]
  unfold Lib.decodeN
  rw [Tf (by omega),Th ⟨c1,by omega,c3⟩,Th (by omega)]
 ·rw [e] at hd ⊢
  simp only at hd
  rw [h1 (by omega),h2 (by omega)]
  exact m141
 ·rw [e] at hd ⊢
  simp only at hd
  rw [h1 (by omega),h2 (by omega),h3 (by omega)]
  exact m123
 ·rw [e]
  rcases Lib.decodeN_shape (min n len) b0 b1' b2' b3' with ⟨c,e'⟩ | ⟨c1,c2,c3,cv,e'⟩ | ⟨c1,c2,c3,c4,cv,cs,e'⟩ | ⟨c1,c2,c3,c4,c5,cv,cw,e'⟩ | e'
  ·unfold Lib.decodeN at e;rw [Th c] at e;rw [e',← e]
  ·rw [h1 (by omega)] at c3 cv
   unfold Lib.decodeN at e
   rw [Tf (by omega),Th ⟨c1,by omega,c3⟩,Th (by omega)] at e
   simp at e
  ·rw [h1 (by omega),h2 (by omega)] at *
   unfold Lib.decodeN at e
   rw [Tf (by omega),Tf (by omega),Th ⟨c1,⟨by omega,c3⟩,by omega,c4⟩,Th ⟨by omega,by omega⟩] at e
   simp at e
  ·rw [h1 (by omega),h2 (by omega),h3 (by omega)] at *
   unfold Lib.decodeN at e
   rw [Tf (by omega),Tf (by omega),Tf (by omega),Th ⟨c1,⟨by omega,c3⟩,⟨by omega,c4⟩,by omega,c5⟩,Th ⟨by omega,by omega⟩] at e
   simp at e
  ·exact e'
theorem ZbM (r:Bs) (n k:Nat):(r.take n).getD k 0=if k<n then r.getD k 0 else 0:=by
 simp only [T2,List.getElem?_take]
 split <;> simp
theorem ZrB {r:Bs} {n:Nat} (hn:1≤n) (hd:(Lib.decodeL r).2≤n):Lib.decodeL (r.take n)=Lib.decodeL r:=by
 rw [Lib.decodeL_N] at hd ⊢
 rw [Lib.decodeL_N,List.length_take,ZbM,ZbM,ZbM,ZbM,Th (by omega)]
 exact ZuJ (fun h=>by rw [Th h]) (fun h=>by rw [Th h]) (fun h=>by rw [Th h]) hn hd
theorem ZmX (f:Nat):YT f []=0:=by
 cases f with
 | zero=>rfl
 | succ f=>exact Uo (by simp [Zau]) (by simp [Zau];decide) (by simp [Zau];decide)
theorem Zpd {c:Int} (h:Zi c=true∨Zo c=true):c≠-1:=fun h1=>by rw [h1,JB,ZaU] at h;simp at h
end Go.PM.Lex
end

section
namespace Go.PM.Lex
abbrev ws:Bs:=[32,9,13,10]
theorem ZuK {a b:UInt8}:Lib.hasPrefix [] [a,b]=false:=rfl
theorem Zka (f:Nat):Zw (f+1) []=(true,0):=by simp [Zw,Lib.trimLeftS,ZuK]
theorem Vq {f:Nat} {r:Bs} (h1:Lib.hasPrefix (Lib.trimLeftS r ws) [47,47]=false) (h2:Lib.hasPrefix (Lib.trimLeftS r ws) [47,42]=false):Zw (f+1) r=(true,r.length - (Lib.trimLeftS r ws).length):=by
 simp only [Zw,h1,h2,Tr,if_false]
theorem VP {f:Nat} {r:Bs} (h1:Lib.hasPrefix (Lib.trimLeftS r ws) [47,47]=true) (n:Nat) (hn:n=if Lib.indexByte (Lib.trimLeftS r ws) 10<0 then (Lib.trimLeftS r ws).length else (Lib.indexByte (Lib.trimLeftS r ws) 10).toNat) :
  Zw (f+1) r=((Zw f ((Lib.trimLeftS r ws).drop n)).1,r.length - (Lib.trimLeftS r ws).length+n+(Zw f ((Lib.trimLeftS r ws).drop n)).2):=by
 subst hn
 simp only [Zw,h1,if_true]
theorem VQ {f:Nat} {r:Bs} (h1:Lib.hasPrefix (Lib.trimLeftS r ws) [47,47]=false) (h2:Lib.hasPrefix (Lib.trimLeftS r ws) [47,42]=true) (h3:Lib.index ((Lib.trimLeftS r ws).drop 2) [42,47]<0):Zw (f+1) r=(false,r.length - (Lib.trimLeftS r ws).length):=by
 simp only [Zw,h1,h2,h3,if_true,Tr,if_false]
theorem U4 {f:Nat} {r:Bs} (h1:Lib.hasPrefix (Lib.trimLeftS r ws) [47,47]=false) (h2:Lib.hasPrefix (Lib.trimLeftS r ws) [47,42]=true) (i:Nat) (h3:Lib.index ((Lib.trimLeftS r ws).drop 2) [42,47]=i) :
  Zw (f+1) r=((Zw f ((Lib.trimLeftS r ws).drop (i+4))).1,r.length - (Lib.trimLeftS r ws).length+(i+4)+(Zw f ((Lib.trimLeftS r ws).drop (i+4))).2):=by
 simp only [Zw,h1,h2,h3,if_true,Tr,if_false]
 rw [Tf (by omega)]
 simp
theorem Zpe (r:Bs):(Lib.trimLeftS r ws).length≤r.length:=(VO (ws.contains ·) r).2
theorem ZmY:Z3 []=(true,0):=Zka 0
end Go.PM.Lex
end

section
namespace Go.PM.Lex
theorem Zye {len len' b0 b1 b2 b3 b1' b2' b3':Nat} (hl:len≤len') (h1:1<len→b1'=b1) (h2:2<len→b2'=b2) (h3:3<len→b3'=b3) (hv:Lib.decodeN len b0 b1 b2 b3≠(65533,1)) :
  Lib.decodeN len' b0 b1' b2' b3'=Lib.decodeN len b0 b1 b2 b3:=by
 rcases Lib.decodeN_shape len b0 b1 b2 b3 with ⟨c,e⟩ | ⟨c1,c2,c3,cv,e⟩ | ⟨c1,c2,c3,c4,cv,cs,e⟩ | ⟨c1,c2,c3,c4,c5,cv,cw,e⟩ | e
 ·rw [e];unfold Lib.decodeN;rw [Th c]
 ·rw [e,h1 (by omega)]
  unfold Lib.decodeN
  rw [Tf (by omega),Th ⟨c1,by omega,c3⟩,Th (by omega)]
 ·rw [e,h1 (by omega),h2 (by omega)]
  exact m141
 ·rw [e,h1 (by omega),h2 (by omega),h3 (by omega)]
  exact m123
 ·exact absurd e hv
theorem VR (x y:Bs) (k:Nat) (h:k<x.length):(x++y).getD k 0=x.getD k 0:=by
 simp only [T2];rw [TH h]
theorem ZgI {x y:Bs} (hx:x≠[]) (hv:Lib.decodeL x≠(65533,1)):Lib.decodeL (x++y)=Lib.decodeL x:=by
 have hpos:=T8.2 hx
 rw [Lib.decodeL_N] at hv ⊢
 rw [Lib.decodeL_N,VR x y 0 hpos]
 exact Zye (by rw [Ta];omega) (fun h=>by rw [VR x y 1 h]) (fun h=>by rw [VR x y 2 h]) (fun h=>by rw [VR x y 3 h]) hv
theorem Zyf {x y:Bs} (h:(pk x).1≠-1):pk (x++y)=pk x:=by
 have hx:=(Zq4 x h).2.2
 unfold pk at h ⊢
 split at h
 ·exact absurd rfl h
 ·rename_i g
  rw [Tf g]
  simp only [not_or] at g
  have e:=ZgI (y:=y) hx g.2
  rw [e,Tf (by simp only [not_or];exact ⟨by simp [hx],g.2⟩)]
theorem ZfV {y:Bs}:∀(f:Nat) (x:Bs) (esc:Bool) (acc:Bs) (p:Nat) (t:Bs) (l:Nat),ZO f x esc acc p=.ok t l→∀f',x.length<f'→ZO f' (x++y) esc acc p=.ok t l
 | 0,x,esc,acc,p,t,l,h,f',hf=>by simp [ZO] at h
 | f+1,x,esc,acc,p,t,l,h,f',hf=>by
  obtain ⟨g,rfl⟩:∃g,f'=g+1:=⟨f' - 1,by omega⟩
  unfold ZO at h
  split at h
  ·cases h
  ·rename_i hne
   have hd:=Lib.decodeL_le x hne
   have hr:=Zcl x
   have hne':¬x++y=[]:=by simp [hne]
   have hdr:(x++y).drop (Lib.decodeL x).2=x.drop (Lib.decodeL x).2++y:=Sj hd
   have low:(Lib.decodeL x).1<128→Lib.decodeL (x++y)=Lib.decodeL x:=fun h=>ZgI hne (fun g=>by rw [g] at h;simp at h)
   have rec':∀es ac,ZO f (x.drop (Lib.decodeL x).2) es ac (p+(Lib.decodeL x).2)=.ok t l→ZO g ((x++y).drop (Lib.decodeL x).2) es ac (p+(Lib.decodeL x).2)=.ok t l:=fun es ac h=>by
    rw [hdr];exact ZfV f _ _ _ _ _ _ h g (by rw [Tv];omega)
   unfold ZO
   rw [Tf hne']
   split at h
   ·rename_i he
    rw [Th he]
    split at h
    ·cases h
    ·rename_i b hb
     have hlow:(Lib.decodeL x).1<128:=by
      unfold ZqH at hb
      repeat' split at hb
      all_goals first | omega | cases hb
     rw [low hlow,hb]
     exact rec' _ _ h
   ·rename_i he
    rw [Tf he]
    split at h
    ·rename_i h34
     rw [low (by omega),Th h34];exact h
    ·rename_i h34
     split at h
     ·rename_i h92
      rw [low (by omega),Tf h34,Th h92]
      exact rec' _ _ h
     ·rename_i h92
      split at h
      ·cases h
      ·rename_i h32
       have hv:Lib.decodeL x≠(65533,1):=fun g=>by
        apply h32
        unfold pk;rw [Th (.inr g)];decide
       have e:pk (x++y)=pk x:=Zyf (by omega)
       rw [ZgI hne hv,Tf h34,Tf h92,e,Tf h32]
       exact rec' _ _ h
end Go.PM.Lex
end
