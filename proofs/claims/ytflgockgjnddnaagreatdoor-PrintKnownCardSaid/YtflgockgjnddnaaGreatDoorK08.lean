/- A part of the proof: plain logic, contracts and laws over the given program. -/
import Derived.Test.YtflgockgjnddnaaGreatDoorMore
import Derived.Lib.AppendIntMem
import Derived.WalkKit
import Derived.Test.YtflgockgjnddnaaGreatDoorK07
set_option linter.unusedVariables false
set_option linter.unusedSimpArgs false
set_option linter.all false
set_option maxRecDepth 100000
set_option maxHeartbeats 16000000
section
namespace Go.PM.Lex
open Go.Proofs
variable {w0:World} {nG:Nat}
noncomputable def ZuY (n:Nat):Tbl:=[(72,YQ Zhg YP wBs n),(122,XI 123 (fun _=>ZN) YG wFi n),(179,XI 180 (fun _=>Z6) Xr wCa n)]
theorem ZuZ {n:Nat} (ht:TblOK (GG w0 nG) (ZuY n)):PCalls (GG w0 nG) 119 (YQ (YH Y4) Z0 wTy n):=by
 refine pc ht Tryz.func119 ?_
 intro args σ K h
 unfold YQ at h
 split at h
 ·obtain ⟨pl,⟨a1,a2,a3,a4,a5,a6⟩,rfl,⟨hz,hn⟩,h⟩:=h
  simp only [wTy] at hz
  refine ⟨Zb [],0,false,by simp,Tb rfl,?_⟩
  have hl4:(a4.map ZN).length=a4.length:=Tf ..
  have hl5:(a5.map Z6).length=a5.length:=Tf ..
  have hz4:(((a4.map ZN).length:Int)=0)↔a4.length=0:=by rw [hl4];omega
  have hz5:(((a5.map Z6).length:Int)=0)↔a5.length=0:=by rw [hl5];omega
  conv=>whnf
  refine Zyq (fun hk=>?_) (fun hk=>?_)
  ·(try dsimp only at hk)
   have hk:a1=1:=by omega
   conv=>whnf
   refine ⟨fun _=>0,a3,rfl,⟨by simp only [wBs];omega,by omega⟩,fun b hb0=>?_⟩
   cases b with
   | false =>
    conv=>whnf
    have htb:Zay (⟨a1,a2,a3,a4,a5,a6⟩:Ty)=false:=by simp [Zay,hk,hb0]
    exact m72
   | true =>
    conv=>whnf
    refine Zyq (fun h4=>?_) (fun h4=>?_)
    ·have h4:=hz4.1 h4
     conv=>whnf
     refine Zyq (fun h5=>?_) (fun h5=>?_)
     ·have h5:=hz5.1 h5
      have htb:Zay (⟨a1,a2,a3,a4,a5,a6⟩:Ty)=true:=by simp [Zay,hk,hb0,h4,h5]
      exact m20
     ·have h5:¬a5.length=0:=fun g=>h5 (hz5.2 g)
      have htb:Zay (⟨a1,a2,a3,a4,a5,a6⟩:Ty)=false:=by simp [Zay,hk,hb0,h4,h5]
      exact m72
    ·have h4:¬a4.length=0:=fun g=>h4 (hz4.2 g)
     have htb:Zay (⟨a1,a2,a3,a4,a5,a6⟩:Ty)=false:=by simp [Zay,hk,hb0,h4]
     exact m72
  conv=>whnf
  refine Zyq (fun hk2=>?_) (fun hk2=>?_)
  ·(try dsimp only at hk2)
   have hk2:a1=2:=by omega
   conv=>whnf
   refine Zyq (fun hb0=>?_) (fun hb0=>?_)
   rotate_left
   ·have htb:Zay (⟨a1,a2,a3,a4,a5,a6⟩:Ty)=false:=by simp [Zay,hk2,hb0]
    exact m72
   (try dsimp only at hb0)
   conv=>whnf
   refine Zyq (fun h5=>?_) (fun h5=>?_)
   ·have h5:=hz5.1 h5
    have htb:Zay (⟨a1,a2,a3,a4,a5,a6⟩:Ty)=true:=by simp [Zay,hk2,hb0,h5]
    exact m20
   ·have h5:¬a5.length=0:=fun g=>h5 (hz5.2 g)
    have htb:Zay (⟨a1,a2,a3,a4,a5,a6⟩:Ty)=false:=by simp [Zay,hk2,hb0,h5]
    exact m72
  conv=>whnf
  refine Zyq (fun hk3=>?_) (fun hk3=>?_)
  ·(try dsimp only at hk3)
   have hk3:a1=3:=by omega
   conv=>whnf
   refine Zyq (fun hb0=>?_) (fun hb0=>?_)
   rotate_left
   ·have htb:Zay (⟨a1,a2,a3,a4,a5,a6⟩:Ty)=false:=by simp [Zay,hk3,hb0]
    exact m72
   (try dsimp only at hb0)
   conv=>whnf
   refine Zyq (fun h4=>?_) (fun h4=>?_)
   ·have h4:=hz4.1 h4
    conv=>whnf
    refine Zyv (fun h5=>?_) (fun h5=>?_)
    ·have h5:¬a5.length=0:=fun g=>h5 (hz5.2 g)
     have htb:Zay (⟨a1,a2,a3,a4,a5,a6⟩:Ty)=true:=by simp [Zay,hk3,hb0,h4,h5]
     exact m20
    ·have h5:=hz5.1 h5
     have htb:Zay (⟨a1,a2,a3,a4,a5,a6⟩:Ty)=false:=by simp [Zay,hk3,hb0,h4,h5]
     exact m72
   ·have h4:¬a4.length=0:=fun g=>h4 (hz4.2 g)
    have htb:Zay (⟨a1,a2,a3,a4,a5,a6⟩:Ty)=false:=by simp [Zay,hk3,hb0,h4]
    exact m72
  (try dsimp only at hk hk2 hk3)
  have hk:¬a1=1:=by omega
  have hk2:¬a1=2:=by omega
  have hk3:¬a1=3:=by omega
  have htb:Zay (⟨a1,a2,a3,a4,a5,a6⟩:Ty)=false:=by simp [Zay,hk,hk2,hk3]
  exact m72
 ·exact h.elim
noncomputable def Zu0 (n:Nat):Tbl:=[(72,YQ Zhg YP wBs n),(127,XI 72 (fun _=>ZM) YP wBs n),(67,YQ (YH XF) ZbL wUn n)]
theorem Zu1 {n:Nat} (ht:TblOK (GG w0 nG) (Zu0 n)):PCalls (GG w0 nG) 126 (YQ (YH YM) ZP wCo n):=by
 refine pc ht Tryz.func126 ?_
 intro args σ K h
 unfold YQ at h
 split at h
 ·obtain ⟨pl,⟨a1,a2,a3,a4,⟨u1,u2,u3,u4,u5,u6⟩,a6⟩,rfl,⟨hz,hn⟩,h⟩:=h
  simp only [wCo] at hz
  refine ⟨Zb [],0,false,by simp,Tb rfl,?_⟩
  have hl4:(a4.map ZM).length=a4.length:=Tf ..
  have hz4:(((a4.map ZM).length:Int)=0)↔a4.length=0:=by rw [hl4];omega
  conv=>whnf
  refine Zyq (fun hb=>?_) (fun hb=>?_)
  ·conv=>whnf
   refine Zyq (fun h4=>?_) (fun h4=>?_)
   ·have h4:=hz4.1 h4
    have hbs:((decide (a3=[]) && decide (a4.length=0)) || YP a3)=true:=by simp [hb,h4]
    exact m14
   ·have h4:¬a4.length=0:=fun g=>h4 (hz4.2 g)
    conv=>whnf
    refine ⟨fun _=>0,a3,rfl,⟨by simp only [wBs];omega,by omega⟩,fun b hb0=>?_⟩
    cases b with
    | false =>
     have hbs:((decide (a3=[]) && decide (a4.length=0)) || YP a3)=false:=by simp [h4,hb0]
     exact m30
    | true =>
     have hbs:((decide (a3=[]) && decide (a4.length=0)) || YP a3)=true:=by simp [h4,hb0]
     exact m14
  conv=>whnf
  refine ⟨fun _=>0,a3,rfl,⟨by simp only [wBs];omega,by omega⟩,fun b hb0=>?_⟩
  cases b with
  | false =>
   have hbs:((decide (a3=[]) && decide (a4.length=0)) || YP a3)=false:=by simp [hb,hb0]
   exact m30
  | true =>
   have hbs:((decide (a3=[]) && decide (a4.length=0)) || YP a3)=true:=by simp [hb,hb0]
   exact m14
 ·exact h.elim
noncomputable def Zu2 (n:Nat):Tbl:=[(118,XI 119 Y4 Z0 wTy n),(120,XI 121 Y1 XQ wRe n),(124,XI 63 Yp Yq wRu n),(125,spB (XI 126 YM ZP wCo) n),(128,XI 129 Y9 Wa wIn n),(130,XI 131 Xa WK wOv n)]
theorem Zpo {n:Nat} (ht:TblOK (GG w0 nG) (Zu2 n)):PCalls (GG w0 nG) 67 (YQ (YH XF) ZbL wUn n):=by
 refine pc ht Tryz.func67 ?_
 intro args σ K h
 unfold YQ at h
 split at h
 ·obtain ⟨pl,⟨a1,a2,a3,a4,a5,a6⟩,rfl,⟨hz,hn⟩,h⟩:=h
  simp only [wUn,Zfl] at hz
  refine ⟨Zb [],0,false,by simp,Tb rfl,?_⟩
  conv=>whnf
  refine ⟨pl,a1,rfl,⟨rfl,by omega,by omega⟩,fun b ha0=>?_⟩
  cases b with
  | false =>
   conv=>whnf
   exact h _ (by simp [ZbL,Wb,ha0])
  | true =>
   conv=>whnf
   refine ⟨pl,a2,rfl,⟨rfl,by omega,by omega⟩,fun b ha1=>?_⟩
   cases b with
   | false =>
    conv=>whnf
    exact h _ (by simp [ZbL,Wb,ha0,ha1])
   | true =>
    conv=>whnf
    refine ⟨pl,a3,rfl,⟨rfl,by omega,by omega⟩,fun b ha2=>?_⟩
    cases b with
    | false =>
     conv=>whnf
     exact h _ (by simp [ZbL,Wb,ha0,ha1,ha2])
    | true =>
     conv=>whnf
     refine ⟨by omega,pl,a4,Zal _ _,⟨rfl,by omega,by omega⟩,fun b ha3=>?_⟩
     cases b with
     | false =>
      conv=>whnf
      exact h _ (by simp [ZbL,Wb,ha0,ha1,ha2,ha3])
     | true =>
      conv=>whnf
      refine ⟨pl,a5,rfl,⟨rfl,by omega,by omega⟩,fun b ha4=>?_⟩
      cases b with
      | false =>
       conv=>whnf
       exact h _ (by simp [ZbL,Wb,ha0,ha1,ha2,ha3,ha4])
      | true =>
       conv=>whnf
       refine ⟨pl,a6,rfl,⟨rfl,by omega,by omega⟩,fun b ha5=>?_⟩
       conv=>whnf
       exact h _ (by simp [ZbL,Wb,ha0,ha1,ha2,ha3,ha4,ha5])
 ·exact h.elim
structure LexC (w0:World) (nG:Nat):Prop where
 name:PCalls (GG w0 nG) 147 Zbb
 quote:PCalls (GG w0 nG) 73 JR
variable (hL:LexC w0 nG)
include hL
theorem Zky (n:Nat):PCalls (GG w0 nG) 72 (YQ Zhg YP wBs n):=ZuJ ⟨⟨hL.name,ZgP⟩,⟨ZhY,JJ⟩,trivial⟩
theorem cHE:∀n,PCalls (GG w0 nG) 29 (YQ (YH YU) ZO wE n)
 | 0=>ZuW ⟨⟨Zol,Zaz⟩,⟨Zky hL _,Zq _ _ _ _⟩,⟨hL.quote,W6⟩,⟨Xj (Zj Tryz.func74 (by kernel_rfl) rfl),YE (Zs _ _ _ _) _⟩,trivial⟩
 | n+1=>ZuW ⟨⟨Zol,Zaz⟩,⟨Zky hL _,Zq _ _ _ _⟩,⟨hL.quote,W6⟩,⟨Xk (sp:=XI 29 YU ZO wE) (Zwu (cHE n)),YE (Zs _ _ _ _) _⟩,trivial⟩
theorem cHL:∀n,PCalls (GG w0 nG) 109 (YQ (YH WR) YI wL n)
 | 0=>ZuX ⟨⟨Zky hL _,Zq _ _ _ _⟩,⟨Zwu (cHE hL 0),Zs _ _ _ _ _⟩,⟨Xj (Zj Tryz.func108 (by kernel_rfl) rfl),YE (Zs _ _ _ _) _⟩,trivial⟩
 | n+1=>ZuX ⟨⟨Zky hL _,Zq _ _ _ _⟩,⟨Zwu (cHE hL _),Zs _ _ _ _ _⟩,⟨Xk (sp:=XI 109 WR YI wL) (ZxI (cHL n)),YE (Zs _ _ _ _) _⟩,trivial⟩
theorem Zxa (n:Nat):PCalls (GG w0 nG) 63 (YQ (YH Yp) Yq wRu n):=ZuV ⟨⟨Zky hL _,Zq _ _ _ _⟩,⟨Zwu (cHE hL _),Zs _ _ _ _ _⟩,⟨ZxI (cHL hL _),Zs _ _ _ _ _⟩,trivial⟩
theorem Zxb (n:Nat):PCalls (GG w0 nG) 122 (XI 123 (fun _=>ZN) YG wFi n):=Zw4 (ZuL ⟨⟨Zky hL _,Zq _ _ _ _⟩,trivial⟩)
theorem ZxJ (n:Nat):PCalls (GG w0 nG) 119 (YQ (YH Y4) Z0 wTy n):=ZuZ ⟨⟨Zky hL _,Zq _ _ _ _⟩,⟨Zxb hL n,Zs _ _ _ _ _⟩,⟨Zw5 (ZuN ⟨⟨Zky hL _,Zq _ _ _ _⟩,⟨Zxb hL n,Zs _ _ _ _ _⟩,trivial⟩),Zs _ _ _ _ _⟩,trivial⟩
theorem ZxK (n:Nat):PCalls (GG w0 nG) 121 (YQ (YH Y1) XQ wRe n):=ZuP ⟨⟨Zky hL _,Zq _ _ _ _⟩,⟨Zxb hL n,Zs _ _ _ _ _⟩,trivial⟩
theorem ZxL (n:Nat):PCalls (GG w0 nG) 127 (XI 72 (fun _=>ZM) YP wBs n):=Zw7 (Zky hL n)
theorem ZxM (n:Nat):PCalls (GG w0 nG) 129 (YQ (YH Y9) Wa wIn n):=ZuR ⟨⟨Zky hL _,Zq _ _ _ _⟩,⟨ZxL hL n,Zs _ _ _ _ _⟩,trivial⟩
theorem ZxN (n:Nat):PCalls (GG w0 nG) 131 (YQ (YH Xa) WK wOv n):=ZuT ⟨⟨Zky hL _,Zq _ _ _ _⟩,trivial⟩
theorem ZxO:∀n,PCalls (GG w0 nG) 67 (YQ (YH XF) ZbL wUn n)
 | 0=>Zpo ⟨⟨ZuE (ZxJ hL _),Zs _ _ _ _ _⟩,⟨ZuF (ZxK hL _),Zs _ _ _ _ _⟩,⟨ZuD (Zxa hL _),Zs _ _ _ _ _⟩,⟨Xj (Zj Tryz.func125 (by kernel_rfl) rfl),YE (Zs _ _ _ _) _⟩,⟨ZuG (ZxM hL _),Zs _ _ _ _ _⟩,⟨ZuH (ZxN hL _),Zs _ _ _ _ _⟩,trivial⟩
 | n+1=>Zpo ⟨⟨ZuE (ZxJ hL _),Zs _ _ _ _ _⟩,⟨ZuF (ZxK hL _),Zs _ _ _ _ _⟩,⟨ZuD (Zxa hL _),Zs _ _ _ _ _⟩,⟨Xk (sp:=XI 126 YM ZP wCo) (Zw6 (Zu1 ⟨⟨Zky hL _,Zq _ _ _ _⟩,⟨ZxL hL _,Zs _ _ _ _ _⟩,⟨ZxO n,Zq _ _ _ _⟩,trivial⟩)),YE (Zs _ _ _ _) _⟩,⟨ZuG (ZxM hL _),Zs _ _ _ _ _⟩,⟨ZuH (ZxN hL _),Zs _ _ _ _ _⟩,trivial⟩
end Go.PM.Lex
end

section
namespace Go.PM.Lex
open Go.Proofs Go.Shelf Go.RowKit
variable {w0:World} {nG:Nat}
theorem Zxc:liesAt Tryz.prog Tryz.prog.depth 84 (2 / Tryz.prog.cellsOf 84) 0 82 1=true:=by kernel_rfl
theorem Zig (b:Nat) (w:World) (h0:w.cell? ⟨b,0,none⟩=some (.pointer none)) (hsh:w.shape? b=some (84,2)) (hfz:w.frozen? ⟨b,0,none⟩=false) :
  Calls Tryz.prog 214 #[.pointer (some ⟨b,0,none⟩)] w fun e w'=>e=.returned (.tuple #[])∧w'=w.setCell ⟨b,0,none⟩ (.pointer (some ⟨b,0,none⟩)):=by
 obtain ⟨j,hj,hjs⟩:=i53
 go_enter Tryz.func214,Tryz.ntmps214
 go_wp2
 rw [Go.Lib.run_to_unsafe w ⟨b,0,none⟩ u50 u95 hj (by rw [hjs];decide) hsh (Nat.zero_lt_succ 1)]
 simp only [Result.andThen]
 rw [Oper.upon_value]
 go_wp2
 rw [run_callFunc_extern Tryz.func269 (by kernel_rfl) (by kernel_rfl) (by kernel_rfl) (e:=Extern.AbiNoEscape.same) (by kernel_rfl)]
 rw [Go.Lib.run_noEscape]
 simp only [Result.andThen]
 rw [Oper.upon_value]
 go_wp2
 rw [Go.Lib.run_from_unsafe w ⟨b,0,none⟩ u95 u50 hj hsh Zxc]
 simp only [Result.andThen]
 rw [Oper.upon_value]
 go_wp2
 go_end0
 exact ⟨rfl,rfl⟩
noncomputable def Wc:Zu:=fun args σ K=>match args,σ with
 | [.ptr 0 0],⟨[.cells t [p,q]],tk,nx⟩=>((p=.d .nilp∨p=.ptr 0 0)∧t=84)∧K (.ret (.tuple [])) ⟨[.cells t [.ptr 0 0,q]],tk,nx⟩
 | _,_=>False
theorem Zbc:Zc Wc:=fun args σ K K' hK h=>by
 unfold Wc at h ⊢;split at h <;> first | exact ⟨h.1,hK _ _ h.2⟩ | exact h.elim
theorem Zfm:PCalls (GG w0 nG) 214 Wc:=VT (Zj Tryz.func214 (by kernel_rfl) rfl) fun args σ K h e w vs hS ha=>by
 unfold Wc at h
 split at h
 ·rename_i t p q tk nx
  obtain ⟨⟨hp,rfl⟩,hK⟩:=h
  obtain ⟨u,rfl,hu⟩:=Zgd ha
  obtain ⟨cv,hc1,hc2,hc3⟩:=hS.box 0 _ rfl
  have hcs:cv.size=2:=hc2
  obtain ⟨x0,hx0⟩:∃x,cv[0]?=some x:=⟨cv[0]'(by omega),by simp [hcs]⟩
  have hr0:=(hc3 0 p x0 rfl hx0).1
  cases hu with
  | ptr b off hb =>
  refine ⟨_,_,.tuple #[],hK,?_⟩
  rcases hp with rfl | rfl
  ·cases hr0 with
   | d _ _ hd =>
   cases hd
   refine Calls.mono (Zig (e.β 0) w ?_ ?_ ?_) fun en w' ⟨h1,h2⟩=>?_
   ·simp [World.cell?,hc1,hx0]
   ·simp only [World.shape?,hc1,hcs]
   ·simp [World.frozen?,hc1]
   ·have hst:=ZcJ (G:=GG w0 nG) (T:=ZhK) Y6 hS (t:=79) (b:=0) (off:=0) (x:=.ptr 0 0) (v:=.pointer (some ⟨e.β 0,0,none⟩)) (l:=[.ptr 0 0]) (cs:=[.d .nilp,q]) (ty:=84) rfl (.ptr 0 0 hb) rfl rfl (by simp) (by intro h;cases h)
    rw [h2]
    exact ⟨h1,.tuple [] #[] rfl (fun i x u hx=>by simp at hx),hst.2,hst.1.toLater⟩
  ·exact m80
 ·exact h.elim
theorem ZkA {ty:TypeId} {P:Program} {ρ:Ren} (L:Lays.n169 P ρ) (X:Builder.Extra P ρ) (b g cap:Nat) (p:Value) (cur:Array Value) (fz:Nat×Nat) (l:Bs) (w:World) (h0:l≠[])
  (hbk:w.heap[b]?=some (.cells #[p,.slice (some ⟨g,0,none⟩) l.length cap] ty (0,0))) (hg:w.heap[g]?=some (.cells cur (ρ.t 5) fz)) (hn:l.length≤cur.size) (hcap:cap≠0) (hbig:l.length≤9223372036854775807)
  (hcell:∀j x,l[j]?=some x→w.cell? ⟨g,j,none⟩=some (.int .u8 x.toNat)) :
  Calls P (ρ.f 169) #[.pointer (some ⟨b,0,none⟩)] w fun e w'=>e=.returned (.string ⟨l.toArray⟩)∧w'=w.drew.freeze ⟨g,0,none⟩ l.length:=by
 have c1:w.drew.cell? ⟨b,1,none⟩=some (.slice (some ⟨g,0,none⟩) l.length cap):=by
  have:w.drew.heap[b]?=some (.cells #[p,.slice (some ⟨g,0,none⟩) l.length cap] ty (0,0)):=hbk
  rw [Go.Lib.cell_of_heap this];rfl
 have hSD:(Builtin.unsafeSliceData_ #[(ρ.t 37)] (ρ.t 127) #[.slice (some ⟨g,0,none⟩) l.length cap]).run P w.drew=.ok (.pointer (some ⟨g,0,none⟩)) w.drew :=
  Go.Lib.run_unsafeSliceData_row _ _ _ _ _ _ hcap
 have hUS:(Builtin.unsafeString_ #[(ρ.t 127),(ρ.t 3)] (ρ.t 9) #[.pointer (some ⟨g,0,none⟩),.int .i64 l.length]).run P w.drew=.ok (.string ⟨l.toArray⟩) (w.drew.freeze ⟨g,0,none⟩ l.length):=by
  exact m68
 have mixed:=L.mixed
 have t72:=L.t72;have a72:=L.a72;have z72:=L.z72;have v72:=L.v72;have u72:=run_underlying L.t72
 have t70:=L.t70;have a70:=L.a70;have z70:=L.z70;have v70:=L.v70;have u70:=run_underlying L.t70
 have t37:=L.t37;have a37:=L.a37;have z37:=L.z37;have v37:=L.v37;have u37:=run_underlying L.t37
 have t127:=L.t127;have a127:=L.a127;have z127:=L.z127;have v127:=L.v127;have u127:=run_underlying L.t127
 have t3:=L.t3;have a3:=L.a3;have z3:=L.z3;have v3:=L.v3;have u3:=run_underlying L.t3
 have t9:=L.t9;have a9:=L.a9;have z9:=L.z9;have v9:=L.v9;have u9:=run_underlying L.t9
 have t5:=X.t5;have a5:=X.a5;have z5:=X.z5;have v5:=X.v5;have u5:=run_underlying X.t5
 go_enter L.f169,Body.n169_ntmps ρ
 go_wp2
 go_region_o
 all_goals (go_wp2;go_ret;exact ⟨rfl,rfl⟩)
theorem Zon {ty:TypeId} {P:Program} {ρ:Ren} (L:Lays.n169 P ρ) (X:Builder.Extra P ρ) (B b:Nat) (p:Value) (w:World) (hbk:w.heap[b]?=some (.cells #[p,.slice none 0 0] ty (0,0))) :
  Calls P (ρ.f 169) #[.pointer (some ⟨b,0,none⟩)] w fun e w'=>e=.returned (.string ⟨#[]⟩)∧Below B w w':=by
 have hUS:=Any.unsafeString_none L X
 have c1:w.drew.cell? ⟨b,1,none⟩=some (.slice none 0 0):=by
  have:w.drew.heap[b]?=some (.cells #[p,.slice none 0 0] ty (0,0)):=hbk
  rw [Lib.cell_of_heap this];rfl
 have hSD:(Builtin.unsafeSliceData_ #[(ρ.t 37)] (ρ.t 127) #[.slice none 0 0]).run P w.drew=.ok (.pointer none) w.drew:=rfl
 have mixed:=L.mixed
 have t72:=L.t72;have a72:=L.a72;have z72:=L.z72;have v72:=L.v72;have u72:=run_underlying L.t72
 have t70:=L.t70;have a70:=L.a70;have z70:=L.z70;have v70:=L.v70;have u70:=run_underlying L.t70
 have t37:=L.t37;have a37:=L.a37;have z37:=L.z37;have v37:=L.v37;have u37:=run_underlying L.t37
 have t127:=L.t127;have a127:=L.a127;have z127:=L.z127;have v127:=L.v127;have u127:=run_underlying L.t127
 have t3:=L.t3;have a3:=L.a3;have z3:=L.z3;have v3:=L.v3;have u3:=run_underlying L.t3
 have t9:=L.t9;have a9:=L.a9;have z9:=L.z9;have v9:=L.v9;have u9:=run_underlying L.t9
 have t5:=X.t5;have a5:=X.a5;have z5:=X.z5;have v5:=X.v5;have u5:=run_underlying X.t5
 go_enter L.f169,Body.n169_ntmps ρ
 go_wp2
 go_region_o
 all_goals (go_wp2;go_ret;exact ⟨rfl,Below.drew (Below.refl B w)⟩)
theorem ZmC {ty:TypeId} {P:Program} {ρ:Ren} (L:Lays.n169 P ρ) (X:Builder.Extra P ρ) (B b g cap:Nat) (p:Value) (w:World) (hc0:cap≠0) (hbk:w.heap[b]?=some (.cells #[p,.slice (some ⟨g,0,none⟩) 0 cap] ty (0,0))) :
  Calls P (ρ.f 169) #[.pointer (some ⟨b,0,none⟩)] w fun e w'=>e=.returned (.string ⟨#[]⟩)∧Below B w w':=by
 have hUS:=Any.unsafeString_none L X
 have c1:w.drew.cell? ⟨b,1,none⟩=some (.slice (some ⟨g,0,none⟩) 0 cap):=by
  have:w.drew.heap[b]?=some (.cells #[p,.slice (some ⟨g,0,none⟩) 0 cap] ty (0,0)):=hbk
  rw [Lib.cell_of_heap this];rfl
 have hSD:(Builtin.unsafeSliceData_ #[(ρ.t 37)] (ρ.t 127) #[.slice (some ⟨g,0,none⟩) 0 cap]).run P w.drew=.ok (.pointer (some ⟨g,0,none⟩)) w.drew:=Go.Lib.run_unsafeSliceData_row _ _ _ _ _ _ hc0
 clear hc0
 have mixed:=L.mixed
 have t72:=L.t72;have a72:=L.a72;have z72:=L.z72;have v72:=L.v72;have u72:=run_underlying L.t72
 have t70:=L.t70;have a70:=L.a70;have z70:=L.z70;have v70:=L.v70;have u70:=run_underlying L.t70
 have t37:=L.t37;have a37:=L.a37;have z37:=L.z37;have v37:=L.v37;have u37:=run_underlying L.t37
 have t127:=L.t127;have a127:=L.a127;have z127:=L.z127;have v127:=L.v127;have u127:=run_underlying L.t127
 have t3:=L.t3;have a3:=L.a3;have z3:=L.z3;have v3:=L.v3;have u3:=run_underlying L.t3
 have t9:=L.t9;have a9:=L.a9;have z9:=L.z9;have v9:=L.v9;have u9:=run_underlying L.t9
 have t5:=X.t5;have a5:=X.a5;have z5:=X.z5;have v5:=X.v5;have u5:=run_underlying X.t5
 go_enter L.f169,Body.n169_ntmps ρ
 go_wp2
 go_region_o
 all_goals (go_wp2;go_ret;exact ⟨rfl,Below.drew (Below.refl B w)⟩)
end Go.PM.Lex
end

section
namespace Go.PM.Lex
open Go.Proofs
variable {w0:World} {nG:Nat}
noncomputable def Zhh (r:PV) (body:List PV→Bs→Prop):Zu:=fun args σ K=>match args,σ with
 | .ptr 0 0::rest,⟨[.cells t [p,.sl 0 e rows]],[0],1⟩=>∃l txt,rows=Zi l∧((p=.d .nilp∨p=.ptr 0 0)∧t=84∧e=5)∧body rest txt∧l.length+txt.length<70368744177664 ∧
   K (.ret r) ⟨[.cells t [.ptr 0 0,.sl 0 e (Zi (l++txt))]],[0],1⟩
 | _,_=>False
theorem WN (r:PV) (body:List PV→Bs→Prop):Zc (Zhh r body):=fun args σ K K' hK h=>by
 unfold Zhh at h ⊢
 split at h
 ·obtain ⟨l,txt,h1,h2,h3,h4,h5⟩:=h;exact ⟨l,txt,h1,h2,h3,h4,hK _ _ h5⟩
 ·exact h.elim
noncomputable def Zdh {α:Type} (val:Pl→α→PV) (may:α→Bool) (txt:α→Bs) (w:α→Nat) (n:Nat):Zu:=fun args σ K=>match args,σ with
 | [v,.ptr 0 0],⟨[.cells tp [.ptr 1 0],.cells t [.ptr 1 0,.sl 0 e rows]],[0],1⟩=>∃l pl x,rows=Zi l∧v=val pl x∧(t=84∧e=5)∧(may x=true∧w x≤n∧n≤1073741824)∧l.length+(txt x).length<70368744177664 ∧
   K (.ret (.tuple [])) ⟨[.cells tp [.ptr 1 0],.cells t [.ptr 1 0,.sl 0 e (Zi (l++txt x))]],[0],1⟩
 | _,_=>False
theorem Zbd {α:Type} (val:Pl→α→PV) (may:α→Bool) (txt:α→Bs) (w:α→Nat) (n:Nat):Zc (Zdh val may txt w n):=fun args σ K K' hK h=>by
 unfold Zdh at h ⊢
 exact m83
noncomputable def ZkB {α:Type} (g0:FuncId) (enc:Pl→α→List D) (may:α→Bool) (txt:α→Bs) (w:α→Nat) (n:Nat):Zu:=fun args σ K=>match args,σ with
 | [.ptr 0 0,.d (.sl r),.d (.str bt),.func g [] [.ptr 1 0]],⟨[.cells t [.ptr 0 0,.sl 0 e rows],.cells tp [.ptr 0 0]],[0],1⟩=>∃l pl xs,rows=Zi l∧r=xs.map (enc pl)∧(t=84∧e=5∧g=g0)∧(xs.all may=true∧szS w xs≤n∧n≤1073741824)∧l.length+(Zf bt (xs.map txt)).length<70368744177664 ∧
   K (.ret (.tuple [])) ⟨[.cells t [.ptr 0 0,.sl 0 e (Zi (l++Zf bt (xs.map txt)))],.cells tp [.ptr 0 0]],[0],1⟩
 | _,_=>False
theorem ZaA {α:Type} (g0:FuncId) (enc:Pl→α→List D) (may:α→Bool) (txt:α→Bs) (w:α→Nat) (n:Nat):Zc (ZkB g0 enc may txt w n):=fun args σ K K' hK h=>by
 unfold ZkB at h ⊢
 exact m83
noncomputable def ZxP (s:Bs):Zu:=Zhh (.tuple [.d (.int .i64 s.length),.d .nili]) fun rest txt=>rest=[.d (.str s)]∧txt=s
noncomputable def Zfn:Zu:=fun args σ K=>match args with
 | [.ptr 0 0,.d (.str s)]=>ZxP s args σ K
 | _=>False
theorem VE:Zc Zfn:=fun args σ K K' hK h=>by
 unfold Zfn at h ⊢
 split at h
 ·exact WN _ _ _ _ _ _ hK h
 ·exact h.elim
noncomputable def Zu5:Tbl:=[(214,Wc)]
theorem ZmD:PCalls (GG w0 nG) 155 Zfn:=by
 refine pc (tbl:=Zu5) ⟨⟨Zfm,Zbc⟩,trivial⟩ Tryz.func155 ?_
 intro args σ K h
 unfold Zfn at h
 split at h
 ·rename_i s
  unfold ZxP Zhh at h
  split at h
  ·rename_i rest t p e rows hargs
   obtain ⟨l,txt,rfl,⟨hp,rfl,rfl⟩,⟨hrest,rfl⟩,hlen,h⟩:=h
   simp only [List.cons.injEq,true_and] at hargs
   have hb:∀x:Bs,(Zi x).length=x.length:=fun x=>by simp [Zi]
   rw [Vw] at h
   refine ⟨Zb [],1,true,by simp,Tb rfl,?_⟩
   rcases hp with rfl | rfl
   all_goals
    conv=>whnf
    first | refine ⟨⟨.inl rfl,rfl⟩,?_⟩ | refine ⟨⟨.inr rfl,rfl⟩,?_⟩
    conv=>whnf
    refine ⟨fun r hr=>?_,?_,?_,?_⟩
    ·obtain ⟨b,_,rfl⟩:=Sx.1 hr;rfl
    ·show ((Zi l).length+(Zi txt).length) * 1≤2 ^ 47;rw [hb,hb];omega
    ·show (Zi l).length+(Zi txt).length≤2 ^ 47;rw [hb,hb];omega
    ·exact m46
  ·exact h.elim
 ·exact h.elim
noncomputable def ZdQ:Zu:=Zhh (.tuple []) fun rest txt=>∃ps:List Bs,rest=[.d (.sl (ps.map ZM))]∧ps≠[]∧ps.length≤1073741824∧txt=ps.flatten
theorem Yv:Zc ZdQ:=WN _ _
noncomputable def ZmE:Tbl:=[(155,Zfn)]
theorem ZgT:TblOK (GG w0 nG) ZmE:=⟨⟨ZmD,VE⟩,trivial⟩
theorem Jn:PCalls (GG w0 nG) 75 ZdQ:=by
 refine Zf9 Y6 mixed (tbl:=ZmE) ZgT Tryz.func75 rfl (by kernel_rfl) (by kernel_rfl) ?_
 intro args σ K h
 unfold ZdQ Zhh at h
 split at h
 ·rename_i rest t p e rows
  obtain ⟨l,txt,rfl,⟨hp,rfl,rfl⟩,⟨ps,rfl,hne,hpl,rfl⟩,hlen,h⟩:=h
  have hl1:(ps.map ZM).length=ps.length:=Tf ..
  refine ⟨Zb [(1,⟨[8],[0,6,7],fun vs σ=>∃(i:Nat) (P:PV),vs=[.d (.int .i64 i)]∧σ=⟨[.cells 84 [P,.sl 0 5 (Zi (l++(ps.take i).flatten))]],[0],1⟩∧(P=.d .nilp∨P=.ptr 0 0)∧(0<i→P=.ptr 0 0)∧i≤ps.length,fun vs _=>match vs with | [.d (.int _ i)]=>((ps.length:Int) - i).toNat | _=>0⟩)],1,true,by simp,Tb rfl,?_⟩
  rcases hp with rfl | rfl
  all_goals
   conv=>whnf
   refine ⟨⟨0,_,rfl,(by simp only [TY,Sz,TM];rfl),(by first | exact .inl rfl | exact .inr rfl),fun g=>absurd g (by omega),by omega⟩,?_⟩
   intro vs σ hI
   obtain ⟨i,P,rfl,rfl,hP,hP0,hi⟩:=hI
   conv=>whnf
   refine Zyq (fun hi2=>?_) (fun hi2=>?_)
   ·have hi2:i<ps.length:=by have hi2:(i:Int)<(ps.map ZM).length:=hi2;rw [hl1] at hi2;omega
    obtain ⟨s,hs⟩:∃s,ps[i]=s:=⟨_,rfl⟩
    have hr1:(ps.map ZM)[((i:Nat):Int).toNat]?=some (ZM s):=by simp [hi2,hs]
    have htk:(ps.take (i+1)).flatten=(ps.take i).flatten++s:=by rw [List.take_succ_eq_append_getElem hi2,List.flatten_append,hs];simp
    have hle:(ps.take (i+1)).flatten.length≤ps.flatten.length:=by
     have e:ps.flatten=(ps.take (i+1)).flatten++(ps.drop (i+1)).flatten:=by rw [← List.flatten_append,List.take_append_drop]
     rw [e,Ta];omega
    rw [htk,Ta] at hle
    rcases hP with rfl | rfl
    all_goals
     conv=>whnf
     refine ⟨_,by omega,hr1,?_⟩
     conv=>whnf
     refine ⟨l++(ps.take i).flatten,s,rfl,⟨(by first | exact .inl rfl | exact .inr rfl),rfl,rfl⟩,⟨rfl,rfl⟩,by rw [Ta];omega,?_⟩
     conv=>whnf
     refine oiO ?_
     conv=>whnf
     refine ⟨⟨i+1,_,rfl,(by rw [htk,Tk];rfl),.inr rfl,fun _=>rfl,by omega⟩,?_⟩
     show ((ps.length:Int) - ((i:Int)+1)).toNat<((ps.length:Int) - (i:Int)).toNat
     omega
   ·have hi2:i=ps.length:=by have hi2:¬(i:Int)<(ps.map ZM).length:=hi2;rw [hl1] at hi2;omega
    subst hi2
    obtain rfl:=hP0 (T5.2 hne)
    rw [T8]
    exact m46
 ·exact h.elim
theorem Zdi (bt:Bs):∀(l:List Bs) (x:Bs),Zf bt (l++[x])=if l=[] then x else Zf bt l++(bt++x)
 | [],x=>rfl
 | [y],x=>by simp [Zf]
 | y::z::l,x=>by
  have ih:=Zdi bt (z::l) x
  simp only [Sr] at ih ⊢
  rw [Zf,ih] <;> simp [Zf]
theorem V3 {α:Type} (bt:Bs) (f:α→Bs) {xs:List α} {i:Nat} (h:i<xs.length):Zf bt ((xs.take (i+1)).map f)=if i=0 then f xs[i] else Zf bt ((xs.take i).map f)++(bt++f xs[i]):=by
 rw [List.take_succ_eq_append_getElem h,List.map_append,TA,TN,Zdi]
 have e:((xs.take i).map f=[])↔i=0:=by
  rw [← Su,Tf,T9];omega
 by_cases h0:i=0
 ·rw [Ti (e.2 h0),Ti h0]
 ·rw [Te (fun g=>h0 (e.1 g)),Te h0]
theorem ZaB (bt:Bs):∀(l m:List Bs),(Zf bt l).length≤(Zf bt (l++m)).length
 | [],m=>T4 _
 | [x],[]=>Tp _
 | [x],y::m=>by simp only [Sr,T6,Zf,Ta];omega
 | x::y::l,m=>by
  have ih:=ZaB bt (y::l) m
  simp only [Sr,Zf,Ta] at ih ⊢;omega
theorem ZaC {α:Type} (bt:Bs) (f:α→Bs) (xs:List α) (i:Nat):(Zf bt ((xs.take i).map f)).length≤(Zf bt (xs.map f)).length:=by
 have h:=ZaB bt ((xs.take i).map f) ((xs.drop i).map f)
 rwa [← List.map_append,List.take_append_drop] at h
noncomputable def Zr8 (n:Nat):Tbl:=[(155,Zfn),(196,Zdh (YH (fun _=>ZN)) YG fiT wFi n)]
theorem Zr9 {n:Nat} (ht:TblOK (GG w0 nG) (Zr8 n)):PCalls (GG w0 nG) 195 (ZkB 196 (fun _=>ZN) YG fiT wFi n):=by
 refine pc ht Tryz.func195 ?_
 intro args σ K h
 unfold ZkB at h
 split at h
 ·rename_i r bt g t e rows tp
  obtain ⟨l,pl,xs,rfl,rfl,⟨rfl,rfl,rfl⟩,⟨hmay,hz,hn⟩,hlen,h⟩:=h
  have hl1:(xs.map ((fun _=>ZN) pl)).length=xs.length:=Tf ..
  have hsz:=ZW wFi xs
  refine ⟨Zb [(1,⟨[12],[0,1,2,3,10,11],fun vs σ=>∃i:Nat,vs=[.d (.int .i64 i)]∧σ=⟨[.cells 84 [.ptr 0 0,.sl 0 5 (Zi (l++Zf bt ((xs.take i).map fiT)))],.cells tp [.ptr 0 0]],[0],1⟩∧i≤xs.length,fun vs _=>match vs with | [.d (.int _ i)]=>((xs.length:Int) - i).toNat | _=>0⟩)],2,true,by simp,Tb rfl,?_⟩
  conv=>whnf
  refine ⟨⟨0,rfl,(by simp only [TY,TN,Zf,TM];rfl),by omega⟩,?_⟩
  intro vs σ hI
  obtain ⟨i,rfl,rfl,hi⟩:=hI
  conv=>whnf
  refine Zyq (fun hi2=>?_) (fun hi2=>?_)
  ·have hi2:i<xs.length:=by have hi2:(i:Int)<(xs.map ((fun _=>ZN) pl)).length:=hi2;rw [hl1] at hi2;omega
   have hg:=Z1 wFi xs i hi2
   have hmx:YG xs[i]=true:=Tl.1 hmay _ (TE hi2)
   have htk:=V3 bt fiT hi2
   have hle:=ZaC bt fiT xs (i+1)
   obtain ⟨eA,hA⟩:∃x,xs[i]=x:=⟨_,rfl⟩
   obtain ⟨a1,a2⟩:=eA
   rw [hA] at hg hmx htk
   have hr1:(xs.map ((fun _=>ZN) pl))[((i:Nat):Int).toNat]?=some ((fun _=>ZN) pl ⟨a1,a2⟩):=by simp [hi2,hA]
   conv=>whnf
   refine ⟨_,by omega,hr1,?_⟩
   conv=>whnf
   refine Zyq (fun h0=>?_) (fun h0=>?_)
   ·have h0:0<i:=by omega
    rw [Te (by omega)] at htk
    rw [htk] at hle
    simp only [Ta] at hle
    conv=>whnf
    refine ⟨l++Zf bt ((xs.take i).map fiT),bt,rfl,⟨.inr rfl,rfl,rfl⟩,⟨rfl,rfl⟩,by simp only [Ta];omega,?_⟩
    conv=>whnf
    refine ⟨l++Zf bt ((xs.take i).map fiT)++bt,pl,⟨a1,a2⟩,rfl,rfl,⟨rfl,rfl⟩,⟨hmx,by omega,by omega⟩,by simp only [Ta];omega,?_⟩
    exact m36
   ·obtain rfl:i=0:=by omega
    rw [Ti rfl] at htk
    rw [htk] at hle
    conv=>whnf
    refine ⟨l++Zf bt ((xs.take 0).map fiT),pl,⟨a1,a2⟩,rfl,rfl,⟨rfl,rfl⟩,⟨hmx,by omega,by omega⟩,by simp only [TY,TN,Zf,Ta,Td];omega,?_⟩
    exact m34
  ·have hi2:i=xs.length:=by have hi2:¬(i:Int)<(xs.map ((fun _=>ZN) pl)).length:=hi2;rw [hl1] at hi2;omega
   subst hi2
   rw [T8]
   exact m46
 ·exact h.elim
noncomputable def Zsa (n:Nat):Tbl:=[(155,Zfn),(134,Zdh (YH (fun _=>Z6)) Xr caT wCa n)]
theorem Zsb {n:Nat} (ht:TblOK (GG w0 nG) (Zsa n)):PCalls (GG w0 nG) 133 (ZkB 134 (fun _=>Z6) Xr caT wCa n):=by
 refine pc ht Tryz.func133 ?_
 intro args σ K h
 unfold ZkB at h
 split at h
 ·rename_i r bt g t e rows tp
  obtain ⟨l,pl,xs,rfl,rfl,⟨rfl,rfl,rfl⟩,⟨hmay,hz,hn⟩,hlen,h⟩:=h
  have hl1:(xs.map ((fun _=>Z6) pl)).length=xs.length:=Tf ..
  have hsz:=ZW wCa xs
  refine ⟨Zb [(1,⟨[12],[0,1,2,3,10,11],fun vs σ=>∃i:Nat,vs=[.d (.int .i64 i)]∧σ=⟨[.cells 84 [.ptr 0 0,.sl 0 5 (Zi (l++Zf bt ((xs.take i).map caT)))],.cells tp [.ptr 0 0]],[0],1⟩∧i≤xs.length,fun vs _=>match vs with | [.d (.int _ i)]=>((xs.length:Int) - i).toNat | _=>0⟩)],2,true,by simp,Tb rfl,?_⟩
  conv=>whnf
  refine ⟨⟨0,rfl,(by simp only [TY,TN,Zf,TM];rfl),by omega⟩,?_⟩
  intro vs σ hI
  obtain ⟨i,rfl,rfl,hi⟩:=hI
  conv=>whnf
  refine Zyq (fun hi2=>?_) (fun hi2=>?_)
  ·have hi2:i<xs.length:=by have hi2:(i:Int)<(xs.map ((fun _=>Z6) pl)).length:=hi2;rw [hl1] at hi2;omega
   have hg:=Z1 wCa xs i hi2
   have hmx:Xr xs[i]=true:=Tl.1 hmay _ (TE hi2)
   have htk:=V3 bt caT hi2
   have hle:=ZaC bt caT xs (i+1)
   obtain ⟨eA,hA⟩:∃x,xs[i]=x:=⟨_,rfl⟩
   obtain ⟨a1,a2⟩:=eA
   rw [hA] at hg hmx htk
   have hr1:(xs.map ((fun _=>Z6) pl))[((i:Nat):Int).toNat]?=some ((fun _=>Z6) pl ⟨a1,a2⟩):=by simp [hi2,hA]
   conv=>whnf
   refine ⟨_,by omega,hr1,?_⟩
   conv=>whnf
   refine Zyq (fun h0=>?_) (fun h0=>?_)
   ·have h0:0<i:=by omega
    rw [Te (by omega)] at htk
    rw [htk] at hle
    simp only [Ta] at hle
    conv=>whnf
    refine ⟨l++Zf bt ((xs.take i).map caT),bt,rfl,⟨.inr rfl,rfl,rfl⟩,⟨rfl,rfl⟩,by simp only [Ta];omega,?_⟩
    conv=>whnf
    refine ⟨l++Zf bt ((xs.take i).map caT)++bt,pl,⟨a1,a2⟩,rfl,rfl,⟨rfl,rfl⟩,⟨hmx,by omega,by omega⟩,by simp only [Ta];omega,?_⟩
    exact m36
   ·obtain rfl:i=0:=by omega
    rw [Ti rfl] at htk
    rw [htk] at hle
    conv=>whnf
    refine ⟨l++Zf bt ((xs.take 0).map caT),pl,⟨a1,a2⟩,rfl,rfl,⟨rfl,rfl⟩,⟨hmx,by omega,by omega⟩,by simp only [TY,TN,Zf,Ta,Td];omega,?_⟩
    exact m34
  ·have hi2:i=xs.length:=by have hi2:¬(i:Int)<(xs.map ((fun _=>Z6) pl)).length:=hi2;rw [hl1] at hi2;omega
   subst hi2
   rw [T8]
   exact m46
 ·exact h.elim
end Go.PM.Lex
end

section
namespace Go.PM.Lex
open Go.Proofs
def Zxd:Tab:=(.node (.node (.node (.node .leaf 3 ⟨1,8,.int .i64,[.d (.int .i64 (0))],true⟩ .leaf) 4 ⟨1,1,.bool,[.d (.bool false)],false⟩ .leaf) 5 ⟨1,1,.int .u8,[.d (.int .u8 (0))],true⟩ (.node .leaf 9 ⟨1,16,.string,[.d (.str [])],false⟩ .leaf)) 80 ⟨1,24,.slice 5,[.nils 5],false⟩ (.node (.node .leaf 131 ⟨1,8,.int .u64,[.d (.int .u64 (0))],true⟩ .leaf) 261 ⟨1,8,.int .u64,[.d (.int .u64 (0))],true⟩ (.node .leaf 305 ⟨65,65,.array 65 5,[.d (.int .u8 (0)),.d (.int .u8 (0)),.d (.int .u8 (0)),.d (.int .u8 (0)),.d (.int .u8 (0)),.d (.int .u8 (0)),.d (.int .u8 (0)),.d (.int .u8 (0)),.d (.int .u8 (0)),.d (.int .u8 (0)),.d (.int .u8 (0)),.d (.int .u8 (0)),.d (.int .u8 (0)),.d (.int .u8 (0)),.d (.int .u8 (0)),.d (.int .u8 (0)),.d (.int .u8 (0)),.d (.int .u8 (0)),.d (.int .u8 (0)),.d (.int .u8 (0)),.d (.int .u8 (0)),.d (.int .u8 (0)),.d (.int .u8 (0)),.d (.int .u8 (0)),.d (.int .u8 (0)),.d (.int .u8 (0)),.d (.int .u8 (0)),.d (.int .u8 (0)),.d (.int .u8 (0)),.d (.int .u8 (0)),.d (.int .u8 (0)),.d (.int .u8 (0)),.d (.int .u8 (0)),.d (.int .u8 (0)),.d (.int .u8 (0)),.d (.int .u8 (0)),.d (.int .u8 (0)),.d (.int .u8 (0)),.d (.int .u8 (0)),.d (.int .u8 (0)),.d (.int .u8 (0)),.d (.int .u8 (0)),.d (.int .u8 (0)),.d (.int .u8 (0)),.d (.int .u8 (0)),.d (.int .u8 (0)),.d (.int .u8 (0)),.d (.int .u8 (0)),.d (.int .u8 (0)),.d (.int .u8 (0)),.d (.int .u8 (0)),.d (.int .u8 (0)),.d (.int .u8 (0)),.d (.int .u8 (0)),.d (.int .u8 (0)),.d (.int .u8 (0)),.d (.int .u8 (0)),.d (.int .u8 (0)),.d (.int .u8 (0)),.d (.int .u8 (0)),.d (.int .u8 (0)),.d (.int .u8 (0)),.d (.int .u8 (0)),.d (.int .u8 (0)),.d (.int .u8 (0))],false⟩ .leaf)))
theorem Zoo:TabOK Zxd Tryz.prog:=by unfold TabOK;kernel_rfl
end Go.PM.Lex
end

section
namespace Go.PM.Lex
open Go.Proofs Go.Shelf Go.RowKit
variable {w0:World} {nG:Nat}
structure NumOK (w0:World) (nG:Nat):Prop where
 big:7<nG
 pow : Lib.TabIs Tryz.prog w0 "internal/strconv.uint64pow10" .u64 Lib.pow10Tab
 bru:w0.cell? ⟨5,15,none⟩=some (.int .u8 4)
theorem Zu6:IntKind.u64.wrap (bits BinOp.and IntKind.u64 (16:Int) (IntKind.u64.wrap (-(16:Int))) * 285870213051353865) / 288230376151711744=(15:Int):=by decide +kernel
theorem Zsc (w:World) (hcell:w.cell? ⟨5,15,none⟩=some (.int .u8 4)):Calls Tryz.prog 306 #[.int .u64 16] w fun e w'=>e=.returned (.int .i64 4)∧w'=w:=by
 go_enter Tryz.func306,Tryz.ntmps306
 go_wp2_with (simp only [Zu6])
 go_ret
 exact ⟨rfl,rfl⟩
theorem ZbN:∀(f n:Nat),n<f→Lib.decDigits n=JS 10 f n
 | 0,n,h=>by omega
 | f+1,n,h=>by
  rw [Lib.decDigits,JS]
  by_cases c:n<10
  ·rw [dif_pos c,Ti c,Zhf,Ti c]
  ·rw [dif_neg c,Te c,ZbN f (n / 10) (by omega),Zhf,Ti (by omega)]
theorem ZmF {n:Int} (h:0≤n):Lib.itoa n=Zdz n:=by
 rw [Lib.itoa,Te (by omega),Zdz,Te (by omega),VD]
 exact ZbN _ _ (by omega)
theorem Zop {e:Env} {σ:St} {w:World} {name:String} {k:IntKind} {zs:List Int} {g:Nat} (hS:SRel (GG w0 nG) e σ w) (h:Lib.TabIs Tryz.prog w0 name k zs) (hg:Tryz.prog.globalNamed name=some g) (hlt:g<nG):Lib.TabIs Tryz.prog w name k zs:=by
 unfold Lib.TabIs World.var? at h ⊢
 rw [hg] at h ⊢
 simp only [Option.bind_some] at h ⊢
 rw [hS.glob g hlt];exact h
theorem Zsd {e:Env} {σ:St} {w:World} {k i:Nat} {u:Value} (hS:SRel (GG w0 nG) e σ w) (hk:k<nG) (h:w0.cell? ⟨k,i,none⟩=some u):w.cell? ⟨k,i,none⟩=some u:=by
 have:=hS.glob k hk
 simpa [World.cell?,this] using h
noncomputable def ZgU:Zu:=fun args σ K=>match args,σ with
 | [.d (.int .i64 n),.d (.int .i64 b)],⟨[],[],0⟩=>(b=10∧0≤n∧n<9223372036854775808)∧K (.ret (.d (.str (Zdz n)))) ⟨[],[],0⟩
 | _,_=>False
theorem Zdj:Zc ZgU:=fun args σ K K' hK h=>by
 unfold ZgU at h ⊢;split at h <;> first | exact ⟨h.1,hK _ _ h.2⟩ | exact h.elim
theorem ZmG (hN:NumOK w0 nG):PCalls (GG w0 nG) 78 ZgU:=Yu (Zj Tryz.func78 (by kernel_rfl) rfl) fun args σ K h e w vs hS ha=>by
 unfold ZgU at h
 split at h
 ·rename_i n b
  obtain ⟨⟨rfl,h0,h1⟩,h⟩:=h
  obtain ⟨u,v,rfl,hu,hv⟩:=Zge ha
  cases hu.dint;cases hv.dint
  have ht:=Zop hS hN.pow (g:=3) (by kernel_rfl) (by have:=hN.big;omega)
  have hc:=Tryz.strconv_FormatInt_10 n (by omega) (by omega) w ht
  rw [ZmF h0] at hc
  exact ⟨_,h,_,fun _ _=>.mkstr,hc.mono fun en w' ⟨h1,k,os,h2⟩=>⟨h1,Zyx (by rw [h2];exact Lib.below_grow w.heap.size w (Tp _) k os)⟩⟩
 ·exact h.elim
noncomputable def Zpp:Zu:=fun args σ K=>match args,σ with
 | [.d (.int .u64 n)],⟨[],[],0⟩=>n=16∧K (.ret (.d (.int .i64 4))) ⟨[],[],0⟩
 | _,_=>False
theorem ZgV:Zc Zpp:=fun args σ K K' hK h=>by
 unfold Zpp at h ⊢;split at h <;> first | exact ⟨h.1,hK _ _ h.2⟩ | exact h.elim
theorem Zse (hN:NumOK w0 nG):PCalls (GG w0 nG) 306 Zpp:=Yu (Zj Tryz.func306 (by kernel_rfl) rfl) fun args σ K h e w vs hS ha=>by
 unfold Zpp at h
 split at h
 ·rename_i n
  obtain ⟨rfl,h⟩:=h
  obtain ⟨u,rfl,hu⟩:=Zgd ha
  cases hu.dint
  exact ⟨_,h,_,fun _ _=>.d _ _ (.int _ _),(Zsc w (Zsd hS (k:=5) (by have:=hN.big;omega) hN.bru)).mono fun en w' ⟨h1,h2⟩=>⟨h1,by rw [h2];exact Grows.refl _⟩⟩
 ·exact h.elim
noncomputable def Zxe:Tbl:=[(306,Zpp)]
theorem Zxf (hN:NumOK w0 nG):PCalls (GG w0 nG) 276 Zpp:=by
 refine pc (tbl:=Zxe) ⟨⟨Zse hN,ZgV⟩,trivial⟩ Tryz.func276 ?_
 intro args σ K h
 unfold Zpp at h
 split at h
 ·obtain ⟨rfl,h⟩:=h
  refine ⟨Zb [],0,false,by simp,Tb rfl,?_⟩
  conv=>whnf
  refine ⟨rfl,?_⟩
  exact m46
 ·exact h.elim
noncomputable def ZmH:Zu:=fun args σ K=>match args,σ with
 | [.d (.int .i64 n)],⟨[],[],0⟩=>n=16∧K (.ret (.d (.bool true))) ⟨[],[],0⟩
 | _,_=>False
theorem ZkC:Zc ZmH:=fun args σ K K' hK h=>by
 unfold ZmH at h ⊢;split at h <;> first | exact ⟨h.1,hK _ _ h.2⟩ | exact h.elim
theorem Zsf:Zh .and .i64 16 15=0:=by rw [Yl];decide +kernel
theorem Zu7:PCalls (GG w0 nG) 275 ZmH:=by
 refine pc (tbl:=[]) trivial Tryz.func275 ?_
 intro args σ K h
 unfold ZmH at h
 split at h
 ·obtain ⟨rfl,h⟩:=h
  refine ⟨Zb [],0,false,by simp,Tb rfl,?_⟩
  conv=>whnf
  refine oiO ?_
  conv=>whnf
  have e:(Zh .and .i64 16 (16 - 1))=0:=Zsf
  rw [e]
  exact h
 ·exact h.elim
theorem Zoq {n:Nat} (h:16≤n):VD 16 n=VD 16 (n / 16)++[Zhf (n % 16)]:=by
 have key:∀(f g m:Nat),m<f→m<g→JS 16 f m=JS 16 g m:=by
  intro f
  induction f with
  | zero=>intro g m h;omega
  | succ f ih =>
   intro g m h1 h2
   obtain ⟨g,rfl⟩:∃k,g=k+1:=⟨g - 1,by omega⟩
   rw [JS,JS]
   split
   ·rfl
   ·rw [ih g (m / 16) (by omega) (by omega)]
 rw [VD,JS,Te (by omega),VD,key n (n / 16+1) (n / 16) (by omega) (by omega)]
theorem Zor {n:Nat} (h:n<16):VD 16 n=[Zhf n]:=by rw [VD,JS,Ti h]
def digs36:Bs:=[48,49,50,51,52,53,54,55,56,57,97,98,99,100,101,102,103,104,105,106,107,108,109,110,111,112,113,114,115,116,117,118,119,120,121,122]
theorem ZmI:∀d:Fin 16,digs36.getD d.val 0=Zhf d.val:=by decide +kernel
theorem Zsg {u:Nat} (h:u<18446744073709551616):Zh .and .u64 (u:Int) 15=((u % 16:Nat):Int):=by
 have e:Zh .and .u64 (u:Int) 15=bits .and .u64 (u:Int) ((15:Nat):Int):=by rw [Yl];rfl
 rw [e,bits_and_u64_nat u 15 h (by decide)]
 have:u &&& 15=u % 16:=Nat.and_two_pow_sub_one_eq_mod u 4
 rw [this]
def sh4 (n:Int):Int:=n.fdiv (2 ^ (min (Int.toNat 4) (IntKind.bits .u64)))
theorem Zsh (u:Nat):sh4 (u:Int)=((u / 16:Nat):Int):=by
 show (u:Int).fdiv ((2:Int) ^ 4)=_
 rw [show ((2:Int) ^ 4)=((16:Nat):Int) by decide,Int.fdiv_eq_ediv_of_nonneg _ (by decide)]
 omega
theorem Zos {u:Nat} (h:u<18446744073709551616):digs36.getD (Zh .and .u64 (u:Int) 15).toNat 0=Zhf (u % 16):=by
 rw [Zsg h,TF]
 exact ZmI ⟨u % 16,Nat.mod_lt _ (by decide)⟩
theorem Zot {u:Nat} (h:u<16):digs36.getD (u:Int).toNat 0=Zhf u:=by
 rw [TF]
 exact ZmI ⟨u,h⟩
theorem Zou {u:Nat} (h:u<18446744073709551616):0≤Zh .and .u64 (u:Int) 15:=by rw [Zsg h];omega
theorem Zov {u:Nat} (h:u<18446744073709551616):Zh .and .u64 (u:Int) 15<36:=by rw [Zsg h];omega
def shN:Nat→Int→Int
 | 0,n=>n
 | j+1,n=>sh4 (shN j n)
noncomputable def Zu8:Nat→Int→Bs
 | 0,_=>[]
 | j+1,n=>digs36.getD (Zh .and .u64 (shN j n) 15).toNat 0::Zu8 j n
theorem Zbe (u:Nat):∀j,shN j (u:Int)=((u / 16 ^ j:Nat):Int)
 | 0=>by rw [shN,Nat.pow_zero,Nat.div_one]
 | j+1=>by rw [shN,Zbe u j,Zsh,Nat.div_div_eq_div_mul,Nat.pow_succ]
theorem ZmJ {u:Nat} (hu:u<18446744073709551616) (j:Nat):u / 16 ^ j<18446744073709551616:=Nat.lt_of_le_of_lt (Nat.div_le_self _ _) hu
theorem ZxQ {u:Nat} (hu:u<18446744073709551616):∀j,(∀k,k<j→16≤u / 16 ^ k)→VD 16 u=VD 16 (u / 16 ^ j)++Zu8 j (u:Int)
 | 0,_=>by rw [Zu8,Nat.pow_zero,Nat.div_one,TM]
 | j+1,h=>by
  rw [ZxQ hu j fun k hk=>h k (by omega),Zoq (h j (by omega)),Zu8,Zbe,Zos (ZmJ hu j),Tk,Nat.div_div_eq_div_mul,Nat.pow_succ];rfl
theorem ZxR {u j:Nat} (G:∀k,k<j→16≤u / 16 ^ k) (g:(16:Int)≤shN j (u:Int)):∀k,k<j+1→16≤u / 16 ^ k:=fun k hk=>by
 rw [Zbe] at g
 by_cases c:k=j
 ·subst c;omega
 ·exact G k (by omega)
theorem ZxS {u j:Nat} (hu:u<18446744073709551616) (G:∀k,k<j→16≤u / 16 ^ k) (g:¬(16:Int)≤shN j (u:Int)):VD 16 u=digs36.getD (shN j (u:Int)).toNat 0::Zu8 j (u:Int):=by
 rw [Zbe] at g ⊢
 rw [ZxQ hu j G,Zor (by omega),Zot (by omega)];rfl
theorem Zyf {u j:Nat} (hu:u<18446744073709551616) (G:∀k,k<j→16≤u / 16 ^ k):0≤Zh .and .u64 (shN j (u:Int)) 15∧Zh .and .u64 (shN j (u:Int)) 15<36:=by
 rw [Zbe];exact ⟨Zou (ZmJ hu j),Zov (ZmJ hu j)⟩
theorem ZxT {u j:Nat} (G:∀k,k<j→16≤u / 16 ^ k) (g:¬(16:Int)≤shN j (u:Int)):0≤shN j (u:Int)∧shN j (u:Int)<36:=by
 rw [Zbe] at g ⊢
 generalize u / 16 ^ j=v at g ⊢
 omega
noncomputable def Zu9:Zu:=fun args σ K=>match args,σ with
 | [.sl 0 e [],.d (.int .u64 n),.d (.int .i64 b),.d (.bool ng),.d (.bool ap)],⟨[],[0],1⟩=>(b=16∧ng=false∧ap=false∧0≤n∧n<18446744073709551616)∧K (.ret (.tuple [.d (.sl []),.d (.str (VD 16 n.toNat))])) ⟨[],[],0⟩
 | _,_=>False
theorem ZmK:Zc Zu9:=fun args σ K K' hK h=>by
 unfold Zu9 at h ⊢;split at h <;> first | exact ⟨h.1,hK _ _ h.2⟩ | exact h.elim
noncomputable def Zxg:Tbl:=[(275,ZmH),(276,Zpp)]
theorem Zxh (hN:NumOK w0 nG):PCalls (GG w0 nG) 224 Zu9:=by
 refine ZhI Zoo mixed (tbl:=Zxg) ⟨⟨Zu7,ZkC⟩,⟨Zxf hN,ZgV⟩,trivial⟩ Tryz.func224 rfl (by kernel_rfl) (by kernel_rfl) ?_
 intro args σ K h
 unfold Zu9 at h
 split at h
 all_goals first | exact h.elim | skip
 all_goals
  obtain ⟨⟨rfl,rfl,rfl,h0,h1⟩,h⟩:=h
  rename_i e n
  obtain ⟨u0,rfl⟩:∃u:Nat,n=u:=⟨n.toNat,by omega⟩
  rw [TF] at h
  have hu0:u0<18446744073709551616:=by omega
  refine ⟨Zb [],Zad [(11,17)],WQ [],WQ [101],WQ [],0,false,by simp,Tb rfl,?_⟩
  conv=>whnf
  refine ⟨rfl,?_⟩
  conv=>whnf
  refine oiU ?_
  conv=>whnf
  refine ⟨rfl,?_⟩
  conv=>whnf
  refine oiU ?_
  conv=>whnf
  refine oiU ?_
  conv=>whnf
  refine oiU ?_
  conv=>whnf
  refine oiU ?_
  conv=>whnf
  have G:∀k,k<0→16≤u0 / 16 ^ k:=fun k hk=>by omega
  iterate 15
   refine Zyq (fun g=>?_) (fun g=>?_)
   rotate_left
   ·exact m144
   have B:=Zyf hu0 G
   have G:=ZxR G g
   conv=>whnf
   refine oiD ?_
   conv=>whnf
   refine ⟨B.1,B.2,?_⟩
   conv=>whnf
   refine ⟨by decide,by decide,?_⟩
   conv=>whnf
   refine ⟨by decide,?_⟩
   conv=>whnf
  refine Zyq (fun g=>?_) (fun g=>?_)
  ·exact absurd (ZxR G g 15 (by decide)) (by omega)
  ·exact m144
noncomputable def ZbO:Zu:=fun args σ K=>match args,σ with
 | [.d (.int .u64 n),.d (.int .i64 b)],⟨[],[],0⟩=>(b=16∧0≤n∧n<18446744073709551616)∧K (.ret (.d (.str (VD 16 n.toNat)))) ⟨[],[],0⟩
 | _,_=>False
theorem JT:Zc ZbO:=fun args σ K K' hK h=>by
 unfold ZbO at h ⊢;split at h <;> first | exact ⟨h.1,hK _ _ h.2⟩ | exact h.elim
noncomputable def Zxi:Tbl:=[(224,Zu9)]
theorem Zxj (hN:NumOK w0 nG):PCalls (GG w0 nG) 158 ZbO:=by
 refine pc (tbl:=Zxi) ⟨⟨Zxh hN,ZmK⟩,trivial⟩ Tryz.func158 ?_
 intro args σ K h
 unfold ZbO at h
 split at h
 ·obtain ⟨⟨rfl,h0,h1⟩,h⟩:=h
  refine ⟨Zb [],0,false,by simp,Tb rfl,?_⟩
  conv=>whnf
  refine ⟨⟨rfl,rfl,rfl,h0,h1⟩,?_⟩
  exact m46
 ·exact h.elim
noncomputable def Zsi:Tbl:=[(158,ZbO)]
theorem ZmL (hN:NumOK w0 nG):PCalls (GG w0 nG) 77 ZbO:=by
 refine pc (tbl:=Zsi) ⟨⟨Zxj hN,JT⟩,trivial⟩ Tryz.func77 ?_
 intro args σ K h
 unfold ZbO at h
 split at h
 ·rename_i n b
  obtain ⟨⟨rfl,h0,h1⟩,h⟩:=h
  refine ⟨Zb [],0,false,by simp,Tb rfl,?_⟩
  conv=>whnf
  refine ⟨⟨rfl,h0,h1⟩,?_⟩
  generalize VD 16 n.toNat=T at h ⊢
  exact m46
 ·exact h.elim
theorem Zjj {n:Int} (h:n<0) (h0:-9223372036854775808≤n):0≤IntKind.u64.wrap n∧IntKind.u64.wrap n<18446744073709551616∧Zdz n=[48,120]++VD 16 (IntKind.u64.wrap n).toNat:=by
 have e:IntKind.u64.wrap n=n+18446744073709551616:=by
  unfold IntKind.wrap
  simp [IntKind.signed,IntKind.bits];omega
 refine ⟨by omega,by omega,?_⟩
 rw [Zdz,Ti h,e]
end Go.PM.Lex
end

section
namespace Go.PM.Lex
def Zsj (n:Int):Bool:=decide (-9223372036854775808≤n) && decide (n<9223372036854775808)
mutual
def Zdk:Ex→Bool
 | .mk _ _ n l _=>Zsj n && Zdl l
def Zdl:List Ex→Bool
 | []=>true
 | x::l=>Zdk x && Zdl l
end
theorem U0 (l:List Ex):Zdl l=l.all Zdk:=by induction l with | nil=>rfl | cons x l ih=>simp [Zdl,ih]
theorem Zdm {op:Nat} {t:Bs} {n:Int} {l:List Ex} {a:Nat} (h:Zdk (.mk op t n l a)=true):(-9223372036854775808≤n∧n<9223372036854775808)∧∀x∈l,Zdk x=true:=by
 simp only [Zdk,U0,Zsj,Tj,Tz] at h
 exact ⟨h.1,Tl.1 h.2⟩
mutual
def Zhi:Li→Bool
 | .mk _ _ args body _=>Zdl args && ZdR body
def ZdR:List Li→Bool
 | []=>true
 | x::l=>Zhi x && ZdR l
end
theorem Zcb (l:List Li):ZdR l=l.all Zhi:=by induction l with | nil=>rfl | cons x l ih=>simp [ZdR,ih]
theorem ZmM {op:Nat} {rel:Bs} {args:List Ex} {body:List Li} {a:Nat} (h:Zhi (.mk op rel args body a)=true):(∀x∈args,Zdk x=true)∧∀x∈body,Zhi x=true:=by
 simp only [Zhi,U0,Zcb,Tj] at h
 exact ⟨Tl.1 h.1,Tl.1 h.2⟩
def Zbf (r:Ru):Bool:=r.args.all Zdk && r.body.all Zhi
mutual
def ZkR:Un→Bool
 | .mk _ _ rules comps _ _=>rules.all Zbf && Jo comps
def ZbZ:Co→Bool
 | .mk _ _ _ _ u _=>ZkR u
def Jo:List Co→Bool
 | []=>true
 | c::l=>ZbZ c && Jo l
end
theorem ZgW (l:List Co):Jo l=l.all ZbZ:=by induction l with | nil=>rfl | cons x l ih=>simp [Jo,ih]
end Go.PM.Lex
end

section
namespace Go.PM.Lex
open Go.Proofs
variable {w0:World} {nG:Nat}
def Zhj (e:Ex):Bool:=ZO e && Zdk e
theorem Zsk {op:Nat} {t:Bs} {n:Int} {l:List Ex} {a:Nat} (h:Zhj (.mk op t n l a)=true):-2<Wo op∧(Wo op<0∨(l.length:Int)=Wo op)∧X9 op t=true∧(-9223372036854775808≤n∧n<9223372036854775808)∧l.all Zhj=true:=by
 simp only [Zhj,Tj] at h
 obtain ⟨h1,h2⟩:=h
 obtain ⟨r1,r2⟩:=Zdm h2
 simp only [ZO,Zn,Tj,Sj,Tz] at h1
 obtain ⟨h1,h3,h4,h5,h6⟩:=h1
 refine ⟨h1,h3,h5,r1,?_⟩
 rw [Tl] at h6 ⊢
 exact fun x hx=>by rw [Zhj,h6 x hx,r2 x hx];rfl
theorem Zow {op:Nat} (h:-2<Wo op):op<26:=by
 by_cases hc:op<26
 ·exact hc
 ·unfold Wo at h
  (repeat rw [Te (by omega)] at h)
  omega
theorem Zsl {op:Nat} (h:-2<Wo op):(Zv op<5→Wo op=2)∧(Zv op=5→Wo op=1)∧Zv op≤6∧(op=5→Wo op=0):=by
 have hk:∀o:Fin 26,-2<Wo o.val→(Zv o.val<5→Wo o.val=2)∧(Zv o.val=5→Wo o.val=1)∧Zv o.val≤6∧(o.val=5→Wo o.val=0):=by decide
 exact hk ⟨op,Zow h⟩ h
noncomputable def Znr (n:Nat):Zu:=Zhh (.tuple []) fun rest txt=>∃pl e want,rest=[YH YU pl e,.d (.int .i64 want)]∧(Zhj e=true∧wE e≤n∧n≤1073741824∧0≤want∧want≤6)∧txt=exW want.toNat e
theorem VF (n:Nat):Zc (Znr n):=WN _ _
noncomputable def Zox (n:Nat):Zu:=Zhh (.tuple []) fun rest txt=>∃fr fin pl xs,rest=[.d (.str fr),.d (.sl (Y0 pl xs)),.d (.str fin)]∧(xs.all Zhj=true∧szS wE xs≤n∧n≤1073741824)∧txt=XH fr fin xs
theorem UL (n:Nat):Zc (Zox n):=WN _ _
theorem WT (e:Ex):exW 0 e=exT e:=by rw [exW,Zmx,Te (by simp)]
noncomputable def Zva (n:Nat):Tbl:=[(30,Znr n)]
theorem Zvb {n:Nat} (ht:TblOK (GG w0 nG) (Zva n)):PCalls (GG w0 nG) 157 (Zdh (YH YU) Zhj exT wE n):=by
 refine pc ht Tryz.func157 ?_
 intro args σ K h
 unfold Zdh at h
 split at h
 ·obtain ⟨l,pl,⟨op,tx,nn,xs,at'⟩,rfl,rfl,⟨rfl,rfl⟩,⟨hmay,hz,hn⟩,hlen,h⟩:=h
  refine ⟨Zb [],2,true,by simp,Tb rfl,?_⟩
  conv=>whnf
  refine ⟨l,exT (.mk op tx nn xs at'),rfl,⟨.inr rfl,rfl,rfl⟩,⟨pl,.mk op tx nn xs at',0,rfl,⟨hmay,hz,hn,by omega,by omega⟩,(WT _).symm⟩,hlen,?_⟩
  exact m46
 ·exact h.elim
noncomputable def Zxk (n:Nat):Tbl:=[(75,ZdQ),(156,ZkB 157 YU Zhj exT wE n)]
theorem Zxl {n:Nat} (ht:TblOK (GG w0 nG) (Zxk n)):PCalls (GG w0 nG) 76 (Zox n):=by
 refine pc ht Tryz.func76 ?_
 intro args σ K h
 unfold Zox Zhh at h
 split at h
 ·rename_i rest t p e rows
  obtain ⟨l,txt,rfl,⟨hp,rfl,rfl⟩,⟨fr,fin,pl,xs,rfl,⟨hmay,hz,hn⟩,rfl⟩,hlen,h⟩:=h
  have key:l++XH fr fin xs=l++fr++Zf cmm (xs.map exT)++fin:=by simp only [XH,Zpn,Tk]
  rw [key] at h
  have hlen:l.length+(fr.length+((Zf cmm (xs.map exT)).length+fin.length))<70368744177664:=by have:=hlen;simp only [XH,Zpn,Ta] at this;exact this
  refine ⟨Zb [],1,true,by simp,Tb rfl,?_⟩
  rcases hp with rfl | rfl
  all_goals
   conv=>whnf
   refine ⟨l,fr,rfl,⟨(by first | exact .inl rfl | exact .inr rfl),rfl,rfl⟩,⟨[fr],rfl,by simp,by simp,by simp⟩,by omega,?_⟩
   conv=>whnf
   refine ⟨l++fr,pl,xs,rfl,Zk pl xs,⟨rfl,rfl,rfl⟩,⟨hmay,hz,hn⟩,by rw [Ta];show _+(Zf cmm (xs.map exT)).length<_;omega,?_⟩
   conv=>whnf
   refine ⟨l++fr++Zf cmm (xs.map exT),fin,rfl,⟨.inr rfl,rfl,rfl⟩,⟨[fin],rfl,by simp,by simp,by simp⟩,by simp only [Ta];omega,?_⟩
   conv=>whnf
   exact h
 ·exact h.elim
noncomputable def Zvc:List PV→St→(St→Prop)→Prop:=fun args σ K=>args.length≤Tryz.f75.ntmps∧W (ZjW ZhK ZmE X1 (Zb []) (Zad [(1,3)]) (fun _=>false)) (WU Tryz.f75) (Zu3 ZhK Tryz.f75 σ.bx.length K) (Zdy 0 args) σ
theorem Zyg:PDef (GG w0 nG) 75 Zvc (fun _ _ _ _=>False) :=
 Zkz Y6 mixed ZgT Tryz.func75 rfl (by kernel_rfl) (by kernel_rfl) fun args σ K h=>⟨Zb [],Zad [(1,3)],σ.bx.length,Tp _,h.1,h.2⟩
noncomputable def Zvd (n:Nat):Tbl:=[(71,Ztx),(75,ZdQ),(30,spB Znr n),(76,spB Zox n),(78,ZgU),(77,ZbO),(73,JR)]
end Go.PM.Lex
end

section
namespace Go.PM.Lex
open Go.Proofs
variable {w0:World} {nG:Nat}
theorem Zve {n:Nat} (ht:TblOK (GG w0 nG) (Zvd n)):PCalls (GG w0 nG) 30 (Znr n):=by
 refine Zom Y6 mixed (tbl:=Zvd n) ht Tryz.func30 rfl (by kernel_rfl) (by kernel_rfl) Zyg ?_
 intro args σ K h
 unfold Znr Zhh at h
 split at h
 ·rename_i rest t p e rows
  obtain ⟨l,txt,rfl,⟨hp,rfl,rfl⟩,⟨pl,⟨op,tx,nn,xs,at'⟩,want,rfl,⟨hmay,hz,hn,hw0,hw6⟩,rfl⟩,hlen,h⟩:=h
  obtain ⟨m1,m2,m3,m4,m5⟩:=Zsk hmay
  obtain ⟨k1,k2,k3,k5⟩:=Zsl m1
  have hzx:szS wE xs+tx.length+1≤n:=by rw [wE,Zjg] at hz;omega
  rw [Tl] at m5
  refine ⟨Zb [],Zad [],WQ [],1,true,by simp,Tb rfl,?_⟩
  rcases hp with rfl | rfl
  all_goals
   conv=>whnf
   refine ⟨op,rfl,fun l1 w1 a1 e1 e2 e3=>?_⟩
   subst e1
   conv=>whnf
   refine Zyq (fun hlt=>?_) (fun hlt=>?_)
   ·have hW:exW want.toNat (.mk op tx nn xs at')=[40]++(exT (.mk op tx nn xs at')++[41]):=by rw [exW,Zmx,Ti (by show Zv op<_;omega)]
    rw [hW] at h hlen
    have hlen0:l.length+1<70368744177664:=by simp only [Ta,Tc,Td] at hlen;omega
    conv=>whnf
    refine ⟨l,[40],rfl,⟨(by first | exact .inl rfl | exact .inr rfl),rfl,rfl⟩,⟨[[40]],rfl,by simp,by simp,by simp⟩,by simp only [Tc,Td];omega,?_⟩
    conv=>whnf
    refine Zyq (fun c1=>?_) (fun c1=>?_)
    ·have c1:Zv op<5:=by omega
     have hl2:xs.length=2:=by have:=k1 c1;omega
     obtain ⟨x0,x1,rfl⟩:∃x0 x1,xs=[x0,x1]:=by match xs,hl2 with | [a,b],_=>exact ⟨a,b,rfl⟩
     simp only [szS] at hzx
     have g0:=m5 x0 (by simp)
     have g1:=m5 x1 (by simp)
     have z0:wE x0≤n - 1:=by omega
     have z1:wE x1≤n - 1:=by omega
     obtain ⟨o0,t0,n0,y0,q0⟩:=x0
     obtain ⟨o1,t1,n1,y1,q1⟩:=x1
     have hx:exT (.mk op tx nn [(.mk o0 t0 n0 y0 q0),(.mk o1 t1 n1 y1 q1)] at')=exW (Zv op) (.mk o0 t0 n0 y0 q0)++(([32]++(w1++[32]))++exW (Zv op+1) (.mk o1 t1 n1 y1 q1)):=by rw [exT,exN,Ti c1,e2];rfl
     rw [hx] at h hlen
     (try simp only [Ta,Tc,Td] at hlen)
     conv=>whnf
     refine ⟨_,by decide,rfl,?_⟩
     conv=>whnf
     refine ⟨by omega,(l++[40]),exW (Zv op) (.mk o0 t0 n0 y0 q0),rfl,⟨(by first | exact .inl rfl | exact .inr rfl),rfl,rfl⟩,⟨pl,(.mk o0 t0 n0 y0 q0),(Zv op:Int),rfl,⟨g0,by omega,by omega,by omega,by omega⟩,rfl⟩,by (try simp only [Ta,Tc,Td]);omega,?_⟩
     conv=>whnf
     refine ⟨(l++[40])++exW (Zv op) (.mk o0 t0 n0 y0 q0),[32]++(w1++[32]),rfl,⟨(by first | exact .inl rfl | exact .inr rfl),rfl,rfl⟩,⟨[[32],w1,[32]],rfl,by simp,by simp,by simp⟩,by (try simp only [Ta,Tc,Td]);omega,?_⟩
     conv=>whnf
     refine ⟨_,by decide,rfl,?_⟩
     conv=>whnf
     refine oiO ?_
     conv=>whnf
     refine ⟨by omega,(l++[40])++exW (Zv op) (.mk o0 t0 n0 y0 q0)++([32]++(w1++[32])),exW (Zv op+1) (.mk o1 t1 n1 y1 q1),rfl,⟨(by first | exact .inl rfl | exact .inr rfl),rfl,rfl⟩,⟨pl,(.mk o1 t1 n1 y1 q1),((Zv op:Int)+1),rfl,⟨g1,by omega,by omega,by omega,by omega⟩,rfl⟩,by (try simp only [Ta,Tc,Td]);omega,?_⟩
     conv=>whnf
     refine ⟨Tb rfl,?_⟩
     conv=>whnf
     refine ⟨_,by decide,rfl,?_⟩
     conv=>whnf
     refine ⟨(l++[40])++exW (Zv op) (.mk o0 t0 n0 y0 q0)++([32]++(w1++[32]))++exW (Zv op+1) (.mk o1 t1 n1 y1 q1),[41],rfl,⟨.inr rfl,rfl,rfl⟩,⟨rfl,rfl⟩,by (try simp only [Ta,Tc,Td]);omega,?_⟩
     conv=>whnf
     refine oiO ?_
     rw [show l++([40]++(exW (Zv op) (.mk o0 t0 n0 y0 q0)++(([32]++(w1++[32]))++exW (Zv op+1) (.mk o1 t1 n1 y1 q1))++[41]))=(l++[40])++exW (Zv op) (.mk o0 t0 n0 y0 q0)++([32]++(w1++[32]))++exW (Zv op+1) (.mk o1 t1 n1 y1 q1)++[41] by first | rfl | simp only [Tk]] at h
     exact m46
    have c1:¬Zv op<5:=by omega
    conv=>whnf
    refine Zyq (fun c2=>?_) (fun c2=>?_)
    ·have c2:Zv op=5:=by omega
     have hl2:xs.length=1:=by have:=k2 c2;omega
     obtain ⟨x0,rfl⟩:∃x0,xs=[x0]:=by match xs,hl2 with | [a],_=>exact ⟨a,rfl⟩
     simp only [szS] at hzx
     have g0:=m5 x0 (by simp)
     have z0:wE x0≤n - 1:=by omega
     obtain ⟨o0,t0,n0,y0,q0⟩:=x0
     have hx:exT (.mk op tx nn [(.mk o0 t0 n0 y0 q0)] at')=w1++exW 5 (.mk o0 t0 n0 y0 q0):=by rw [exT,exN,Te c1,Ti c2,e2];rfl
     rw [hx] at h hlen
     (try simp only [Ta,Tc,Td] at hlen)
     conv=>whnf
     refine ⟨(l++[40]),w1,rfl,⟨(by first | exact .inl rfl | exact .inr rfl),rfl,rfl⟩,⟨[w1],rfl,by simp,by simp,by simp⟩,by (try simp only [Ta,Tc,Td]);omega,?_⟩
     conv=>whnf
     refine ⟨_,by decide,rfl,?_⟩
     conv=>whnf
     refine ⟨by omega,(l++[40])++w1,exW 5 (.mk o0 t0 n0 y0 q0),rfl,⟨(by first | exact .inl rfl | exact .inr rfl),rfl,rfl⟩,⟨pl,(.mk o0 t0 n0 y0 q0),5,rfl,⟨g0,by omega,by omega,by omega,by omega⟩,rfl⟩,by (try simp only [Ta,Tc,Td]);omega,?_⟩
     conv=>whnf
     refine ⟨Tb rfl,?_⟩
     conv=>whnf
     refine ⟨_,by decide,rfl,?_⟩
     conv=>whnf
     refine ⟨(l++[40])++w1++exW 5 (.mk o0 t0 n0 y0 q0),[41],rfl,⟨.inr rfl,rfl,rfl⟩,⟨rfl,rfl⟩,by (try simp only [Ta,Tc,Td]);omega,?_⟩
     conv=>whnf
     refine oiO ?_
     rw [show l++([40]++(w1++exW 5 (.mk o0 t0 n0 y0 q0)++[41]))=(l++[40])++w1++exW 5 (.mk o0 t0 n0 y0 q0)++[41] by first | rfl | simp only [Tk]] at h
     exact m46
    have c2:¬Zv op=5:=by omega
    conv=>whnf
    refine Zyv (fun c3=>?_) (fun c3=>?_)
    ·have c3:Wj op≠[]:=by rw [e2];exact c3
     have hx:exT (.mk op tx nn xs at')=w1++XH [40] [41] xs:=by rw [exT,exN,Te c1,Te c2,Ti c3,e2,UZ];rfl
     rw [hx] at h hlen
     (try simp only [Ta,Tc,Td] at hlen)
     conv=>whnf
     refine ⟨(l++[40]),w1,rfl,⟨(by first | exact .inl rfl | exact .inr rfl),rfl,rfl⟩,⟨[w1],rfl,by simp,by simp,by simp⟩,by (try simp only [Ta,Tc,Td]);omega,?_⟩
     conv=>whnf
     refine ⟨by omega,(l++[40])++w1,XH [40] [41] xs,rfl,⟨(by first | exact .inl rfl | exact .inr rfl),rfl,rfl⟩,⟨[40],[41],pl,xs,rfl,⟨Tl.2 m5,by omega,by omega⟩,rfl⟩,by (try simp only [Ta,Tc,Td]);omega,?_⟩
     conv=>whnf
     refine ⟨Tb rfl,?_⟩
     conv=>whnf
     refine ⟨_,by decide,rfl,?_⟩
     conv=>whnf
     refine ⟨(l++[40])++w1++XH [40] [41] xs,[41],rfl,⟨.inr rfl,rfl,rfl⟩,⟨rfl,rfl⟩,by (try simp only [Ta,Tc,Td]);omega,?_⟩
     conv=>whnf
     refine oiO ?_
     rw [show l++([40]++(w1++XH [40] [41] xs++[41]))=(l++[40])++w1++XH [40] [41] xs++[41] by first | rfl | simp only [Tk]] at h
     exact m46
    have c3:¬Wj op≠[]:=by rw [e2];exact fun g=>g c3
    conv=>whnf
    refine Zyq (fun c4=>?_) (fun c4=>?_)
    ·have c4:op=6:=by omega
     have hx:exT (.mk op tx nn xs at')=XH [91] [93] xs:=by rw [exT,exN,Te c1,Te c2,Te c3,Ti c4,UZ];rfl
     rw [hx] at h hlen
     (try simp only [Ta,Tc,Td] at hlen)
     conv=>whnf
     refine ⟨by omega,(l++[40]),XH [91] [93] xs,rfl,⟨(by first | exact .inl rfl | exact .inr rfl),rfl,rfl⟩,⟨[91],[93],pl,xs,rfl,⟨Tl.2 m5,by omega,by omega⟩,rfl⟩,by (try simp only [Ta,Tc,Td]);omega,?_⟩
     conv=>whnf
     refine ⟨Tb rfl,?_⟩
     conv=>whnf
     refine ⟨_,by decide,rfl,?_⟩
     conv=>whnf
     refine ⟨(l++[40])++XH [91] [93] xs,[41],rfl,⟨.inr rfl,rfl,rfl⟩,⟨rfl,rfl⟩,by (try simp only [Ta,Tc,Td]);omega,?_⟩
     conv=>whnf
     refine oiO ?_
     rw [show l++([40]++(XH [91] [93] xs++[41]))=(l++[40])++XH [91] [93] xs++[41] by first | rfl | simp only [Tk]] at h
     exact m46
    have c4:¬op=6:=by omega
    conv=>whnf
    refine Zyq (fun c5=>?_) (fun c5=>?_)
    ·have c5:op=7:=by omega
     have hxl:(Y0 pl xs).length=xs.length:=by rw [Zk,Tf]
     by_cases hx0:xs.length=0
     ·have hx:exT (.mk op tx nn xs at')=[36]++tx:=by rw [exT,exN,Te c1,Te c2,Te c3,Te c4,Ti c5,Zca,Ti hx0,TM]
      rw [hx] at h hlen
      (try simp only [Ta,Tc,Td] at hlen)
      conv=>whnf
      refine ⟨(l++[40]),[36]++tx,rfl,⟨(by first | exact .inl rfl | exact .inr rfl),rfl,rfl⟩,⟨[[36],tx],rfl,by simp,by simp,by simp⟩,by (try simp only [Ta,Tc,Td]);omega,?_⟩
      conv=>whnf
      refine Zyq (fun g=>?_) (fun g=>?_)
      case refine_1=>exact absurd (show ((Y0 pl xs).length:Int)>0 from g) (by omega)
      conv=>whnf
      refine ⟨Tb rfl,?_⟩
      conv=>whnf
      refine ⟨_,by decide,rfl,?_⟩
      conv=>whnf
      refine ⟨(l++[40])++([36]++tx),[41],rfl,⟨.inr rfl,rfl,rfl⟩,⟨rfl,rfl⟩,by (try simp only [Ta,Tc,Td]);omega,?_⟩
      conv=>whnf
      refine oiO ?_
      rw [show l++([40]++([36]++tx++[41]))=(l++[40])++([36]++tx)++[41] by first | rfl | simp only [Tk]] at h
      exact m46
     have hx:exT (.mk op tx nn xs at')=([36]++tx)++XH [40] [41] xs:=by rw [exT,exN,Te c1,Te c2,Te c3,Te c4,Ti c5,Zca,Te hx0,UZ,Tk];rfl
     rw [hx] at h hlen
     (try simp only [Ta,Tc,Td] at hlen)
     conv=>whnf
     refine ⟨(l++[40]),[36]++tx,rfl,⟨(by first | exact .inl rfl | exact .inr rfl),rfl,rfl⟩,⟨[[36],tx],rfl,by simp,by simp,by simp⟩,by (try simp only [Ta,Tc,Td]);omega,?_⟩
     conv=>whnf
     refine Zyq (fun g=>?_) (fun g=>?_)
     case refine_2=>exact absurd (show ((Y0 pl xs).length:Int)>0 by omega) g
     conv=>whnf
     refine ⟨by omega,(l++[40])++([36]++tx),XH [40] [41] xs,rfl,⟨(by first | exact .inl rfl | exact .inr rfl),rfl,rfl⟩,⟨[40],[41],pl,xs,rfl,⟨Tl.2 m5,by omega,by omega⟩,rfl⟩,by (try simp only [Ta,Tc,Td]);omega,?_⟩
     conv=>whnf
     refine ⟨Tb rfl,?_⟩
     conv=>whnf
     refine ⟨_,by decide,rfl,?_⟩
     conv=>whnf
     refine ⟨(l++[40])++([36]++tx)++XH [40] [41] xs,[41],rfl,⟨.inr rfl,rfl,rfl⟩,⟨rfl,rfl⟩,by (try simp only [Ta,Tc,Td]);omega,?_⟩
     conv=>whnf
     refine oiO ?_
     rw [show l++([40]++(([36]++tx)++XH [40] [41] xs++[41]))=(l++[40])++([36]++tx)++XH [40] [41] xs++[41] by first | rfl | simp only [Tk]] at h
     exact m46
    have c5:¬op=7:=by omega
    conv=>whnf
    refine Zyq (fun c6=>?_) (fun c6=>?_)
    ·have c6':op=3:=by omega
     obtain ⟨i0,i1⟩:=m4
     conv=>whnf
     refine Zyq (fun gn=>?_) (fun gn=>?_)
     ·obtain ⟨j0,j1,j2⟩:=Zjj gn i0
      obtain ⟨wn,hwn⟩:∃wn,IntKind.u64.wrap nn=wn:=⟨_,rfl⟩
      rw [hwn] at j0 j1 j2
      conv=>whnf
      refine Or.inr ?_
      rw [hwn]
      have hx:exT (.mk op tx nn xs at')=Zdz nn:=by rw [exT,exN,Te c1,Te c2,Te c3,Te c4,Te c5,Ti c6']
      rw [hx] at h hlen
      (try simp only [Ta,Tc,Td] at hlen)
      conv=>whnf
      refine ⟨⟨rfl,j0,j1⟩,?_⟩
      obtain ⟨T,hT⟩:∃T,VD 16 wn.toNat=T:=⟨_,rfl⟩
      rw [hT] at j2 ⊢
      rw [j2] at h hlen
      (try simp only [Ta,Tc,Td] at hlen)
      conv=>whnf
      refine ⟨(l++[40]),[48,120]++T,rfl,⟨(by first | exact .inl rfl | exact .inr rfl),rfl,rfl⟩,⟨[[48,120],T],rfl,by simp,by simp,by simp⟩,by (try simp only [Ta,Tc,Td]);omega,?_⟩
      conv=>whnf
      refine ⟨Tb rfl,?_⟩
      conv=>whnf
      refine ⟨_,by decide,rfl,?_⟩
      conv=>whnf
      refine ⟨(l++[40])++([48,120]++T),[41],rfl,⟨.inr rfl,rfl,rfl⟩,⟨rfl,rfl⟩,by (try simp only [Ta,Tc,Td]);omega,?_⟩
      conv=>whnf
      refine oiO ?_
      rw [show l++([40]++(([48,120]++T)++[41]))=(l++[40])++([48,120]++T)++[41] by first | rfl | simp only [Tk]] at h
      exact m46
     conv=>whnf
     refine Zyq (fun _=>?_) (fun g=>absurd c6 g)
     have hx:exT (.mk op tx nn xs at')=Zdz nn:=by rw [exT,exN,Te c1,Te c2,Te c3,Te c4,Te c5,Ti c6']
     rw [hx] at h hlen
     (try simp only [Ta,Tc,Td] at hlen)
     conv=>whnf
     refine ⟨⟨rfl,by omega,i1⟩,?_⟩
     conv=>whnf
     refine ⟨(l++[40]),Zdz nn,rfl,⟨(by first | exact .inl rfl | exact .inr rfl),rfl,rfl⟩,⟨[Zdz nn],rfl,by simp,by simp,by simp⟩,by (try simp only [Ta,Tc,Td]);omega,?_⟩
     conv=>whnf
     refine ⟨Tb rfl,?_⟩
     conv=>whnf
     refine ⟨_,by decide,rfl,?_⟩
     conv=>whnf
     refine ⟨(l++[40])++Zdz nn,[41],rfl,⟨.inr rfl,rfl,rfl⟩,⟨rfl,rfl⟩,by (try simp only [Ta,Tc,Td]);omega,?_⟩
     conv=>whnf
     refine oiO ?_
     rw [show l++([40]++(Zdz nn++[41]))=(l++[40])++Zdz nn++[41] by first | rfl | simp only [Tk]] at h
     exact m46
    have c6':¬op=3:=by omega
    conv=>whnf
    refine Zyq (fun g=>absurd g c6) (fun _=>?_)
    conv=>whnf
    refine Zyq (fun c7=>?_) (fun c7=>?_)
    ·have c7':op=4:=by omega
     have hq:(VC tx).isSome=true:=by unfold X9 at m3;rw [Te (by omega),Ti c7'] at m3;exact m3
     obtain ⟨q,hq⟩:=Option.isSome_iff_exists.1 hq
     have hqT:Zpm tx=q:=by rw [Zpm,hq];rfl
     have hx:exT (.mk op tx nn xs at')=q:=by rw [exT,exN,Te c1,Te c2,Te c3,Te c4,Te c5,Te c6',Ti c7',hqT]
     rw [hx] at h hlen
     (try simp only [Ta,Tc,Td] at hlen)
     conv=>whnf
     refine ⟨by omega,?_⟩
     conv=>whnf
     refine ⟨fun g=>?_,fun q' hq'=>?_⟩
     case refine_1=>exact absurd (hq.symm.trans g) (by simp)
     obtain rfl:q=q':=by rw [hq] at hq';exact Option.some.inj hq'
     conv=>whnf
     refine ⟨(l++[40]),q,rfl,⟨(by first | exact .inl rfl | exact .inr rfl),rfl,rfl⟩,⟨[q],rfl,by simp,by simp,by simp⟩,by (try simp only [Ta,Tc,Td]);omega,?_⟩
     conv=>whnf
     refine ⟨Tb rfl,?_⟩
     conv=>whnf
     refine ⟨_,by decide,rfl,?_⟩
     conv=>whnf
     refine ⟨(l++[40])++q,[41],rfl,⟨.inr rfl,rfl,rfl⟩,⟨rfl,rfl⟩,by (try simp only [Ta,Tc,Td]);omega,?_⟩
     conv=>whnf
     refine oiO ?_
     rw [show l++([40]++(q++[41]))=(l++[40])++q++[41] by first | rfl | simp only [Tk]] at h
     exact m46
    have c7':¬op=4:=by omega
    conv=>whnf
    refine Zyq (fun c8=>?_) (fun c8=>?_)
    ·have c8':op=5:=by omega
     have hx:exT (.mk op tx nn xs at')=[110,105,108]:=by rw [exT,exN,Te c1,Te c2,Te c3,Te c4,Te c5,Te c6',Te c7',Ti c8']
     rw [hx] at h hlen
     (try simp only [Ta,Tc,Td] at hlen)
     conv=>whnf
     refine ⟨(l++[40]),[110,105,108],rfl,⟨(by first | exact .inl rfl | exact .inr rfl),rfl,rfl⟩,⟨[[110,105,108]],rfl,by simp,by simp,by simp⟩,by (try simp only [Ta,Tc,Td]);omega,?_⟩
     conv=>whnf
     refine ⟨Tb rfl,?_⟩
     conv=>whnf
     refine ⟨_,by decide,rfl,?_⟩
     conv=>whnf
     refine ⟨(l++[40])++[110,105,108],[41],rfl,⟨.inr rfl,rfl,rfl⟩,⟨rfl,rfl⟩,by (try simp only [Ta,Tc,Td]);omega,?_⟩
     conv=>whnf
     refine oiO ?_
     rw [show l++([40]++([110,105,108]++[41]))=(l++[40])++[110,105,108]++[41] by first | rfl | simp only [Tk]] at h
     exact m46
    have c8':¬op=5:=by omega
    conv=>whnf
    refine Zyq (fun c9=>?_) (fun c9=>?_)
    ·have c9':op=2:=by omega
     have hx:exT (.mk op tx nn xs at')=[95]:=by rw [exT,exN,Te c1,Te c2,Te c3,Te c4,Te c5,Te c6',Te c7',Te c8',Ti c9']
     rw [hx] at h hlen
     (try simp only [Ta,Tc,Td] at hlen)
     conv=>whnf
     refine ⟨(l++[40]),[95],rfl,⟨(by first | exact .inl rfl | exact .inr rfl),rfl,rfl⟩,⟨[[95]],rfl,by simp,by simp,by simp⟩,by (try simp only [Ta,Tc,Td]);omega,?_⟩
     conv=>whnf
     refine ⟨Tb rfl,?_⟩
     conv=>whnf
     refine ⟨_,by decide,rfl,?_⟩
     conv=>whnf
     refine ⟨(l++[40])++[95],[41],rfl,⟨.inr rfl,rfl,rfl⟩,⟨rfl,rfl⟩,by (try simp only [Ta,Tc,Td]);omega,?_⟩
     conv=>whnf
     refine oiO ?_
     rw [show l++([40]++([95]++[41]))=(l++[40])++[95]++[41] by first | rfl | simp only [Tk]] at h
     exact m46
    have c9':¬op=2:=by omega
    have hx:exT (.mk op tx nn xs at')=tx:=by rw [exT,exN,Te c1,Te c2,Te c3,Te c4,Te c5,Te c6',Te c7',Te c8',Te c9']
    rw [hx] at h hlen
    (try simp only [Ta,Tc,Td] at hlen)
    conv=>whnf
    refine ⟨(l++[40]),tx,rfl,⟨(by first | exact .inl rfl | exact .inr rfl),rfl,rfl⟩,⟨[tx],rfl,by simp,by simp,by simp⟩,by (try simp only [Ta,Tc,Td]);omega,?_⟩
    conv=>whnf
    refine ⟨Tb rfl,?_⟩
    conv=>whnf
    refine ⟨_,by decide,rfl,?_⟩
    conv=>whnf
    refine ⟨(l++[40])++tx,[41],rfl,⟨.inr rfl,rfl,rfl⟩,⟨rfl,rfl⟩,by (try simp only [Ta,Tc,Td]);omega,?_⟩
    conv=>whnf
    refine oiO ?_
    rw [show l++([40]++(tx++[41]))=(l++[40])++tx++[41] by first | rfl | simp only [Tk]] at h
    exact m46
   ·have hW:exW want.toNat (.mk op tx nn xs at')=exT (.mk op tx nn xs at'):=by rw [exW,Zmx,Te (by show ¬Zv op<_;omega)]
    rw [hW] at h hlen
    conv=>whnf
    refine Zyq (fun c1=>?_) (fun c1=>?_)
    ·have c1:Zv op<5:=by omega
     have hl2:xs.length=2:=by have:=k1 c1;omega
     obtain ⟨x0,x1,rfl⟩:∃x0 x1,xs=[x0,x1]:=by match xs,hl2 with | [a,b],_=>exact ⟨a,b,rfl⟩
     simp only [szS] at hzx
     have g0:=m5 x0 (by simp)
     have g1:=m5 x1 (by simp)
     have z0:wE x0≤n - 1:=by omega
     have z1:wE x1≤n - 1:=by omega
     obtain ⟨o0,t0,n0,y0,q0⟩:=x0
     obtain ⟨o1,t1,n1,y1,q1⟩:=x1
     have hx:exT (.mk op tx nn [(.mk o0 t0 n0 y0 q0),(.mk o1 t1 n1 y1 q1)] at')=exW (Zv op) (.mk o0 t0 n0 y0 q0)++(([32]++(w1++[32]))++exW (Zv op+1) (.mk o1 t1 n1 y1 q1)):=by rw [exT,exN,Ti c1,e2];rfl
     rw [hx] at h hlen
     (try simp only [Ta,Tc,Td] at hlen)
     conv=>whnf
     refine ⟨_,by decide,rfl,?_⟩
     conv=>whnf
     refine ⟨by omega,l,exW (Zv op) (.mk o0 t0 n0 y0 q0),rfl,⟨(by first | exact .inl rfl | exact .inr rfl),rfl,rfl⟩,⟨pl,(.mk o0 t0 n0 y0 q0),(Zv op:Int),rfl,⟨g0,by omega,by omega,by omega,by omega⟩,rfl⟩,by (try simp only [Ta,Tc,Td]);omega,?_⟩
     conv=>whnf
     refine ⟨l++exW (Zv op) (.mk o0 t0 n0 y0 q0),[32]++(w1++[32]),rfl,⟨(by first | exact .inl rfl | exact .inr rfl),rfl,rfl⟩,⟨[[32],w1,[32]],rfl,by simp,by simp,by simp⟩,by (try simp only [Ta,Tc,Td]);omega,?_⟩
     conv=>whnf
     refine ⟨_,by decide,rfl,?_⟩
     conv=>whnf
     refine oiO ?_
     conv=>whnf
     refine ⟨by omega,l++exW (Zv op) (.mk o0 t0 n0 y0 q0)++([32]++(w1++[32])),exW (Zv op+1) (.mk o1 t1 n1 y1 q1),rfl,⟨(by first | exact .inl rfl | exact .inr rfl),rfl,rfl⟩,⟨pl,(.mk o1 t1 n1 y1 q1),((Zv op:Int)+1),rfl,⟨g1,by omega,by omega,by omega,by omega⟩,rfl⟩,by (try simp only [Ta,Tc,Td]);omega,?_⟩
     rw [show l++(exW (Zv op) (.mk o0 t0 n0 y0 q0)++(([32]++(w1++[32]))++exW (Zv op+1) (.mk o1 t1 n1 y1 q1)))=l++exW (Zv op) (.mk o0 t0 n0 y0 q0)++([32]++(w1++[32]))++exW (Zv op+1) (.mk o1 t1 n1 y1 q1) by first | rfl | simp only [Tk]] at h
     exact m46
    have c1:¬Zv op<5:=by omega
    conv=>whnf
    refine Zyq (fun c2=>?_) (fun c2=>?_)
    ·have c2:Zv op=5:=by omega
     have hl2:xs.length=1:=by have:=k2 c2;omega
     obtain ⟨x0,rfl⟩:∃x0,xs=[x0]:=by match xs,hl2 with | [a],_=>exact ⟨a,rfl⟩
     simp only [szS] at hzx
     have g0:=m5 x0 (by simp)
     have z0:wE x0≤n - 1:=by omega
     obtain ⟨o0,t0,n0,y0,q0⟩:=x0
     have hx:exT (.mk op tx nn [(.mk o0 t0 n0 y0 q0)] at')=w1++exW 5 (.mk o0 t0 n0 y0 q0):=by rw [exT,exN,Te c1,Ti c2,e2];rfl
     rw [hx] at h hlen
     (try simp only [Ta,Tc,Td] at hlen)
     conv=>whnf
     refine ⟨l,w1,rfl,⟨(by first | exact .inl rfl | exact .inr rfl),rfl,rfl⟩,⟨[w1],rfl,by simp,by simp,by simp⟩,by (try simp only [Ta,Tc,Td]);omega,?_⟩
     conv=>whnf
     refine ⟨_,by decide,rfl,?_⟩
     conv=>whnf
     refine ⟨by omega,l++w1,exW 5 (.mk o0 t0 n0 y0 q0),rfl,⟨(by first | exact .inl rfl | exact .inr rfl),rfl,rfl⟩,⟨pl,(.mk o0 t0 n0 y0 q0),5,rfl,⟨g0,by omega,by omega,by omega,by omega⟩,rfl⟩,by (try simp only [Ta,Tc,Td]);omega,?_⟩
     rw [show l++(w1++exW 5 (.mk o0 t0 n0 y0 q0))=l++w1++exW 5 (.mk o0 t0 n0 y0 q0) by first | rfl | simp only [Tk]] at h
     exact m46
    have c2:¬Zv op=5:=by omega
    conv=>whnf
    refine Zyv (fun c3=>?_) (fun c3=>?_)
    ·have c3:Wj op≠[]:=by rw [e2];exact c3
     have hx:exT (.mk op tx nn xs at')=w1++XH [40] [41] xs:=by rw [exT,exN,Te c1,Te c2,Ti c3,e2,UZ];rfl
     rw [hx] at h hlen
     (try simp only [Ta,Tc,Td] at hlen)
     conv=>whnf
     refine ⟨l,w1,rfl,⟨(by first | exact .inl rfl | exact .inr rfl),rfl,rfl⟩,⟨[w1],rfl,by simp,by simp,by simp⟩,by (try simp only [Ta,Tc,Td]);omega,?_⟩
     conv=>whnf
     refine ⟨by omega,l++w1,XH [40] [41] xs,rfl,⟨(by first | exact .inl rfl | exact .inr rfl),rfl,rfl⟩,⟨[40],[41],pl,xs,rfl,⟨Tl.2 m5,by omega,by omega⟩,rfl⟩,by (try simp only [Ta,Tc,Td]);omega,?_⟩
     rw [show l++(w1++XH [40] [41] xs)=l++w1++XH [40] [41] xs by first | rfl | simp only [Tk]] at h
     exact m46
    have c3:¬Wj op≠[]:=by rw [e2];exact fun g=>g c3
    conv=>whnf
    refine Zyq (fun c4=>?_) (fun c4=>?_)
    ·have c4:op=6:=by omega
     have hx:exT (.mk op tx nn xs at')=XH [91] [93] xs:=by rw [exT,exN,Te c1,Te c2,Te c3,Ti c4,UZ];rfl
     rw [hx] at h hlen
     (try simp only [Ta,Tc,Td] at hlen)
     conv=>whnf
     refine ⟨by omega,l,XH [91] [93] xs,rfl,⟨(by first | exact .inl rfl | exact .inr rfl),rfl,rfl⟩,⟨[91],[93],pl,xs,rfl,⟨Tl.2 m5,by omega,by omega⟩,rfl⟩,by (try simp only [Ta,Tc,Td]);omega,?_⟩
     rw [show l++(XH [91] [93] xs)=l++XH [91] [93] xs by first | rfl | simp only [Tk]] at h
     exact m46
    have c4:¬op=6:=by omega
    conv=>whnf
    refine Zyq (fun c5=>?_) (fun c5=>?_)
    ·have c5:op=7:=by omega
     have hxl:(Y0 pl xs).length=xs.length:=by rw [Zk,Tf]
     by_cases hx0:xs.length=0
     ·have hx:exT (.mk op tx nn xs at')=[36]++tx:=by rw [exT,exN,Te c1,Te c2,Te c3,Te c4,Ti c5,Zca,Ti hx0,TM]
      rw [hx] at h hlen
      (try simp only [Ta,Tc,Td] at hlen)
      conv=>whnf
      refine ⟨l,[36]++tx,rfl,⟨(by first | exact .inl rfl | exact .inr rfl),rfl,rfl⟩,⟨[[36],tx],rfl,by simp,by simp,by simp⟩,by (try simp only [Ta,Tc,Td]);omega,?_⟩
      conv=>whnf
      refine Zyq (fun g=>?_) (fun g=>?_)
      case refine_1=>exact absurd (show ((Y0 pl xs).length:Int)>0 from g) (by omega)
      rw [show l++([36]++tx)=l++([36]++tx) by first | rfl | simp only [Tk]] at h
      exact m46
     have hx:exT (.mk op tx nn xs at')=([36]++tx)++XH [40] [41] xs:=by rw [exT,exN,Te c1,Te c2,Te c3,Te c4,Ti c5,Zca,Te hx0,UZ,Tk];rfl
     rw [hx] at h hlen
     (try simp only [Ta,Tc,Td] at hlen)
     conv=>whnf
     refine ⟨l,[36]++tx,rfl,⟨(by first | exact .inl rfl | exact .inr rfl),rfl,rfl⟩,⟨[[36],tx],rfl,by simp,by simp,by simp⟩,by (try simp only [Ta,Tc,Td]);omega,?_⟩
     conv=>whnf
     refine Zyq (fun g=>?_) (fun g=>?_)
     case refine_2=>exact absurd (show ((Y0 pl xs).length:Int)>0 by omega) g
     conv=>whnf
     refine ⟨by omega,l++([36]++tx),XH [40] [41] xs,rfl,⟨(by first | exact .inl rfl | exact .inr rfl),rfl,rfl⟩,⟨[40],[41],pl,xs,rfl,⟨Tl.2 m5,by omega,by omega⟩,rfl⟩,by (try simp only [Ta,Tc,Td]);omega,?_⟩
     rw [show l++(([36]++tx)++XH [40] [41] xs)=l++([36]++tx)++XH [40] [41] xs by first | rfl | simp only [Tk]] at h
     exact m46
    have c5:¬op=7:=by omega
    conv=>whnf
    refine Zyq (fun c6=>?_) (fun c6=>?_)
    ·have c6':op=3:=by omega
     obtain ⟨i0,i1⟩:=m4
     conv=>whnf
     refine Zyq (fun gn=>?_) (fun gn=>?_)
     ·obtain ⟨j0,j1,j2⟩:=Zjj gn i0
      obtain ⟨wn,hwn⟩:∃wn,IntKind.u64.wrap nn=wn:=⟨_,rfl⟩
      rw [hwn] at j0 j1 j2
      conv=>whnf
      refine Or.inr ?_
      rw [hwn]
      have hx:exT (.mk op tx nn xs at')=Zdz nn:=by rw [exT,exN,Te c1,Te c2,Te c3,Te c4,Te c5,Ti c6']
      rw [hx] at h hlen
      (try simp only [Ta,Tc,Td] at hlen)
      conv=>whnf
      refine ⟨⟨rfl,j0,j1⟩,?_⟩
      obtain ⟨T,hT⟩:∃T,VD 16 wn.toNat=T:=⟨_,rfl⟩
      rw [hT] at j2 ⊢
      rw [j2] at h hlen
      (try simp only [Ta,Tc,Td] at hlen)
      conv=>whnf
      refine ⟨l,[48,120]++T,rfl,⟨(by first | exact .inl rfl | exact .inr rfl),rfl,rfl⟩,⟨[[48,120],T],rfl,by simp,by simp,by simp⟩,by (try simp only [Ta,Tc,Td]);omega,?_⟩
      rw [show l++(([48,120]++T))=l++([48,120]++T) by first | rfl | simp only [Tk]] at h
      exact m46
     conv=>whnf
     refine Zyq (fun _=>?_) (fun g=>absurd c6 g)
     have hx:exT (.mk op tx nn xs at')=Zdz nn:=by rw [exT,exN,Te c1,Te c2,Te c3,Te c4,Te c5,Ti c6']
     rw [hx] at h hlen
     (try simp only [Ta,Tc,Td] at hlen)
     conv=>whnf
     refine ⟨⟨rfl,by omega,i1⟩,?_⟩
     conv=>whnf
     refine ⟨l,Zdz nn,rfl,⟨(by first | exact .inl rfl | exact .inr rfl),rfl,rfl⟩,⟨[Zdz nn],rfl,by simp,by simp,by simp⟩,by (try simp only [Ta,Tc,Td]);omega,?_⟩
     rw [show l++(Zdz nn)=l++Zdz nn by first | rfl | simp only [Tk]] at h
     exact m46
    have c6':¬op=3:=by omega
    conv=>whnf
    refine Zyq (fun g=>absurd g c6) (fun _=>?_)
    conv=>whnf
    refine Zyq (fun c7=>?_) (fun c7=>?_)
    ·have c7':op=4:=by omega
     have hq:(VC tx).isSome=true:=by unfold X9 at m3;rw [Te (by omega),Ti c7'] at m3;exact m3
     obtain ⟨q,hq⟩:=Option.isSome_iff_exists.1 hq
     have hqT:Zpm tx=q:=by rw [Zpm,hq];rfl
     have hx:exT (.mk op tx nn xs at')=q:=by rw [exT,exN,Te c1,Te c2,Te c3,Te c4,Te c5,Te c6',Ti c7',hqT]
     rw [hx] at h hlen
     (try simp only [Ta,Tc,Td] at hlen)
     conv=>whnf
     refine ⟨by omega,?_⟩
     conv=>whnf
     refine ⟨fun g=>?_,fun q' hq'=>?_⟩
     case refine_1=>exact absurd (hq.symm.trans g) (by simp)
     obtain rfl:q=q':=by rw [hq] at hq';exact Option.some.inj hq'
     conv=>whnf
     refine ⟨l,q,rfl,⟨(by first | exact .inl rfl | exact .inr rfl),rfl,rfl⟩,⟨[q],rfl,by simp,by simp,by simp⟩,by (try simp only [Ta,Tc,Td]);omega,?_⟩
     rw [show l++(q)=l++q by first | rfl | simp only [Tk]] at h
     exact m46
    have c7':¬op=4:=by omega
    conv=>whnf
    refine Zyq (fun c8=>?_) (fun c8=>?_)
    ·have c8':op=5:=by omega
     have hx:exT (.mk op tx nn xs at')=[110,105,108]:=by rw [exT,exN,Te c1,Te c2,Te c3,Te c4,Te c5,Te c6',Te c7',Ti c8']
     rw [hx] at h hlen
     (try simp only [Ta,Tc,Td] at hlen)
     conv=>whnf
     refine ⟨l,[110,105,108],rfl,⟨(by first | exact .inl rfl | exact .inr rfl),rfl,rfl⟩,⟨[[110,105,108]],rfl,by simp,by simp,by simp⟩,by (try simp only [Ta,Tc,Td]);omega,?_⟩
     rw [show l++([110,105,108])=l++[110,105,108] by first | rfl | simp only [Tk]] at h
     exact m46
    have c8':¬op=5:=by omega
    conv=>whnf
    refine Zyq (fun c9=>?_) (fun c9=>?_)
    ·have c9':op=2:=by omega
     have hx:exT (.mk op tx nn xs at')=[95]:=by rw [exT,exN,Te c1,Te c2,Te c3,Te c4,Te c5,Te c6',Te c7',Te c8',Ti c9']
     rw [hx] at h hlen
     (try simp only [Ta,Tc,Td] at hlen)
     conv=>whnf
     refine ⟨l,[95],rfl,⟨(by first | exact .inl rfl | exact .inr rfl),rfl,rfl⟩,⟨[[95]],rfl,by simp,by simp,by simp⟩,by (try simp only [Ta,Tc,Td]);omega,?_⟩
     rw [show l++([95])=l++[95] by first | rfl | simp only [Tk]] at h
     exact m46
    have c9':¬op=2:=by omega
    have hx:exT (.mk op tx nn xs at')=tx:=by rw [exT,exN,Te c1,Te c2,Te c3,Te c4,Te c5,Te c6',Te c7',Te c8',Te c9']
    rw [hx] at h hlen
    (try simp only [Ta,Tc,Td] at hlen)
    conv=>whnf
    refine ⟨l,tx,rfl,⟨(by first | exact .inl rfl | exact .inr rfl),rfl,rfl⟩,⟨[tx],rfl,by simp,by simp,by simp⟩,by (try simp only [Ta,Tc,Td]);omega,?_⟩
    rw [show l++(tx)=l++tx by first | rfl | simp only [Tk]] at h
    exact m46
 ·exact h.elim
end Go.PM.Lex
end

section
namespace Go.PM.Lex
open Go.Proofs Go.Shelf Go.RowKit
variable {w0:World} {nG:Nat}
theorem ZkD (w:World) (g n:Nat) {cs:Array Value} {ty:TypeId} {fz:Nat×Nat} (h:w.heap[g]?=some (.cells cs ty fz)) (h1:fz.1≤fz.2) (h2:∀o,n≤o→fz.1≤o→fz.2≤o) :
  ∃fz',(w.drew.freeze ⟨g,0,none⟩ n).heap[g]?=some (.cells cs ty fz')∧fz'.1≤fz'.2∧∀o,n≤o→fz'.1≤o→fz'.2≤o:=by
 have h':w.drew.heap[g]?=some (.cells cs ty fz):=h
 obtain ⟨lo,hi⟩:=fz
 unfold World.freeze
 split
 ·exact ⟨_,h',h1,h2⟩
 ·simp only [Array.getElem?_modify,if_true,h',So]
  refine ⟨_,rfl,?_,?_⟩
  ·split
   ·exact T4 _
   ·simp only at h1 ⊢;omega
  ·intro o ho ho2
   split
   ·simp only;omega
   ·rename_i hne
    have hne:lo≠hi:=by simpa using hne
    simp only at h1 ⊢
    have k:=h2 (max lo n) (by omega) (by simp only;omega)
    simp only at k
    omega
theorem _root_.Go.PM.Owned.grow {G:GE} {e:Env} {w w':World} {t el:Nat} {rows:List (List D)} {v:Value} (h:Owned G e w t el rows v) (g:Grows w w'):Owned G e w' t el rows v:=by
 rcases h with h | ⟨sz,a1,a2,a3,b,off,cap,cs,ty,fz,a4,a5,a6,a7,a8,a9,a10⟩
 ·exact .inl h
 ·exact .inr ⟨sz,a1,a2,a3,b,off,cap,cs,ty,fz,a4,a5,a6,(g.old _ (Tn.1 a7).1).trans a7,a8,a9,a10⟩
theorem _root_.Go.PM.Owned.refreeze {G:GE} {e:Env} {w w':World} {t:Nat} {rows:List (List D)} {v:Value} {g n:Nat} {cs:Array Value} {ty:TypeId} {fz fz':Nat×Nat} (h:Owned G e w t 5 rows v) (hM:e.M t=some (g,n))
  (h':w'.heap[g]?=some (.cells cs ty fz')) (h0:w.heap[g]?=some (.cells cs ty fz)) (h1:fz'.1≤fz'.2) (h2:∀o,n≤o→fz'.1≤o→fz'.2≤o):Owned G e w' t 5 rows v:=by
 rcases h with ⟨_,_,h⟩ | ⟨sz,a1,a2,a3,b,off,cap,cs2,ty2,fz2,a4,a5,a6,a7,a8,a9,a10⟩
 ·rw [hM] at h;cases h
 ·rw [hM] at a10
  simp only [Option.some.injEq,Prod.mk.injEq] at a10
  obtain ⟨rfl,rfl⟩:=a10
  rw [h0] at a7
  cases a7
  exact .inr ⟨sz,a1,a2,a3,g,off,cap,cs,ty,fz',a4,a5,a6,h',a8,⟨h1,h2⟩,hM⟩
theorem Zsm {G:GE} {e:Env} {w w':World} {t:TypeId} {p:PV} {rows:List (List D)} (hp:p=.d .nilp∨p=.ptr 0 0) (hS:SRel G e ⟨[.cells t [p,.sl 0 5 rows]],[0],1⟩ w)
  (hsz:w.heap.size≤w'.heap.size) (hos:w'.os=w.os) (htp:w'.tape=w.tape) (hout:w'.output=w.output)
  (hcell:∀b off u,w.cell? ⟨b,off,none⟩=some u→w'.cell? ⟨b,off,none⟩=some u)
  (hblk:∀b,b<w.heap.size→(∀q,e.M 0=some q→q.1≠b)→w'.heap[b]?=w.heap[b]?)
  (hown:∀v,Owned G e w 0 5 rows v→Owned G e w' 0 5 rows v) (hobk:∀q,e.M 0=some q→∃cs ty fz,w'.heap[q.1]?=some (.cells cs ty fz)) :
  SRel G e ⟨[.cells t [p,.sl 0 5 rows]],[0],1⟩ w'∧Later e ⟨[.cells t [p,.sl 0 5 rows]],[0],1⟩ w e ⟨[.cells t [p,.sl 0 5 rows]],[0],1⟩ w':=by
 have hL:Later e ⟨[.cells t [p,.sl 0 5 rows]],[0],1⟩ w e ⟨[.cells t [p,.sl 0 5 rows]],[0],1⟩ w':={
  len:=Tp _
  beta:=fun _ _=>rfl
  X:=rfl
  pres:=fun b off u hu ho=>⟨ho,hcell b off u hu⟩
  blocks:=fun b hb h1 h2=>hblk b hb fun q hq=>h2 0 (by simp) q hq
  size:=hsz
  os:=hos
  tape:=htp
  output:=hout
  fresh:=fun i h1 h2=>by simp at h1 h2;omega
  ftok:=fun x hx q hq=>.inr ⟨x,hx,q,hq,rfl⟩ }
 have hlt:=hS.lt (i:=0) (by simp)
 have hblk0:w'.heap[e.β 0]?=w.heap[e.β 0]?:=hblk _ hlt fun q hq=>fun h=>(hS.own 0 (by simp) q hq).2.1 0 (by simp) h.symm
 refine ⟨?_,hL⟩
 exact {
  inj:=hS.inj
  box:=fun i x hx=>by
   match i,hx with
   | 0,hx =>
    cases hx
    obtain ⟨cv,h1,h2,h3⟩:=hS.box 0 _ rfl
    refine ⟨cv,hblk0.trans h1,h2,fun j y u hy hu=>?_⟩
    match j,hy with
    | 0,hy =>
     exact m86
    | 1,hy =>
     cases hy
     obtain ⟨q1,q2⟩:=h3 1 (.sl 0 5 rows) u rfl hu
     refine ⟨?_,q2⟩
     cases q1 with
     | sl _ _ _ _ hn hd ht=>exact .sl _ _ _ _ hn (hd.later hL) (fun h=>hown _ (ht h))
    | j+2,hy=>simp at hy
   | i+1,hx=>simp at hx
  low:=hS.low
  tkn:=hS.tkn
  own:=fun x hx q hq=>by
   obtain ⟨a,b,_⟩:=hS.own x hx q hq
   obtain rfl:x=0:=by simpa using hx
   exact ⟨a,b,hobk q hq⟩
  dis:=hS.dis
  xlt:=fun b off hx=>TB (hS.xlt b off hx) hsz
  xown:=hS.xown
  glob:=fun b hb=>by
   exact m137
  big:=Sc hS.big hsz }
noncomputable def Wd:Zu:=fun args σ K=>match args,σ with
 | [.ptr 0 0],⟨[.cells t [p,.sl 0 e rows]],[0],1⟩=>∃l:Bs,(rows=Zi l∧t=84∧e=5∧(p=.d .nilp∨p=.ptr 0 0)∧l.length<70368744177664)∧K (.ret (.d (.str l))) ⟨[.cells t [p,.sl 0 e rows]],[0],1⟩
 | _,_=>False
theorem XT:Zc Wd:=fun args σ K K' hK h=>by
 unfold Wd at h ⊢
 split at h
 ·obtain ⟨x,h1,h2⟩:=h;exact ⟨x,h1,hK _ _ h2⟩
 ·exact h.elim
theorem U1:PCalls (GG w0 nG) 31 Wd:=VT (Zj Tryz.func31 (by kernel_rfl) rfl) fun args σ K h e w vs hS ha=>by
 unfold Wd at h
 split at h
 ·rename_i t p el rows
  obtain ⟨l,⟨rfl,rfl,rfl,hp,hbig⟩,hK⟩:=h
  obtain ⟨u,rfl,hu⟩:=Zgd ha
  obtain ⟨cv,hc1,hc2,hc3⟩:=hS.box 0 _ rfl
  have hcs:cv.size=2:=hc2
  obtain ⟨v0,v1,rfl⟩:∃v0 v1,cv=#[v0,v1]:=by
   obtain ⟨lst⟩:=cv
   match lst,hcs with
   | [a,b],_=>exact ⟨a,b,rfl⟩
  have hr1:=(hc3 1 (.sl 0 5 (Zi l)) v1 rfl rfl).1
  cases hu with
  | ptr b off hb =>
  refine ⟨_,_,.string ⟨l.toArray⟩,hK,?_⟩
  have fin:∀w',w.heap.size≤w'.heap.size→w'.os=w.os→w'.tape=w.tape→w'.output=w.output →
    (∀b off u,w.cell? ⟨b,off,none⟩=some u→w'.cell? ⟨b,off,none⟩=some u) →
    (∀b,b<w.heap.size→(∀q,e.M 0=some q→q.1≠b)→w'.heap[b]?=w.heap[b]?)→(∀v,Owned (GG w0 nG) e w 0 5 (Zi l) v→Owned (GG w0 nG) e w' 0 5 (Zi l) v)→(∀q,e.M 0=some q→∃cs ty fz,w'.heap[q.1]?=some (.cells cs ty fz)) →
    VRel (GG w0 nG) e ⟨[.cells 84 [p,.sl 0 5 (Zi l)]],[0],1⟩ w' (.d (.str l)) (.string ⟨l.toArray⟩)∧SRel (GG w0 nG) e ⟨[.cells 84 [p,.sl 0 5 (Zi l)]],[0],1⟩ w'∧Later e ⟨[.cells 84 [p,.sl 0 5 (Zi l)]],[0],1⟩ w e ⟨[.cells 84 [p,.sl 0 5 (Zi l)]],[0],1⟩ w':=fun w' h1 h2 h3 h4 h5 h6 h7 h8 =>
   ⟨.mkstr,Zsm hp hS h1 h2 h3 h4 h5 h6 h7 h8⟩
  have grown:∀w',Grows w w'→_:=fun w' g=>fin w' g.size g.os g.tape g.output (fun b off u hu=>(g.cell (VM hu)).trans hu) (fun b hb _=>g.old b hb) (fun v hv=>hv.grow g) (fun q hq=>by obtain ⟨_,_,cs,ty,fz,hh⟩:=hS.own 0 (by simp) q hq;exact ⟨cs,ty,fz,(g.old _ (Tn.1 hh).1).trans hh⟩)
  cases hr1 with
  | sl _ _ _ _ hn hd ht =>
  rcases ht (by simp) with ⟨rfl,hrows,hM⟩ | ⟨sz,g1,g2,g3,g,off,cap,cs,ty,fz,rfl,g4,g5,g6,⟨g7,rfl,rfl,g8⟩,g9,hM⟩
  ·have hl:l=[]:=by simpa [Zi] using hrows
   subst hl
   refine (Zon Tryz.lays169 Tryz.Builder_Extra_169 w.heap.size (e.β 0) v0 w hc1).mono fun en w' ⟨h1,h2⟩=>?_
   exact ⟨h1,grown w' (Zyx h2)⟩
  ·have hsz1:sz=1:=by
    have:(Tryz.prog.info? 5).map (·.size)=some sz:=g1
    rw [ZtN] at this;cases this;rfl
   subst hsz1
   rw [Xh] at g5 hc1 g9 hM hd
   by_cases hl:l=[]
   ·subst hl
    refine (ZmC Tryz.lays169 Tryz.Builder_Extra_169 w.heap.size (e.β 0) g cap v0 w (by omega) hc1).mono fun en w' ⟨h1,h2⟩=>?_
    exact ⟨h1,grown w' (Zyx h2)⟩
   ·have hcell:∀j x,l[j]?=some x→w.cell? ⟨g,j,none⟩=some (.int .u8 x.toNat):=by
     exact m28
    obtain ⟨fz',hfz',hfa,hfb⟩:=ZkD w g l.length g6 g9.1 (fun o ho=>g9.2 o (by omega))
    refine (ZkA Tryz.lays169 Tryz.Builder_Extra_169 (e.β 0) g cap v0 cs fz l w hl hc1 g6 (by omega) (by omega) (by omega) hcell).mono fun en w' ⟨h1,h2⟩=>?_
    rw [h2]
    refine ⟨h1,fin _ ?_ ?_ ?_ ?_ ?_ ?_ ?_ ?_⟩
    ·unfold World.freeze;split <;> first | exact Tp _ | (simp only [Array.size_modify];exact Tp _)
    ·exact m136
    ·exact m136
    ·exact m136
    ·exact m102
    ·intro b hb hq
     exact VU w g l.length b fun h=>hq _ hM h.symm
    ·intro v hv
     exact hv.refreeze hM hfz' g6 hfa (by simpa [Xh] using hfb)
    ·intro q hq
     rw [hM] at hq;cases hq
     exact ⟨_,_,_,hfz'⟩
 ·exact h.elim
end Go.PM.Lex
end

section
namespace Go.PM.Lex
open Go.Proofs
variable {w0:World} {nG:Nat}
noncomputable def Zsn (n:Nat):Tbl:=[(155,Zfn),(157,Zdh (YH YU) Zhj exT wE n)]
theorem Zso {n:Nat} (ht:TblOK (GG w0 nG) (Zsn n)):PCalls (GG w0 nG) 156 (ZkB 157 YU Zhj exT wE n):=by
 refine pc ht Tryz.func156 ?_
 intro args σ K h
 unfold ZkB at h
 split at h
 ·rename_i r bt g t e rows tp
  obtain ⟨l,pl,xs,rfl,rfl,⟨rfl,rfl,rfl⟩,⟨hmay,hz,hn⟩,hlen,h⟩:=h
  have hl1:(xs.map (YU pl)).length=xs.length:=Tf ..
  have hsz:=ZW wE xs
  refine ⟨Zb [(1,⟨[12],[0,1,2,3,10,11],fun vs σ=>∃i:Nat,vs=[.d (.int .i64 i)]∧σ=⟨[.cells 84 [.ptr 0 0,.sl 0 5 (Zi (l++Zf bt ((xs.take i).map exT)))],.cells tp [.ptr 0 0]],[0],1⟩∧i≤xs.length,fun vs _=>match vs with | [.d (.int _ i)]=>((xs.length:Int) - i).toNat | _=>0⟩)],2,true,by simp,Tb rfl,?_⟩
  conv=>whnf
  refine ⟨⟨0,rfl,(by simp only [TY,TN,Zf,TM];rfl),by omega⟩,?_⟩
  intro vs σ hI
  obtain ⟨i,rfl,rfl,hi⟩:=hI
  conv=>whnf
  refine Zyq (fun hi2=>?_) (fun hi2=>?_)
  ·have hi2:i<xs.length:=by have hi2:(i:Int)<(xs.map (YU pl)).length:=hi2;rw [hl1] at hi2;omega
   have hg:=Z1 wE xs i hi2
   have hmx:Zhj xs[i]=true:=Tl.1 hmay _ (TE hi2)
   have htk:=V3 bt exT hi2
   have hle:=ZaC bt exT xs (i+1)
   obtain ⟨eA,hA⟩:∃x,xs[i]=x:=⟨_,rfl⟩
   obtain ⟨a1,a2,a3,a4,a5⟩:=eA
   rw [hA] at hg hmx htk
   have hr1:(xs.map (YU pl))[((i:Nat):Int).toNat]?=some (YU pl (.mk a1 a2 a3 a4 a5)):=by simp [hi2,hA]
   conv=>whnf
   refine ⟨_,by omega,hr1,?_⟩
   conv=>whnf
   refine Zyq (fun h0=>?_) (fun h0=>?_)
   ·have h0:0<i:=by omega
    rw [Te (by omega)] at htk
    rw [htk] at hle
    simp only [Ta] at hle
    conv=>whnf
    refine ⟨l++Zf bt ((xs.take i).map exT),bt,rfl,⟨.inr rfl,rfl,rfl⟩,⟨rfl,rfl⟩,by simp only [Ta];omega,?_⟩
    conv=>whnf
    refine ⟨l++Zf bt ((xs.take i).map exT)++bt,pl,(.mk a1 a2 a3 a4 a5),rfl,rfl,⟨rfl,rfl⟩,⟨hmx,by omega,by omega⟩,by simp only [Ta];omega,?_⟩
    exact m36
   ·obtain rfl:i=0:=by omega
    rw [Ti rfl] at htk
    rw [htk] at hle
    conv=>whnf
    refine ⟨l++Zf bt ((xs.take 0).map exT),pl,(.mk a1 a2 a3 a4 a5),rfl,rfl,⟨rfl,rfl⟩,⟨hmx,by omega,by omega⟩,by simp only [TY,TN,Zf,Ta,Td];omega,?_⟩
    exact m34
  ·have hi2:i=xs.length:=by have hi2:¬(i:Int)<(xs.map (YU pl)).length:=hi2;rw [hl1] at hi2;omega
   subst hi2
   rw [T8]
   exact m46
 ·exact h.elim
theorem Zpq {n:Nat} (h:PCalls (GG w0 nG) 30 (Znr n)):PCalls (GG w0 nG) 76 (Zox n) :=
 Zxl ⟨⟨Jn,Yv⟩,⟨Zso ⟨⟨ZmD,VE⟩,⟨Zvb ⟨⟨h,VF n⟩,trivial⟩,Zbd _ _ _ _ _⟩,trivial⟩,ZaA _ _ _ _ _ _⟩,trivial⟩
theorem cWE (hN:NumOK w0 nG) (hL:LexC w0 nG):∀n,PCalls (GG w0 nG) 30 (Znr n)
 | 0=>Zve ⟨⟨Zol,Zaz⟩,⟨Jn,Yv⟩,⟨Xj (Zj Tryz.func30 (by kernel_rfl) rfl),YE VF _⟩,⟨Xj (Zj Tryz.func76 (by kernel_rfl) rfl),YE UL _⟩,⟨ZmG hN,Zdj⟩,⟨ZmL hN,JT⟩,⟨hL.quote,W6⟩,trivial⟩
 | n+1=>Zve ⟨⟨Zol,Zaz⟩,⟨Jn,Yv⟩,⟨Xk (sp:=Znr) (cWE hN hL n),YE VF _⟩,⟨Xk (sp:=Zox) (Zpq (cWE hN hL n)),YE UL _⟩,⟨ZmG hN,Zdj⟩,⟨ZmL hN,JT⟩,⟨hL.quote,W6⟩,trivial⟩
noncomputable def Zdn:Zu:=fun args σ K=>match args,σ with
 | [.ptr 0 0,.d (.int .i64 c)],⟨[.cells t [p,.sl 0 e rows]],[0],1⟩=>∃l:Bs,(rows=Zi l∧t=84∧e=5∧(p=.d .nilp∨p=.ptr 0 0)∧l.length<70368744177664) ∧
   ((c=3∨c=151→K (.ret (.tuple [.d (.str []),.d (.int .i64 3)])) ⟨[.cells t [p,.sl 0 e rows]],[0],1⟩)∧(c≠3∧c≠151→K (.ret (.tuple [.d (.str l),.d (.int .i64 0)])) ⟨[.cells t [p,.sl 0 e rows]],[0],1⟩))
 | _,_=>False
theorem JU:Zc Zdn:=fun args σ K K' hK h=>by
 unfold Zdn at h ⊢
 split at h
 ·obtain ⟨l,h1,h2,h3⟩:=h;exact ⟨l,h1,fun g=>hK _ _ (h2 g),fun g=>hK _ _ (h3 g)⟩
 ·exact h.elim
noncomputable def Zsp:Tbl:=[(31,Wd)]
theorem Zih:PCalls (GG w0 nG) 32 Zdn:=by
 refine pc (tbl:=Zsp) ⟨⟨U1,XT⟩,trivial⟩ Tryz.func32 ?_
 intro args σ K h
 unfold Zdn at h
 split at h
 ·rename_i c t p e rows
  obtain ⟨l,⟨rfl,rfl,rfl,hp,hlen⟩,ha,hb⟩:=h
  refine ⟨Zb [],1,true,by simp,Tb rfl,?_⟩
  rcases hp with rfl | rfl
  all_goals
   conv=>whnf
   refine Zyq (fun c1=>?_) (fun c1=>?_)
   ·conv=>whnf
    exact ha (.inl c1)
   conv=>whnf
   refine Zyq (fun c2=>?_) (fun c2=>?_)
   ·conv=>whnf
    exact ha (.inr c2)
   conv=>whnf
   refine ⟨l,⟨rfl,rfl,rfl,(by first | exact .inl rfl | exact .inr rfl),hlen⟩,?_⟩
   conv=>whnf
   exact hb ⟨c1,c2⟩
 ·exact h.elim
def Yy (txt:Bs) {α:Type}:Top α→Bs×Nat
 | .ok _ _=>(txt,0)
 | .err _ e=>if e=3∨e=151 then ([],3) else (txt,0)
noncomputable def Zpr (n:Nat):Zu:=fun args σ K=>match args,σ with
 | [.agg c],⟨[],[],0⟩=>∃pl e,c=(YU pl e).map .d∧((ZO e=true→Zdk e=true∧(exT e).length<1073741824)∧wE e≤n∧n≤1073741824) ∧
   ((ZO e=false→K (.ret (.tuple [.d (.str []),.d (.int .i64 160)])) ⟨[],[],0⟩)∧(ZO e=true→∀x,ZV 65536 16384 (WH 64) (exT e)=x→K (.ret (.tuple [.d (.str (Yy (exT e) x).1),.d (.int .i64 (Yy (exT e) x).2)])) ⟨[],[],0⟩))
 | _,_=>False
theorem Zdo (n:Nat):Zc (Zpr n):=fun args σ K K' hK h=>by
 unfold Zpr at h ⊢
 exact m70
noncomputable def Zxm (n:Nat):Tbl:=[(29,YQ (YH YU) ZO wE n),(30,Znr n),(31,Wd),(14,Zdb),(32,Zdn)]
theorem Zxn {n:Nat} (ht:TblOK (GG w0 nG) (Zxm n)):PCalls (GG w0 nG) 13 (Zpr n):=by
 refine pc ht Tryz.func13 ?_
 intro args σ K h
 unfold Zpr at h
 split at h
 ·obtain ⟨pl,⟨op,tx,nn,xs,at'⟩,rfl,⟨hab,hz,hn⟩,ha,hb⟩:=h
  obtain ⟨E,hE⟩:∃E,Ex.mk op tx nn xs at'=E:=⟨_,rfl⟩
  refine ⟨Zb [],0,true,by simp,Tb rfl,?_⟩
  conv=>whnf
  refine ⟨pl,.mk op tx nn xs at',rfl,⟨hz,hn⟩,fun b hb1=>?_⟩
  cases b with
  | false =>
   conv=>whnf
   exact ha hb1
  | true =>
   obtain ⟨h1,h2⟩:=hab hb1
   have hb:=hb hb1
   conv=>whnf
   refine ⟨[],exW 0 (.mk op tx nn xs at'),rfl,⟨.inl rfl,rfl,rfl⟩,⟨pl,.mk op tx nn xs at',0,rfl,⟨by rw [Zhj,hb1,h1];rfl,hz,hn,by omega,by omega⟩,rfl⟩,by rw [WT];simp only [Td];omega,?_⟩
   rw [WT]
   obtain ⟨T,hT⟩:∃T,exT (.mk op tx nn xs at')=T:=⟨_,rfl⟩
   rw [hT] at hb h2 ⊢
   conv=>whnf
   refine ⟨T,⟨rfl,rfl,rfl,.inr rfl,by omega⟩,?_⟩
   conv=>whnf
   refine ⟨by omega,fun x hx=>?_⟩
   have hb:=hb x hx
   cases x with
   | ok v L =>
    obtain ⟨v1,v2,v3,v4,v5⟩:=v
    unfold Zoc
    dsimp only
    conv=>whnf
    refine ⟨T,⟨rfl,rfl,rfl,.inr rfl,by omega⟩,?_⟩
    conv=>whnf
    refine ⟨fun g=>absurd g (by decide),fun _=>?_⟩
    conv=>whnf
    exact hb
   | err p c =>
    conv=>whnf
    refine ⟨T,⟨rfl,rfl,rfl,.inr rfl,by omega⟩,?_⟩
    exact m57
 ·exact h.elim
theorem cPE (hg:GlobOK w0 nG) (hN:NumOK w0 nG) (hL:LexC w0 nG) (n:Nat):PCalls (GG w0 nG) 13 (Zpr n) :=
 Zxn ⟨⟨cHE hL n,Zq _ _ _ _⟩,⟨cWE hN hL n,VF n⟩,⟨U1,XT⟩,⟨Zub hg,Zdc⟩,⟨Zih,JU⟩,trivial⟩
def Zxo:Ex:=.mk 8 [] 0 [.mk 10 [] 0 [.mk 1 [97] 0 [] 0,.mk 3 [] 1 [] 0] 0] 0
theorem Zsq:ZO Zxo=true:=by decide +kernel
theorem ZmN:exT Zxo=[45,40,97,32,43,32,49,41]:=by decide +kernel
def Zoy {α:Type}:Top α→Bool | .ok _ _=>true | .err _ _=>false
theorem Zoz:Zoy (ZV 65536 16384 (WH 64) [45,40,97,32,43,32,49,41])=true:=by decide +kernel
noncomputable def W7:Zu:=fun args σ K=>match args,σ with
 | [],⟨[],[],0⟩=>K (.ret (.d (.bool true))) ⟨[],[],0⟩
 | _,_=>False
theorem Zfo:Zc W7:=fun args σ K K' hK h=>by
 unfold W7 at h ⊢
 split at h
 ·exact hK _ _ h
 ·exact h.elim
noncomputable def ZkE:Tbl:=[(13,Zpr 1000)]
theorem ZkF (ht:TblOK (GG w0 nG) ZkE):PCalls (GG w0 nG) 12 W7:=by
 refine pc ht Tryz.func12 ?_
 intro args σ K h
 unfold W7 at h
 split at h
 ·refine ⟨Zb [],0,false,by simp,Tb rfl,?_⟩
  conv=>whnf
  refine ⟨fun _=>0,Zxo,rfl,⟨fun _=>⟨by decide +kernel,by rw [ZmN];decide⟩,by decide +kernel,by decide⟩,?_⟩
  refine ⟨fun g=>(by rw [Zsq] at g;cases g),fun _ x hx=>?_⟩
  have hr:=Zoz
  rw [ZmN] at hx ⊢
  rw [hx] at hr
  cases x with
  | ok v L =>
   rw [Yy]
   exact m46
  | err p c=>cases hr
 ·exact h.elim
end Go.PM.Lex
end

section
namespace Go.PM.Lex
def nmT (s:Bs):T0:=⟨1,s,0⟩
def sgT (s:Bs):T0:=⟨4,s,0⟩
def Zjk (sep:Bs):List Ts→Ts
 | []=>[]
 | x::l=>sgT sep::(x++Zjk sep l)
def UM (sep:Bs):List Ts→Ts
 | []=>[]
 | x::l=>x++Zjk sep l
def Zty (want:Nat) (p:Nat×Ts):Ts:=if p.1<want then sgT [40]::(p.2++[sgT [41]]) else p.2
def opT (op:Nat):T0:=if 15≤op∧op≤19 then nmT (Wj op) else sgT (Wj op)
def Zvf (w1 w2:Nat) (mid:Ts):List (Nat×Ts)→Ts
 | []=>[]
 | [a]=>Zty w1 a
 | a::b::_=>Zty w1 a++(mid++Zty w2 b)
def brK (fr fin:Bs) (ps:List Ts):Ts:=sgT fr::(UM [44] ps++[sgT fin])
def Zxp (op:Nat) (text:Bs) (n:Int) (ps:List (Nat×Ts)):Ts :=
 if Zv op<5 then Zvf (Zv op) (Zv op+1) [opT op] ps
 else if Zv op=5 then sgT (Wj op)::Zvf 5 5 [] ps
 else if Wj op≠[] then nmT (Wj op)::brK [40] [41] (ps.map Prod.snd)
 else if op=6 then brK [91] [93] (ps.map Prod.snd)
 else if op=7 then sgT [36]::nmT text::(if ps.length=0 then [] else brK [40] [41] (ps.map Prod.snd))
 else if op=3 then [⟨2,[],n⟩]
 else if op=4 then [⟨3,text,0⟩]
 else if op=5 then [nmT [110,105,108]]
 else if op=2 then [nmT [95]]
 else [nmT text]
mutual
def exK:Ex→Ts
 | .mk op text n args _=>Zxp op text n (Zvg args)
def Zvg:List Ex→List (Nat×Ts)
 | []=>[]
 | e::l=>(Zv (opE e),exK e)::Zvg l
end
def ZxU (want:Nat) (e:Ex):Ts:=Zty want (Zv (opE e),exK e)
def Lim {α:Type} (x:R α):Prop:=∃p,x=.err p 3∨x=.err p 151
def Rd {α β:Type} (er:α→β) (v:α) (r:Ts) (x:R α):Prop:=(∃v',er v'=er v∧x=.ok v' r)∨Lim x
theorem Lim.bind {α β:Type} {x:R α} {f:α→Ts→R β} (h:Lim x):Lim (x.bind f):=by
 obtain ⟨p,rfl | rfl⟩:=h
 ·exact ⟨p,.inl rfl⟩
 ·exact ⟨p,.inr rfl⟩
theorem Rd.bind {α β γ δ:Type} {er:α→β} {er2:γ→δ} {v:α} {u:γ} {r s:Ts} {x:R α} {f:α→Ts→R γ} (h:Rd er v r x) (hf:∀v',er v'=er v→Rd er2 u s (f v' r)):Rd er2 u s (x.bind f):=by
 rcases h with ⟨v',e,rfl⟩ | h
 ·exact hf v' e
 ·exact .inr h.bind
theorem Rd.ok {α β:Type} {er:α→β} {v v':α} {r:Ts} (h:er v'=er v):Rd er v r (.ok v' r):=.inl ⟨v',h,rfl⟩
theorem Rd.id {α:Type} {v:α} {r:Ts}:Rd (fun x:α=>x) v r (.ok v r):=.inl ⟨v,rfl,rfl⟩
theorem Rd.binds {α γ δ:Type} {er2:γ→δ} {v:α} {u:γ} {r s:Ts} {x:R α} {f:α→Ts→R γ} (h:Rd (fun x:α=>x) v r x) (hf:Rd er2 u s (f v r)):Rd er2 u s (x.bind f):=h.bind fun v' e=>by cases (show v'=v from e);exact hf
structure Nx (r:Ts):Prop where
 par:isW r [[40]]=false
 bin:(U3 r).1=0
theorem Zps {l:List Ex} (h:l.length=2):∃a b,l=[a,b]:=by match l,h with | [a,b],_=>exact ⟨a,b,rfl⟩
theorem Zvh {l:List Ex} (h:l.length=1):∃a,l=[a]:=by match l,h with | [a],_=>exact ⟨a,rfl⟩
end Go.PM.Lex
end

section
namespace Go.PM.Lex
def Ln (e:Ex) (r:Ts) (sub:Nat→Ts→R Ex) (least:Nat) (x:R Ex):Prop:=(∃f e',r.length<f∧erE e'=erE e∧x=UC sub least f e' r)∨Lim x
structure ExR (e:Ex):Prop where
 sg:∀d r,isW r [[40]]=false→Rd erE e r (Xy d (ZxU 5 e++r))
 ln:∀d k w l r,w≤l→l≤5→6≤k+w→isW r [[40]]=false→(U3 r).1<l+2→Ln e r (U4 (Xy d) (k - 1)) (w+1) (U4 (Xy d) k (w+1) (ZxU l e++r))
def Zwv (op:Nat):Bs:=if op=3 then [61] else if op=4 then [33,61] else if op=5 then [60] else if op=6 then [60,61] else if op=7 then [62] else [62,61]
def Zww:List Ex→Ts
 | []=>[]
 | e::_=>exK e
mutual
def liK:Li→Ts
 | .mk op rel args body _ =>
  if op=2 then sgT [33]::nmT rel::brK [40] [41] (args.map exK)
  else if op=1 then nmT rel::brK [40] [41] (args.map exK)
  else if op≤8 then Zww args++(sgT (Zwv op)::Zww args.tail)
  else Zww args++(sgT [61]::nmT (Zfk op)::((args.tail.map exK).flatten++(sgT [58]::sgT [123]::(UM [44] (Zsr body)++[sgT [125]]))))
def Zsr:List Li→List Ts
 | []=>[]
 | e::l=>liK e::Zsr l
end
theorem Zss (l:List Li):Zsr l=l.map liK:=by induction l with | nil=>rfl | cons x l ih=>simp [Zsr,ih]
theorem Zst {op:Nat} {rel:Bs} {args:List Ex} {body:List Li} {a:Nat} (h:YI (.mk op rel args body a)=true):Y3 op rel args.length body.length=true∧(∀x∈args,ZO x=true)∧∀x∈body,YI x=true:=by
 simp only [YI,Zn,Wp,Tj] at h
 exact ⟨h.1,Tl.1 h.2.1,Tl.1 h.2.2⟩
theorem Zsu {op:Nat} {rel:Bs} {na nb:Nat} (h:Y3 op rel na nb=true):((op=1∨op=2)∧YP rel=true∧nb=0)∨(3≤op∧op≤8∧rel=[]∧na=2∧nb=0)∨(op=9∧rel=[]∧na=1∧0<nb)∨(9<op∧op≤12∧rel=[]∧na=2∧0<nb):=by
 unfold Y3 at h
 split at h
 ·rename_i c
  simp only [Tj,TS,decide_eq_false_iff_not] at h
  exact .inl ⟨c,h.1,by omega⟩
 ·split at h
  ·rename_i c
   simp only [Tj,TS,decide_eq_false_iff_not,Tz] at h
   exact .inr (.inl ⟨c.1,c.2,h.1,h.2.1,by omega⟩)
  ·split at h
   ·rename_i c
    simp only [Tj,Tz] at h
    exact .inr (.inr (.inl ⟨c,h.1,h.2.1,h.2.2⟩))
   ·split at h
    ·rename_i c
     simp only [Tj,Tz] at h
     exact .inr (.inr (.inr ⟨c.1,c.2,h.1,h.2.1,h.2.2⟩))
    ·cases h
end Go.PM.Lex
end

section
namespace Go.PM.Lex
open Go.Proofs
variable {w0:World} {nG:Nat}
def ZoA (x:Li):Bool:=YI x && Zhi x
theorem Zsv {op:Nat} {rel:Bs} {args:List Ex} {body:List Li} {a:Nat} (h:ZoA (.mk op rel args body a)=true):Y3 op rel args.length body.length=true∧(∀x∈args,Zhj x=true)∧∀x∈body,ZoA x=true:=by
 simp only [ZoA,Tj] at h
 obtain ⟨h1,h2⟩:=h
 obtain ⟨m1,m2,m3⟩:=Zst h1
 obtain ⟨r1,r2⟩:=ZmM h2
 exact ⟨m1,fun x hx=>by rw [Zhj,m2 x hx,r1 x hx];rfl,fun x hx=>by rw [ZoA,m3 x hx,r2 x hx];rfl⟩
noncomputable def Ztz (n:Nat):Zu:=Zhh (.tuple []) fun rest txt=>∃pl x,rest=[YH WR pl x]∧(ZoA x=true∧wL x≤n∧n≤1073741824)∧txt=liT x
theorem ZmO (n:Nat):Zc (Ztz n):=WN _ _
noncomputable def ZgX (n:Nat):Zu:=fun args σ K=>match args,σ with
 | [.ptr 0 0,.d (.sl r),.d (.str bt),.func g [.ptr 0 0] []],⟨[.cells t [p,.sl 0 e rows]],[0],1⟩=>∃l pl xs,rows=Zi l∧r=xs.map (WR pl)∧(p=.ptr 0 0∧t=84∧e=5∧g=111)∧(xs.all ZoA=true∧szS wL xs≤n∧n≤1073741824)∧l.length+(Zf bt (xs.map liT)).length<70368744177664 ∧
   K (.ret (.tuple [])) ⟨[.cells t [.ptr 0 0,.sl 0 e (Zi (l++Zf bt (xs.map liT)))]],[0],1⟩
 | _,_=>False
theorem Zbg (n:Nat):Zc (ZgX n):=fun args σ K K' hK h=>by
 unfold ZgX at h ⊢
 exact m83
noncomputable def Zvi (n:Nat):Tbl:=[(155,Zfn),(111,Ztz n)]
theorem Zvj {n:Nat} (ht:TblOK (GG w0 nG) (Zvi n)):PCalls (GG w0 nG) 110 (ZgX n):=by
 refine pc ht Tryz.func110 ?_
 intro args σ K h
 unfold ZgX at h
 split at h
 ·rename_i r bt g t p e rows
  obtain ⟨l,pl,xs,rfl,rfl,⟨rfl,rfl,rfl,rfl⟩,⟨hmay,hz,hn⟩,hlen,h⟩:=h
  have hl1:(xs.map (WR pl)).length=xs.length:=Tf ..
  have hsz:=ZW wL xs
  refine ⟨Zb [(1,⟨[12],[0,1,2,3,10,11],fun vs σ=>∃i:Nat,vs=[.d (.int .i64 i)]∧σ=⟨[.cells 84 [.ptr 0 0,.sl 0 5 (Zi (l++Zf bt ((xs.take i).map liT)))]],[0],1⟩∧i≤xs.length,fun vs _=>match vs with | [.d (.int _ i)]=>((xs.length:Int) - i).toNat | _=>0⟩)],1,true,by simp,Tb rfl,?_⟩
  conv=>whnf
  refine ⟨⟨0,rfl,(by simp only [TY,TN,Zf,TM];rfl),by omega⟩,?_⟩
  intro vs σ hI
  obtain ⟨i,rfl,rfl,hi⟩:=hI
  conv=>whnf
  refine Zyq (fun hi2=>?_) (fun hi2=>?_)
  ·have hi2:i<xs.length:=by have hi2:(i:Int)<(xs.map (WR pl)).length:=hi2;rw [hl1] at hi2;omega
   have hg:=Z1 wL xs i hi2
   have hmx:ZoA xs[i]=true:=Tl.1 hmay _ (TE hi2)
   have htk:=V3 bt liT hi2
   have hle:=ZaC bt liT xs (i+1)
   obtain ⟨eA,hA⟩:∃x,xs[i]=x:=⟨_,rfl⟩
   obtain ⟨a1,a2,a3,a4,a5⟩:=eA
   rw [hA] at hg hmx htk
   have hr1:(xs.map (WR pl))[((i:Nat):Int).toNat]?=some (WR pl (.mk a1 a2 a3 a4 a5)):=by simp [hi2,hA]
   conv=>whnf
   refine ⟨_,by omega,hr1,?_⟩
   conv=>whnf
   refine Zyq (fun h0=>?_) (fun h0=>?_)
   ·have h0:0<i:=by omega
    rw [Te (by omega)] at htk
    rw [htk] at hle
    simp only [Ta] at hle
    conv=>whnf
    refine ⟨l++Zf bt ((xs.take i).map liT),bt,rfl,⟨.inr rfl,rfl,rfl⟩,⟨rfl,rfl⟩,by simp only [Ta];omega,?_⟩
    conv=>whnf
    refine ⟨l++Zf bt ((xs.take i).map liT)++bt,liT (.mk a1 a2 a3 a4 a5),rfl,⟨.inr rfl,rfl,rfl⟩,⟨pl,(.mk a1 a2 a3 a4 a5),rfl,⟨hmx,by omega,by omega⟩,rfl⟩,by simp only [Ta];omega,?_⟩
    exact m36
   ·obtain rfl:i=0:=by omega
    rw [Ti rfl] at htk
    rw [htk] at hle
    conv=>whnf
    refine ⟨l++Zf bt ((xs.take 0).map liT),liT (.mk a1 a2 a3 a4 a5),rfl,⟨.inr rfl,rfl,rfl⟩,⟨pl,(.mk a1 a2 a3 a4 a5),rfl,⟨hmx,by omega,by omega⟩,rfl⟩,by simp only [TY,TN,Zf,Ta,Td];omega,?_⟩
    exact m34
  ·have hi2:i=xs.length:=by have hi2:¬(i:Int)<(xs.map (WR pl)).length:=hi2;rw [hl1] at hi2;omega
   subst hi2
   rw [T8]
   exact m46
 ·exact h.elim
noncomputable def Zvk (n:Nat):Tbl:=[(75,ZdQ),(76,Zox n),(30,Znr n),(110,spB ZgX n)]
theorem Zvl {n:Nat} (ht:TblOK (GG w0 nG) (Zvk n)):PCalls (GG w0 nG) 111 (Ztz n):=by
 refine Zlz Y6 mixed (tbl:=Zvk n) ht Yt Tryz.func111 rfl (by kernel_rfl) (by kernel_rfl) ?_
 intro args σ K h
 unfold Ztz Zhh at h
 split at h
 ·rename_i rest t p e rows
  obtain ⟨l,txt,rfl,⟨hp,rfl,rfl⟩,⟨pl,⟨op,rel,xs,body,at'⟩,rfl,⟨hmay,hz,hn⟩,rfl⟩,hlen,h⟩:=h
  obtain ⟨m1,m2,m3⟩:=Zsv hmay
  have hzx:szS wE xs+szS wL body+rel.length+1≤n:=by rw [wL,ZgS] at hz;omega
  refine ⟨Zb [],Zad [(13,2)],WQ [],1,true,by simp,Tb rfl,?_⟩
  have hcases:((op=1∨op=2)∧YP rel=true∧body.length=0)∨(3≤op∧op≤8∧rel=[]∧xs.length=2∧body.length=0)∨(op=9∧rel=[]∧xs.length=1∧0<body.length)∨(9<op∧op≤12∧rel=[]∧xs.length=2∧0<body.length):=Zsu m1
  rcases hcases with ⟨hop,hnm,hb⟩ | ⟨c1,c2,rfl,hx2,hb⟩ | ⟨rfl,rfl,hx1,hb⟩ | ⟨c1,c2,rfl,hx2,hb⟩
  ·rcases hop with rfl | rfl
   ·rcases hp with rfl | rfl
    all_goals
     have hx:liT (.mk 1 rel xs body at')=rel++XH [40] [41] xs:=by rw [liT];rfl
     rw [hx] at h hlen
     (try simp only [Ta,Tc,Td] at hlen)
     conv=>whnf
     refine ⟨l,rel,rfl,⟨(by first | exact .inl rfl | exact .inr rfl),rfl,rfl⟩,⟨[rel],rfl,by simp,by simp,by simp⟩,by (try simp only [Ta,Tc,Td]);omega,?_⟩
     conv=>whnf
     refine ⟨l++rel,XH [40] [41] xs,rfl,⟨(by first | exact .inl rfl | exact .inr rfl),rfl,rfl⟩,⟨[40],[41],pl,xs,rfl,⟨Tl.2 m2,by omega,by omega⟩,rfl⟩,by (try simp only [Ta,Tc,Td]);omega,?_⟩
     rw [show l++(rel++XH [40] [41] xs)=l++rel++XH [40] [41] xs by simp only [Tk]] at h
     conv=>whnf
     exact h
   ·rcases hp with rfl | rfl
    all_goals
     have hx:liT (.mk 2 rel xs body at')=[33]++(rel++XH [40] [41] xs):=by rw [liT];rfl
     rw [hx] at h hlen
     (try simp only [Ta,Tc,Td] at hlen)
     conv=>whnf
     refine ⟨l,[33],rfl,⟨(by first | exact .inl rfl | exact .inr rfl),rfl,rfl⟩,⟨[[33]],rfl,by simp,by simp,by simp⟩,by (try simp only [Ta,Tc,Td]);omega,?_⟩
     conv=>whnf
     refine ⟨l++[33],rel,rfl,⟨(by first | exact .inl rfl | exact .inr rfl),rfl,rfl⟩,⟨[rel],rfl,by simp,by simp,by simp⟩,by (try simp only [Ta,Tc,Td]);omega,?_⟩
     conv=>whnf
     refine ⟨l++[33]++rel,XH [40] [41] xs,rfl,⟨(by first | exact .inl rfl | exact .inr rfl),rfl,rfl⟩,⟨[40],[41],pl,xs,rfl,⟨Tl.2 m2,by omega,by omega⟩,rfl⟩,by (try simp only [Ta,Tc,Td]);omega,?_⟩
     rw [show l++([33]++(rel++XH [40] [41] xs))=l++[33]++rel++XH [40] [41] xs by simp only [Tk]] at h
     conv=>whnf
     exact h
  ·obtain ⟨x0,x1,rfl⟩:=Zps hx2
   simp only [szS] at hzx
   have g0:=m2 x0 (by simp)
   have g1:=m2 x1 (by simp)
   have z0:wE x0≤n:=by omega
   have z1:wE x1≤n:=by omega
   obtain ⟨o0,t0,n0,y0,q0⟩:=x0
   obtain ⟨o1,t1,n1,y1,q1⟩:=x1
   obtain rfl | rfl | rfl | rfl | rfl | rfl:op=3∨op=4∨op=5∨op=6∨op=7∨op=8:=by omega
   ·rcases hp with rfl | rfl
    all_goals
     have hx:liT (.mk 3 [] [(.mk o0 t0 n0 y0 q0),(.mk o1 t1 n1 y1 q1)] body at')=exW 0 (.mk o0 t0 n0 y0 q0)++([32,61,32]++exW 0 (.mk o1 t1 n1 y1 q1)):=by rw [liT,WT,WT];rfl
     rw [hx] at h hlen
     (try simp only [Ta,Tc,Td] at hlen)
     conv=>whnf
     refine ⟨_,by decide,rfl,?_⟩
     conv=>whnf
     refine ⟨l,exW 0 (.mk o0 t0 n0 y0 q0),rfl,⟨(by first | exact .inl rfl | exact .inr rfl),rfl,rfl⟩,⟨pl,(.mk o0 t0 n0 y0 q0),0,rfl,⟨g0,by omega,by omega,by omega,by omega⟩,rfl⟩,by (try simp only [Ta,Tc,Td]);omega,?_⟩
     conv=>whnf
     refine Or.inl ⟨InR.u8 (by decide) (by decide),?_⟩
     conv=>whnf
     refine ⟨by decide,by decide,?_⟩
     conv=>whnf
     refine ⟨l++exW 0 (.mk o0 t0 n0 y0 q0),[32,61,32],rfl,⟨(by first | exact .inl rfl | exact .inr rfl),rfl,rfl⟩,⟨[[32,61,32]],rfl,by simp,by simp,by simp⟩,by (try simp only [Ta,Tc,Td]);omega,?_⟩
     conv=>whnf
     refine ⟨_,by decide,rfl,?_⟩
     conv=>whnf
     refine ⟨l++exW 0 (.mk o0 t0 n0 y0 q0)++[32,61,32],exW 0 (.mk o1 t1 n1 y1 q1),rfl,⟨(by first | exact .inl rfl | exact .inr rfl),rfl,rfl⟩,⟨pl,(.mk o1 t1 n1 y1 q1),0,rfl,⟨g1,by omega,by omega,by omega,by omega⟩,rfl⟩,by (try simp only [Ta,Tc,Td]);omega,?_⟩
     rw [show l++(exW 0 (.mk o0 t0 n0 y0 q0)++([32,61,32]++exW 0 (.mk o1 t1 n1 y1 q1)))=l++exW 0 (.mk o0 t0 n0 y0 q0)++[32,61,32]++exW 0 (.mk o1 t1 n1 y1 q1) by simp only [Tk]] at h
     conv=>whnf
     exact h
   ·rcases hp with rfl | rfl
    all_goals
     have hx:liT (.mk 4 [] [(.mk o0 t0 n0 y0 q0),(.mk o1 t1 n1 y1 q1)] body at')=exW 0 (.mk o0 t0 n0 y0 q0)++([32,33,61,32]++exW 0 (.mk o1 t1 n1 y1 q1)):=by rw [liT,WT,WT];rfl
     rw [hx] at h hlen
     (try simp only [Ta,Tc,Td] at hlen)
     conv=>whnf
     refine ⟨_,by decide,rfl,?_⟩
     conv=>whnf
     refine ⟨l,exW 0 (.mk o0 t0 n0 y0 q0),rfl,⟨(by first | exact .inl rfl | exact .inr rfl),rfl,rfl⟩,⟨pl,(.mk o0 t0 n0 y0 q0),0,rfl,⟨g0,by omega,by omega,by omega,by omega⟩,rfl⟩,by (try simp only [Ta,Tc,Td]);omega,?_⟩
     conv=>whnf
     refine Or.inl ⟨InR.u8 (by decide) (by decide),?_⟩
     conv=>whnf
     refine ⟨by decide,by decide,?_⟩
     conv=>whnf
     refine ⟨l++exW 0 (.mk o0 t0 n0 y0 q0),[32,33,61,32],rfl,⟨(by first | exact .inl rfl | exact .inr rfl),rfl,rfl⟩,⟨[[32,33,61,32]],rfl,by simp,by simp,by simp⟩,by (try simp only [Ta,Tc,Td]);omega,?_⟩
     conv=>whnf
     refine ⟨_,by decide,rfl,?_⟩
     conv=>whnf
     refine ⟨l++exW 0 (.mk o0 t0 n0 y0 q0)++[32,33,61,32],exW 0 (.mk o1 t1 n1 y1 q1),rfl,⟨(by first | exact .inl rfl | exact .inr rfl),rfl,rfl⟩,⟨pl,(.mk o1 t1 n1 y1 q1),0,rfl,⟨g1,by omega,by omega,by omega,by omega⟩,rfl⟩,by (try simp only [Ta,Tc,Td]);omega,?_⟩
     rw [show l++(exW 0 (.mk o0 t0 n0 y0 q0)++([32,33,61,32]++exW 0 (.mk o1 t1 n1 y1 q1)))=l++exW 0 (.mk o0 t0 n0 y0 q0)++[32,33,61,32]++exW 0 (.mk o1 t1 n1 y1 q1) by simp only [Tk]] at h
     conv=>whnf
     exact h
   ·rcases hp with rfl | rfl
    all_goals
     have hx:liT (.mk 5 [] [(.mk o0 t0 n0 y0 q0),(.mk o1 t1 n1 y1 q1)] body at')=exW 0 (.mk o0 t0 n0 y0 q0)++([32,60,32]++exW 0 (.mk o1 t1 n1 y1 q1)):=by rw [liT,WT,WT];rfl
     rw [hx] at h hlen
     (try simp only [Ta,Tc,Td] at hlen)
     conv=>whnf
     refine ⟨_,by decide,rfl,?_⟩
     conv=>whnf
     refine ⟨l,exW 0 (.mk o0 t0 n0 y0 q0),rfl,⟨(by first | exact .inl rfl | exact .inr rfl),rfl,rfl⟩,⟨pl,(.mk o0 t0 n0 y0 q0),0,rfl,⟨g0,by omega,by omega,by omega,by omega⟩,rfl⟩,by (try simp only [Ta,Tc,Td]);omega,?_⟩
     conv=>whnf
     refine Or.inl ⟨InR.u8 (by decide) (by decide),?_⟩
     conv=>whnf
     refine ⟨by decide,by decide,?_⟩
     conv=>whnf
     refine ⟨l++exW 0 (.mk o0 t0 n0 y0 q0),[32,60,32],rfl,⟨(by first | exact .inl rfl | exact .inr rfl),rfl,rfl⟩,⟨[[32,60,32]],rfl,by simp,by simp,by simp⟩,by (try simp only [Ta,Tc,Td]);omega,?_⟩
     conv=>whnf
     refine ⟨_,by decide,rfl,?_⟩
     conv=>whnf
     refine ⟨l++exW 0 (.mk o0 t0 n0 y0 q0)++[32,60,32],exW 0 (.mk o1 t1 n1 y1 q1),rfl,⟨(by first | exact .inl rfl | exact .inr rfl),rfl,rfl⟩,⟨pl,(.mk o1 t1 n1 y1 q1),0,rfl,⟨g1,by omega,by omega,by omega,by omega⟩,rfl⟩,by (try simp only [Ta,Tc,Td]);omega,?_⟩
     rw [show l++(exW 0 (.mk o0 t0 n0 y0 q0)++([32,60,32]++exW 0 (.mk o1 t1 n1 y1 q1)))=l++exW 0 (.mk o0 t0 n0 y0 q0)++[32,60,32]++exW 0 (.mk o1 t1 n1 y1 q1) by simp only [Tk]] at h
     conv=>whnf
     exact h
   ·rcases hp with rfl | rfl
    all_goals
     have hx:liT (.mk 6 [] [(.mk o0 t0 n0 y0 q0),(.mk o1 t1 n1 y1 q1)] body at')=exW 0 (.mk o0 t0 n0 y0 q0)++([32,60,61,32]++exW 0 (.mk o1 t1 n1 y1 q1)):=by rw [liT,WT,WT];rfl
     rw [hx] at h hlen
     (try simp only [Ta,Tc,Td] at hlen)
     conv=>whnf
     refine ⟨_,by decide,rfl,?_⟩
     conv=>whnf
     refine ⟨l,exW 0 (.mk o0 t0 n0 y0 q0),rfl,⟨(by first | exact .inl rfl | exact .inr rfl),rfl,rfl⟩,⟨pl,(.mk o0 t0 n0 y0 q0),0,rfl,⟨g0,by omega,by omega,by omega,by omega⟩,rfl⟩,by (try simp only [Ta,Tc,Td]);omega,?_⟩
     conv=>whnf
     refine Or.inl ⟨InR.u8 (by decide) (by decide),?_⟩
     conv=>whnf
     refine ⟨by decide,by decide,?_⟩
     conv=>whnf
     refine ⟨l++exW 0 (.mk o0 t0 n0 y0 q0),[32,60,61,32],rfl,⟨(by first | exact .inl rfl | exact .inr rfl),rfl,rfl⟩,⟨[[32,60,61,32]],rfl,by simp,by simp,by simp⟩,by (try simp only [Ta,Tc,Td]);omega,?_⟩
     conv=>whnf
     refine ⟨_,by decide,rfl,?_⟩
     conv=>whnf
     refine ⟨l++exW 0 (.mk o0 t0 n0 y0 q0)++[32,60,61,32],exW 0 (.mk o1 t1 n1 y1 q1),rfl,⟨(by first | exact .inl rfl | exact .inr rfl),rfl,rfl⟩,⟨pl,(.mk o1 t1 n1 y1 q1),0,rfl,⟨g1,by omega,by omega,by omega,by omega⟩,rfl⟩,by (try simp only [Ta,Tc,Td]);omega,?_⟩
     rw [show l++(exW 0 (.mk o0 t0 n0 y0 q0)++([32,60,61,32]++exW 0 (.mk o1 t1 n1 y1 q1)))=l++exW 0 (.mk o0 t0 n0 y0 q0)++[32,60,61,32]++exW 0 (.mk o1 t1 n1 y1 q1) by simp only [Tk]] at h
     conv=>whnf
     exact h
   ·rcases hp with rfl | rfl
    all_goals
     have hx:liT (.mk 7 [] [(.mk o0 t0 n0 y0 q0),(.mk o1 t1 n1 y1 q1)] body at')=exW 0 (.mk o0 t0 n0 y0 q0)++([32,62,32]++exW 0 (.mk o1 t1 n1 y1 q1)):=by rw [liT,WT,WT];rfl
     rw [hx] at h hlen
     (try simp only [Ta,Tc,Td] at hlen)
     conv=>whnf
     refine ⟨_,by decide,rfl,?_⟩
     conv=>whnf
     refine ⟨l,exW 0 (.mk o0 t0 n0 y0 q0),rfl,⟨(by first | exact .inl rfl | exact .inr rfl),rfl,rfl⟩,⟨pl,(.mk o0 t0 n0 y0 q0),0,rfl,⟨g0,by omega,by omega,by omega,by omega⟩,rfl⟩,by (try simp only [Ta,Tc,Td]);omega,?_⟩
     conv=>whnf
     refine Or.inl ⟨InR.u8 (by decide) (by decide),?_⟩
     conv=>whnf
     refine ⟨by decide,by decide,?_⟩
     conv=>whnf
     refine ⟨l++exW 0 (.mk o0 t0 n0 y0 q0),[32,62,32],rfl,⟨(by first | exact .inl rfl | exact .inr rfl),rfl,rfl⟩,⟨[[32,62,32]],rfl,by simp,by simp,by simp⟩,by (try simp only [Ta,Tc,Td]);omega,?_⟩
     conv=>whnf
     refine ⟨_,by decide,rfl,?_⟩
     conv=>whnf
     refine ⟨l++exW 0 (.mk o0 t0 n0 y0 q0)++[32,62,32],exW 0 (.mk o1 t1 n1 y1 q1),rfl,⟨(by first | exact .inl rfl | exact .inr rfl),rfl,rfl⟩,⟨pl,(.mk o1 t1 n1 y1 q1),0,rfl,⟨g1,by omega,by omega,by omega,by omega⟩,rfl⟩,by (try simp only [Ta,Tc,Td]);omega,?_⟩
     rw [show l++(exW 0 (.mk o0 t0 n0 y0 q0)++([32,62,32]++exW 0 (.mk o1 t1 n1 y1 q1)))=l++exW 0 (.mk o0 t0 n0 y0 q0)++[32,62,32]++exW 0 (.mk o1 t1 n1 y1 q1) by simp only [Tk]] at h
     conv=>whnf
     exact h
   ·rcases hp with rfl | rfl
    all_goals
     have hx:liT (.mk 8 [] [(.mk o0 t0 n0 y0 q0),(.mk o1 t1 n1 y1 q1)] body at')=exW 0 (.mk o0 t0 n0 y0 q0)++([32,62,61,32]++exW 0 (.mk o1 t1 n1 y1 q1)):=by rw [liT,WT,WT];rfl
     rw [hx] at h hlen
     (try simp only [Ta,Tc,Td] at hlen)
     conv=>whnf
     refine ⟨_,by decide,rfl,?_⟩
     conv=>whnf
     refine ⟨l,exW 0 (.mk o0 t0 n0 y0 q0),rfl,⟨(by first | exact .inl rfl | exact .inr rfl),rfl,rfl⟩,⟨pl,(.mk o0 t0 n0 y0 q0),0,rfl,⟨g0,by omega,by omega,by omega,by omega⟩,rfl⟩,by (try simp only [Ta,Tc,Td]);omega,?_⟩
     conv=>whnf
     refine Or.inl ⟨InR.u8 (by decide) (by decide),?_⟩
     conv=>whnf
     refine ⟨by decide,by decide,?_⟩
     conv=>whnf
     refine ⟨l++exW 0 (.mk o0 t0 n0 y0 q0),[32,62,61,32],rfl,⟨(by first | exact .inl rfl | exact .inr rfl),rfl,rfl⟩,⟨[[32,62,61,32]],rfl,by simp,by simp,by simp⟩,by (try simp only [Ta,Tc,Td]);omega,?_⟩
     conv=>whnf
     refine ⟨_,by decide,rfl,?_⟩
     conv=>whnf
     refine ⟨l++exW 0 (.mk o0 t0 n0 y0 q0)++[32,62,61,32],exW 0 (.mk o1 t1 n1 y1 q1),rfl,⟨(by first | exact .inl rfl | exact .inr rfl),rfl,rfl⟩,⟨pl,(.mk o1 t1 n1 y1 q1),0,rfl,⟨g1,by omega,by omega,by omega,by omega⟩,rfl⟩,by (try simp only [Ta,Tc,Td]);omega,?_⟩
     rw [show l++(exW 0 (.mk o0 t0 n0 y0 q0)++([32,62,61,32]++exW 0 (.mk o1 t1 n1 y1 q1)))=l++exW 0 (.mk o0 t0 n0 y0 q0)++[32,62,61,32]++exW 0 (.mk o1 t1 n1 y1 q1) by simp only [Tk]] at h
     conv=>whnf
     exact h
  ·obtain ⟨x0,rfl⟩:=Zvh hx1
   simp only [szS] at hzx
   have g0:=m2 x0 (by simp)
   have z0:wE x0≤n:=by omega
   obtain ⟨o0,t0,n0,y0,q0⟩:=x0
   rcases hp with rfl | rfl
   all_goals
    have hx:liT (.mk 9 [] [(.mk o0 t0 n0 y0 q0)] body at')=exW 0 (.mk o0 t0 n0 y0 q0)++(([32,61,32]++[99,111,117,110,116])++([32,58,32,123,32]++(Zf cmm (body.map liT)++([32,125])))):=by rw [liT,Zdg,WT];simp [ZgR,Zje,Zfk]
    rw [hx] at h hlen
    (try simp only [Ta,Tc,Td] at hlen)
    conv=>whnf
    refine ⟨_,by decide,rfl,?_⟩
    conv=>whnf
    refine ⟨l,exW 0 (.mk o0 t0 n0 y0 q0),rfl,⟨(by first | exact .inl rfl | exact .inr rfl),rfl,rfl⟩,⟨pl,(.mk o0 t0 n0 y0 q0),0,rfl,⟨g0,by omega,by omega,by omega,by omega⟩,rfl⟩,by (try simp only [Ta,Tc,Td]);omega,?_⟩
    conv=>whnf
    refine Or.inl ⟨InR.u8 (by decide) (by decide),?_⟩
    conv=>whnf
    refine ⟨by decide,by decide,?_⟩
    conv=>whnf
    refine ⟨l++exW 0 (.mk o0 t0 n0 y0 q0),([32,61,32]++[99,111,117,110,116]),rfl,⟨(by first | exact .inl rfl | exact .inr rfl),rfl,rfl⟩,⟨[[32,61,32],[99,111,117,110,116]],rfl,by simp,by simp,by simp⟩,by (try simp only [Ta,Tc,Td]);omega,?_⟩
    conv=>whnf
    refine ⟨fun r hr=>?_,by decide,by rw [Zk];simp,?_⟩
    ·rw [Zk] at hr
     simp only [TA,TN,Tq,List.not_mem_nil,or_false] at hr
     rcases hr with rfl;rfl
    conv=>whnf
    refine ⟨l++exW 0 (.mk o0 t0 n0 y0 q0)++([32,61,32]++[99,111,117,110,116]),[32,58,32,123,32],rfl,⟨(by first | exact .inl rfl | exact .inr rfl),rfl,rfl⟩,⟨[[32,58,32,123,32]],rfl,by simp,by simp,by simp⟩,by (try simp only [Ta,Tc,Td]);omega,?_⟩
    conv=>whnf
    refine ⟨by omega,l++exW 0 (.mk o0 t0 n0 y0 q0)++([32,61,32]++[99,111,117,110,116])++[32,58,32,123,32],pl,body,rfl,ZF pl body,⟨rfl,rfl,rfl,rfl⟩,⟨Tl.2 m3,by omega,by omega⟩,(by (try simp only [Ta,Tc,Td]);show _+(Zf cmm (body.map liT)).length<_;omega),?_⟩
    conv=>whnf
    refine ⟨l++exW 0 (.mk o0 t0 n0 y0 q0)++([32,61,32]++[99,111,117,110,116])++[32,58,32,123,32]++Zf cmm (body.map liT),[32,125],rfl,⟨(by first | exact .inl rfl | exact .inr rfl),rfl,rfl⟩,⟨[[32,125]],rfl,by simp,by simp,by simp⟩,by (try simp only [Ta,Tc,Td]);omega,?_⟩
    rw [show l++(exW 0 (.mk o0 t0 n0 y0 q0)++(([32,61,32]++[99,111,117,110,116])++([32,58,32,123,32]++(Zf cmm (body.map liT)++([32,125])))))=l++exW 0 (.mk o0 t0 n0 y0 q0)++([32,61,32]++[99,111,117,110,116])++[32,58,32,123,32]++Zf cmm (body.map liT)++[32,125] by simp only [Tk]] at h
    conv=>whnf
    exact h
  ·obtain ⟨x0,x1,rfl⟩:=Zps hx2
   simp only [szS] at hzx
   have g0:=m2 x0 (by simp)
   have g1:=m2 x1 (by simp)
   have z0:wE x0≤n:=by omega
   have z1:wE x1≤n:=by omega
   obtain ⟨o0,t0,n0,y0,q0⟩:=x0
   obtain ⟨o1,t1,n1,y1,q1⟩:=x1
   obtain rfl | rfl | rfl:op=10∨op=11∨op=12:=by omega
   ·rcases hp with rfl | rfl
    all_goals
     have hx:liT (.mk 10 [] [(.mk o0 t0 n0 y0 q0),(.mk o1 t1 n1 y1 q1)] body at')=exW 0 (.mk o0 t0 n0 y0 q0)++(([32,61,32]++[115,117,109])++([32]++(exW 0 (.mk o1 t1 n1 y1 q1)++([32,58,32,123,32]++(Zf cmm (body.map liT)++([32,125])))))):=by rw [liT,Zdg,WT,WT];simp [ZgR,Zje,Zfk]
     rw [hx] at h hlen
     (try simp only [Ta,Tc,Td] at hlen)
     conv=>whnf
     refine ⟨_,by decide,rfl,?_⟩
     conv=>whnf
     refine ⟨l,exW 0 (.mk o0 t0 n0 y0 q0),rfl,⟨(by first | exact .inl rfl | exact .inr rfl),rfl,rfl⟩,⟨pl,(.mk o0 t0 n0 y0 q0),0,rfl,⟨g0,by omega,by omega,by omega,by omega⟩,rfl⟩,by (try simp only [Ta,Tc,Td]);omega,?_⟩
     conv=>whnf
     refine Or.inl ⟨InR.u8 (by decide) (by decide),?_⟩
     conv=>whnf
     refine ⟨by decide,by decide,?_⟩
     conv=>whnf
     refine ⟨l++exW 0 (.mk o0 t0 n0 y0 q0),([32,61,32]++[115,117,109]),rfl,⟨(by first | exact .inl rfl | exact .inr rfl),rfl,rfl⟩,⟨[[32,61,32],[115,117,109]],rfl,by simp,by simp,by simp⟩,by (try simp only [Ta,Tc,Td]);omega,?_⟩
     conv=>whnf
     refine ⟨fun r hr=>?_,by decide,by rw [Zk];simp,?_⟩
     ·exact m89
     conv=>whnf
     refine ⟨_,by decide,rfl,?_⟩
     conv=>whnf
     refine ⟨l++exW 0 (.mk o0 t0 n0 y0 q0)++([32,61,32]++[115,117,109]),[32],rfl,⟨(by first | exact .inl rfl | exact .inr rfl),rfl,rfl⟩,⟨[[32]],rfl,by simp,by simp,by simp⟩,by (try simp only [Ta,Tc,Td]);omega,?_⟩
     conv=>whnf
     refine ⟨l++exW 0 (.mk o0 t0 n0 y0 q0)++([32,61,32]++[115,117,109])++[32],exW 0 (.mk o1 t1 n1 y1 q1),rfl,⟨(by first | exact .inl rfl | exact .inr rfl),rfl,rfl⟩,⟨pl,(.mk o1 t1 n1 y1 q1),0,rfl,⟨g1,by omega,by omega,by omega,by omega⟩,rfl⟩,by (try simp only [Ta,Tc,Td]);omega,?_⟩
     conv=>whnf
     refine oiD ?_
     conv=>whnf
     refine ⟨l++exW 0 (.mk o0 t0 n0 y0 q0)++([32,61,32]++[115,117,109])++[32]++exW 0 (.mk o1 t1 n1 y1 q1),[32,58,32,123,32],rfl,⟨(by first | exact .inl rfl | exact .inr rfl),rfl,rfl⟩,⟨[[32,58,32,123,32]],rfl,by simp,by simp,by simp⟩,by (try simp only [Ta,Tc,Td]);omega,?_⟩
     conv=>whnf
     refine ⟨by omega,l++exW 0 (.mk o0 t0 n0 y0 q0)++([32,61,32]++[115,117,109])++[32]++exW 0 (.mk o1 t1 n1 y1 q1)++[32,58,32,123,32],pl,body,rfl,ZF pl body,⟨rfl,rfl,rfl,rfl⟩,⟨Tl.2 m3,by omega,by omega⟩,(by (try simp only [Ta,Tc,Td]);show _+(Zf cmm (body.map liT)).length<_;omega),?_⟩
     conv=>whnf
     refine ⟨l++exW 0 (.mk o0 t0 n0 y0 q0)++([32,61,32]++[115,117,109])++[32]++exW 0 (.mk o1 t1 n1 y1 q1)++[32,58,32,123,32]++Zf cmm (body.map liT),[32,125],rfl,⟨(by first | exact .inl rfl | exact .inr rfl),rfl,rfl⟩,⟨[[32,125]],rfl,by simp,by simp,by simp⟩,by (try simp only [Ta,Tc,Td]);omega,?_⟩
     rw [show l++(exW 0 (.mk o0 t0 n0 y0 q0)++(([32,61,32]++[115,117,109])++([32]++(exW 0 (.mk o1 t1 n1 y1 q1)++([32,58,32,123,32]++(Zf cmm (body.map liT)++([32,125])))))))=l++exW 0 (.mk o0 t0 n0 y0 q0)++([32,61,32]++[115,117,109])++[32]++exW 0 (.mk o1 t1 n1 y1 q1)++[32,58,32,123,32]++Zf cmm (body.map liT)++[32,125] by simp only [Tk]] at h
     conv=>whnf
     exact h
   ·rcases hp with rfl | rfl
    all_goals
     have hx:liT (.mk 11 [] [(.mk o0 t0 n0 y0 q0),(.mk o1 t1 n1 y1 q1)] body at')=exW 0 (.mk o0 t0 n0 y0 q0)++(([32,61,32]++[109,105,110])++([32]++(exW 0 (.mk o1 t1 n1 y1 q1)++([32,58,32,123,32]++(Zf cmm (body.map liT)++([32,125])))))):=by rw [liT,Zdg,WT,WT];simp [ZgR,Zje,Zfk]
     rw [hx] at h hlen
     (try simp only [Ta,Tc,Td] at hlen)
     conv=>whnf
     refine ⟨_,by decide,rfl,?_⟩
     conv=>whnf
     refine ⟨l,exW 0 (.mk o0 t0 n0 y0 q0),rfl,⟨(by first | exact .inl rfl | exact .inr rfl),rfl,rfl⟩,⟨pl,(.mk o0 t0 n0 y0 q0),0,rfl,⟨g0,by omega,by omega,by omega,by omega⟩,rfl⟩,by (try simp only [Ta,Tc,Td]);omega,?_⟩
     conv=>whnf
     refine Or.inl ⟨InR.u8 (by decide) (by decide),?_⟩
     conv=>whnf
     refine ⟨by decide,by decide,?_⟩
     conv=>whnf
     refine ⟨l++exW 0 (.mk o0 t0 n0 y0 q0),([32,61,32]++[109,105,110]),rfl,⟨(by first | exact .inl rfl | exact .inr rfl),rfl,rfl⟩,⟨[[32,61,32],[109,105,110]],rfl,by simp,by simp,by simp⟩,by (try simp only [Ta,Tc,Td]);omega,?_⟩
     conv=>whnf
     refine ⟨fun r hr=>?_,by decide,by rw [Zk];simp,?_⟩
     ·exact m89
     conv=>whnf
     refine ⟨_,by decide,rfl,?_⟩
     conv=>whnf
     refine ⟨l++exW 0 (.mk o0 t0 n0 y0 q0)++([32,61,32]++[109,105,110]),[32],rfl,⟨(by first | exact .inl rfl | exact .inr rfl),rfl,rfl⟩,⟨[[32]],rfl,by simp,by simp,by simp⟩,by (try simp only [Ta,Tc,Td]);omega,?_⟩
     conv=>whnf
     refine ⟨l++exW 0 (.mk o0 t0 n0 y0 q0)++([32,61,32]++[109,105,110])++[32],exW 0 (.mk o1 t1 n1 y1 q1),rfl,⟨(by first | exact .inl rfl | exact .inr rfl),rfl,rfl⟩,⟨pl,(.mk o1 t1 n1 y1 q1),0,rfl,⟨g1,by omega,by omega,by omega,by omega⟩,rfl⟩,by (try simp only [Ta,Tc,Td]);omega,?_⟩
     conv=>whnf
     refine oiD ?_
     conv=>whnf
     refine ⟨l++exW 0 (.mk o0 t0 n0 y0 q0)++([32,61,32]++[109,105,110])++[32]++exW 0 (.mk o1 t1 n1 y1 q1),[32,58,32,123,32],rfl,⟨(by first | exact .inl rfl | exact .inr rfl),rfl,rfl⟩,⟨[[32,58,32,123,32]],rfl,by simp,by simp,by simp⟩,by (try simp only [Ta,Tc,Td]);omega,?_⟩
     conv=>whnf
     refine ⟨by omega,l++exW 0 (.mk o0 t0 n0 y0 q0)++([32,61,32]++[109,105,110])++[32]++exW 0 (.mk o1 t1 n1 y1 q1)++[32,58,32,123,32],pl,body,rfl,ZF pl body,⟨rfl,rfl,rfl,rfl⟩,⟨Tl.2 m3,by omega,by omega⟩,(by (try simp only [Ta,Tc,Td]);show _+(Zf cmm (body.map liT)).length<_;omega),?_⟩
     conv=>whnf
     refine ⟨l++exW 0 (.mk o0 t0 n0 y0 q0)++([32,61,32]++[109,105,110])++[32]++exW 0 (.mk o1 t1 n1 y1 q1)++[32,58,32,123,32]++Zf cmm (body.map liT),[32,125],rfl,⟨(by first | exact .inl rfl | exact .inr rfl),rfl,rfl⟩,⟨[[32,125]],rfl,by simp,by simp,by simp⟩,by (try simp only [Ta,Tc,Td]);omega,?_⟩
     rw [show l++(exW 0 (.mk o0 t0 n0 y0 q0)++(([32,61,32]++[109,105,110])++([32]++(exW 0 (.mk o1 t1 n1 y1 q1)++([32,58,32,123,32]++(Zf cmm (body.map liT)++([32,125])))))))=l++exW 0 (.mk o0 t0 n0 y0 q0)++([32,61,32]++[109,105,110])++[32]++exW 0 (.mk o1 t1 n1 y1 q1)++[32,58,32,123,32]++Zf cmm (body.map liT)++[32,125] by simp only [Tk]] at h
     conv=>whnf
     exact h
   ·rcases hp with rfl | rfl
    all_goals
     have hx:liT (.mk 12 [] [(.mk o0 t0 n0 y0 q0),(.mk o1 t1 n1 y1 q1)] body at')=exW 0 (.mk o0 t0 n0 y0 q0)++(([32,61,32]++[109,97,120])++([32]++(exW 0 (.mk o1 t1 n1 y1 q1)++([32,58,32,123,32]++(Zf cmm (body.map liT)++([32,125])))))):=by rw [liT,Zdg,WT,WT];simp [ZgR,Zje,Zfk]
     rw [hx] at h hlen
     (try simp only [Ta,Tc,Td] at hlen)
     conv=>whnf
     refine ⟨_,by decide,rfl,?_⟩
     conv=>whnf
     refine ⟨l,exW 0 (.mk o0 t0 n0 y0 q0),rfl,⟨(by first | exact .inl rfl | exact .inr rfl),rfl,rfl⟩,⟨pl,(.mk o0 t0 n0 y0 q0),0,rfl,⟨g0,by omega,by omega,by omega,by omega⟩,rfl⟩,by (try simp only [Ta,Tc,Td]);omega,?_⟩
     conv=>whnf
     refine Or.inl ⟨InR.u8 (by decide) (by decide),?_⟩
     conv=>whnf
     refine ⟨by decide,by decide,?_⟩
     conv=>whnf
     refine ⟨l++exW 0 (.mk o0 t0 n0 y0 q0),([32,61,32]++[109,97,120]),rfl,⟨(by first | exact .inl rfl | exact .inr rfl),rfl,rfl⟩,⟨[[32,61,32],[109,97,120]],rfl,by simp,by simp,by simp⟩,by (try simp only [Ta,Tc,Td]);omega,?_⟩
     conv=>whnf
     refine ⟨fun r hr=>?_,by decide,by rw [Zk];simp,?_⟩
     ·exact m89
     conv=>whnf
     refine ⟨_,by decide,rfl,?_⟩
     conv=>whnf
     refine ⟨l++exW 0 (.mk o0 t0 n0 y0 q0)++([32,61,32]++[109,97,120]),[32],rfl,⟨(by first | exact .inl rfl | exact .inr rfl),rfl,rfl⟩,⟨[[32]],rfl,by simp,by simp,by simp⟩,by (try simp only [Ta,Tc,Td]);omega,?_⟩
     conv=>whnf
     refine ⟨l++exW 0 (.mk o0 t0 n0 y0 q0)++([32,61,32]++[109,97,120])++[32],exW 0 (.mk o1 t1 n1 y1 q1),rfl,⟨(by first | exact .inl rfl | exact .inr rfl),rfl,rfl⟩,⟨pl,(.mk o1 t1 n1 y1 q1),0,rfl,⟨g1,by omega,by omega,by omega,by omega⟩,rfl⟩,by (try simp only [Ta,Tc,Td]);omega,?_⟩
     conv=>whnf
     refine oiD ?_
     conv=>whnf
     refine ⟨l++exW 0 (.mk o0 t0 n0 y0 q0)++([32,61,32]++[109,97,120])++[32]++exW 0 (.mk o1 t1 n1 y1 q1),[32,58,32,123,32],rfl,⟨(by first | exact .inl rfl | exact .inr rfl),rfl,rfl⟩,⟨[[32,58,32,123,32]],rfl,by simp,by simp,by simp⟩,by (try simp only [Ta,Tc,Td]);omega,?_⟩
     conv=>whnf
     refine ⟨by omega,l++exW 0 (.mk o0 t0 n0 y0 q0)++([32,61,32]++[109,97,120])++[32]++exW 0 (.mk o1 t1 n1 y1 q1)++[32,58,32,123,32],pl,body,rfl,ZF pl body,⟨rfl,rfl,rfl,rfl⟩,⟨Tl.2 m3,by omega,by omega⟩,(by (try simp only [Ta,Tc,Td]);show _+(Zf cmm (body.map liT)).length<_;omega),?_⟩
     conv=>whnf
     refine ⟨l++exW 0 (.mk o0 t0 n0 y0 q0)++([32,61,32]++[109,97,120])++[32]++exW 0 (.mk o1 t1 n1 y1 q1)++[32,58,32,123,32]++Zf cmm (body.map liT),[32,125],rfl,⟨(by first | exact .inl rfl | exact .inr rfl),rfl,rfl⟩,⟨[[32,125]],rfl,by simp,by simp,by simp⟩,by (try simp only [Ta,Tc,Td]);omega,?_⟩
     rw [show l++(exW 0 (.mk o0 t0 n0 y0 q0)++(([32,61,32]++[109,97,120])++([32]++(exW 0 (.mk o1 t1 n1 y1 q1)++([32,58,32,123,32]++(Zf cmm (body.map liT)++([32,125])))))))=l++exW 0 (.mk o0 t0 n0 y0 q0)++([32,61,32]++[109,97,120])++[32]++exW 0 (.mk o1 t1 n1 y1 q1)++[32,58,32,123,32]++Zf cmm (body.map liT)++[32,125] by simp only [Tk]] at h
     conv=>whnf
     exact h
 ·exact h.elim
theorem cWA (hN:NumOK w0 nG) (hL:LexC w0 nG) (n:Nat):PCalls (GG w0 nG) 76 (Zox n):=Zpq (cWE hN hL n)
theorem ZmP {n:Nat} (h:PCalls (GG w0 nG) 111 (Ztz n)):PCalls (GG w0 nG) 110 (ZgX n):=Zvj ⟨⟨ZmD,VE⟩,⟨h,ZmO n⟩,trivial⟩
theorem cWL (hN:NumOK w0 nG) (hL:LexC w0 nG):∀n,PCalls (GG w0 nG) 111 (Ztz n)
 | 0=>Zvl ⟨⟨Jn,Yv⟩,⟨cWA hN hL 0,UL 0⟩,⟨cWE hN hL 0,VF 0⟩,⟨Xj (Zj Tryz.func110 (by kernel_rfl) rfl),YE Zbg _⟩,trivial⟩
 | n+1=>Zvl ⟨⟨Jn,Yv⟩,⟨cWA hN hL (n+1),UL _⟩,⟨cWE hN hL (n+1),VF _⟩,⟨Xk (sp:=ZgX) (ZmP (cWL hN hL n)),YE Zbg _⟩,trivial⟩
def ZtA (r:Ru):Bool:=Yq r && Zbf r
theorem Zsw {r:Ru} (h:ZtA r=true):(∀x∈r.args,Zhj x=true)∧∀x∈r.body,ZoA x=true:=by
 simp only [ZtA,Yq,Zbf,Tj] at h
 obtain ⟨⟨_,h1,h2⟩,h3,h4⟩:=h
 rw [Tl] at h1 h2 h3 h4
 exact ⟨fun x hx=>by rw [Zhj,h1 x hx,h3 x hx];rfl,fun x hx=>by rw [ZoA,h2 x hx,h4 x hx];rfl⟩
noncomputable def ZtB (n:Nat):Zu:=Zhh (.tuple []) fun rest txt=>∃pl x,rest=[YH Yp pl x]∧(ZtA x=true∧wRu x≤n∧n≤1073741824)∧txt=ruT x
theorem Zdp (n:Nat):Zc (ZtB n):=WN _ _
noncomputable def Zvm (n:Nat):Tbl:=[(75,ZdQ),(76,Zox n),(110,ZgX n)]
theorem Zxq {n:Nat} (ht:TblOK (GG w0 nG) (Zvm n)):PCalls (GG w0 nG) 64 (ZtB n):=by
 refine pc ht Tryz.func64 ?_
 intro args σ K h
 unfold ZtB Zhh at h
 split at h
 ·rename_i rest t p e rows
  obtain ⟨l,txt,rfl,⟨hp,rfl,rfl⟩,⟨pl,⟨head,xs,body,at'⟩,rfl,⟨hmay,hz,hn⟩,rfl⟩,hlen,h⟩:=h
  obtain ⟨m2,m3⟩:=Zsw hmay
  simp only at m2 m3
  have hzx:szS wE xs+szS wL body+head.length+1≤n:=by unfold wRu at hz;simp only at hz;omega
  have hbl:(ZdL pl body).length=body.length:=by rw [ZF,Tf]
  refine ⟨Zb [],1,true,by simp,Tb rfl,?_⟩
  have hl0:l.length+head.length+(XH [40] [41] xs).length+10<70368744177664+10:=by
   have e:(ruT ⟨head,xs,body,at'⟩).length≥head.length+(XH [40] [41] xs).length:=by rw [ruT];simp only [Ta];omega
   omega
  rcases hp with rfl | rfl
  all_goals
   conv=>whnf
   refine ⟨l,head,rfl,⟨(by first | exact .inl rfl | exact .inr rfl),rfl,rfl⟩,⟨[head],rfl,by simp,by simp,by simp⟩,by (try simp only [Ta,Tc,Td]);omega,?_⟩
   conv=>whnf
   refine ⟨l++head,XH [40] [41] xs,rfl,⟨(by first | exact .inl rfl | exact .inr rfl),rfl,rfl⟩,⟨[40],[41],pl,xs,rfl,⟨Tl.2 m2,by omega,by omega⟩,rfl⟩,by (try simp only [Ta,Tc,Td]);omega,?_⟩
   conv=>whnf
   refine Zyq (fun c=>?_) (fun c=>?_)
   ·have c:0<body.length:=by have c:((ZdL pl body).length:Int)>0:=c;omega
    have hx:ruT ⟨head,xs,body,at'⟩=head++(XH [40] [41] xs++([32,58,45,32]++(Zf cmm (body.map liT)++[46]))):=by rw [ruT,Ti c,Zdg];simp
    rw [hx] at h hlen
    simp only [Ta,Tc,Td] at hlen
    conv=>whnf
    refine ⟨l++head++XH [40] [41] xs,[32,58,45,32],rfl,⟨(by first | exact .inl rfl | exact .inr rfl),rfl,rfl⟩,⟨[[32,58,45,32]],rfl,by simp,by simp,by simp⟩,by (try simp only [Ta,Tc,Td]);omega,?_⟩
    conv=>whnf
    refine ⟨l++head++XH [40] [41] xs++[32,58,45,32],pl,body,rfl,ZF pl body,⟨rfl,rfl,rfl,rfl⟩,⟨Tl.2 m3,by omega,by omega⟩,(by (try simp only [Ta,Tc,Td]);show _+(Zf cmm (body.map liT)).length<_;omega),?_⟩
    conv=>whnf
    refine ⟨l++head++XH [40] [41] xs++[32,58,45,32]++Zf cmm (body.map liT),[46],rfl,⟨(by first | exact .inl rfl | exact .inr rfl),rfl,rfl⟩,⟨[[46]],rfl,by simp,by simp,by simp⟩,by (try simp only [Ta,Tc,Td]);omega,?_⟩
    simp only [← Tk] at h
    exact m46
   ·have c:¬0<body.length:=by have c:¬((ZdL pl body).length:Int)>0:=c;omega
    have hx:ruT ⟨head,xs,body,at'⟩=head++(XH [40] [41] xs++[46]):=by rw [ruT,Te c,T6]
    rw [hx] at h hlen
    simp only [Ta,Tc,Td] at hlen
    conv=>whnf
    refine ⟨l++head++XH [40] [41] xs,[46],rfl,⟨(by first | exact .inl rfl | exact .inr rfl),rfl,rfl⟩,⟨[[46]],rfl,by simp,by simp,by simp⟩,by (try simp only [Ta,Tc,Td]);omega,?_⟩
    simp only [← Tk] at h
    exact m46
 ·exact h.elim
theorem cWR (hN:NumOK w0 nG) (hL:LexC w0 nG) (n:Nat):PCalls (GG w0 nG) 64 (ZtB n):=Zxq ⟨⟨Jn,Yv⟩,⟨cWA hN hL n,UL n⟩,⟨ZmP (cWL hN hL n),Zbg n⟩,trivial⟩
end Go.PM.Lex
end
