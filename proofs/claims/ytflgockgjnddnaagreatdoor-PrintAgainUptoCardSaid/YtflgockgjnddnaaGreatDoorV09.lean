/- A part of the proof: plain logic, contracts and laws over the given program. -/
import Derived.Test.YtflgockgjnddnaaGreatDoorV08
set_option linter.unusedVariables false
set_option linter.unusedSimpArgs false
set_option linter.all false
set_option maxRecDepth 100000
set_option maxHeartbeats 16000000
section
namespace Go.PM.Lex
open Go.Proofs Go.Shelf Go.RowKit
variable {w0:World} {nG:Nat}
theorem Zn7 (w:World) (g n:Nat) {cs:Array Value} {ty:TypeId} {fz:Nat×Nat} (h:w.heap[g]?=some (.cells cs ty fz)) (h1:fz.1≤fz.2) (h2:∀o,n≤o→fz.1≤o→fz.2≤o) :
  ∃fz',(w.drew.freeze ⟨g,0,none⟩ n).heap[g]?=some (.cells cs ty fz')∧fz'.1≤fz'.2∧∀o,n≤o→fz'.1≤o→fz'.2≤o:=by
 have h':w.drew.heap[g]?=some (.cells cs ty fz):=h
 obtain ⟨lo,hi⟩:=fz
 unfold World.freeze
 split
 ·exact ⟨_,h',h1,h2⟩
 ·simp only [Array.getElem?_modify,if_true,h',Sx]
  refine ⟨_,rfl,?_,?_⟩
  ·split
   ·exact Sa _
   ·simp only at h1 ⊢;omega
  ·intro o ho ho2
   split
   ·simp only;omega
   ·rename_i hne
    have hne:lo≠hi:=by simpa using hne
    simp only at h1 ⊢
    have k:=h2 (max lo n) (by omega) (by simp only;omega)
    simp only at k
    omega
theorem _root_.Go.PM.Owned.grow {G:GE} {e:Env} {w w':World} {t el:Nat} {rows:List (List D)} {v:Value} (h:Owned G e w t el rows v) (g:Grows w w'):Owned G e w' t el rows v:=by
 rcases h with h | ⟨sz,a1,a2,a3,b,off,cap,cs,ty,fz,a4,a5,a6,a7,a8,a9,a10⟩
 ·exact .inl h
 ·exact .inr ⟨sz,a1,a2,a3,b,off,cap,cs,ty,fz,a4,a5,a6,(g.old _ (Tq.1 a7).1).trans a7,a8,a9,a10⟩
theorem _root_.Go.PM.Owned.refreeze {G:GE} {e:Env} {w w':World} {t:Nat} {rows:List (List D)} {v:Value} {g n:Nat} {cs:Array Value} {ty:TypeId} {fz fz':Nat×Nat} (h:Owned G e w t 5 rows v) (hM:e.M t=some (g,n))
  (h':w'.heap[g]?=some (.cells cs ty fz')) (h0:w.heap[g]?=some (.cells cs ty fz)) (h1:fz'.1≤fz'.2) (h2:∀o,n≤o→fz'.1≤o→fz'.2≤o):Owned G e w' t 5 rows v:=by
 rcases h with ⟨_,_,h⟩ | ⟨sz,a1,a2,a3,b,off,cap,cs2,ty2,fz2,a4,a5,a6,a7,a8,a9,a10⟩
 ·rw [hM] at h;cases h
 ·rw [hM] at a10
  simp only [Option.some.injEq,Prod.mk.injEq] at a10
  obtain ⟨rfl,rfl⟩:=a10
  rw [h0] at a7
  cases a7
  exact .inr ⟨sz,a1,a2,a3,g,off,cap,cs,ty,fz',a4,a5,a6,h',a8,⟨h1,h2⟩,hM⟩
theorem Zxg {G:GE} {e:Env} {w w':World} {t:TypeId} {p:PV} {rows:List (List D)} (hp:p=.d .nilp∨p=.ptr 0 0) (hS:SRel G e ⟨[.cells t [p,.sl 0 5 rows]],[0],1⟩ w)
  (hsz:w.heap.size≤w'.heap.size) (hos:w'.os=w.os) (htp:w'.tape=w.tape) (hout:w'.output=w.output)
  (hcell:∀b off u,w.cell? ⟨b,off,none⟩=some u→w'.cell? ⟨b,off,none⟩=some u)
  (hblk:∀b,b<w.heap.size→(∀q,e.M 0=some q→q.1≠b)→w'.heap[b]?=w.heap[b]?)
  (hown:∀v,Owned G e w 0 5 rows v→Owned G e w' 0 5 rows v) (hobk:∀q,e.M 0=some q→∃cs ty fz,w'.heap[q.1]?=some (.cells cs ty fz)) :
  SRel G e ⟨[.cells t [p,.sl 0 5 rows]],[0],1⟩ w'∧Later e ⟨[.cells t [p,.sl 0 5 rows]],[0],1⟩ w e ⟨[.cells t [p,.sl 0 5 rows]],[0],1⟩ w':=by
 have hL:Later e ⟨[.cells t [p,.sl 0 5 rows]],[0],1⟩ w e ⟨[.cells t [p,.sl 0 5 rows]],[0],1⟩ w':={
  len:=Tr _
  beta:=fun _ _=>rfl
  X:=rfl
  pres:=fun b off u hu ho=>⟨ho,hcell b off u hu⟩
  blocks:=fun b hb h1 h2=>hblk b hb fun q hq=>h2 0 (by simp) q hq
  size:=hsz
  os:=hos
  tape:=htp
  output:=hout
  fresh:=fun i h1 h2=>by simp at h1 h2;omega
  ftok:=fun x hx q hq=>.inr ⟨x,hx,q,hq,rfl⟩ }
 have hlt:=hS.lt (i:=0) (by simp)
 have hblk0:w'.heap[e.β 0]?=w.heap[e.β 0]?:=hblk _ hlt fun q hq=>fun h=>(hS.own 0 (by simp) q hq).2.1 0 (by simp) h.symm
 refine ⟨?_,hL⟩
 exact {
  inj:=hS.inj
  box:=fun i x hx=>by
   match i,hx with
   | 0,hx =>
    cases hx
    obtain ⟨cv,h1,h2,h3⟩:=hS.box 0 _ rfl
    refine ⟨cv,hblk0.trans h1,h2,fun j y u hy hu=>?_⟩
    match j,hy with
    | 0,hy =>
     exact m87
    | 1,hy =>
     cases hy
     obtain ⟨q1,q2⟩:=h3 1 (.sl 0 5 rows) u rfl hu
     refine ⟨?_,q2⟩
     cases q1 with
     | sl _ _ _ _ hn hd ht=>exact .sl _ _ _ _ hn (hd.later hL) (fun h=>hown _ (ht h))
    | j+2,hy=>simp at hy
   | i+1,hx=>simp at hx
  low:=hS.low
  tkn:=hS.tkn
  own:=fun x hx q hq=>by
   obtain ⟨a,b,_⟩:=hS.own x hx q hq
   obtain rfl:x=0:=by simpa using hx
   exact ⟨a,b,hobk q hq⟩
  dis:=hS.dis
  xlt:=fun b off hx=>TM (hS.xlt b off hx) hsz
  xown:=hS.xown
  glob:=fun b hb=>by
   exact m146
  big:=Sh hS.big hsz }
noncomputable def VT:Zz:=fun args σ K=>match args,σ with
 | [.ptr 0 0],⟨[.cells t [p,.sl 0 e rows]],[0],1⟩=>∃l:Bs,(rows=Zk l∧t=84∧e=5∧(p=.d .nilp∨p=.ptr 0 0)∧l.length<70368744177664)∧K (.ret (.d (.str l))) ⟨[.cells t [p,.sl 0 e rows]],[0],1⟩
 | _,_=>False
theorem Uo:Zc VT:=fun args σ K K' hK h=>by
 unfold VT at h ⊢
 split at h
 ·obtain ⟨x,h1,h2⟩:=h;exact ⟨x,h1,hK _ _ h2⟩
 ·exact h.elim
theorem Zc5:PCalls (GG w0 nG) 31 VT:=Je (Zi Tryz.func31 (by kernel_rfl) rfl) fun args σ K h e w vs hS ha=>by
 unfold VT at h
 split at h
 ·rename_i t p el rows
  obtain ⟨l,⟨rfl,rfl,rfl,hp,hbig⟩,hK⟩:=h
  obtain ⟨u,rfl,hu⟩:=ZiO ha
  obtain ⟨cv,hc1,hc2,hc3⟩:=hS.box 0 _ rfl
  have hcs:cv.size=2:=hc2
  obtain ⟨v0,v1,rfl⟩:∃v0 v1,cv=#[v0,v1]:=by
   obtain ⟨lst⟩:=cv
   match lst,hcs with
   | [a,b],_=>exact ⟨a,b,rfl⟩
  have hr1:=(hc3 1 (.sl 0 5 (Zk l)) v1 rfl rfl).1
  cases hu with
  | ptr b off hb =>
  refine ⟨_,_,.string ⟨l.toArray⟩,hK,?_⟩
  have fin:∀w',w.heap.size≤w'.heap.size→w'.os=w.os→w'.tape=w.tape→w'.output=w.output →
    (∀b off u,w.cell? ⟨b,off,none⟩=some u→w'.cell? ⟨b,off,none⟩=some u) →
    (∀b,b<w.heap.size→(∀q,e.M 0=some q→q.1≠b)→w'.heap[b]?=w.heap[b]?)→(∀v,Owned (GG w0 nG) e w 0 5 (Zk l) v→Owned (GG w0 nG) e w' 0 5 (Zk l) v)→(∀q,e.M 0=some q→∃cs ty fz,w'.heap[q.1]?=some (.cells cs ty fz)) →
    VRel (GG w0 nG) e ⟨[.cells 84 [p,.sl 0 5 (Zk l)]],[0],1⟩ w' (.d (.str l)) (.string ⟨l.toArray⟩)∧SRel (GG w0 nG) e ⟨[.cells 84 [p,.sl 0 5 (Zk l)]],[0],1⟩ w'∧Later e ⟨[.cells 84 [p,.sl 0 5 (Zk l)]],[0],1⟩ w e ⟨[.cells 84 [p,.sl 0 5 (Zk l)]],[0],1⟩ w':=fun w' h1 h2 h3 h4 h5 h6 h7 h8 =>
   ⟨.mkstr,Zxg hp hS h1 h2 h3 h4 h5 h6 h7 h8⟩
  have grown:∀w',Grows w w'→_:=fun w' g=>fin w' g.size g.os g.tape g.output (fun b off u hu=>(g.cell (U8 hu)).trans hu) (fun b hb _=>g.old b hb) (fun v hv=>hv.grow g) (fun q hq=>by obtain ⟨_,_,cs,ty,fz,hh⟩:=hS.own 0 (by simp) q hq;exact ⟨cs,ty,fz,(g.old _ (Tq.1 hh).1).trans hh⟩)
  cases hr1 with
  | sl _ _ _ _ hn hd ht =>
  rcases ht (by simp) with ⟨rfl,hrows,hM⟩ | ⟨sz,g1,g2,g3,g,off,cap,cs,ty,fz,rfl,g4,g5,g6,⟨g7,rfl,rfl,g8⟩,g9,hM⟩
  ·have hl:l=[]:=by simpa [Zk] using hrows
   subst hl
   refine (ZsG Tryz.lays169 Tryz.Builder_Extra_169 w.heap.size (e.β 0) v0 w hc1).mono fun en w' ⟨h1,h2⟩=>?_
   exact ⟨h1,grown w' (ZEi h2)⟩
  ·have hsz1:sz=1:=by
    have:(Tryz.prog.info? 5).map (·.size)=some sz:=g1
    rw [ZyQ] at this;cases this;rfl
   subst hsz1
   rw [XV] at g5 hc1 g9 hM hd
   by_cases hl:l=[]
   ·subst hl
    refine (Zql Tryz.lays169 Tryz.Builder_Extra_169 w.heap.size (e.β 0) g cap v0 w (by omega) hc1).mono fun en w' ⟨h1,h2⟩=>?_
    exact ⟨h1,grown w' (ZEi h2)⟩
   ·have hcell:∀j x,l[j]?=some x→w.cell? ⟨g,j,none⟩=some (.int .u8 x.toNat):=by
     exact m30
    obtain ⟨fz',hfz',hfa,hfb⟩:=Zn7 w g l.length g6 g9.1 (fun o ho=>g9.2 o (by omega))
    refine (Zn4 Tryz.lays169 Tryz.Builder_Extra_169 (e.β 0) g cap v0 cs fz l w hl hc1 g6 (by omega) (by omega) (by omega) hcell).mono fun en w' ⟨h1,h2⟩=>?_
    rw [h2]
    refine ⟨h1,fin _ ?_ ?_ ?_ ?_ ?_ ?_ ?_ ?_⟩
    ·unfold World.freeze;split <;> first | exact Tr _ | (simp only [Array.size_modify];exact Tr _)
    ·exact m145
    ·exact m145
    ·exact m145
    ·exact m104
    ·intro b hb hq
     exact Jf w g l.length b fun h=>hq _ hM h.symm
    ·intro v hv
     exact hv.refreeze hM hfz' g6 hfa (by simpa [XV] using hfb)
    ·intro q hq
     rw [hM] at hq;cases hq
     exact ⟨_,_,_,hfz'⟩
 ·exact h.elim
end Go.PM.Lex
end

section
namespace Go.PM.Lex
open Go.Proofs
variable {w0:World} {nG:Nat}
noncomputable def Zxh (n:Nat):Tbl:=[(155,ZhO),(157,Ze9 (Xd YE) Zj3 exT wE n)]
theorem Zxi {n:Nat} (ht:TblOK (GG w0 nG) (Zxh n)):PCalls (GG w0 nG) 156 (Zn5 157 YE Zj3 exT wE n):=by
 refine pc ht Tryz.func156 ?_
 intro args σ K h
 unfold Zn5 at h
 split at h
 ·rename_i r bt g t e rows tp
  obtain ⟨l,pl,xs,rfl,rfl,⟨rfl,rfl,rfl⟩,⟨hmay,hz,hn⟩,hlen,h⟩:=h
  have hl1:(xs.map (YE pl)).length=xs.length:=Tf ..
  have hsz:=ZH wE xs
  refine ⟨Za [(1,⟨[12],[0,1,2,3,10,11],fun vs σ=>∃i:Nat,vs=[.d (.int .i64 i)]∧σ=⟨[.cells 84 [.ptr 0 0,.sl 0 5 (Zk (l++Zf bt ((xs.take i).map exT)))],.cells tp [.ptr 0 0]],[0],1⟩∧i≤xs.length,fun vs _=>match vs with | [.d (.int _ i)]=>((xs.length:Int) - i).toNat | _=>0⟩)],2,true,by simp,Tb rfl,?_⟩
  conv=>whnf
  refine ⟨⟨0,rfl,(by simp only [T6,TF,Zf,TA];rfl),by omega⟩,?_⟩
  intro vs σ hI
  obtain ⟨i,rfl,rfl,hi⟩:=hI
  conv=>whnf
  refine ZEb (fun hi2=>?_) (fun hi2=>?_)
  ·have hi2:i<xs.length:=by have hi2:(i:Int)<(xs.map (YE pl)).length:=hi2;rw [hl1] at hi2;omega
   have hg:=ZD wE xs i hi2
   have hmx:Zj3 xs[i]=true:=Tl.1 hmay _ (TV hi2)
   have htk:=Jq bt exT hi2
   have hle:=Zck bt exT xs (i+1)
   obtain ⟨eA,hA⟩:∃x,xs[i]=x:=⟨_,rfl⟩
   obtain ⟨a1,a2,a3,a4,a5⟩:=eA
   rw [hA] at hg hmx htk
   have hr1:(xs.map (YE pl))[((i:Nat):Int).toNat]?=some (YE pl (.mk a1 a2 a3 a4 a5)):=by simp [hi2,hA]
   conv=>whnf
   refine ⟨_,by omega,hr1,?_⟩
   conv=>whnf
   refine ZEb (fun h0=>?_) (fun h0=>?_)
   ·have h0:0<i:=by omega
    rw [Te (by omega)] at htk
    rw [htk] at hle
    simp only [Ta] at hle
    conv=>whnf
    refine ⟨l++Zf bt ((xs.take i).map exT),bt,rfl,⟨.inr rfl,rfl,rfl⟩,⟨rfl,rfl⟩,by simp only [Ta];omega,?_⟩
    conv=>whnf
    refine ⟨l++Zf bt ((xs.take i).map exT)++bt,pl,(.mk a1 a2 a3 a4 a5),rfl,rfl,⟨rfl,rfl⟩,⟨hmx,by omega,by omega⟩,by simp only [Ta];omega,?_⟩
    exact m39
   ·obtain rfl:i=0:=by omega
    rw [Th rfl] at htk
    rw [htk] at hle
    conv=>whnf
    refine ⟨l++Zf bt ((xs.take 0).map exT),pl,(.mk a1 a2 a3 a4 a5),rfl,rfl,⟨rfl,rfl⟩,⟨hmx,by omega,by omega⟩,by simp only [T6,TF,Zf,Ta,Td];omega,?_⟩
    exact m37
  ·have hi2:i=xs.length:=by have hi2:¬(i:Int)<(xs.map (YE pl)).length:=hi2;rw [hl1] at hi2;omega
   subst hi2
   rw [Sd]
   exact m31
 ·exact h.elim
theorem Zt3 {n:Nat} (h:PCalls (GG w0 nG) 30 (ZrM n)):PCalls (GG w0 nG) 76 (ZsR n) :=
 ZCQ ⟨⟨Za2,Y2⟩,⟨Zxi ⟨⟨Zqm,UQ⟩,⟨ZAj ⟨⟨h,UR n⟩,trivial⟩,Zc2 _ _ _ _ _⟩,trivial⟩,Zci _ _ _ _ _ _⟩,trivial⟩
theorem cWE (hN:NumOK w0 nG) (hL:LexC w0 nG):∀n,PCalls (GG w0 nG) 30 (ZrM n)
 | 0=>ZAm ⟨⟨ZsE,Zch⟩,⟨Za2,Y2⟩,⟨Yi (Zi Tryz.func30 (by kernel_rfl) rfl),ZV UR _⟩,⟨Yi (Zi Tryz.func76 (by kernel_rfl) rfl),ZV Zag _⟩,⟨Zqp hN,Zfb⟩,⟨Zqu hN,ZbC⟩,⟨hL.quote,Ue⟩,trivial⟩
 | n+1=>ZAm ⟨⟨ZsE,Zch⟩,⟨Za2,Y2⟩,⟨Yj (sp:=ZrM) (cWE hN hL n),ZV UR _⟩,⟨Yj (sp:=ZsR) (Zt3 (cWE hN hL n)),ZV Zag _⟩,⟨Zqp hN,Zfb⟩,⟨Zqu hN,ZbC⟩,⟨hL.quote,Ue⟩,trivial⟩
noncomputable def ZgK:Zz:=fun args σ K=>match args,σ with
 | [.ptr 0 0,.d (.int .i64 c)],⟨[.cells t [p,.sl 0 e rows]],[0],1⟩=>∃l:Bs,(rows=Zk l∧t=84∧e=5∧(p=.d .nilp∨p=.ptr 0 0)∧l.length<70368744177664) ∧
   ((c=3∨c=151→K (.ret (.tuple [.d (.str []),.d (.int .i64 3)])) ⟨[.cells t [p,.sl 0 e rows]],[0],1⟩)∧(c≠3∧c≠151→K (.ret (.tuple [.d (.str l),.d (.int .i64 0)])) ⟨[.cells t [p,.sl 0 e rows]],[0],1⟩))
 | _,_=>False
theorem Zfe:Zc ZgK:=fun args σ K K' hK h=>by
 unfold ZgK at h ⊢
 split at h
 ·obtain ⟨l,h1,h2,h3⟩:=h;exact ⟨l,h1,fun g=>hK _ _ (h2 g),fun g=>hK _ _ (h3 g)⟩
 ·exact h.elim
noncomputable def Zxj:Tbl:=[(31,VT)]
theorem Zqv:PCalls (GG w0 nG) 32 ZgK:=by
 refine pc (tbl:=Zxj) ⟨⟨Zc5,Uo⟩,trivial⟩ Tryz.func32 ?_
 intro args σ K h
 unfold ZgK at h
 split at h
 ·rename_i c t p e rows
  obtain ⟨l,⟨rfl,rfl,rfl,hp,hlen⟩,ha,hb⟩:=h
  refine ⟨Za [],1,true,by simp,Tb rfl,?_⟩
  rcases hp with rfl | rfl
  all_goals
   conv=>whnf
   refine ZEb (fun c1=>?_) (fun c1=>?_)
   ·conv=>whnf
    exact ha (.inl c1)
   conv=>whnf
   refine ZEb (fun c2=>?_) (fun c2=>?_)
   ·conv=>whnf
    exact ha (.inr c2)
   conv=>whnf
   refine ⟨l,⟨rfl,rfl,rfl,(by first | exact .inl rfl | exact .inr rfl),hlen⟩,?_⟩
   conv=>whnf
   exact hb ⟨c1,c2⟩
 ·exact h.elim
def Ve (txt:Bs) {α:Type}:Top α→Bs×Nat
 | .ok _ _=>(txt,0)
 | .err _ e=>if e=3∨e=151 then ([],3) else (txt,0)
noncomputable def ZyD (n:Nat):Zz:=fun args σ K=>match args,σ with
 | [.agg c],⟨[],[],0⟩=>∃pl e,c=(YE pl e).map .d∧((ZW e=true→Zcl e=true∧(exT e).length<1073741824)∧wE e≤n∧n≤1073741824) ∧
   ((ZW e=false→K (.ret (.tuple [.d (.str []),.d (.int .i64 160)])) ⟨[],[],0⟩)∧(ZW e=true→∀x,Y5 65536 16384 (Vp 64) (exT e)=x→K (.ret (.tuple [.d (.str (Ve (exT e) x).1),.d (.int .i64 (Ve (exT e) x).2)])) ⟨[],[],0⟩))
 | _,_=>False
theorem Zqw (n:Nat):Zc (ZyD n):=fun args σ K K' hK h=>by
 unfold ZyD at h ⊢
 exact m120
noncomputable def ZCR (n:Nat):Tbl:=[(29,Xq (Xd YE) ZW wE n),(30,ZrM n),(31,VT),(14,ZgE),(32,ZgK)]
theorem ZCS {n:Nat} (ht:TblOK (GG w0 nG) (ZCR n)):PCalls (GG w0 nG) 13 (ZyD n):=by
 refine pc ht Tryz.func13 ?_
 intro args σ K h
 unfold ZyD at h
 split at h
 ·obtain ⟨pl,⟨op,tx,nn,xs,at'⟩,rfl,⟨hab,hz,hn⟩,ha,hb⟩:=h
  obtain ⟨E,hE⟩:∃E,Ex.mk op tx nn xs at'=E:=⟨_,rfl⟩
  refine ⟨Za [],0,true,by simp,Tb rfl,?_⟩
  conv=>whnf
  refine ⟨pl,.mk op tx nn xs at',rfl,⟨hz,hn⟩,fun b hb1=>?_⟩
  cases b with
  | false =>
   conv=>whnf
   exact ha hb1
  | true =>
   obtain ⟨h1,h2⟩:=hab hb1
   have hb:=hb hb1
   conv=>whnf
   refine ⟨[],exW 0 (.mk op tx nn xs at'),rfl,⟨.inl rfl,rfl,rfl⟩,⟨pl,.mk op tx nn xs at',0,rfl,⟨by rw [Zj3,hb1,h1];rfl,hz,hn,by omega,by omega⟩,rfl⟩,by rw [VX];simp only [Td];omega,?_⟩
   rw [VX]
   obtain ⟨T,hT⟩:∃T,exT (.mk op tx nn xs at')=T:=⟨_,rfl⟩
   rw [hT] at hb h2 ⊢
   conv=>whnf
   refine ⟨T,⟨rfl,rfl,rfl,.inr rfl,by omega⟩,?_⟩
   conv=>whnf
   refine ⟨by omega,fun x hx=>?_⟩
   have hb:=hb x hx
   cases x with
   | ok v L =>
    obtain ⟨v1,v2,v3,v4,v5⟩:=v
    unfold Zsy
    dsimp only
    conv=>whnf
    refine ⟨T,⟨rfl,rfl,rfl,.inr rfl,by omega⟩,?_⟩
    conv=>whnf
    refine ⟨fun g=>absurd g (by decide),fun _=>?_⟩
    conv=>whnf
    exact hb
   | err p c =>
    conv=>whnf
    refine ⟨T,⟨rfl,rfl,rfl,.inr rfl,by omega⟩,?_⟩
    exact m102
 ·exact h.elim
theorem cPE (hg:GlobOK w0 nG) (hN:NumOK w0 nG) (hL:LexC w0 nG) (n:Nat):PCalls (GG w0 nG) 13 (ZyD n) :=
 ZCS ⟨⟨cHE hL n,Zw _ _ _ _⟩,⟨cWE hN hL n,UR n⟩,⟨Zc5,Uo⟩,⟨ZCt hg,ZkU⟩,⟨Zqv,Zfe⟩,trivial⟩
def ZCT:Ex:=.mk 8 [] 0 [.mk 10 [] 0 [.mk 1 [97] 0 [] 0,.mk 3 [] 1 [] 0] 0] 0
theorem Zxk:ZW ZCT=true:=by decide +kernel
theorem Zqx:exT ZCT=[45,40,97,32,43,32,49,41]:=by decide +kernel
def ZCU {α:Type}:Top α→Bool | .ok _ _=>true | .err _ _=>false
theorem ZsS:ZCU (Y5 65536 16384 (Vp 64) [45,40,97,32,43,32,49,41])=true:=by decide +kernel
noncomputable def Zcm:Zz:=fun args σ K=>match args,σ with
 | [],⟨[],[],0⟩=>K (.ret (.d (.bool true))) ⟨[],[],0⟩
 | _,_=>False
theorem ZhP:Zc Zcm:=fun args σ K K' hK h=>by
 unfold Zcm at h ⊢
 split at h
 ·exact hK _ _ h
 ·exact h.elim
noncomputable def Zn8:Tbl:=[(13,ZyD 1000)]
theorem Zn9 (ht:TblOK (GG w0 nG) Zn8):PCalls (GG w0 nG) 12 Zcm:=by
 refine pc ht Tryz.func12 ?_
 intro args σ K h
 unfold Zcm at h
 split at h
 ·refine ⟨Za [],0,false,by simp,Tb rfl,?_⟩
  conv=>whnf
  refine ⟨fun _=>0,ZCT,rfl,⟨fun _=>⟨by decide +kernel,by rw [Zqx];decide⟩,by decide +kernel,by decide⟩,?_⟩
  refine ⟨fun g=>(by rw [Zxk] at g;cases g),fun _ x hx=>?_⟩
  have hr:=ZsS
  rw [Zqx] at hx ⊢
  rw [hx] at hr
  cases x with
  | ok v L =>
   rw [Ve]
   exact m31
  | err p c=>cases hr
 ·exact h.elim
end Go.PM.Lex
end

section
namespace Go.PM.Lex
def nmT (s:Bs):T0:=⟨1,s,0⟩
def sgT (s:Bs):T0:=⟨4,s,0⟩
def US (sep:Bs):List Ts→Ts
 | []=>[]
 | x::l=>sgT sep::(x++US sep l)
def Z3 (sep:Bs):List Ts→Ts
 | []=>[]
 | x::l=>x++US sep l
def Zj4 (want:Nat) (p:Nat×Ts):Ts:=if p.1<want then sgT [40]::(p.2++[sgT [41]]) else p.2
def opT (op:Nat):T0:=if 15≤op∧op≤19 then nmT (ZE op) else sgT (ZE op)
def ZAn (w1 w2:Nat) (mid:Ts):List (Nat×Ts)→Ts
 | []=>[]
 | [a]=>Zj4 w1 a
 | a::b::_=>Zj4 w1 a++(mid++Zj4 w2 b)
def brK (fr fin:Bs) (ps:List Ts):Ts:=sgT fr::(Z3 [44] ps++[sgT fin])
def Zmu (op:Nat) (text:Bs) (n:Int) (ps:List (Nat×Ts)):Ts :=
 if Zl op<5 then ZAn (Zl op) (Zl op+1) [opT op] ps
 else if Zl op=5 then sgT (ZE op)::ZAn 5 5 [] ps
 else if ZE op≠[] then nmT (ZE op)::brK [40] [41] (ps.map Prod.snd)
 else if op=6 then brK [91] [93] (ps.map Prod.snd)
 else if op=7 then sgT [36]::nmT text::(if ps.length=0 then [] else brK [40] [41] (ps.map Prod.snd))
 else if op=3 then [⟨2,[],n⟩]
 else if op=4 then [⟨3,text,0⟩]
 else if op=5 then [nmT [110,105,108]]
 else if op=2 then [nmT [95]]
 else [nmT text]
mutual
def exK:Ex→Ts
 | .mk op text n args _=>Zmu op text n (ZrN args)
def ZrN:List Ex→List (Nat×Ts)
 | []=>[]
 | e::l=>(Zl (opE e),exK e)::ZrN l
end
theorem Zqy (l:List Ex):ZrN l=l.map fun e=>(Zl (opE e),exK e):=by induction l with | nil=>rfl | cons x l ih=>simp [ZrN,ih]
theorem ZhQ (l:List Ex):(ZrN l).map Prod.snd=l.map exK:=by rw [Zqy,TL];rfl
theorem ZsT (l:List Ex):(ZrN l).length=l.length:=by rw [Zqy,Tf]
def Zff (want:Nat) (e:Ex):Ts:=Zj4 want (Zl (opE e),exK e)
def Lim {α:Type} (x:R α):Prop:=∃p,x=.err p 3∨x=.err p 151
def Rd {α β:Type} (er:α→β) (v:α) (r:Ts) (x:R α):Prop:=(∃v',er v'=er v∧x=.ok v' r)∨Lim x
theorem Lim.bind {α β:Type} {x:R α} {f:α→Ts→R β} (h:Lim x):Lim (x.bind f):=by
 obtain ⟨p,rfl | rfl⟩:=h
 ·exact ⟨p,.inl rfl⟩
 ·exact ⟨p,.inr rfl⟩
theorem Rd.bind {α β γ δ:Type} {er:α→β} {er2:γ→δ} {v:α} {u:γ} {r s:Ts} {x:R α} {f:α→Ts→R γ} (h:Rd er v r x) (hf:∀v',er v'=er v→Rd er2 u s (f v' r)):Rd er2 u s (x.bind f):=by
 rcases h with ⟨v',e,rfl⟩ | h
 ·exact hf v' e
 ·exact .inr h.bind
theorem Rd.ok {α β:Type} {er:α→β} {v v':α} {r:Ts} (h:er v'=er v):Rd er v r (.ok v' r):=.inl ⟨v',h,rfl⟩
theorem ZEr {α:Type} {v:α} {r:Ts}:Rd (fun x:α=>x) v r (.ok v r):=.inl ⟨v,rfl,rfl⟩
theorem Rd.lim {α β:Type} {er:α→β} {v:α} {r:Ts} {x:R α} (h:Lim x):Rd er v r x:=.inr h
theorem Zt4 {α:Type} {p:Nat}:Lim (.err p 3:R α):=⟨p,.inl rfl⟩
theorem Zt5 {α:Type} {p:Nat}:Lim (.err p 151:R α):=⟨p,.inr rfl⟩
theorem Rd.binds {α γ δ:Type} {er2:γ→δ} {v:α} {u:γ} {r s:Ts} {x:R α} {f:α→Ts→R γ} (h:Rd (fun x:α=>x) v r x) (hf:Rd er2 u s (f v r)):Rd er2 u s (x.bind f):=h.bind fun v' e=>by cases (show v'=v from e);exact hf
theorem Vl (w:Bs) (r:Ts):isW (sgT w::r) [w]=true:=by simp [isW,hd,sgT]
theorem ZdH (w:Bs) (r:Ts):isW (nmT w::r) [w]=true:=by simp [isW,hd,nmT]
theorem XG (w:Bs) (r:Ts):Z0 w (sgT w::r)=.ok () r:=by rw [Z0,Th (Vl w r)];rfl
theorem Zr {t:T0} {w:Bs} (r:Ts) (h:t.text≠w):isW (t::r) [w]=false:=by
 simp only [isW,hd,List.contains_cons,List.contains_nil,Su,Bool.and_eq_false_imp]
 exact fun _=>by simpa using h
theorem ZaA {t:T0} {ws:List Bs} (r:Ts) (h:t.kind≠1∧t.kind≠4):isW (t::r) ws=false:=by simp [isW,hd,h.1,h.2]
structure Nx (r:Ts):Prop where
 par:isW r [[40]]=false
 bin:(UI r).1=0
def nxW:List Bs:=[[44],[41],[93],[46],[125],[61],[33,61],[60],[60,61],[62],[62,61],[58]]
theorem ZaL {w:Bs} (hw:w∈nxW) (r:Ts):Nx (sgT w::r):=by
 have h:∀w∈nxW,isW [sgT w] [[40]]=false∧(UI [sgT w]).1=0:=by decide
 exact ⟨(h w hw).1,(h w hw).2⟩
theorem WG {α β:Type} {er:α→β} {d:Nat} {fr tw:Bs} {read:Ts→R α} {v:α} {ts r:Ts} (hto:tw≠[]) (h:d≠0→Rd er v (sgT tw::r) (read ts)):Rd er v r (Zo d fr tw read (sgT fr::ts)):=by
 unfold Zo
 rw [Th (Vl _ _)]
 by_cases hd:d=0
 ·rw [Th hd];exact .lim Zt5
 ·rw [Te hd]
  refine (h hd).bind fun v' e=>?_
  rw [Te hto,XG,R.bind_ok]
  exact Rd.ok e
theorem Zjv {α β:Type} {er:α→β} {d:Nat} {fr:Bs} {read:Ts→R α} {v:α} {ts r:Ts} (h:d≠0→Rd er v r (read ts)):Rd er v r (Zo d fr [] read (sgT fr::ts)):=by
 unfold Zo
 rw [Th (Vl _ _)]
 by_cases hd:d=0
 ·rw [Th hd];exact .lim Zt5
 ·rw [Te hd]
  refine (h hd).bind fun v' e=>?_
  rw [Th rfl]
  exact Rd.ok e
theorem Zjw (sep:Bs):∀l:List Ts,l.length≤(US sep l).length
 | []=>Tr _
 | x::l=>by have:=Zjw sep l;simp only [US,Tc,Ta];omega
theorem Zjx {α β:Type} {er:α→β} {sep:Bs} {most:Nat} {starts:Ts→Bool} {one:Ts→R α} {K:α→Ts} (Ok:Ts→Prop) {r:Ts} (hsep:∀t,Ok (sgT sep::t)) (hr:Ok r) (hrs:isW r [sep]=false) :
  ∀(xs:List α) (x:α) (f:Nat) (acc acc':List α),(∀y∈x::xs,∀t,Ok t→Rd er y t (one (K y++t)))→xs.length<f→acc'.map er=acc.map er →
   Rd (List.map er) (acc++x::xs) r (XB sep most starts one f acc' (K x++(US sep (xs.map K)++r)))
 | xs,x,0,acc,acc',h,hf,ha=>by omega
 | [],x,f+1,acc,acc',h,hf,ha=>by
  rw [XB]
  split
  ·exact .lim Zt4
  ·simp only [TF,US,To]
   refine (h x (by simp) r hr).bind fun v' e=>?_
   rw [Te (by rw [hrs];simp)]
   exact Rd.ok (by simp [ha,e])
 | y::ys,x,f+1,acc,acc',h,hf,ha=>by
  rw [XB]
  split
  ·exact .lim Zt4
  ·simp only [Tw,US,Tm,Tg]
   refine (h x (by simp) _ (hsep _)).bind fun v' e=>?_
   rw [Th (Vl _ _)]
   have ih:=Zjx (most:=most) (starts:=starts) Ok hsep hr hrs ys y f (acc++[x]) (acc'++[v']) (fun z hz=>h z (Tp _ hz)) (by simpa using hf) (by simp [ha,e])
   rw [Tg] at ih
   exact ih
theorem UT {α β:Type} {er:α→β} {sep:Bs} {most:Nat} {starts:Ts→Bool} {one:Ts→R α} {K:α→Ts} (Ok:Ts→Prop) {r:Ts} (hsep:∀t,Ok (sgT sep::t)) (hr:Ok r) (hrs:isW r [sep]=false) {xs:List α} (hne:xs≠[])
  (h:∀y∈xs,∀t,Ok t→Rd er y t (one (K y++t))):Rd (List.map er) xs r (Wf sep most starts one (Z3 sep (xs.map K)++r)):=by
 match xs,hne,h with
 | x::xs,_,h =>
  have ht:=Zjw sep (xs.map K)
  rw [Tf] at ht
  simp only [Tw,Z3,Tg]
  exact Zjx Ok hsep hr hrs xs x _ [] [] h (by simp only [Ta];omega) rfl
theorem Zjy {ex:Ts→R Ex} {r:Ts} (hr:Nx r):∀(xs acc acc':List Ex),acc'≠[]→(∀y∈xs,∀t,Nx t→Rd erE y t (ex (exK y++t)))→acc'.map erE=acc.map erE→Rd (List.map erE) (acc++xs) r (WY ex xs.length acc' (US [44] (xs.map exK)++r))
 | [],acc,acc',hn,h,ha=>by rw [Td,WY];exact Rd.ok (by simp [ha])
 | y::ys,acc,acc',hn,h,ha=>by
  rw [Tc,WY,Te hn]
  simp only [Tw,US,Tm,Tg,XG,R.bind_ok]
  have hnx:Nx (US [44] (ys.map exK)++r):=by
   cases ys with
   | nil=>exact hr
   | cons z zs=>exact ZaL (by decide) _
  refine (h y (by simp) _ hnx).bind fun v' e=>?_
  have ih:=Zjy hr ys (acc++[y]) (acc'++[v']) (by simp) (fun z hz=>h z (Tp _ hz)) (by simp [ha,e])
  rw [Tg] at ih
  exact ih
theorem Zoa {ex:Ts→R Ex} {r:Ts} (hr:Nx r) {xs:List Ex} (hne:xs≠[]) (h:∀y∈xs,∀t,Nx t→Rd erE y t (ex (exK y++t))):Rd (List.map erE) xs r (WY ex xs.length [] (Z3 [44] (xs.map exK)++r)):=by
 match xs,hne,h with
 | x::xs,_,h =>
  rw [Tc,WY,Th rfl,R.bind_ok]
  simp only [Tw,Z3,Tg]
  have hnx:Nx (US [44] (xs.map exK)++r):=by
   cases xs with
   | nil=>exact hr
   | cons z zs=>exact ZaL (by decide) _
  refine (h x (by simp) _ hnx).bind fun v' e=>?_
  exact Zjy hr xs [x] ([]++[v']) (by simp) (fun z hz=>h z (Tp _ hz)) (by simp [e])
theorem ZhR {op:Nat} {t:Bs} {n:Int} {l:List Ex} {a:Nat} (h:ZW (.mk op t n l a)=true):-2<Z2 op∧(Z2 op<0∨(l.length:Int)=Z2 op)∧(n=0∨op=3)∧XM op t=true∧∀x∈l,ZW x=true:=by
 simp only [ZW,Zq,Tj,Sn,TJ] at h
 obtain ⟨h1,h2,h3,h4,h5⟩:=h
 exact ⟨h1,h2,h3,h4,Tl.1 h5⟩
theorem ZsU {op:Nat} (h:-2<Z2 op):op<26:=by
 by_cases hc:op<26
 ·exact hc
 ·unfold Z2 at h
  (repeat rw [Te (by omega)] at h)
  omega
theorem Zd3 {op:Nat} (h:-2<Z2 op):(Zl op<5→Z2 op=2∧UI [opT op]=(Zl op+1,op)∧isW [opT op] [[40]]=false∧op≠1∧op≠7∧op≠4∧op≠3)∧(Zl op=5→Z2 op=1∧(op=8∨op=9))∧Zl op≤6 ∧
  (Zl op=6→ZE op≠[]→ZL (ZE op)=op∧(Zbo op:Int)=Z2 op∧op≠0∧ZcO (ZE op)=true∧op≠1∧op≠7∧op≠4∧op≠3) ∧
  (Zl op=6→ZE op=[]→op=1∨op=2∨op=3∨op=4∨op=5∨op=6∨op=7):=by
 have h1:∀o:Fin 26,-2<Z2 o.val→Zl o.val<5→Z2 o.val=2∧UI [opT o.val]=(Zl o.val+1,o.val)∧isW [opT o.val] [[40]]=false∧o.val≠1∧o.val≠7∧o.val≠4∧o.val≠3:=by decide +kernel
 have h2:∀o:Fin 26,-2<Z2 o.val→Zl o.val=5→Z2 o.val=1∧(o.val=8∨o.val=9):=by decide +kernel
 have h3:∀o:Fin 26,-2<Z2 o.val→Zl o.val≤6:=by decide +kernel
 have h4:∀o:Fin 26,-2<Z2 o.val→Zl o.val=6→ZE o.val≠[]→ZL (ZE o.val)=o.val∧(Zbo o.val:Int)=Z2 o.val∧o.val≠0∧ZcO (ZE o.val)=true:=by decide +kernel
 have h6:∀o:Fin 26,-2<Z2 o.val→Zl o.val=6→ZE o.val≠[]→o.val≠1∧o.val≠7∧o.val≠4∧o.val≠3:=by decide +kernel
 have h5:∀o:Fin 26,-2<Z2 o.val→Zl o.val=6→ZE o.val=[]→o.val=1∨o.val=2∨o.val=3∨o.val=4∨o.val=5∨o.val=6∨o.val=7:=by decide +kernel
 obtain ⟨o,ho⟩:∃o:Fin 26,o.val=op:=⟨⟨op,ZsU h⟩,rfl⟩
 subst ho
 exact ⟨h1 o h,h2 o h,h3 o h,fun a b=>by obtain ⟨p,q,r,s⟩:=h4 o h a b;exact ⟨p,q,r,s,h6 o h a b⟩,h5 o h⟩
theorem Jr {op:Nat} {t:Bs} (h:XM op t=true) (h1:op≠1) (h7:op≠7) (h4:op≠4):t=[]:=by
 unfold XM at h
 rw [Te (by omega),Te h4] at h
 exact of_decide_eq_true h
theorem Zcn {op:Nat} {t:Bs} (h:XM op t=true) (h1:op=1∨op=7):Yk t=true:=by
 unfold XM at h
 rwa [Th h1] at h
def Zt6:List Bs:=[[45],[126],[40],[91],[36]]
def Zmv:List Bs:=[[110,105,108],[95],[99,97,116],[115,116,114,108,101,110],[115,117,98,115,116,114],[99,111,100,101],[115,116,114],[110,117,109]]
def Fst (t:T0):Prop:=t.kind=2∨t.kind=3∨(t.kind=4∧t.text∈Zt6)∨(t.kind=1∧t.text∈Zmv)∨(t.kind=1∧Yk t.text=true)
theorem Zqz {op:Nat} (h:-2<Z2 op) (h6:Zl op=6) (hw:ZE op≠[]):ZE op∈Zmv:=by
 have hk:∀o:Fin 26,-2<Z2 o.val→Zl o.val=6→ZE o.val≠[]→ZE o.val∈Zmv:=by decide +kernel
 exact hk ⟨op,ZsU h⟩ h h6 hw
theorem Za4 (op:Nat) (t:Bs) (n:Int) (l:List Ex) (a:Nat):exK (.mk op t n l a)=Zmu op t n (ZrN l):=by rw [exK]
theorem Za5 {l:List Ex} (h:l.length=2):∃a b,l=[a,b]:=by match l,h with | [a,b],_=>exact ⟨a,b,rfl⟩
theorem Zfg {l:List Ex} (h:l.length=1):∃a,l=[a]:=by match l,h with | [a],_=>exact ⟨a,rfl⟩
theorem ZsV {op:Nat} {t:Bs} {n:Int} {l:List Ex} {a:Nat} {k:Nat} (h:SizeOf.sizeOf (Ex.mk op t n l a)<k+1) {x:Ex} (hx:x∈l):SizeOf.sizeOf x<k:=by
 have:=List.sizeOf_lt_of_mem hx
 simp only [Ex.mk.sizeOf_spec] at h
 omega
theorem Zk2 {op:Nat} {t:Bs} {n:Int} {x y:Ex} {a:Nat} (h:Zl op<5):exK (.mk op t n [x,y] a)=Zff (Zl op) x++(opT op::Zff (Zl op+1) y):=by
 rw [Za4,Zmu,Th h];rfl
theorem ZqA {op:Nat} {t:Bs} {n:Int} {x:Ex} {a:Nat} (h:Zl op=5):exK (.mk op t n [x] a)=sgT (ZE op)::Zff 5 x:=by
 rw [Za4,Zmu,Te (by omega),Th h];rfl
theorem Zk3 {op:Nat} {t:Bs} {n:Int} {l:List Ex} {a:Nat} (h:Zl op=6) (hw:ZE op≠[]):exK (.mk op t n l a)=nmT (ZE op)::brK [40] [41] (l.map exK):=by
 rw [Za4,Zmu,Te (by omega),Te (by omega),Th hw,ZhQ]
theorem Zxl {t:Bs} {n:Int} {l:List Ex} {a:Nat}:exK (.mk 6 t n l a)=brK [91] [93] (l.map exK):=by
 rw [Za4,Zmu,Te (by decide),Te (by decide),Te (by decide),Th rfl,ZhQ]
theorem Zxm {t:Bs} {n:Int} {l:List Ex} {a:Nat}:exK (.mk 7 t n l a)=sgT [36]::nmT t::(if l.length=0 then [] else brK [40] [41] (l.map exK)):=by
 rw [Za4,Zmu,Te (by decide),Te (by decide),Te (by decide),Te (by decide),Th rfl,ZhQ,ZsT]
theorem Zxn {t:Bs} {n:Int} {l:List Ex} {a:Nat}:exK (.mk 3 t n l a)=[⟨2,[],n⟩]:=by
 rw [Za4,Zmu,Te (by decide),Te (by decide),Te (by decide),Te (by decide),Te (by decide),Th rfl]
theorem Zxo {t:Bs} {n:Int} {l:List Ex} {a:Nat}:exK (.mk 4 t n l a)=[⟨3,t,0⟩]:=by
 rw [Za4,Zmu,Te (by decide),Te (by decide),Te (by decide),Te (by decide),Te (by decide),Te (by decide),Th rfl]
theorem Zxp {t:Bs} {n:Int} {l:List Ex} {a:Nat}:exK (.mk 5 t n l a)=[nmT [110,105,108]]:=by
 rw [Za4,Zmu,Te (by decide),Te (by decide),Te (by decide),Te (by decide),Te (by decide),Te (by decide),Te (by decide),Th rfl]
theorem Zxq {t:Bs} {n:Int} {l:List Ex} {a:Nat}:exK (.mk 2 t n l a)=[nmT [95]]:=by
 rw [Za4,Zmu,Te (by decide),Te (by decide),Te (by decide),Te (by decide),Te (by decide),Te (by decide),Te (by decide),Te (by decide),Th rfl]
theorem Zxr {t:Bs} {n:Int} {l:List Ex} {a:Nat}:exK (.mk 1 t n l a)=[nmT t]:=by
 rw [Za4,Zmu,Te (by decide),Te (by decide),Te (by decide),Te (by decide),Te (by decide),Te (by decide),Te (by decide),Te (by decide),Te (by decide)]
theorem ZsW {w:Nat} {p:Nat×Ts} {r:Ts} (h:∃t l,p.2=t::l∧Fst t):∃t l,Zj4 w p++r=t::l∧Fst t:=by
 unfold Zj4
 split
 ·exact ⟨_,_,rfl,.inr (.inr (.inl ⟨rfl,by decide⟩))⟩
 ·obtain ⟨t,l,e,ht⟩:=h
  exact ⟨t,l++r,by rw [e];rfl,ht⟩
theorem ZqB:∀(n:Nat) (e:Ex),SizeOf.sizeOf e<n→ZW e=true→∃t l,exK e=t::l∧Fst t
 | 0,e,h,_=>by omega
 | k+1,.mk op t n l a,h,hm=>by
  obtain ⟨m1,m2,m3,m4,m5⟩:=ZhR hm
  obtain ⟨f1,f2,f3,f4,f5⟩:=Zd3 m1
  by_cases c1:Zl op<5
  ·obtain ⟨x,y,rfl⟩:=Za5 (l:=l) (by have:=f1 c1;omega)
   rw [Zk2 c1]
   exact ZsW (ZqB k x (ZsV h (by simp)) (m5 x (by simp)))
  by_cases c2:Zl op=5
  ·obtain ⟨x,rfl⟩:=Zfg (l:=l) (by have:=f2 c2;omega)
   rw [ZqA c2]
   refine ⟨_,_,rfl,.inr (.inr (.inl ⟨rfl,?_⟩))⟩
   rcases (f2 c2).2 with rfl | rfl <;> decide
  have c3:Zl op=6:=by omega
  by_cases c4:ZE op≠[]
  ·rw [Zk3 c3 c4]
   exact ⟨_,_,rfl,.inr (.inr (.inr (.inl ⟨rfl,Zqz m1 c3 c4⟩)))⟩
  rcases f5 c3 (by simpa using c4) with rfl | rfl | rfl | rfl | rfl | rfl | rfl
  ·rw [Zxr];exact ⟨_,_,rfl,.inr (.inr (.inr (.inr ⟨rfl,Zcn m4 (.inl rfl)⟩)))⟩
  ·rw [Zxq];exact ⟨_,_,rfl,.inr (.inr (.inr (.inl ⟨rfl,by decide⟩)))⟩
  ·rw [Zxn];exact ⟨_,_,rfl,.inl rfl⟩
  ·rw [Zxo];exact ⟨_,_,rfl,.inr (.inl rfl)⟩
  ·rw [Zxp];exact ⟨_,_,rfl,.inr (.inr (.inr (.inl ⟨rfl,by decide⟩)))⟩
  ·rw [Zxl];exact ⟨_,_,rfl,.inr (.inr (.inl ⟨rfl,by decide⟩))⟩
  ·rw [Zxm];exact ⟨_,_,rfl,.inr (.inr (.inl ⟨rfl,by decide⟩))⟩
def Zmw:List Bs:=[[41],[93],[33],[125],[99,111,117,110,116],[115,117,109],[109,105,110],[109,97,120],[44]]
theorem Zxs {t:T0} (h:Fst t) {w:Bs} (hw:w∈Zmw) (r:Ts):isW (t::r) [w]=false:=by
 have hs:∀w∈Zmw,w∉Zt6∧w∉Zmv∧Yk w=false:=by decide +kernel
 obtain ⟨h1,h2,h3⟩:=hs w hw
 rcases h with h | h | ⟨h,g⟩ | ⟨h,g⟩ | ⟨h,g⟩
 ·exact ZaA r ⟨by omega,by omega⟩
 ·exact ZaA r ⟨by omega,by omega⟩
 ·exact Zr r fun e=>h1 (e ▸ g)
 ·exact Zr r fun e=>h2 (e ▸ g)
 ·exact Zr r fun e=>by rw [e,h3] at g;cases g
theorem ZgL {e:Ex} (he:ZW e=true) {w:Bs} (hw:w∈Zmw) (r:Ts):isW (exK e++r) [w]=false:=by
 obtain ⟨t,l,e1,ht⟩:=ZqB _ e (Sc _) he
 rw [e1];exact Zxs ht hw _
def ZqC (ts:Ts):Prop:=ZF ts=true∧(hd ts.tail).kind=4∧(hd ts.tail).text=[40]
theorem UU {t:T0} {l:Ts} (h:t.kind≠1):¬ZqC (t::l):=fun g=>by
 have:=g.1
 simp [ZF,hd,h] at this
theorem Zfh {t:T0} {l:Ts} (h:ZcO t.text=true∨t.text=[95]):¬ZqC (t::l):=fun g=>by
 have:=g.1
 rcases h with h | h <;> simp [ZF,hd,h] at this
theorem ZAo {r:Ts} (h:isW r [[40]]=false):¬((hd r).kind=4∧(hd r).text=[40]):=fun ⟨h1,h2⟩=>by simp [isW,h1,h2] at h
theorem ZsX {w:Nat} {p:Nat×Ts} {r:Ts} (h:¬ZqC (p.2++r)):¬ZqC (Zj4 w p++r):=by
 unfold Zj4
 split
 ·exact UU (show (4:Nat)≠1 by decide)
 ·exact h
theorem ZqD:∀(n:Nat) (e:Ex),SizeOf.sizeOf e<n→ZW e=true→∀r,isW r [[40]]=false→¬ZqC (exK e++r)
 | 0,e,h,_=>by omega
 | k+1,.mk op t n l a,h,hm=>fun r hr=>by
  obtain ⟨m1,m2,m3,m4,m5⟩:=ZhR hm
  obtain ⟨f1,f2,f3,f4,f5⟩:=Zd3 m1
  by_cases c1:Zl op<5
  ·obtain ⟨x,y,rfl⟩:=Za5 (l:=l) (by have:=f1 c1;omega)
   rw [Zk2 c1,Tg]
   exact ZsX (ZqD k x (ZsV h (by simp)) (m5 x (by simp)) _ (f1 c1).2.2.1)
  by_cases c2:Zl op=5
  ·obtain ⟨x,rfl⟩:=Zfg (l:=l) (by have:=f2 c2;omega)
   rw [ZqA c2]
   exact UU (show (4:Nat)≠1 by decide)
  have c3:Zl op=6:=by omega
  by_cases c4:ZE op≠[]
  ·rw [Zk3 c3 c4]
   exact Zfh (.inl (f4 c3 c4).2.2.2.1)
  rcases f5 c3 (by simpa using c4) with rfl | rfl | rfl | rfl | rfl | rfl | rfl
  ·rw [Zxr];exact fun g=>ZAo hr g.2
  ·rw [Zxq];exact Zfh (.inr rfl)
  ·rw [Zxn];exact UU (show (2:Nat)≠1 by decide)
  ·rw [Zxo];exact UU (show (3:Nat)≠1 by decide)
  ·rw [Zxp];exact Zfh (.inl (by decide))
  ·rw [Zxl];exact UU (show (4:Nat)≠1 by decide)
  ·rw [Zxm];exact UU (show (4:Nat)≠1 by decide)
end Go.PM.Lex
end

section
namespace Go.PM.Lex
def sgB:Nat→Ts→R Ex
 | 0=>fun _=>.err 0 150
 | d+1=>Yp d
theorem Zfi (d:Nat):Yp d=Vb d (sgB d):=by cases d <;> rfl
def Ln (e:Ex) (r:Ts) (sub:Nat→Ts→R Ex) (least:Nat) (x:R Ex):Prop:=(∃f e',r.length<f∧erE e'=erE e∧x=VI sub least f e' r)∨Lim x
theorem Zk4 {e:Ex} {r:Ts} {sub:Nat→Ts→R Ex} {least:Nat} {x:R Ex} (h:Ln e r sub least x) (hb:(UI r).1<least∨(UI r).1=0):Rd erE e r x:=by
 rcases h with ⟨f,e',h1,h2,rfl⟩ | h
 ·obtain ⟨f,rfl⟩:∃k,f=k+1:=⟨f - 1,by omega⟩
  rw [VI,Th hb]
  exact Rd.ok h2
 ·exact .lim h
theorem ZAp {e:Ex} {r ts:Ts} {sg:Ts→R Ex} {k least:Nat} (h:Rd erE e r (sg ts)):Ln e r (Va sg k) least (Va sg (k+1) least ts):=by
 rw [Va]
 rcases h with ⟨e',h1,h2⟩ | h
 ·rw [h2,R.bind_ok];exact .inl ⟨_,e',Sc _,h1,rfl⟩
 ·exact .inr h.bind
structure ExR (e:Ex):Prop where
 sg:∀d r,isW r [[40]]=false→Rd erE e r (Yp d (Zff 5 e++r))
 ln:∀d k w l r,w≤l→l≤5→6≤k+w→isW r [[40]]=false→(UI r).1<l+2→Ln e r (Va (Yp d) (k - 1)) (w+1) (Va (Yp d) k (w+1) (Zff l e++r))
theorem ZAq (e:Ex):Zff 0 e=exK e:=by rw [Zff,Zj4,Te (by simp)]
theorem ExR.full {e:Ex} (h:ExR e) (d:Nat) {r:Ts} (hr:Nx r):Rd erE e r (Vp d (exK e++r)):=by
 have:=h.ln d 6 0 0 r (by omega) (by omega) (by omega) hr.par (by have:=hr.bin;omega)
 rw [ZAq] at this
 exact Zk4 this (.inr hr.bin)
theorem ExR.fullB {e:Ex} (h:ExR e) {d:Nat} (hd:d≠0) {r:Ts} (hr:Nx r):Rd erE e r (Zbp d (exK e++r)):=by
 obtain ⟨d,rfl⟩:∃k,d=k+1:=⟨d - 1,by omega⟩
 exact h.full d hr
theorem Zco {d:Nat} {ex:Ts→R Ex} {l:List Ex} {r:Ts} {fr tw:Bs} (hto:tw∈[[41],[93]]) (hm:∀x∈l,ZW x=true) (h:d≠0→∀x∈l,∀t,Nx t→Rd erE x t (ex (exK x++t))) :
  Rd (List.map erE) l r (ZaH d ex fr tw (brK fr tw (l.map exK)++r)):=by
 have hk:∀tw∈[[41],[93]],tw≠[]∧tw∈nxW∧tw∈Zmw∧tw≠[44]:=by decide
 obtain ⟨k1,k2,k3,k4⟩:=hk tw hto
 unfold ZaH
 have e:brK fr tw (l.map exK)++r=sgT fr::(Z3 [44] (l.map exK)++(sgT tw::r)):=by simp [brK]
 rw [e]
 refine WG k1 fun hd=>?_
 cases l with
 | nil =>
  simp only [TF,Z3,To]
  rw [Th (Vl _ _)]
  exact Rd.ok rfl
 | cons x xs =>
  have hx:isW (Z3 [44] ((x::xs).map exK)++(sgT tw::r)) [tw]=false:=by
   simp only [Tw,Z3,Tg]
   exact ZgL (hm x (by simp)) k3 _
  rw [Te (by rw [hx];simp)]
  exact UT Nx (fun t=>ZaL (by decide) t) (ZaL k2 r) (Zr r (by simpa [sgT] using k4)) (by simp) fun y hy t ht=>h hd y hy t ht
theorem Zfj {s:Bs} (h:Yk s=true) {w:Bs} (hw:Yk w=false) (r:Ts):isW (nmT s::r) [w]=false:=Zr r fun e=>by
 have e:s=w:=e
 rw [e,hw] at h;cases h
theorem Zfk {s:Bs} (h:Yk s=true):s≠[95]∧ZcO s=false:=by
 simp only [Yk,Tj,TZ,decide_eq_false_iff_not] at h
 exact h.2
theorem nm_named {s:Bs} (h:Yk s=true) (r:Ts):ZF (nmT s::r)=true:=by
 obtain ⟨h1,h2⟩:=Zfk h
 simp [ZF,hd,nmT,h1,h2]
theorem Yt {s:Bs} (h:Yk s=true) (r:Ts):Xw (nmT s::r)=.ok s r:=by
 rw [Xw,Th (nm_named h r)];rfl
theorem ZsY {s:Bs} (h:Yk s=true):ZL s=0:=by
 have:=(Zfk h).2
 simp only [ZcO,Sb,decide_eq_false_iff_not,Decidable.not_not] at this
 exact this.2
theorem Zc6:∀w∈[[45],[126],[40],[91],[36],[110,105,108]],Yk w=false:=by decide +kernel
theorem YR {d:Nat} {ts:Ts} (h1:isW ts [[45]]=false) (h2:isW ts [[126]]=false):Yp d ts=Wg d (Va (sgB d) 6 1) ts:=by
 rw [Zfi,Vb,Te (by rw [h1];simp),Te (by rw [h2];simp)]
theorem Zmx {d:Nat} (hd:d≠0):Va (sgB d) 6 1=Vp (d - 1):=by
 obtain ⟨d,rfl⟩:∃k,d=k+1:=⟨d - 1,by omega⟩
 rfl
theorem Vr (op:Nat) (t:Bs) (n:Int) (l:List Ex) (a:Nat):erE (.mk op t n l a)=.mk op t n (l.map erE) 0:=by rw [erE,Jo]
theorem Wo (d:Nat) (ex:Ts→R Ex) (t:T0) (r:Ts):Wg d ex (t::r) =
  if ZJ [t]=false then .err (t::r).length 150
  else if t.kind=2 then .ok (.mk 3 [] t.n [] (t::r).length) r
  else if t.kind=3 then .ok (.mk 4 t.text 0 [] (t::r).length) r
  else if t.text=[40] then Zo d [40] [41] ex (t::r)
  else if t.text=[91] then (ZaH d ex [91] [93] (t::r)).bind fun l ts'=>.ok (.mk 6 [] 0 l (t::r).length) ts'
  else if t.text=[36] then (Xw r).bind fun nm ts'=>if isW ts' [[40]]=true then (ZaH d ex [40] [41] ts').bind fun l ts'=>.ok (.mk 7 nm 0 l (t::r).length) ts' else .ok (.mk 7 nm 0 [] (t::r).length) ts'
  else if ZL t.text≠0 then (Zo d [40] [41] (WY ex (Zbo (ZL t.text)) []) r).bind fun l ts'=>.ok (.mk (ZL t.text) [] 0 l (t::r).length) ts'
  else if t.text=[110,105,108] then .ok (.mk 5 [] 0 [] (t::r).length) r
  else if t.text=[95] then .ok (.mk 2 [] 0 [] (t::r).length) r
  else .ok (.mk 1 t.text 0 [] (t::r).length) r:=rfl
theorem Zob {e:Ex} {d:Nat} {r:Ts} (h:∀d r,Nx r→Rd erE e r (Vp d (exK e++r))):Rd erE e r (Yp d (sgT [40]::(exK e++(sgT [41]::r)))):=by
 rw [YR (Zr _ (by decide)) (Zr _ (by decide)),Wo,Te (by decide),Te (by decide),Te (by decide),Th (show (sgT [40]).text=[40] from rfl)]
 refine WG (by decide) fun hd=>?_
 rw [Zmx hd]
 exact h _ _ (ZaL (by decide) r)
theorem Zk5:∀(n:Nat) (e:Ex),SizeOf.sizeOf e<n→ZW e=true→ExR e
 | 0,e,h,_=>by omega
 | k+1,.mk op t n l a,h,hm=>by
  obtain ⟨m1,m2,m3,m4,m5⟩:=ZhR hm
  obtain ⟨f1,f2,f3,f4,f5⟩:=Zd3 m1
  have ih:∀x∈l,ExR x:=fun x hx=>Zk5 k x (ZsV h hx) (m5 x hx)
  have fin:∀(hs:∀d r,isW r [[40]]=false→Rd erE (.mk op t n l a) r (Yp d (Zff 5 (.mk op t n l a)++r))),5≤Zl op→ExR (.mk op t n l a):=fun hs hl=>⟨hs,fun d q w z r hw hz hq hp hb=>by
   obtain ⟨q,rfl⟩:∃k,q=k+1:=⟨q - 1,by omega⟩
   have e:Zff z (.mk op t n l a)=Zff 5 (.mk op t n l a):=by
    rw [Zff,Zff,Zj4,Zj4,Te (by simp only [opE];omega),Te (by simp only [opE];omega)]
   rw [e]
   exact ZAp (hs d r hp)⟩
  have e5:5≤Zl op→Zff 5 (.mk op t n l a)=exK (.mk op t n l a):=fun h=>by
   rw [Zff,Zj4,Te (by simp only [opE];omega)]
  by_cases c1:Zl op<5
  ·obtain ⟨g1,g2,g3,g4,g5,g6,g7⟩:=f1 c1
   obtain ⟨x,y,rfl⟩:=Za5 (l:=l) (by omega)
   obtain rfl:=Jr m4 g4 g5 g6
   obtain rfl:n=0:=m3.resolve_right g7
   have rx:=ih x (by simp)
   have ry:=ih y (by simp)
   have bare:∀d q w r,w≤Zl op→6≤q+w→isW r [[40]]=false→(UI r).1<Zl op+2→Ln (.mk op [] 0 [x,y] a) r (Va (Yp d) (q - 1)) (w+1) (Va (Yp d) q (w+1) (exK (.mk op [] 0 [x,y] a)++r)):=fun d q w r hw hq hp hb=>by
    rw [Zk2 c1,Tg]
    have hx:=rx.ln d q w (Zl op) (opT op::(Zff (Zl op+1) y++r)) hw (by omega) hq g3 (by show (UI [opT op]).1<_;rw [g2];simp)
    rw [Tm]
    rcases hx with ⟨f,x',q1,q2,q3⟩ | hx
    ·rw [q3]
     obtain ⟨f,rfl⟩:∃k,f=k+1:=⟨f - 1,by omega⟩
     have hbin:UI (opT op::(Zff (Zl op+1) y++r))=(Zl op+1,op):=g2
     rw [VI,hbin,Te (by simp only;omega)]
     have hy:=ry.ln d (q - 1) (Zl op+1) (Zl op+1) r (by omega) (by omega) (by omega) hp (by omega)
     have hy':=Zk4 hy (.inl (by omega))
     rcases hy' with ⟨y',s1,s2⟩ | hy'
     ·rw [show (opT op::(Zff (Zl op+1) y++r)).tail=Zff (Zl op+1) y++r from rfl]
      simp only
      rw [show Zl op+1+1=Zl op+2 from rfl] at s2 ⊢
      rw [s2,R.bind_ok]
      refine .inl ⟨f,_,?_,?_,rfl⟩
      ·simp only [Tc,Ta] at q1;omega
      ·rw [Vr,Vr];simp [q2,s1]
     ·exact .inr hy'.bind
    ·exact .inr hx
   have full:∀d r,Nx r→Rd erE (.mk op [] 0 [x,y] a) r (Vp d (exK (.mk op [] 0 [x,y] a)++r)):=fun d r hr =>
    Zk4 (bare d 6 0 r (by omega) (by omega) hr.par (by have:=hr.bin;omega)) (.inr hr.bin)
   have hs:∀z,Zl op<z→∀d r,Rd erE (.mk op [] 0 [x,y] a) r (Yp d (Zff z (.mk op [] 0 [x,y] a)++r)):=fun z hz d r=>by
    rw [Zff,Zj4,Th (by simp only [opE];exact hz)]
    simp only [Tm,Tg,To]
    exact Zob full
   refine ⟨fun d r _=>hs 5 c1 d r,fun d q w z r hw hz hq hp hb=>?_⟩
   by_cases c:Zl op<z
   ·obtain ⟨q,rfl⟩:∃k,q=k+1:=⟨q - 1,by omega⟩
    exact ZAp (hs z c d r)
   ·have e:Zff z (.mk op [] 0 [x,y] a)=exK (.mk op [] 0 [x,y] a):=by rw [Zff,Zj4,Te (by simp only [opE];exact c)]
    rw [e]
    exact bare d q w r (by omega) hq hp (by omega)
  by_cases c2:Zl op=5
  ·obtain ⟨g1,g2⟩:=f2 c2
   obtain ⟨x,rfl⟩:=Zfg (l:=l) (by omega)
   obtain rfl:=Jr m4 (by omega) (by omega) (by omega)
   obtain rfl:n=0:=m3.resolve_right (by omega)
   have rx:=ih x (by simp)
   refine fin (fun d r hp=>?_) (by omega)
   rw [e5 (by omega),ZqA c2,Tm,Zfi,Vb]
   have hx:∀w,Rd erE x r (Zo d w [] (sgB d) (sgT w::(Zff 5 x++r))):=fun w=>Zjv fun hd=>by
    obtain ⟨d,rfl⟩:∃k,d=k+1:=⟨d - 1,by omega⟩
    exact rx.sg d r hp
   rcases g2 with rfl | rfl
   ·rw [show ZE 8=[45] from rfl,Th (Vl _ _)]
    refine (hx _).bind fun x' e=>Rd.ok ?_
    rw [Vr,Vr];simp [e]
   ·rw [show ZE 9=[126] from rfl,Te (by rw [Zr _ (by decide)];simp),Th (Vl _ _)]
    refine (hx _).bind fun x' e=>Rd.ok ?_
    rw [Vr,Vr];simp [e]
  have c3:Zl op=6:=by omega
  refine fin (fun d r hp=>?_) (by omega)
  rw [e5 (by omega)]
  have full:d≠0→∀x∈l,∀t,Nx t→Rd erE x t (Va (sgB d) 6 1 (exK x++t)):=fun hd x hx t ht=>by
   rw [Zmx hd];exact (ih x hx).full _ ht
  by_cases c4:ZE op≠[]
  ·obtain ⟨g1,g2,g3,g4,g5,g6,g7,g8⟩:=f4 c3 c4
   obtain rfl:=Jr m4 g5 g6 g7
   obtain rfl:n=0:=m3.resolve_right g8
   have hln:l.length=Zbo op:=by
    have:1≤Zbo op:=by unfold Zbo;split <;> (try split) <;> omega
    omega
   have hne:l≠[]:=fun e=>by
    have:1≤Zbo op:=by unfold Zbo;split <;> (try split) <;> omega
    rw [e] at hln;simp at hln;omega
   rw [Zk3 c3 c4,Tm]
   have hw:∀w,Yk w=false∨True:=fun _=>.inr trivial
   have hfun:∀o:Fin 26,-2<Z2 o.val→Zl o.val=6→ZE o.val≠[]→isW [nmT (ZE o.val)] [[45]]=false∧isW [nmT (ZE o.val)] [[126]]=false∧ZJ [nmT (ZE o.val)]=true∧ZE o.val≠[40]∧ZE o.val≠[91]∧ZE o.val≠[36]:=by decide +kernel
   obtain ⟨q1,q2,q3,q4,q5,q6⟩:=hfun ⟨op,ZsU m1⟩ m1 c3 c4
   simp only at q1 q2 q3 q4 q5 q6
   rw [YR (ts:=nmT (ZE op)::(brK [40] [41] (l.map exK)++r)) q1 q2,Wo,Te (by rw [q3];simp),Te (show ¬(nmT (ZE op)).kind=2 by simp [nmT]),Te (show ¬(nmT (ZE op)).kind=3 by simp [nmT]),Te (show ¬(nmT (ZE op)).text=_ from q4),Te (show ¬(nmT (ZE op)).text=_ from q5),Te (show ¬(nmT (ZE op)).text=_ from q6)]
   have ef:ZL (nmT (ZE op)).text=op:=g1
   rw [ef,Th g3,← hln]
   have e:(brK [40] [41] (l.map exK)++r)=sgT [40]::(Z3 [44] (l.map exK)++(sgT [41]::r)):=by simp [brK]
   rw [e]
   refine Rd.bind (er:=List.map erE) (v:=l) (r:=r) (WG (by decide) fun hd=>?_) fun l' e=>Rd.ok ?_
   ·exact Zoa (ZaL (by decide) r) hne (full hd)
   ·rw [Vr,Vr,e]
  rcases f5 c3 (by simpa using c4) with rfl | rfl | rfl | rfl | rfl | rfl | rfl
  ·have hn:=Zcn m4 (.inl rfl)
   obtain rfl:n=0:=m3.resolve_right (by decide)
   obtain rfl:l=[]:=Tz (by have:Z2 1=0:=(by decide);omega)
   have hk:=Zfk hn
   rw [Zxr,Tm,To,YR (Zfj hn (Zc6 _ (by decide)) r) (Zfj hn (Zc6 _ (by decide)) r),Wo]
   have hne:∀w,Yk w=false→¬(nmT t).text=w:=fun w hw e=>by rw [show t=w from e,hw] at hn;cases hn
   have hst:ZJ [nmT t]=true:=by simp [ZJ,hd,nmT,hk.2]
   rw [Te (by rw [hst];simp),Te (show ¬(nmT t).kind=2 by simp [nmT]),Te (show ¬(nmT t).kind=3 by simp [nmT]),Te (hne _ (Zc6 _ (by decide))),Te (hne _ (Zc6 _ (by decide))),Te (hne _ (Zc6 _ (by decide))),Te (by rw [show (nmT t).text=t from rfl,ZsY hn];simp),Te (hne _ (Zc6 _ (by decide))),Te (show ¬(nmT t).text=_ from hk.1)]
   exact Rd.ok (by rw [Vr,Vr];rfl)
  ·obtain rfl:=Jr m4 (by decide) (by decide) (by decide)
   obtain rfl:n=0:=m3.resolve_right (by decide)
   obtain rfl:l=[]:=Tz (by have:Z2 2=0:=(by decide);omega)
   rw [Zxq,Tm,To,YR (Zr _ (by decide)) (Zr _ (by decide)),Wo,Te (by decide),Te (by decide),Te (by decide),Te (by decide),Te (by decide),Te (by decide),Te (by decide),Te (by decide),Th (show (nmT [95]).text=[95] from rfl)]
   exact Rd.ok (by rw [Vr,Vr])
  ·obtain rfl:=Jr m4 (by decide) (by decide) (by decide)
   obtain rfl:l=[]:=Tz (by have:Z2 3=0:=(by decide);omega)
   rw [Zxn,Tm,To,YR (ZaA _ (by simp)) (ZaA _ (by simp)),Wo,Te (by simp [ZJ,hd]),Th rfl]
   exact Rd.ok (by rw [Vr,Vr])
  ·obtain rfl:n=0:=m3.resolve_right (by decide)
   obtain rfl:l=[]:=Tz (by have:Z2 4=0:=(by decide);omega)
   rw [Zxo,Tm,To,YR (ZaA _ (by simp)) (ZaA _ (by simp)),Wo,Te (by simp [ZJ,hd]),Te (by simp),Th rfl]
   exact Rd.ok (by rw [Vr,Vr])
  ·obtain rfl:=Jr m4 (by decide) (by decide) (by decide)
   obtain rfl:n=0:=m3.resolve_right (by decide)
   obtain rfl:l=[]:=Tz (by have:Z2 5=0:=(by decide);omega)
   rw [Zxp,Tm,To,YR (Zr _ (by decide)) (Zr _ (by decide)),Wo,Te (by decide),Te (by decide),Te (by decide),Te (by decide),Te (by decide),Te (by decide),Te (by decide),Th (show (nmT [110,105,108]).text=[110,105,108] from rfl)]
   exact Rd.ok (by rw [Vr,Vr])
  ·obtain rfl:=Jr m4 (by decide) (by decide) (by decide)
   obtain rfl:n=0:=m3.resolve_right (by decide)
   rw [Zxl]
   have e:brK [91] [93] (l.map exK)++r=sgT [91]::(Z3 [44] (l.map exK)++(sgT [93]::r)):=by simp [brK]
   rw [YR (by rw [e];exact Zr _ (by decide)) (by rw [e];exact Zr _ (by decide)),e,Wo,Te (by decide),Te (by decide),Te (by decide),Te (by decide),Th (show (sgT [91]).text=[91] from rfl),← e]
   refine (Zco (by decide) m5 full).bind fun l' e=>Rd.ok ?_
   rw [Vr,Vr,e]
  ·have hn:=Zcn m4 (.inr rfl)
   obtain rfl:n=0:=m3.resolve_right (by decide)
   rw [Zxm,Tm,Tm,YR (Zr _ (by decide)) (Zr _ (by decide)),Wo,Te (by decide),Te (by decide),Te (by decide),Te (by decide),Te (by decide),Th (show (sgT [36]).text=[36] from rfl)]
   rw [Yt hn,R.bind_ok]
   by_cases hl:l.length=0
   ·obtain rfl:l=[]:=Tz hl
    simp only [Td,if_true,To]
    rw [Te (by rw [hp];simp)]
    exact Rd.ok (by rw [Vr,Vr])
   ·rw [Te hl,Th (by simp only [brK,Tm];exact Vl _ _)]
    refine (Zco (by decide) m5 full).bind fun l' e=>Rd.ok ?_
    rw [Vr,Vr,e]
theorem Zfl {e:Ex} (he:ZW e=true) (d:Nat) {r:Ts} (hr:Nx r):Rd erE e r (Vp d (exK e++r)):=(Zk5 _ e (Sc _) he).full d hr
theorem Zmy {e:Ex} (he:ZW e=true) {d:Nat} (hd:d≠0) {r:Ts} (hr:Nx r):Rd erE e r (Zbp d (exK e++r)):=(Zk5 _ e (Sc _) he).fullB hd hr
def ZsZ (op:Nat):Bs:=if op=3 then [61] else if op=4 then [33,61] else if op=5 then [60] else if op=6 then [60,61] else if op=7 then [62] else [62,61]
def ZrO:List Ex→Ts
 | []=>[]
 | e::_=>exK e
mutual
def liK:Li→Ts
 | .mk op rel args body _ =>
  if op=2 then sgT [33]::nmT rel::brK [40] [41] (args.map exK)
  else if op=1 then nmT rel::brK [40] [41] (args.map exK)
  else if op≤8 then ZrO args++(sgT (ZsZ op)::ZrO args.tail)
  else ZrO args++(sgT [61]::nmT (Zab op)::((args.tail.map exK).flatten++(sgT [58]::sgT [123]::(Z3 [44] (Zxt body)++[sgT [125]]))))
def Zxt:List Li→List Ts
 | []=>[]
 | e::l=>liK e::Zxt l
end
theorem ZqE (l:List Li):Zxt l=l.map liK:=by induction l with | nil=>rfl | cons x l ih=>simp [Zxt,ih]
theorem ZAr (op:Nat) (rel:Bs) (args:List Ex) (body:List Li) (a:Nat):liK (.mk op rel args body a) =
  if op=2 then sgT [33]::nmT rel::brK [40] [41] (args.map exK)
  else if op=1 then nmT rel::brK [40] [41] (args.map exK)
  else if op≤8 then ZrO args++(sgT (ZsZ op)::ZrO args.tail)
  else ZrO args++(sgT [61]::nmT (Zab op)::((args.tail.map exK).flatten++(sgT [58]::sgT [123]::(Z3 [44] (body.map liK)++[sgT [125]])))):=by rw [liK,ZqE]
theorem ZdI (op:Nat) (rel:Bs) (args:List Ex) (body:List Li) (a:Nat):erL (.mk op rel args body a)=.mk op rel (args.map erE) (body.map erL) 0:=by rw [erL,Jo,ZhH]
theorem Zk6 {op:Nat} {rel:Bs} {args:List Ex} {body:List Li} {a:Nat} (h:YX (.mk op rel args body a)=true):Xy op rel args.length body.length=true∧(∀x∈args,ZW x=true)∧∀x∈body,YX x=true:=by
 simp only [YX,Zq,Vq,Tj] at h
 exact ⟨h.1,Tl.1 h.2.1,Tl.1 h.2.2⟩
theorem Zk7 {op:Nat} {rel:Bs} {na nb:Nat} (h:Xy op rel na nb=true):((op=1∨op=2)∧Yk rel=true∧nb=0)∨(3≤op∧op≤8∧rel=[]∧na=2∧nb=0)∨(op=9∧rel=[]∧na=1∧0<nb)∨(9<op∧op≤12∧rel=[]∧na=2∧0<nb):=by
 unfold Xy at h
 split at h
 ·rename_i c
  simp only [Tj,TZ,decide_eq_false_iff_not] at h
  exact .inl ⟨c,h.1,by omega⟩
 ·split at h
  ·rename_i c
   simp only [Tj,TZ,decide_eq_false_iff_not,TJ] at h
   exact .inr (.inl ⟨c.1,c.2,h.1,h.2.1,by omega⟩)
  ·split at h
   ·rename_i c
    simp only [Tj,TJ] at h
    exact .inr (.inr (.inl ⟨c,h.1,h.2.1,h.2.2⟩))
   ·split at h
    ·rename_i c
     simp only [Tj,TJ] at h
     exact .inr (.inr (.inr ⟨c.1,c.2,h.1,h.2.1,h.2.2⟩))
    ·cases h
theorem Zt7 {op:Nat} {t:Bs} {l:List Ex} {b:List Li} {a:Nat} {k:Nat} (h:SizeOf.sizeOf (Li.mk op t l b a)<k+1) {x:Li} (hx:x∈b):SizeOf.sizeOf x<k:=by
 have:=List.sizeOf_lt_of_mem hx
 simp only [Li.mk.sizeOf_spec] at h
 omega
theorem Zjz {d op a:Nat} {rel:Bs} {args:List Ex} {r:Ts} (hn:Yk rel=true) (hm:∀x∈args,ZW x=true) (a0:Nat):Rd erL (.mk op rel args [] a0) r (Ji d op a (nmT rel::brK [40] [41] (args.map exK)++r)):=by
 rw [Ji,Tm,Yt hn,R.bind_ok]
 refine (Zco (by decide) hm fun hd x hx t ht=>Zmy (hm x hx) hd ht).bind fun l' e=>Rd.ok ?_
 rw [ZdI,ZdI,e]
theorem Zxu {op:Nat} (h:3≤op∧op≤8) (r:Ts):JI (sgT (ZsZ op)::r) 0 ZT=some (op - 3)∧Nx (sgT (ZsZ op)::r):=by
 obtain ⟨h1,h2⟩:=h
 obtain rfl | rfl | rfl | rfl | rfl | rfl:op=3∨op=4∨op=5∨op=6∨op=7∨op=8:=by omega
 all_goals exact ⟨rfl,ZaL (by decide) r⟩
theorem ZqF {op:Nat} (h:9≤op∧op≤12) (r:Ts):JI (nmT (Zab op)::r) 0 Yl=some (op - 9):=by
 obtain ⟨h1,h2⟩:=h
 obtain rfl | rfl | rfl | rfl:op=9∨op=10∨op=11∨op=12:=by omega
 all_goals rfl
theorem Zs0 {e:Ex} (he:ZW e=true) (r:Ts):JI (exK e++r) 0 Yl=none:=by
 simp only [Yl,JI]
 rw [Te (by rw [ZgL he (by decide)];simp),Te (by rw [ZgL he (by decide)];simp),Te (by rw [ZgL he (by decide)];simp),Te (by rw [ZgL he (by decide)];simp)]
theorem Zoc (d:Nat):ZfQ d=Wf [44] 32 Yq (Zdu d (Jj d)):=by cases d <;> rfl
theorem Zfm {d:Nat} {l:List Li} {r:Ts} (hl:l≠[]) (hr:Nx r) (hw:isW r [[44]]=false) (h:∀x∈l,∀t,Nx t→Rd erL x t (Zdu d (Jj d) (liK x++t))):Rd (List.map erL) l r (ZfQ d (Z3 [44] (l.map liK)++r)):=by
 rw [Zoc]
 exact UT Nx (fun t=>ZaL (by decide) t) hr hw hl h
theorem ZqG:∀(n:Nat) (x:Li),SizeOf.sizeOf x<n→YX x=true→∀d r,Nx r→Rd erL x r (Zdu d (Jj d) (liK x++r))
 | 0,x,h,_=>by omega
 | k+1,.mk op rel args body a,h,hm=>fun d r hr=>by
  obtain ⟨m1,m2,m3⟩:=Zk6 hm
  have ih:∀x∈body,∀d r,Nx r→Rd erL x r (Zdu d (Jj d) (liK x++r)):=fun x hx=>ZqG k x (Zt7 h hx) (m3 x hx)
  rw [ZAr]
  have hrel:∀(x:Ex) (ts:Ts),ZW x=true→Nx ts→Zdu d (Jj d) (exK x++ts)=Zdt d (Jj d) (exK x++ts):=fun x ts hx hts=>by
   rw [Zdu,Te (by rw [ZgL hx (by decide)];simp),Te (show ¬(ZF (exK x++ts)=true∧(hd (exK x++ts).tail).kind=4∧(hd (exK x++ts).tail).text=[40]) from ZqD _ x (Sc _) hx _ hts.par)]
  rcases Zk7 m1 with ⟨c,hn,hb⟩ | ⟨c1,c2,rfl,ha,hb⟩ | ⟨rfl,rfl,ha,hb⟩ | ⟨c1,c2,rfl,ha,hb⟩
  ·obtain rfl:body=[]:=Tz hb
   rcases c with rfl | rfl
   ·rw [Te (by decide),Th rfl,Zdu]
    rw [Te (by rw [Tm,Zfj hn (by decide +kernel)];simp),Th ⟨nm_named hn _,rfl,rfl⟩]
    exact Zjz hn m2 a
   ·rw [Th rfl,Zdu,Tm,Th (Vl _ _),TH]
    exact Zjz hn m2 a
  ·obtain ⟨x,y,rfl⟩:=Za5 ha
   obtain rfl:body=[]:=Tz hb
   have hx:=m2 x (by simp)
   have hy:=m2 y (by simp)
   rw [Te (by omega),Te (by omega),Th c2]
   simp only [ZrO,TH,Tg,Tm]
   obtain ⟨r1,r2⟩:=Zxu ⟨c1,c2⟩ (exK y++r)
   rw [hrel x _ hx r2,Zdt]
   refine (Zfl hx d r2).bind fun x' ex=>?_
   have hop:Ui (sgT (ZsZ op)::(exK y++r))=.ok op (exK y++r):=by
    unfold Ui
    rw [r1]
    by_cases c:op=3
    ·subst c
     simp only [Nat.sub_self,TH,Zs0 hy]
    ·obtain ⟨q,hq⟩:∃q,op - 3=q+1:=⟨op - 4,by omega⟩
     rw [hq]
     simp only [TH]
     rw [show 3+(q+1)=op by omega]
   rw [hop,R.bind_ok,Te (by omega)]
   refine (Zfl hy d hr).bind fun y' ey=>?_
   rw [XC,Te (by omega)]
   refine Rd.ok ?_
   rw [ZdI,ZdI];simp [ex,ey]
  ·obtain ⟨x,rfl⟩:=Zfg ha
   have hx:=m2 x (by simp)
   rw [Te (by omega),Te (by omega),Te (by omega)]
   simp only [ZrO,TH,TF,Sp,To,Tg,Tm]
   rw [hrel x _ hx (ZaL (by decide) _),Zdt]
   refine (Zfl hx d (ZaL (by decide) _)).bind fun x' ex=>?_
   have hop:∀ts,Ui (sgT [61]::nmT (Zab 9)::ts)=.ok 9 ts:=fun ts=>by
    unfold Ui
    rw [show JI (sgT [61]::nmT (Zab 9)::ts) 0 ZT=some 0 from rfl]
    simp only [TH]
    rw [ZqF (by decide)]
   rw [hop,R.bind_ok,Th rfl,XC,Th (by decide),XG,R.bind_ok]
   have hbr:Rd (List.map erL) body r (Zo d [123] [125] (Jj d) (sgT [123]::(Z3 [44] (body.map liK)++(sgT [125]::r)))):=WG (by decide) fun hd=>by
    exact m113
   refine hbr.bind fun b' eb=>Rd.ok ?_
   rw [ZdI,ZdI,eb];simp [ex]
  ·obtain ⟨x,y,rfl⟩:=Za5 ha
   have hx:=m2 x (by simp)
   have hy:=m2 y (by simp)
   rw [Te (by omega),Te (by omega),Te (by omega)]
   simp only [ZrO,TH,Tw,TF,T7,Sp,To,TA,Tg,Tm]
   rw [hrel x _ hx (ZaL (by decide) _),Zdt]
   refine (Zfl hx d (ZaL (by decide) _)).bind fun x' ex=>?_
   have hop:∀ts,Ui (sgT [61]::nmT (Zab op)::ts)=.ok op ts:=fun ts=>by
    unfold Ui
    rw [show JI (sgT [61]::nmT (Zab op)::ts) 0 ZT=some 0 from rfl]
    simp only [TH]
    rw [ZqF (by omega)]
    simp only
    rw [show 9+(op - 9)=op by omega]
   rw [hop,R.bind_ok,Te (by omega)]
   refine (Zfl hy d (ZaL (by decide) _)).bind fun y' ey=>?_
   rw [XC,Th (by omega),XG,R.bind_ok]
   have hbr:Rd (List.map erL) body r (Zo d [123] [125] (Jj d) (sgT [123]::(Z3 [44] (body.map liK)++(sgT [125]::r)))):=WG (by decide) fun hd=>by
    exact m113
   refine hbr.bind fun b' eb=>Rd.ok ?_
   rw [ZdI,ZdI,eb];simp [ex,ey]
theorem Zs1 {x:Li} (h:YX x=true) {d:Nat} {r:Ts} (hr:Nx r):Rd erL x r (Zdu d (Jj d) (liK x++r)):=ZqG _ x (Sc _) h d r hr
end Go.PM.Lex
end

section
namespace Go.PM.Lex
open Go.Proofs
variable {w0:World} {nG:Nat}
def Zs2 (x:Li):Bool:=YX x && Zfd x
theorem Zxv {op:Nat} {rel:Bs} {args:List Ex} {body:List Li} {a:Nat} (h:Zs2 (.mk op rel args body a)=true):Xy op rel args.length body.length=true∧(∀x∈args,Zj3 x=true)∧∀x∈body,Zs2 x=true:=by
 simp only [Zs2,Tj] at h
 obtain ⟨h1,h2⟩:=h
 obtain ⟨m1,m2,m3⟩:=Zk6 h1
 obtain ⟨r1,r2⟩:=Zk1 h2
 exact ⟨m1,fun x hx=>by rw [Zj3,m2 x hx,r1 x hx];rfl,fun x hx=>by rw [Zs2,m3 x hx,r2 x hx];rfl⟩
noncomputable def ZyE (n:Nat):Zz:=Zj2 (.tuple []) fun rest txt=>∃pl x,rest=[Xd Xp pl x]∧(Zs2 x=true∧wL x≤n∧n≤1073741824)∧txt=liT x
theorem ZqH (n:Nat):Zc (ZyE n):=VR _ _
noncomputable def ZjA (n:Nat):Zz:=fun args σ K=>match args,σ with
 | [.ptr 0 0,.d (.sl r),.d (.str bt),.func g [.ptr 0 0] []],⟨[.cells t [p,.sl 0 e rows]],[0],1⟩=>∃l pl xs,rows=Zk l∧r=xs.map (Xp pl)∧(p=.ptr 0 0∧t=84∧e=5∧g=111)∧(xs.all Zs2=true∧szS wL xs≤n∧n≤1073741824)∧l.length+(Zf bt (xs.map liT)).length<70368744177664 ∧
   K (.ret (.tuple [])) ⟨[.cells t [.ptr 0 0,.sl 0 e (Zk (l++Zf bt (xs.map liT)))]],[0],1⟩
 | _,_=>False
theorem Zc7 (n:Nat):Zc (ZjA n):=fun args σ K K' hK h=>by
 unfold ZjA at h ⊢
 exact m84
noncomputable def ZAs (n:Nat):Tbl:=[(155,ZhO),(111,ZyE n)]
theorem ZAt {n:Nat} (ht:TblOK (GG w0 nG) (ZAs n)):PCalls (GG w0 nG) 110 (ZjA n):=by
 refine pc ht Tryz.func110 ?_
 intro args σ K h
 unfold ZjA at h
 split at h
 ·rename_i r bt g t p e rows
  obtain ⟨l,pl,xs,rfl,rfl,⟨rfl,rfl,rfl,rfl⟩,⟨hmay,hz,hn⟩,hlen,h⟩:=h
  have hl1:(xs.map (Xp pl)).length=xs.length:=Tf ..
  have hsz:=ZH wL xs
  refine ⟨Za [(1,⟨[12],[0,1,2,3,10,11],fun vs σ=>∃i:Nat,vs=[.d (.int .i64 i)]∧σ=⟨[.cells 84 [.ptr 0 0,.sl 0 5 (Zk (l++Zf bt ((xs.take i).map liT)))]],[0],1⟩∧i≤xs.length,fun vs _=>match vs with | [.d (.int _ i)]=>((xs.length:Int) - i).toNat | _=>0⟩)],1,true,by simp,Tb rfl,?_⟩
  conv=>whnf
  refine ⟨⟨0,rfl,(by simp only [T6,TF,Zf,TA];rfl),by omega⟩,?_⟩
  intro vs σ hI
  obtain ⟨i,rfl,rfl,hi⟩:=hI
  conv=>whnf
  refine ZEb (fun hi2=>?_) (fun hi2=>?_)
  ·have hi2:i<xs.length:=by have hi2:(i:Int)<(xs.map (Xp pl)).length:=hi2;rw [hl1] at hi2;omega
   have hg:=ZD wL xs i hi2
   have hmx:Zs2 xs[i]=true:=Tl.1 hmay _ (TV hi2)
   have htk:=Jq bt liT hi2
   have hle:=Zck bt liT xs (i+1)
   obtain ⟨eA,hA⟩:∃x,xs[i]=x:=⟨_,rfl⟩
   obtain ⟨a1,a2,a3,a4,a5⟩:=eA
   rw [hA] at hg hmx htk
   have hr1:(xs.map (Xp pl))[((i:Nat):Int).toNat]?=some (Xp pl (.mk a1 a2 a3 a4 a5)):=by simp [hi2,hA]
   conv=>whnf
   refine ⟨_,by omega,hr1,?_⟩
   conv=>whnf
   refine ZEb (fun h0=>?_) (fun h0=>?_)
   ·have h0:0<i:=by omega
    rw [Te (by omega)] at htk
    rw [htk] at hle
    simp only [Ta] at hle
    conv=>whnf
    refine ⟨l++Zf bt ((xs.take i).map liT),bt,rfl,⟨.inr rfl,rfl,rfl⟩,⟨rfl,rfl⟩,by simp only [Ta];omega,?_⟩
    conv=>whnf
    refine ⟨l++Zf bt ((xs.take i).map liT)++bt,liT (.mk a1 a2 a3 a4 a5),rfl,⟨.inr rfl,rfl,rfl⟩,⟨pl,(.mk a1 a2 a3 a4 a5),rfl,⟨hmx,by omega,by omega⟩,rfl⟩,by simp only [Ta];omega,?_⟩
    exact m39
   ·obtain rfl:i=0:=by omega
    rw [Th rfl] at htk
    rw [htk] at hle
    conv=>whnf
    refine ⟨l++Zf bt ((xs.take 0).map liT),liT (.mk a1 a2 a3 a4 a5),rfl,⟨.inr rfl,rfl,rfl⟩,⟨pl,(.mk a1 a2 a3 a4 a5),rfl,⟨hmx,by omega,by omega⟩,rfl⟩,by simp only [T6,TF,Zf,Ta,Td];omega,?_⟩
    exact m37
  ·have hi2:i=xs.length:=by have hi2:¬(i:Int)<(xs.map (Xp pl)).length:=hi2;rw [hl1] at hi2;omega
   subst hi2
   rw [Sd]
   exact m31
 ·exact h.elim
noncomputable def ZAu (n:Nat):Tbl:=[(75,ZfY),(76,ZsR n),(30,ZrM n),(110,spB ZjA n)]
theorem ZAv {n:Nat} (ht:TblOK (GG w0 nG) (ZAu n)):PCalls (GG w0 nG) 111 (ZyE n):=by
 refine Zph XI mixed (tbl:=ZAu n) ht Y0 Tryz.func111 rfl (by kernel_rfl) (by kernel_rfl) ?_
 intro args σ K h
 unfold ZyE Zj2 at h
 split at h
 ·rename_i rest t p e rows
  obtain ⟨l,txt,rfl,⟨hp,rfl,rfl⟩,⟨pl,⟨op,rel,xs,body,at'⟩,rfl,⟨hmay,hz,hn⟩,rfl⟩,hlen,h⟩:=h
  obtain ⟨m1,m2,m3⟩:=Zxv hmay
  have hzx:szS wE xs+szS wL body+rel.length+1≤n:=by rw [wL,Vk] at hz;omega
  refine ⟨Za [],ZbX [(13,2)],VW [],1,true,by simp,Tb rfl,?_⟩
  have hcases:((op=1∨op=2)∧Yk rel=true∧body.length=0)∨(3≤op∧op≤8∧rel=[]∧xs.length=2∧body.length=0)∨(op=9∧rel=[]∧xs.length=1∧0<body.length)∨(9<op∧op≤12∧rel=[]∧xs.length=2∧0<body.length):=Zk7 m1
  rcases hcases with ⟨hop,hnm,hb⟩ | ⟨c1,c2,rfl,hx2,hb⟩ | ⟨rfl,rfl,hx1,hb⟩ | ⟨c1,c2,rfl,hx2,hb⟩
  ·rcases hop with rfl | rfl
   ·rcases hp with rfl | rfl
    all_goals
     have hx:liT (.mk 1 rel xs body at')=rel++Wt [40] [41] xs:=by rw [liT];rfl
     rw [hx] at h hlen
     (try simp only [Ta,Tc,Td] at hlen)
     conv=>whnf
     refine ⟨l,rel,rfl,⟨(by first | exact .inl rfl | exact .inr rfl),rfl,rfl⟩,⟨[rel],rfl,by simp,by simp,by simp⟩,by (try simp only [Ta,Tc,Td]);omega,?_⟩
     conv=>whnf
     refine ⟨l++rel,Wt [40] [41] xs,rfl,⟨(by first | exact .inl rfl | exact .inr rfl),rfl,rfl⟩,⟨[40],[41],pl,xs,rfl,⟨Tl.2 m2,by omega,by omega⟩,rfl⟩,by (try simp only [Ta,Tc,Td]);omega,?_⟩
     rw [show l++(rel++Wt [40] [41] xs)=l++rel++Wt [40] [41] xs by simp only [Tg]] at h
     conv=>whnf
     exact h
   ·rcases hp with rfl | rfl
    all_goals
     have hx:liT (.mk 2 rel xs body at')=[33]++(rel++Wt [40] [41] xs):=by rw [liT];rfl
     rw [hx] at h hlen
     (try simp only [Ta,Tc,Td] at hlen)
     conv=>whnf
     refine ⟨l,[33],rfl,⟨(by first | exact .inl rfl | exact .inr rfl),rfl,rfl⟩,⟨[[33]],rfl,by simp,by simp,by simp⟩,by (try simp only [Ta,Tc,Td]);omega,?_⟩
     conv=>whnf
     refine ⟨l++[33],rel,rfl,⟨(by first | exact .inl rfl | exact .inr rfl),rfl,rfl⟩,⟨[rel],rfl,by simp,by simp,by simp⟩,by (try simp only [Ta,Tc,Td]);omega,?_⟩
     conv=>whnf
     refine ⟨l++[33]++rel,Wt [40] [41] xs,rfl,⟨(by first | exact .inl rfl | exact .inr rfl),rfl,rfl⟩,⟨[40],[41],pl,xs,rfl,⟨Tl.2 m2,by omega,by omega⟩,rfl⟩,by (try simp only [Ta,Tc,Td]);omega,?_⟩
     rw [show l++([33]++(rel++Wt [40] [41] xs))=l++[33]++rel++Wt [40] [41] xs by simp only [Tg]] at h
     conv=>whnf
     exact h
  ·obtain ⟨x0,x1,rfl⟩:=Za5 hx2
   simp only [szS] at hzx
   have g0:=m2 x0 (by simp)
   have g1:=m2 x1 (by simp)
   have z0:wE x0≤n:=by omega
   have z1:wE x1≤n:=by omega
   obtain ⟨o0,t0,n0,y0,q0⟩:=x0
   obtain ⟨o1,t1,n1,y1,q1⟩:=x1
   obtain rfl | rfl | rfl | rfl | rfl | rfl:op=3∨op=4∨op=5∨op=6∨op=7∨op=8:=by omega
   ·rcases hp with rfl | rfl
    all_goals
     have hx:liT (.mk 3 [] [(.mk o0 t0 n0 y0 q0),(.mk o1 t1 n1 y1 q1)] body at')=exW 0 (.mk o0 t0 n0 y0 q0)++([32,61,32]++exW 0 (.mk o1 t1 n1 y1 q1)):=by rw [liT,VX,VX];rfl
     rw [hx] at h hlen
     (try simp only [Ta,Tc,Td] at hlen)
     conv=>whnf
     refine ⟨_,by decide,rfl,?_⟩
     conv=>whnf
     refine ⟨l,exW 0 (.mk o0 t0 n0 y0 q0),rfl,⟨(by first | exact .inl rfl | exact .inr rfl),rfl,rfl⟩,⟨pl,(.mk o0 t0 n0 y0 q0),0,rfl,⟨g0,by omega,by omega,by omega,by omega⟩,rfl⟩,by (try simp only [Ta,Tc,Td]);omega,?_⟩
     conv=>whnf
     refine Or.inl ⟨InR.u8 (by decide) (by decide),?_⟩
     conv=>whnf
     refine ⟨by decide,by decide,?_⟩
     conv=>whnf
     refine ⟨l++exW 0 (.mk o0 t0 n0 y0 q0),[32,61,32],rfl,⟨(by first | exact .inl rfl | exact .inr rfl),rfl,rfl⟩,⟨[[32,61,32]],rfl,by simp,by simp,by simp⟩,by (try simp only [Ta,Tc,Td]);omega,?_⟩
     conv=>whnf
     refine ⟨_,by decide,rfl,?_⟩
     conv=>whnf
     refine ⟨l++exW 0 (.mk o0 t0 n0 y0 q0)++[32,61,32],exW 0 (.mk o1 t1 n1 y1 q1),rfl,⟨(by first | exact .inl rfl | exact .inr rfl),rfl,rfl⟩,⟨pl,(.mk o1 t1 n1 y1 q1),0,rfl,⟨g1,by omega,by omega,by omega,by omega⟩,rfl⟩,by (try simp only [Ta,Tc,Td]);omega,?_⟩
     rw [show l++(exW 0 (.mk o0 t0 n0 y0 q0)++([32,61,32]++exW 0 (.mk o1 t1 n1 y1 q1)))=l++exW 0 (.mk o0 t0 n0 y0 q0)++[32,61,32]++exW 0 (.mk o1 t1 n1 y1 q1) by simp only [Tg]] at h
     conv=>whnf
     exact h
   ·rcases hp with rfl | rfl
    all_goals
     have hx:liT (.mk 4 [] [(.mk o0 t0 n0 y0 q0),(.mk o1 t1 n1 y1 q1)] body at')=exW 0 (.mk o0 t0 n0 y0 q0)++([32,33,61,32]++exW 0 (.mk o1 t1 n1 y1 q1)):=by rw [liT,VX,VX];rfl
     rw [hx] at h hlen
     (try simp only [Ta,Tc,Td] at hlen)
     conv=>whnf
     refine ⟨_,by decide,rfl,?_⟩
     conv=>whnf
     refine ⟨l,exW 0 (.mk o0 t0 n0 y0 q0),rfl,⟨(by first | exact .inl rfl | exact .inr rfl),rfl,rfl⟩,⟨pl,(.mk o0 t0 n0 y0 q0),0,rfl,⟨g0,by omega,by omega,by omega,by omega⟩,rfl⟩,by (try simp only [Ta,Tc,Td]);omega,?_⟩
     conv=>whnf
     refine Or.inl ⟨InR.u8 (by decide) (by decide),?_⟩
     conv=>whnf
     refine ⟨by decide,by decide,?_⟩
     conv=>whnf
     refine ⟨l++exW 0 (.mk o0 t0 n0 y0 q0),[32,33,61,32],rfl,⟨(by first | exact .inl rfl | exact .inr rfl),rfl,rfl⟩,⟨[[32,33,61,32]],rfl,by simp,by simp,by simp⟩,by (try simp only [Ta,Tc,Td]);omega,?_⟩
     conv=>whnf
     refine ⟨_,by decide,rfl,?_⟩
     conv=>whnf
     refine ⟨l++exW 0 (.mk o0 t0 n0 y0 q0)++[32,33,61,32],exW 0 (.mk o1 t1 n1 y1 q1),rfl,⟨(by first | exact .inl rfl | exact .inr rfl),rfl,rfl⟩,⟨pl,(.mk o1 t1 n1 y1 q1),0,rfl,⟨g1,by omega,by omega,by omega,by omega⟩,rfl⟩,by (try simp only [Ta,Tc,Td]);omega,?_⟩
     rw [show l++(exW 0 (.mk o0 t0 n0 y0 q0)++([32,33,61,32]++exW 0 (.mk o1 t1 n1 y1 q1)))=l++exW 0 (.mk o0 t0 n0 y0 q0)++[32,33,61,32]++exW 0 (.mk o1 t1 n1 y1 q1) by simp only [Tg]] at h
     conv=>whnf
     exact h
   ·rcases hp with rfl | rfl
    all_goals
     have hx:liT (.mk 5 [] [(.mk o0 t0 n0 y0 q0),(.mk o1 t1 n1 y1 q1)] body at')=exW 0 (.mk o0 t0 n0 y0 q0)++([32,60,32]++exW 0 (.mk o1 t1 n1 y1 q1)):=by rw [liT,VX,VX];rfl
     rw [hx] at h hlen
     (try simp only [Ta,Tc,Td] at hlen)
     conv=>whnf
     refine ⟨_,by decide,rfl,?_⟩
     conv=>whnf
     refine ⟨l,exW 0 (.mk o0 t0 n0 y0 q0),rfl,⟨(by first | exact .inl rfl | exact .inr rfl),rfl,rfl⟩,⟨pl,(.mk o0 t0 n0 y0 q0),0,rfl,⟨g0,by omega,by omega,by omega,by omega⟩,rfl⟩,by (try simp only [Ta,Tc,Td]);omega,?_⟩
     conv=>whnf
     refine Or.inl ⟨InR.u8 (by decide) (by decide),?_⟩
     conv=>whnf
     refine ⟨by decide,by decide,?_⟩
     conv=>whnf
     refine ⟨l++exW 0 (.mk o0 t0 n0 y0 q0),[32,60,32],rfl,⟨(by first | exact .inl rfl | exact .inr rfl),rfl,rfl⟩,⟨[[32,60,32]],rfl,by simp,by simp,by simp⟩,by (try simp only [Ta,Tc,Td]);omega,?_⟩
     conv=>whnf
     refine ⟨_,by decide,rfl,?_⟩
     conv=>whnf
     refine ⟨l++exW 0 (.mk o0 t0 n0 y0 q0)++[32,60,32],exW 0 (.mk o1 t1 n1 y1 q1),rfl,⟨(by first | exact .inl rfl | exact .inr rfl),rfl,rfl⟩,⟨pl,(.mk o1 t1 n1 y1 q1),0,rfl,⟨g1,by omega,by omega,by omega,by omega⟩,rfl⟩,by (try simp only [Ta,Tc,Td]);omega,?_⟩
     rw [show l++(exW 0 (.mk o0 t0 n0 y0 q0)++([32,60,32]++exW 0 (.mk o1 t1 n1 y1 q1)))=l++exW 0 (.mk o0 t0 n0 y0 q0)++[32,60,32]++exW 0 (.mk o1 t1 n1 y1 q1) by simp only [Tg]] at h
     conv=>whnf
     exact h
   ·rcases hp with rfl | rfl
    all_goals
     have hx:liT (.mk 6 [] [(.mk o0 t0 n0 y0 q0),(.mk o1 t1 n1 y1 q1)] body at')=exW 0 (.mk o0 t0 n0 y0 q0)++([32,60,61,32]++exW 0 (.mk o1 t1 n1 y1 q1)):=by rw [liT,VX,VX];rfl
     rw [hx] at h hlen
     (try simp only [Ta,Tc,Td] at hlen)
     conv=>whnf
     refine ⟨_,by decide,rfl,?_⟩
     conv=>whnf
     refine ⟨l,exW 0 (.mk o0 t0 n0 y0 q0),rfl,⟨(by first | exact .inl rfl | exact .inr rfl),rfl,rfl⟩,⟨pl,(.mk o0 t0 n0 y0 q0),0,rfl,⟨g0,by omega,by omega,by omega,by omega⟩,rfl⟩,by (try simp only [Ta,Tc,Td]);omega,?_⟩
     conv=>whnf
     refine Or.inl ⟨InR.u8 (by decide) (by decide),?_⟩
     conv=>whnf
     refine ⟨by decide,by decide,?_⟩
     conv=>whnf
     refine ⟨l++exW 0 (.mk o0 t0 n0 y0 q0),[32,60,61,32],rfl,⟨(by first | exact .inl rfl | exact .inr rfl),rfl,rfl⟩,⟨[[32,60,61,32]],rfl,by simp,by simp,by simp⟩,by (try simp only [Ta,Tc,Td]);omega,?_⟩
     conv=>whnf
     refine ⟨_,by decide,rfl,?_⟩
     conv=>whnf
     refine ⟨l++exW 0 (.mk o0 t0 n0 y0 q0)++[32,60,61,32],exW 0 (.mk o1 t1 n1 y1 q1),rfl,⟨(by first | exact .inl rfl | exact .inr rfl),rfl,rfl⟩,⟨pl,(.mk o1 t1 n1 y1 q1),0,rfl,⟨g1,by omega,by omega,by omega,by omega⟩,rfl⟩,by (try simp only [Ta,Tc,Td]);omega,?_⟩
     rw [show l++(exW 0 (.mk o0 t0 n0 y0 q0)++([32,60,61,32]++exW 0 (.mk o1 t1 n1 y1 q1)))=l++exW 0 (.mk o0 t0 n0 y0 q0)++[32,60,61,32]++exW 0 (.mk o1 t1 n1 y1 q1) by simp only [Tg]] at h
     conv=>whnf
     exact h
   ·rcases hp with rfl | rfl
    all_goals
     have hx:liT (.mk 7 [] [(.mk o0 t0 n0 y0 q0),(.mk o1 t1 n1 y1 q1)] body at')=exW 0 (.mk o0 t0 n0 y0 q0)++([32,62,32]++exW 0 (.mk o1 t1 n1 y1 q1)):=by rw [liT,VX,VX];rfl
     rw [hx] at h hlen
     (try simp only [Ta,Tc,Td] at hlen)
     conv=>whnf
     refine ⟨_,by decide,rfl,?_⟩
     conv=>whnf
     refine ⟨l,exW 0 (.mk o0 t0 n0 y0 q0),rfl,⟨(by first | exact .inl rfl | exact .inr rfl),rfl,rfl⟩,⟨pl,(.mk o0 t0 n0 y0 q0),0,rfl,⟨g0,by omega,by omega,by omega,by omega⟩,rfl⟩,by (try simp only [Ta,Tc,Td]);omega,?_⟩
     conv=>whnf
     refine Or.inl ⟨InR.u8 (by decide) (by decide),?_⟩
     conv=>whnf
     refine ⟨by decide,by decide,?_⟩
     conv=>whnf
     refine ⟨l++exW 0 (.mk o0 t0 n0 y0 q0),[32,62,32],rfl,⟨(by first | exact .inl rfl | exact .inr rfl),rfl,rfl⟩,⟨[[32,62,32]],rfl,by simp,by simp,by simp⟩,by (try simp only [Ta,Tc,Td]);omega,?_⟩
     conv=>whnf
     refine ⟨_,by decide,rfl,?_⟩
     conv=>whnf
     refine ⟨l++exW 0 (.mk o0 t0 n0 y0 q0)++[32,62,32],exW 0 (.mk o1 t1 n1 y1 q1),rfl,⟨(by first | exact .inl rfl | exact .inr rfl),rfl,rfl⟩,⟨pl,(.mk o1 t1 n1 y1 q1),0,rfl,⟨g1,by omega,by omega,by omega,by omega⟩,rfl⟩,by (try simp only [Ta,Tc,Td]);omega,?_⟩
     rw [show l++(exW 0 (.mk o0 t0 n0 y0 q0)++([32,62,32]++exW 0 (.mk o1 t1 n1 y1 q1)))=l++exW 0 (.mk o0 t0 n0 y0 q0)++[32,62,32]++exW 0 (.mk o1 t1 n1 y1 q1) by simp only [Tg]] at h
     conv=>whnf
     exact h
   ·rcases hp with rfl | rfl
    all_goals
     have hx:liT (.mk 8 [] [(.mk o0 t0 n0 y0 q0),(.mk o1 t1 n1 y1 q1)] body at')=exW 0 (.mk o0 t0 n0 y0 q0)++([32,62,61,32]++exW 0 (.mk o1 t1 n1 y1 q1)):=by rw [liT,VX,VX];rfl
     rw [hx] at h hlen
     (try simp only [Ta,Tc,Td] at hlen)
     conv=>whnf
     refine ⟨_,by decide,rfl,?_⟩
     conv=>whnf
     refine ⟨l,exW 0 (.mk o0 t0 n0 y0 q0),rfl,⟨(by first | exact .inl rfl | exact .inr rfl),rfl,rfl⟩,⟨pl,(.mk o0 t0 n0 y0 q0),0,rfl,⟨g0,by omega,by omega,by omega,by omega⟩,rfl⟩,by (try simp only [Ta,Tc,Td]);omega,?_⟩
     conv=>whnf
     refine Or.inl ⟨InR.u8 (by decide) (by decide),?_⟩
     conv=>whnf
     refine ⟨by decide,by decide,?_⟩
     conv=>whnf
     refine ⟨l++exW 0 (.mk o0 t0 n0 y0 q0),[32,62,61,32],rfl,⟨(by first | exact .inl rfl | exact .inr rfl),rfl,rfl⟩,⟨[[32,62,61,32]],rfl,by simp,by simp,by simp⟩,by (try simp only [Ta,Tc,Td]);omega,?_⟩
     conv=>whnf
     refine ⟨_,by decide,rfl,?_⟩
     conv=>whnf
     refine ⟨l++exW 0 (.mk o0 t0 n0 y0 q0)++[32,62,61,32],exW 0 (.mk o1 t1 n1 y1 q1),rfl,⟨(by first | exact .inl rfl | exact .inr rfl),rfl,rfl⟩,⟨pl,(.mk o1 t1 n1 y1 q1),0,rfl,⟨g1,by omega,by omega,by omega,by omega⟩,rfl⟩,by (try simp only [Ta,Tc,Td]);omega,?_⟩
     rw [show l++(exW 0 (.mk o0 t0 n0 y0 q0)++([32,62,61,32]++exW 0 (.mk o1 t1 n1 y1 q1)))=l++exW 0 (.mk o0 t0 n0 y0 q0)++[32,62,61,32]++exW 0 (.mk o1 t1 n1 y1 q1) by simp only [Tg]] at h
     conv=>whnf
     exact h
  ·obtain ⟨x0,rfl⟩:=Zfg hx1
   simp only [szS] at hzx
   have g0:=m2 x0 (by simp)
   have z0:wE x0≤n:=by omega
   obtain ⟨o0,t0,n0,y0,q0⟩:=x0
   rcases hp with rfl | rfl
   all_goals
    have hx:liT (.mk 9 [] [(.mk o0 t0 n0 y0 q0)] body at')=exW 0 (.mk o0 t0 n0 y0 q0)++(([32,61,32]++[99,111,117,110,116])++([32,58,32,123,32]++(Zf cmm (body.map liT)++([32,125])))):=by rw [liT,Ze8,VX];simp [Zjr,Zmp,Zab]
    rw [hx] at h hlen
    (try simp only [Ta,Tc,Td] at hlen)
    conv=>whnf
    refine ⟨_,by decide,rfl,?_⟩
    conv=>whnf
    refine ⟨l,exW 0 (.mk o0 t0 n0 y0 q0),rfl,⟨(by first | exact .inl rfl | exact .inr rfl),rfl,rfl⟩,⟨pl,(.mk o0 t0 n0 y0 q0),0,rfl,⟨g0,by omega,by omega,by omega,by omega⟩,rfl⟩,by (try simp only [Ta,Tc,Td]);omega,?_⟩
    conv=>whnf
    refine Or.inl ⟨InR.u8 (by decide) (by decide),?_⟩
    conv=>whnf
    refine ⟨by decide,by decide,?_⟩
    conv=>whnf
    refine ⟨l++exW 0 (.mk o0 t0 n0 y0 q0),([32,61,32]++[99,111,117,110,116]),rfl,⟨(by first | exact .inl rfl | exact .inr rfl),rfl,rfl⟩,⟨[[32,61,32],[99,111,117,110,116]],rfl,by simp,by simp,by simp⟩,by (try simp only [Ta,Tc,Td]);omega,?_⟩
    conv=>whnf
    refine ⟨fun r hr=>?_,by decide,by rw [Zh];simp,?_⟩
    ·rw [Zh] at hr
     simp only [Tw,TF,Tv,List.not_mem_nil,or_false] at hr
     rcases hr with rfl;rfl
    conv=>whnf
    refine ⟨l++exW 0 (.mk o0 t0 n0 y0 q0)++([32,61,32]++[99,111,117,110,116]),[32,58,32,123,32],rfl,⟨(by first | exact .inl rfl | exact .inr rfl),rfl,rfl⟩,⟨[[32,58,32,123,32]],rfl,by simp,by simp,by simp⟩,by (try simp only [Ta,Tc,Td]);omega,?_⟩
    conv=>whnf
    refine ⟨by omega,l++exW 0 (.mk o0 t0 n0 y0 q0)++([32,61,32]++[99,111,117,110,116])++[32,58,32,123,32],pl,body,rfl,Zp pl body,⟨rfl,rfl,rfl,rfl⟩,⟨Tl.2 m3,by omega,by omega⟩,(by (try simp only [Ta,Tc,Td]);show _+(Zf cmm (body.map liT)).length<_;omega),?_⟩
    conv=>whnf
    refine ⟨l++exW 0 (.mk o0 t0 n0 y0 q0)++([32,61,32]++[99,111,117,110,116])++[32,58,32,123,32]++Zf cmm (body.map liT),[32,125],rfl,⟨(by first | exact .inl rfl | exact .inr rfl),rfl,rfl⟩,⟨[[32,125]],rfl,by simp,by simp,by simp⟩,by (try simp only [Ta,Tc,Td]);omega,?_⟩
    rw [show l++(exW 0 (.mk o0 t0 n0 y0 q0)++(([32,61,32]++[99,111,117,110,116])++([32,58,32,123,32]++(Zf cmm (body.map liT)++([32,125])))))=l++exW 0 (.mk o0 t0 n0 y0 q0)++([32,61,32]++[99,111,117,110,116])++[32,58,32,123,32]++Zf cmm (body.map liT)++[32,125] by simp only [Tg]] at h
    conv=>whnf
    exact h
  ·obtain ⟨x0,x1,rfl⟩:=Za5 hx2
   simp only [szS] at hzx
   have g0:=m2 x0 (by simp)
   have g1:=m2 x1 (by simp)
   have z0:wE x0≤n:=by omega
   have z1:wE x1≤n:=by omega
   obtain ⟨o0,t0,n0,y0,q0⟩:=x0
   obtain ⟨o1,t1,n1,y1,q1⟩:=x1
   obtain rfl | rfl | rfl:op=10∨op=11∨op=12:=by omega
   ·rcases hp with rfl | rfl
    all_goals
     have hx:liT (.mk 10 [] [(.mk o0 t0 n0 y0 q0),(.mk o1 t1 n1 y1 q1)] body at')=exW 0 (.mk o0 t0 n0 y0 q0)++(([32,61,32]++[115,117,109])++([32]++(exW 0 (.mk o1 t1 n1 y1 q1)++([32,58,32,123,32]++(Zf cmm (body.map liT)++([32,125])))))):=by rw [liT,Ze8,VX,VX];simp [Zjr,Zmp,Zab]
     rw [hx] at h hlen
     (try simp only [Ta,Tc,Td] at hlen)
     conv=>whnf
     refine ⟨_,by decide,rfl,?_⟩
     conv=>whnf
     refine ⟨l,exW 0 (.mk o0 t0 n0 y0 q0),rfl,⟨(by first | exact .inl rfl | exact .inr rfl),rfl,rfl⟩,⟨pl,(.mk o0 t0 n0 y0 q0),0,rfl,⟨g0,by omega,by omega,by omega,by omega⟩,rfl⟩,by (try simp only [Ta,Tc,Td]);omega,?_⟩
     conv=>whnf
     refine Or.inl ⟨InR.u8 (by decide) (by decide),?_⟩
     conv=>whnf
     refine ⟨by decide,by decide,?_⟩
     conv=>whnf
     refine ⟨l++exW 0 (.mk o0 t0 n0 y0 q0),([32,61,32]++[115,117,109]),rfl,⟨(by first | exact .inl rfl | exact .inr rfl),rfl,rfl⟩,⟨[[32,61,32],[115,117,109]],rfl,by simp,by simp,by simp⟩,by (try simp only [Ta,Tc,Td]);omega,?_⟩
     conv=>whnf
     refine ⟨fun r hr=>?_,by decide,by rw [Zh];simp,?_⟩
     ·exact m90
     conv=>whnf
     refine ⟨_,by decide,rfl,?_⟩
     conv=>whnf
     refine ⟨l++exW 0 (.mk o0 t0 n0 y0 q0)++([32,61,32]++[115,117,109]),[32],rfl,⟨(by first | exact .inl rfl | exact .inr rfl),rfl,rfl⟩,⟨[[32]],rfl,by simp,by simp,by simp⟩,by (try simp only [Ta,Tc,Td]);omega,?_⟩
     conv=>whnf
     refine ⟨l++exW 0 (.mk o0 t0 n0 y0 q0)++([32,61,32]++[115,117,109])++[32],exW 0 (.mk o1 t1 n1 y1 q1),rfl,⟨(by first | exact .inl rfl | exact .inr rfl),rfl,rfl⟩,⟨pl,(.mk o1 t1 n1 y1 q1),0,rfl,⟨g1,by omega,by omega,by omega,by omega⟩,rfl⟩,by (try simp only [Ta,Tc,Td]);omega,?_⟩
     conv=>whnf
     refine oiD ?_
     conv=>whnf
     refine ⟨l++exW 0 (.mk o0 t0 n0 y0 q0)++([32,61,32]++[115,117,109])++[32]++exW 0 (.mk o1 t1 n1 y1 q1),[32,58,32,123,32],rfl,⟨(by first | exact .inl rfl | exact .inr rfl),rfl,rfl⟩,⟨[[32,58,32,123,32]],rfl,by simp,by simp,by simp⟩,by (try simp only [Ta,Tc,Td]);omega,?_⟩
     conv=>whnf
     refine ⟨by omega,l++exW 0 (.mk o0 t0 n0 y0 q0)++([32,61,32]++[115,117,109])++[32]++exW 0 (.mk o1 t1 n1 y1 q1)++[32,58,32,123,32],pl,body,rfl,Zp pl body,⟨rfl,rfl,rfl,rfl⟩,⟨Tl.2 m3,by omega,by omega⟩,(by (try simp only [Ta,Tc,Td]);show _+(Zf cmm (body.map liT)).length<_;omega),?_⟩
     conv=>whnf
     refine ⟨l++exW 0 (.mk o0 t0 n0 y0 q0)++([32,61,32]++[115,117,109])++[32]++exW 0 (.mk o1 t1 n1 y1 q1)++[32,58,32,123,32]++Zf cmm (body.map liT),[32,125],rfl,⟨(by first | exact .inl rfl | exact .inr rfl),rfl,rfl⟩,⟨[[32,125]],rfl,by simp,by simp,by simp⟩,by (try simp only [Ta,Tc,Td]);omega,?_⟩
     rw [show l++(exW 0 (.mk o0 t0 n0 y0 q0)++(([32,61,32]++[115,117,109])++([32]++(exW 0 (.mk o1 t1 n1 y1 q1)++([32,58,32,123,32]++(Zf cmm (body.map liT)++([32,125])))))))=l++exW 0 (.mk o0 t0 n0 y0 q0)++([32,61,32]++[115,117,109])++[32]++exW 0 (.mk o1 t1 n1 y1 q1)++[32,58,32,123,32]++Zf cmm (body.map liT)++[32,125] by simp only [Tg]] at h
     conv=>whnf
     exact h
   ·rcases hp with rfl | rfl
    all_goals
     have hx:liT (.mk 11 [] [(.mk o0 t0 n0 y0 q0),(.mk o1 t1 n1 y1 q1)] body at')=exW 0 (.mk o0 t0 n0 y0 q0)++(([32,61,32]++[109,105,110])++([32]++(exW 0 (.mk o1 t1 n1 y1 q1)++([32,58,32,123,32]++(Zf cmm (body.map liT)++([32,125])))))):=by rw [liT,Ze8,VX,VX];simp [Zjr,Zmp,Zab]
     rw [hx] at h hlen
     (try simp only [Ta,Tc,Td] at hlen)
     conv=>whnf
     refine ⟨_,by decide,rfl,?_⟩
     conv=>whnf
     refine ⟨l,exW 0 (.mk o0 t0 n0 y0 q0),rfl,⟨(by first | exact .inl rfl | exact .inr rfl),rfl,rfl⟩,⟨pl,(.mk o0 t0 n0 y0 q0),0,rfl,⟨g0,by omega,by omega,by omega,by omega⟩,rfl⟩,by (try simp only [Ta,Tc,Td]);omega,?_⟩
     conv=>whnf
     refine Or.inl ⟨InR.u8 (by decide) (by decide),?_⟩
     conv=>whnf
     refine ⟨by decide,by decide,?_⟩
     conv=>whnf
     refine ⟨l++exW 0 (.mk o0 t0 n0 y0 q0),([32,61,32]++[109,105,110]),rfl,⟨(by first | exact .inl rfl | exact .inr rfl),rfl,rfl⟩,⟨[[32,61,32],[109,105,110]],rfl,by simp,by simp,by simp⟩,by (try simp only [Ta,Tc,Td]);omega,?_⟩
     conv=>whnf
     refine ⟨fun r hr=>?_,by decide,by rw [Zh];simp,?_⟩
     ·exact m90
     conv=>whnf
     refine ⟨_,by decide,rfl,?_⟩
     conv=>whnf
     refine ⟨l++exW 0 (.mk o0 t0 n0 y0 q0)++([32,61,32]++[109,105,110]),[32],rfl,⟨(by first | exact .inl rfl | exact .inr rfl),rfl,rfl⟩,⟨[[32]],rfl,by simp,by simp,by simp⟩,by (try simp only [Ta,Tc,Td]);omega,?_⟩
     conv=>whnf
     refine ⟨l++exW 0 (.mk o0 t0 n0 y0 q0)++([32,61,32]++[109,105,110])++[32],exW 0 (.mk o1 t1 n1 y1 q1),rfl,⟨(by first | exact .inl rfl | exact .inr rfl),rfl,rfl⟩,⟨pl,(.mk o1 t1 n1 y1 q1),0,rfl,⟨g1,by omega,by omega,by omega,by omega⟩,rfl⟩,by (try simp only [Ta,Tc,Td]);omega,?_⟩
     conv=>whnf
     refine oiD ?_
     conv=>whnf
     refine ⟨l++exW 0 (.mk o0 t0 n0 y0 q0)++([32,61,32]++[109,105,110])++[32]++exW 0 (.mk o1 t1 n1 y1 q1),[32,58,32,123,32],rfl,⟨(by first | exact .inl rfl | exact .inr rfl),rfl,rfl⟩,⟨[[32,58,32,123,32]],rfl,by simp,by simp,by simp⟩,by (try simp only [Ta,Tc,Td]);omega,?_⟩
     conv=>whnf
     refine ⟨by omega,l++exW 0 (.mk o0 t0 n0 y0 q0)++([32,61,32]++[109,105,110])++[32]++exW 0 (.mk o1 t1 n1 y1 q1)++[32,58,32,123,32],pl,body,rfl,Zp pl body,⟨rfl,rfl,rfl,rfl⟩,⟨Tl.2 m3,by omega,by omega⟩,(by (try simp only [Ta,Tc,Td]);show _+(Zf cmm (body.map liT)).length<_;omega),?_⟩
     conv=>whnf
     refine ⟨l++exW 0 (.mk o0 t0 n0 y0 q0)++([32,61,32]++[109,105,110])++[32]++exW 0 (.mk o1 t1 n1 y1 q1)++[32,58,32,123,32]++Zf cmm (body.map liT),[32,125],rfl,⟨(by first | exact .inl rfl | exact .inr rfl),rfl,rfl⟩,⟨[[32,125]],rfl,by simp,by simp,by simp⟩,by (try simp only [Ta,Tc,Td]);omega,?_⟩
     rw [show l++(exW 0 (.mk o0 t0 n0 y0 q0)++(([32,61,32]++[109,105,110])++([32]++(exW 0 (.mk o1 t1 n1 y1 q1)++([32,58,32,123,32]++(Zf cmm (body.map liT)++([32,125])))))))=l++exW 0 (.mk o0 t0 n0 y0 q0)++([32,61,32]++[109,105,110])++[32]++exW 0 (.mk o1 t1 n1 y1 q1)++[32,58,32,123,32]++Zf cmm (body.map liT)++[32,125] by simp only [Tg]] at h
     conv=>whnf
     exact h
   ·rcases hp with rfl | rfl
    all_goals
     have hx:liT (.mk 12 [] [(.mk o0 t0 n0 y0 q0),(.mk o1 t1 n1 y1 q1)] body at')=exW 0 (.mk o0 t0 n0 y0 q0)++(([32,61,32]++[109,97,120])++([32]++(exW 0 (.mk o1 t1 n1 y1 q1)++([32,58,32,123,32]++(Zf cmm (body.map liT)++([32,125])))))):=by rw [liT,Ze8,VX,VX];simp [Zjr,Zmp,Zab]
     rw [hx] at h hlen
     (try simp only [Ta,Tc,Td] at hlen)
     conv=>whnf
     refine ⟨_,by decide,rfl,?_⟩
     conv=>whnf
     refine ⟨l,exW 0 (.mk o0 t0 n0 y0 q0),rfl,⟨(by first | exact .inl rfl | exact .inr rfl),rfl,rfl⟩,⟨pl,(.mk o0 t0 n0 y0 q0),0,rfl,⟨g0,by omega,by omega,by omega,by omega⟩,rfl⟩,by (try simp only [Ta,Tc,Td]);omega,?_⟩
     conv=>whnf
     refine Or.inl ⟨InR.u8 (by decide) (by decide),?_⟩
     conv=>whnf
     refine ⟨by decide,by decide,?_⟩
     conv=>whnf
     refine ⟨l++exW 0 (.mk o0 t0 n0 y0 q0),([32,61,32]++[109,97,120]),rfl,⟨(by first | exact .inl rfl | exact .inr rfl),rfl,rfl⟩,⟨[[32,61,32],[109,97,120]],rfl,by simp,by simp,by simp⟩,by (try simp only [Ta,Tc,Td]);omega,?_⟩
     conv=>whnf
     refine ⟨fun r hr=>?_,by decide,by rw [Zh];simp,?_⟩
     ·exact m90
     conv=>whnf
     refine ⟨_,by decide,rfl,?_⟩
     conv=>whnf
     refine ⟨l++exW 0 (.mk o0 t0 n0 y0 q0)++([32,61,32]++[109,97,120]),[32],rfl,⟨(by first | exact .inl rfl | exact .inr rfl),rfl,rfl⟩,⟨[[32]],rfl,by simp,by simp,by simp⟩,by (try simp only [Ta,Tc,Td]);omega,?_⟩
     conv=>whnf
     refine ⟨l++exW 0 (.mk o0 t0 n0 y0 q0)++([32,61,32]++[109,97,120])++[32],exW 0 (.mk o1 t1 n1 y1 q1),rfl,⟨(by first | exact .inl rfl | exact .inr rfl),rfl,rfl⟩,⟨pl,(.mk o1 t1 n1 y1 q1),0,rfl,⟨g1,by omega,by omega,by omega,by omega⟩,rfl⟩,by (try simp only [Ta,Tc,Td]);omega,?_⟩
     conv=>whnf
     refine oiD ?_
     conv=>whnf
     refine ⟨l++exW 0 (.mk o0 t0 n0 y0 q0)++([32,61,32]++[109,97,120])++[32]++exW 0 (.mk o1 t1 n1 y1 q1),[32,58,32,123,32],rfl,⟨(by first | exact .inl rfl | exact .inr rfl),rfl,rfl⟩,⟨[[32,58,32,123,32]],rfl,by simp,by simp,by simp⟩,by (try simp only [Ta,Tc,Td]);omega,?_⟩
     conv=>whnf
     refine ⟨by omega,l++exW 0 (.mk o0 t0 n0 y0 q0)++([32,61,32]++[109,97,120])++[32]++exW 0 (.mk o1 t1 n1 y1 q1)++[32,58,32,123,32],pl,body,rfl,Zp pl body,⟨rfl,rfl,rfl,rfl⟩,⟨Tl.2 m3,by omega,by omega⟩,(by (try simp only [Ta,Tc,Td]);show _+(Zf cmm (body.map liT)).length<_;omega),?_⟩
     conv=>whnf
     refine ⟨l++exW 0 (.mk o0 t0 n0 y0 q0)++([32,61,32]++[109,97,120])++[32]++exW 0 (.mk o1 t1 n1 y1 q1)++[32,58,32,123,32]++Zf cmm (body.map liT),[32,125],rfl,⟨(by first | exact .inl rfl | exact .inr rfl),rfl,rfl⟩,⟨[[32,125]],rfl,by simp,by simp,by simp⟩,by (try simp only [Ta,Tc,Td]);omega,?_⟩
     rw [show l++(exW 0 (.mk o0 t0 n0 y0 q0)++(([32,61,32]++[109,97,120])++([32]++(exW 0 (.mk o1 t1 n1 y1 q1)++([32,58,32,123,32]++(Zf cmm (body.map liT)++([32,125])))))))=l++exW 0 (.mk o0 t0 n0 y0 q0)++([32,61,32]++[109,97,120])++[32]++exW 0 (.mk o1 t1 n1 y1 q1)++[32,58,32,123,32]++Zf cmm (body.map liT)++[32,125] by simp only [Tg]] at h
     conv=>whnf
     exact h
 ·exact h.elim
theorem cWA (hN:NumOK w0 nG) (hL:LexC w0 nG) (n:Nat):PCalls (GG w0 nG) 76 (ZsR n):=Zt3 (cWE hN hL n)
theorem ZqI {n:Nat} (h:PCalls (GG w0 nG) 111 (ZyE n)):PCalls (GG w0 nG) 110 (ZjA n):=ZAt ⟨⟨Zqm,UQ⟩,⟨h,ZqH n⟩,trivial⟩
theorem cWL (hN:NumOK w0 nG) (hL:LexC w0 nG):∀n,PCalls (GG w0 nG) 111 (ZyE n)
 | 0=>ZAv ⟨⟨Za2,Y2⟩,⟨cWA hN hL 0,Zag 0⟩,⟨cWE hN hL 0,UR 0⟩,⟨Yi (Zi Tryz.func110 (by kernel_rfl) rfl),ZV Zc7 _⟩,trivial⟩
 | n+1=>ZAv ⟨⟨Za2,Y2⟩,⟨cWA hN hL (n+1),Zag _⟩,⟨cWE hN hL (n+1),UR _⟩,⟨Yj (sp:=ZjA) (ZqI (cWL hN hL n)),ZV Zc7 _⟩,trivial⟩
def ZAw (r:Ru):Bool:=Y6 r && Zaf r
theorem Zxw {r:Ru} (h:ZAw r=true):(∀x∈r.args,Zj3 x=true)∧∀x∈r.body,Zs2 x=true:=by
 simp only [ZAw,Y6,Zaf,Tj] at h
 obtain ⟨⟨_,h1,h2⟩,h3,h4⟩:=h
 rw [Tl] at h1 h2 h3 h4
 exact ⟨fun x hx=>by rw [Zj3,h1 x hx,h3 x hx];rfl,fun x hx=>by rw [Zs2,h2 x hx,h4 x hx];rfl⟩
noncomputable def ZAx (n:Nat):Zz:=Zj2 (.tuple []) fun rest txt=>∃pl x,rest=[Xd Z7 pl x]∧(ZAw x=true∧wRu x≤n∧n≤1073741824)∧txt=ruT x
theorem ZjB (n:Nat):Zc (ZAx n):=VR _ _
noncomputable def ZAy (n:Nat):Tbl:=[(75,ZfY),(76,ZsR n),(110,ZjA n)]
theorem ZCV {n:Nat} (ht:TblOK (GG w0 nG) (ZAy n)):PCalls (GG w0 nG) 64 (ZAx n):=by
 refine pc ht Tryz.func64 ?_
 intro args σ K h
 unfold ZAx Zj2 at h
 split at h
 ·rename_i rest t p e rows
  obtain ⟨l,txt,rfl,⟨hp,rfl,rfl⟩,⟨pl,⟨head,xs,body,at'⟩,rfl,⟨hmay,hz,hn⟩,rfl⟩,hlen,h⟩:=h
  obtain ⟨m2,m3⟩:=Zxw hmay
  simp only at m2 m3
  have hzx:szS wE xs+szS wL body+head.length+1≤n:=by unfold wRu at hz;simp only at hz;omega
  have hbl:(ZfS pl body).length=body.length:=by rw [Zp,Tf]
  refine ⟨Za [],1,true,by simp,Tb rfl,?_⟩
  have hl0:l.length+head.length+(Wt [40] [41] xs).length+10<70368744177664+10:=by
   have e:(ruT ⟨head,xs,body,at'⟩).length≥head.length+(Wt [40] [41] xs).length:=by rw [ruT];simp only [Ta];omega
   omega
  rcases hp with rfl | rfl
  all_goals
   conv=>whnf
   refine ⟨l,head,rfl,⟨(by first | exact .inl rfl | exact .inr rfl),rfl,rfl⟩,⟨[head],rfl,by simp,by simp,by simp⟩,by (try simp only [Ta,Tc,Td]);omega,?_⟩
   conv=>whnf
   refine ⟨l++head,Wt [40] [41] xs,rfl,⟨(by first | exact .inl rfl | exact .inr rfl),rfl,rfl⟩,⟨[40],[41],pl,xs,rfl,⟨Tl.2 m2,by omega,by omega⟩,rfl⟩,by (try simp only [Ta,Tc,Td]);omega,?_⟩
   conv=>whnf
   refine ZEb (fun c=>?_) (fun c=>?_)
   ·have c:0<body.length:=by have c:((ZfS pl body).length:Int)>0:=c;omega
    have hx:ruT ⟨head,xs,body,at'⟩=head++(Wt [40] [41] xs++([32,58,45,32]++(Zf cmm (body.map liT)++[46]))):=by rw [ruT,Th c,Ze8];simp
    rw [hx] at h hlen
    simp only [Ta,Tc,Td] at hlen
    conv=>whnf
    refine ⟨l++head++Wt [40] [41] xs,[32,58,45,32],rfl,⟨(by first | exact .inl rfl | exact .inr rfl),rfl,rfl⟩,⟨[[32,58,45,32]],rfl,by simp,by simp,by simp⟩,by (try simp only [Ta,Tc,Td]);omega,?_⟩
    conv=>whnf
    refine ⟨l++head++Wt [40] [41] xs++[32,58,45,32],pl,body,rfl,Zp pl body,⟨rfl,rfl,rfl,rfl⟩,⟨Tl.2 m3,by omega,by omega⟩,(by (try simp only [Ta,Tc,Td]);show _+(Zf cmm (body.map liT)).length<_;omega),?_⟩
    conv=>whnf
    refine ⟨l++head++Wt [40] [41] xs++[32,58,45,32]++Zf cmm (body.map liT),[46],rfl,⟨(by first | exact .inl rfl | exact .inr rfl),rfl,rfl⟩,⟨[[46]],rfl,by simp,by simp,by simp⟩,by (try simp only [Ta,Tc,Td]);omega,?_⟩
    simp only [← Tg] at h
    exact m31
   ·have c:¬0<body.length:=by have c:¬((ZfS pl body).length:Int)>0:=c;omega
    have hx:ruT ⟨head,xs,body,at'⟩=head++(Wt [40] [41] xs++[46]):=by rw [ruT,Te c,To]
    rw [hx] at h hlen
    simp only [Ta,Tc,Td] at hlen
    conv=>whnf
    refine ⟨l++head++Wt [40] [41] xs,[46],rfl,⟨(by first | exact .inl rfl | exact .inr rfl),rfl,rfl⟩,⟨[[46]],rfl,by simp,by simp,by simp⟩,by (try simp only [Ta,Tc,Td]);omega,?_⟩
    simp only [← Tg] at h
    exact m31
 ·exact h.elim
theorem cWR (hN:NumOK w0 nG) (hL:LexC w0 nG) (n:Nat):PCalls (GG w0 nG) 64 (ZAx n):=ZCV ⟨⟨Za2,Y2⟩,⟨cWA hN hL n,Zag n⟩,⟨ZqI (cWL hN hL n),Zc7 n⟩,trivial⟩
end Go.PM.Lex
end

section
namespace Go.PM.Lex
def ruK (r:Ru):Ts:=nmT r.head::(brK [40] [41] (r.args.map exK)++((if 0<r.body.length then sgT [58,45]::Z3 [44] (r.body.map liK) else [])++[sgT [46]]))
theorem Zd4 {r:Ru} (h:Y6 r=true):Yk r.head=true∧(∀x∈r.args,ZW x=true)∧∀x∈r.body,YX x=true:=by
 simp only [Y6,Tj] at h
 exact ⟨h.1,Tl.1 h.2.1,Tl.1 h.2.2⟩
theorem ZqJ {x:Ru} (h:Y6 x=true) (d:Nat) (r:Ts):Rd ZgH x r (Zht d true (ruK x++r)):=by
 obtain ⟨h1,h2,h3⟩:=Zd4 h
 obtain ⟨hd',args,body,a⟩:=x
 simp only at h1 h2 h3
 rw [Zht,ruK]
 simp only [Tm,Tg]
 rw [Yt h1,R.bind_ok]
 refine (Zco (by decide) h2 fun hd x hx t ht=>Zmy (h2 x hx) hd ht).bind fun l' e=>?_
 by_cases hb:0<body.length
 ·rw [Th hb]
  simp only [Tm,Tg,To]
  rw [Th ⟨trivial,Vl _ _⟩,TH]
  refine (Zfm (TT.1 hb) (ZaL (by decide) r) (Zr r (by decide)) fun z hz t ht=>Zs1 (h3 z hz) ht).bind fun b' eb=>?_
  rw [XG,R.bind_ok]
  exact Rd.ok (by simp [ZgH,e,eb])
 ·obtain rfl:body=[]:=Tz (by omega)
  rw [Te hb]
  simp only [To]
  rw [Te (by rw [Zr _ (by decide)];simp),XG,R.bind_ok]
  exact Rd.ok (by simp [ZgH,e])
def fiK (f:Fi):Ts:=[nmT f.name,sgT [58],nmT f.typ]
def Zt8 (fr:Bs) (l:List Fi) (fin:Bs):Ts:=sgT fr::(Z3 [44] (l.map fiK)++[sgT fin])
theorem ZhS {f:Fi} (h:YG f=true):Yk f.name=true∧Yk f.typ=true:=by simpa [YG] using h
theorem Zod {f:Fi} (h:YG f=true) (r:Ts):Rd (fun x:Fi=>x) f r (VH (fiK f++r)):=by
 obtain ⟨h1,h2⟩:=ZhS h
 obtain ⟨nm,ty⟩:=f
 simp only [VH,fiK,Tm,To]
 rw [Yt h1,R.bind_ok,XG,R.bind_ok,Yt h2,R.bind_ok]
 exact ZEr
theorem Rd.idl {α:Type} {l:List α} {r:Ts} {x:R (List α)} (h:Rd (List.map fun x:α=>x) l r x):Rd (fun x:List α=>x) l r x:=by
 rcases h with ⟨v,e,h⟩ | h
 ·exact .inl ⟨v,by simpa using e,h⟩
 ·exact .inr h
theorem ZbD {l:List Fi} (h:∀f∈l,YG f=true) {fin:Bs} (hfin:fin∈[[41],[93],[125]]) (r:Ts):Rd (fun x:List Fi=>x) l (sgT fin::r) (W9 fin (Z3 [44] (l.map fiK)++(sgT fin::r))):=by
 have hk:∀w∈[[41],[93],[125]],Yk w=false∧w≠[44]:=by decide +kernel
 obtain ⟨k1,k2⟩:=hk fin hfin
 unfold W9
 cases l with
 | nil =>
  simp only [TF,Z3,To]
  rw [Th (Vl _ _)]
  exact ZEr
 | cons f fs =>
  have hf:isW (Z3 [44] ((f::fs).map fiK)++(sgT fin::r)) [fin]=false:=Zfj (ZhS (h f (by simp))).1 k1 _
  rw [Te (by rw [hf];simp)]
  exact (UT (fun _=>True) (fun _=>trivial) trivial (Zr r (by simpa [sgT] using k2)) (by simp) fun y hy t _=>Zod (h y hy) t).idl
def Zs3 (l:List Bs):Ts:=if l.length=0 then [] else sgT [60]::(Z3 [44] (l.map fun s=>[nmT s])++[sgT [62]])
theorem ZaB {l:List Bs} (h:∀s∈l,Yk s=true) {r:Ts} (hr:isW r [[60]]=false):Rd (fun x:List Bs=>x) l r (JE (Zs3 l++r)):=by
 unfold JE Zs3
 by_cases hl:l.length=0
 ·obtain rfl:=Tz hl
  rw [Th hl,To,Te (by rw [hr];simp)]
  exact ZEr
 ·rw [Te hl]
  simp only [Tm,Tg,To]
  rw [Th (Vl _ _),TH]
  refine (UT (er:=fun x:Bs=>x) (K:=fun s=>[nmT s]) (fun _=>True) (fun _=>trivial) trivial (Zr r (by decide)) (fun e=>hl (by rw [e];rfl)) fun y hy t _=>?_).idl.binds ?_
  ·rw [Tm,To,Yt (h y hy)];exact ZEr
  ·rw [XG,R.bind_ok];exact ZEr
def Zoe:List Bs:=[[116,121,112,101],[100,101,99,108],[99,111,109,112],[105,110,105,116],[111,118,101,114,114,105,100,101]]
def IHd (r:Ts):Prop:=r=[]∨(∃l,r=sgT [125]::l)∨(∃w l,w∈Zoe∧r=nmT w::l)∨∃s l,Yk s=true∧r=nmT s::l
theorem Zfn {r:Ts} (h:IHd r) {w:Bs} (hw:Yk w=false∧w≠[125]∧w∉Zoe):isW r [w]=false:=by
 rcases h with rfl | ⟨l,rfl⟩ | ⟨v,l,hv,rfl⟩ | ⟨s,l,hs,rfl⟩
 ·exact Zp8 _
 ·exact Zr l fun e=>hw.2.1 e.symm
 ·exact Zr l fun e=>hw.2.2 (by have e:v=w:=e;rwa [← e])
 ·exact Zfj hs hw.1 l
theorem Zah:∀w∈[[124],[60],[105,110,112,117,116],[111,117,116,112,117,116],[105,110,108,105,110,101]],Yk w=false∧w≠[125]∧w∉Zoe:=by decide +kernel
def caK (c:Ca):Ts:=nmT c.name::Zt8 [123] c.fields [125]
theorem ZhT {c:Ca} (h:Xz c=true):Yk c.name=true∧∀f∈c.fields,YG f=true:=by
 simp only [Xz,Tj] at h
 exact ⟨h.1,Tl.1 h.2⟩
theorem ZqK {c:Ca} (h:Xz c=true) (r:Ts):Rd (fun x:Ca=>x) c r (Zbn (caK c++r)):=by
 obtain ⟨h1,h2⟩:=ZhT h
 obtain ⟨nm,l⟩:=c
 simp only [Zbn,caK,Zt8,Tm,To,Tg]
 rw [Yt h1,R.bind_ok,XG,R.bind_ok]
 refine (ZbD h2 (by decide) r).binds ?_
 rw [XG,R.bind_ok]
 exact ZEr
def tyK (t:Ty):Ts:=nmT [116,121,112,101]::nmT t.name::(if t.kind=1 then [sgT [60,58],nmT t.base] else if t.kind=2 then sgT [61]::Zt8 [91] t.fields [93] else sgT [61]::Z3 [124] (t.cases.map caK))
theorem ZhU {t:Ty} (h:Ym t=true):Yk t.name=true∧(∀f∈t.fields,YG f=true)∧(∀c∈t.cases,Xz c=true) ∧
  ((t.kind=1∧Yk t.base=true∧t.fields=[]∧t.cases=[])∨(t.kind=2∧t.base=[]∧t.cases=[])∨(t.kind=3∧t.base=[]∧t.fields=[]∧t.cases≠[])):=by
 simp only [Ym,Tj] at h
 obtain ⟨h1,h2,h3,h4⟩:=h
 refine ⟨h2,Tl.1 h3,Tl.1 h4,?_⟩
 unfold Zcg at h1
 split at h1
 ·rename_i c
  simp only [Tj,TJ] at h1
  exact .inl ⟨c,h1.1,Tz h1.2.1,Tz h1.2.2⟩
 ·split at h1
  ·rename_i c
   simp only [Tj,TJ] at h1
   exact .inr (.inl ⟨c,h1.1,Tz h1.2⟩)
  ·split at h1
   ·rename_i c
    simp only [Tj,TJ,TZ,decide_eq_false_iff_not] at h1
    exact .inr (.inr ⟨c,h1.1,Tz h1.2.1,fun e=>h1.2.2 (by rw [e];rfl)⟩)
   ·cases h1
theorem Zof {t:Ty} (h:Ym t=true) {r:Ts} (hr:IHd r):Rd ZnT t r (Zb4 ((tyK t).tail++r)):=by
 obtain ⟨h1,h2,h3,h4⟩:=ZhU h
 obtain ⟨kind,nm,base,fields,cases,a⟩:=t
 simp only at h1 h2 h3 h4
 simp only [Zb4,tyK,TH,Tm]
 rw [Yt h1,R.bind_ok]
 rcases h4 with ⟨rfl,hb,rfl,rfl⟩ | ⟨rfl,rfl,rfl⟩ | ⟨rfl,rfl,rfl,hc⟩
 ·simp only [if_true,Tm,To]
  rw [Th (Vl _ _),TH,Yt hb,R.bind_ok]
  exact Rd.ok rfl
 ·simp only [show ((2:Nat)=1)=False by simp,if_false,if_true,Tm,To,Zt8,Tg]
  rw [Te (by rw [Zr _ (by decide)];simp),XG,R.bind_ok,Th (Vl _ _),TH]
  refine (ZbD h2 (by decide) r).binds ?_
  rw [XG,R.bind_ok]
  exact Rd.ok rfl
 ·simp only [show ((3:Nat)=1)=False by simp,show ((3:Nat)=2)=False by simp,if_false,Tm,To]
  rw [Te (by rw [Zr _ (by decide)];simp),XG,R.bind_ok]
  have hf:isW (Z3 [124] (cases.map caK)++r) [[91]]=false:=by
   match cases,hc with
   | c::cs,_=>exact Zfj (ZhT (h3 c (by simp))).1 (by decide +kernel) _
  rw [Te (by rw [hf];simp)]
  refine (UT (er:=fun x:Ca=>x) (fun _=>True) (fun _=>trivial) trivial (Zfn hr (Zah _ (by decide))) hc fun y hy t _=>ZqK (h3 y hy) t).idl.binds ?_
  exact Rd.ok rfl
def Zmz (i o n:Bool):Ts:=(if i then [nmT [105,110,112,117,116]] else [])++((if o then [nmT [111,117,116,112,117,116]] else [])++(if n then [nmT [105,110,108,105,110,101]] else []))
theorem Zog (i o n:Bool) {r:Ts} (hr:IHd r):Yy 4 false false false (Zmz i o n++r)=((i,o,n),r):=by
 have h1:=Zfn hr (Zah [105,110,112,117,116] (by decide))
 have h2:=Zfn hr (Zah [111,117,116,112,117,116] (by decide))
 have h3:=Zfn hr (Zah [105,110,108,105,110,101] (by decide))
 have a1:∀t:Ts,isW (nmT [105,110,112,117,116]::t) [[105,110,112,117,116]]=true:=fun t=>ZdH _ t
 have a2:∀t:Ts,isW (nmT [111,117,116,112,117,116]::t) [[111,117,116,112,117,116]]=true:=fun t=>ZdH _ t
 have a3:∀t:Ts,isW (nmT [105,110,108,105,110,101]::t) [[105,110,108,105,110,101]]=true:=fun t=>ZdH _ t
 have b1:∀t:Ts,isW (nmT [111,117,116,112,117,116]::t) [[105,110,112,117,116]]=false:=fun t=>Zr t (by decide)
 have b2:∀t:Ts,isW (nmT [105,110,108,105,110,101]::t) [[105,110,112,117,116]]=false:=fun t=>Zr t (by decide)
 have b3:∀t:Ts,isW (nmT [105,110,108,105,110,101]::t) [[111,117,116,112,117,116]]=false:=fun t=>Zr t (by decide)
 cases i <;> cases o <;> cases n <;> simp [Zmz,Yy,h1,h2,h3,a1,a2,a3,b1,b2,b3]
def reK (d:Re):Ts:=nmT [100,101,99,108]::nmT d.name::(Zt8 [40] d.fields [41]++Zmz d.inn d.out d.inl)
theorem ZqL {d:Re} (h:XN d=true) {r:Ts} (hr:IHd r):Rd ZnU d r (Zhs ((reK d).tail++r)):=by
 simp only [XN,Tj] at h
 obtain ⟨h1,h2⟩:=h
 have h2:=Tl.1 h2
 obtain ⟨nm,fields,i,o,n,a⟩:=d
 simp only at h1 h2
 simp only [Zhs,reK,TH,Tm,Zt8,Tg,To]
 rw [Yt h1,R.bind_ok,XG,R.bind_ok]
 refine (ZbD h2 (by decide) _).binds ?_
 rw [XG,R.bind_ok,Zog i o n hr]
 exact Rd.ok rfl
def inK (i:Ini):Ts:=nmT [105,110,105,116]::nmT i.name::sgT [61]::nmT i.comp::Zs3 i.types
theorem ZqM {i:Ini} (h:XX i=true) {r:Ts} (hr:IHd r):Rd ZnV i r (Zhu ((inK i).tail++r)):=by
 simp only [XX,Tj] at h
 obtain ⟨h1,h2,h3⟩:=h
 have h3:=Tl.1 h3
 obtain ⟨nm,c,ty,a⟩:=i
 simp only at h1 h2 h3
 simp only [Zhu,inK,TH,Tm]
 rw [Yt h1,R.bind_ok,XG,R.bind_ok,Yt h2,R.bind_ok]
 refine (ZaB h3 (Zfn hr (Zah _ (by decide)))).binds ?_
 exact Rd.ok rfl
def ovK (o:Ov):Ts:=[nmT [111,118,101,114,114,105,100,101],nmT o.rel]
theorem ZqN {o:Ov} (h:W4 o=true) (r:Ts):Rd ZnW o r (Zhv ((ovK o).tail++r)):=by
 obtain ⟨rel,a⟩:=o
 have h:Yk rel=true:=h
 simp only [Zhv,ovK,TH,Tm,To]
 rw [Yt h,R.bind_ok]
 exact Rd.ok rfl
mutual
def unK:Un→Ts
 | .mk tys rels rules comps inits overs=>(tys.map tyK).flatten++((rels.map reK).flatten++((Zxx comps).flatten++((inits.map inK).flatten++((overs.map ovK).flatten++(rules.map ruK).flatten))))
def coK:Co→Ts
 | .mk nm ps base tys u _=>nmT [99,111,109,112]::nmT nm::(Zs3 ps++((if base=[] then [] else sgT [58]::nmT base::Zs3 tys)++(sgT [123]::(unK u++[sgT [125]]))))
def Zxx:List Co→List Ts
 | []=>[]
 | c::l=>coK c::Zxx l
end
theorem Zxy (l:List Co):Zxx l=l.map coK:=by induction l with | nil=>rfl | cons x l ih=>simp [Zxx,ih]
theorem ZAz (tys:List Ty) (rels:List Re) (rules:List Ru) (comps:List Co) (inits:List Ini) (overs:List Ov):unK (.mk tys rels rules comps inits overs)=(tys.map tyK).flatten++((rels.map reK).flatten++((comps.map coK).flatten++((inits.map inK).flatten++((overs.map ovK).flatten++(rules.map ruK).flatten)))):=by rw [unK,Zxy]
theorem ZjC (nm:Bs) (ps:List Bs) (base:Bs) (tys:List Bs) (u:Un) (a:Nat):coK (.mk nm ps base tys u a)=nmT [99,111,109,112]::nmT nm::(Zs3 ps++((if base=[] then [] else sgT [58]::nmT base::Zs3 tys)++(sgT [123]::(unK u++[sgT [125]])))):=by rw [coK]
theorem Zk8 {tys:List Ty} {rels:List Re} {rules:List Ru} {comps:List Co} {inits:List Ini} {overs:List Ov} (h:Za1 (.mk tys rels rules comps inits overs)=true) :
  (∀x∈tys,Ym x=true)∧(∀x∈rels,XN x=true)∧(∀x∈rules,Y6 x=true)∧(∀x∈comps,Yc x=true)∧(∀x∈inits,XX x=true)∧∀x∈overs,W4 x=true:=by
 simp only [Za1,W5,Tj] at h
 obtain ⟨h1,h2,h3,h4,h5,h6⟩:=h
 exact ⟨Tl.1 h1,Tl.1 h2,Tl.1 h3,Tl.1 h4,Tl.1 h5,Tl.1 h6⟩
theorem Zd5 {nm:Bs} {ps:List Bs} {base:Bs} {tys:List Bs} {u:Un} {a:Nat} (h:Yc (.mk nm ps base tys u a)=true):Yk nm=true∧(∀x∈ps,Yk x=true)∧(∀x∈tys,Yk x=true)∧((base=[]∧tys=[])∨Yk base=true)∧Za1 u=true:=by
 simp only [Yc,Tj,Sn,TJ] at h
 obtain ⟨h1,h2,h3,h4,h5⟩:=h
 refine ⟨h1,Tl.1 h2,Tl.1 h3,?_,h5⟩
 rcases h4 with ⟨e1,e2⟩ | h4
 ·exact .inl ⟨e1,Tz e2⟩
 ·exact .inr h4
theorem ZAA {s:Bs} (h:Yk s=true):s≠[]:=fun e=>by subst e;revert h;decide +kernel
theorem ZqO {c:Co} {d:Nat} {un:Ts→R Un} (h:Yc c=true) {r:Ts} (hun:∀nm ps base tys u a,c=.mk nm ps base tys u a→d≠0→∀r,Rd U2 u (sgT [125]::r) (un (unK u++(sgT [125]::r)))):Rd ZfW c r (ZfR d un ((coK c).tail++r)):=by
 obtain ⟨nm,ps,base,tys,u,a⟩:=c
 obtain ⟨h1,h2,h3,h4,h5⟩:=Zd5 h
 have hb:Rd U2 u r (Zo d [123] [125] un (sgT [123]::(unK u++(sgT [125]::r)))):=WG (by decide) fun hd=>hun _ _ _ _ _ _ rfl hd r
 rw [ZjC]
 simp only [ZfR,TH,Tm,Tg,To]
 rw [Yt h1,R.bind_ok]
 by_cases hbase:base=[]
 ·obtain rfl:tys=[]:=by
   rcases h4 with h4 | h4
   ·exact h4.2
   ·exact absurd hbase (ZAA h4)
  subst hbase
  rw [Th rfl,To]
  refine (ZaB h2 (Zr _ (by decide))).binds ?_
  rw [Te (by rw [Zr _ (by decide)];simp)]
  refine hb.bind fun u' e=>Rd.ok ?_
  rw [ZfW,ZfW,e]
 ·rw [Te hbase]
  have hn:Yk base=true:=h4.resolve_left fun g=>hbase g.1
  simp only [Tm]
  refine (ZaB h2 (Zr _ (by decide))).binds ?_
  rw [Th (Vl _ _),TH,Yt hn,R.bind_ok]
  refine (ZaB h3 (Zr _ (by decide))).binds ?_
  refine hb.bind fun u' e=>Rd.ok ?_
  rw [ZfW,ZfW,e]
def ZCW (inside:Bool) (r:Ts):Prop:=(inside=false∧r=[])∨(inside=true∧∃l,r=sgT [125]::l)
theorem Zs4 {inside:Bool} {r:Ts} (h:ZCW inside r):IHd r:=by
 rcases h with ⟨_,h⟩ | ⟨_,h⟩
 ·exact .inl h
 ·exact .inr (.inl h)
theorem Js {α:Type} {K:α→Ts} (h:∀x:α,∃w l,w∈Zoe∧K x=nmT w::l) {r:Ts} (hr:IHd r) (xs:List α):IHd ((xs.map K).flatten++r):=by
 cases xs with
 | nil=>exact hr
 | cons x xs =>
  obtain ⟨w,l,hw,e⟩:=h x
  refine .inr (.inr (.inl ⟨w,l++((xs.map K).flatten++r),hw,?_⟩))
  simp [e]
theorem ZAB {r:Ts} (hr:IHd r) {xs:List Ru} (h:∀x∈xs,Y6 x=true):IHd ((xs.map ruK).flatten++r):=by
 cases xs with
 | nil=>exact hr
 | cons x xs =>
  refine .inr (.inr (.inr ⟨x.head,(ruK x).tail++((xs.map ruK).flatten++r),(Zd4 (h x (by simp))).1,?_⟩))
  simp [ruK]
theorem ZaC {α:Type} {K:α→Ts} (h:∀x:α,1≤(K x).length) (xs:List α):xs.length≤((xs.map K).flatten).length:=by
 induction xs with
 | nil=>exact Tr _
 | cons x xs ih=>have:=h x;simp only [Tw,T7,Ta,Tc];omega
theorem ZAC {inside:Bool} {d:Nat} {un:Ts→R Un} {f:Nat} {u:Un} {r:Ts} (h:ZCW inside r) (hf:0<f):ZX inside d un f u r=.ok u r:=by
 obtain ⟨f,rfl⟩:∃k,f=k+1:=⟨f - 1,by omega⟩
 obtain ⟨a1,a2,a3,a4,a5,a6⟩:=u
 rw [ZX,Th]
 rcases h with ⟨_,h⟩ | ⟨h1,l,rfl⟩
 ·exact .inl h
 ·exact .inr ⟨h1,Vl _ _⟩
theorem Zoh {inside:Bool} {w:Bs} (h:w≠[125]) (r:Ts):¬(nmT w::r=[]∨(inside=true∧isW (nmT w::r) [[125]]=true)):=by
 rintro (g | ⟨_,g⟩)
 ·cases g
 ·rw [Zr r h] at g;cases g
theorem ZmA {inside:Bool} {d:Nat} {un:Ts→R Un} {v:Un} {r0 r:Ts} (rels:List Re) (rules:List Ru) (comps:List Co) (inits:List Ini) (overs:List Ov) (hr:IHd r) :
  ∀(xs:List Ty) (f:Nat) (acc acc':List Ty),(∀x∈xs,Ym x=true)→xs.length<f→acc'.map ZnT=acc.map ZnT →
   (∀f' acc2,f - xs.length≤f'→acc2.map ZnT=(acc++xs).map ZnT→Rd U2 v r0 (ZX inside d un f' (.mk acc2 rels rules comps inits overs) r)) →
   Rd U2 v r0 (ZX inside d un f (.mk acc' rels rules comps inits overs) ((xs.map tyK).flatten++r))
 | [],f,acc,acc',h,hf,ha,hk=>by simpa using hk f acc' (by simp) (by simpa using ha)
 | x::xs,0,acc,acc',h,hf,ha,hk=>by omega
 | x::xs,f+1,acc,acc',h,hf,ha,hk=>by
  rw [Tw,T7,Tg,tyK,Tm,ZX,Te (Zoh (by decide) _),Th (ZdH _ _)]
  split
  ·exact .lim Zt4
  ·have hx:=Zof (h x (by simp)) (r:=(xs.map tyK).flatten++r) (Js (fun x=>⟨_,_,by decide,rfl⟩) hr xs)
   rw [TH]
   rw [tyK,TH] at hx
   refine hx.bind fun x' e=>?_
   refine ZmA rels rules comps inits overs hr xs f (acc++[x]) (acc'++[x']) (fun y hy=>h y (Tp _ hy)) (by simpa using hf) (by simp [ha,e]) fun f' acc2 h1 h2=>?_
   exact m76
theorem ZqP {inside:Bool} {d:Nat} {un:Ts→R Un} {v:Un} {r0 r:Ts} (tys:List Ty) (rules:List Ru) (comps:List Co) (inits:List Ini) (overs:List Ov) (hr:IHd r) :
  ∀(xs:List Re) (f:Nat) (acc acc':List Re),(∀x∈xs,XN x=true)→xs.length<f→acc'.map ZnU=acc.map ZnU →
   (∀f' acc2,f - xs.length≤f'→acc2.map ZnU=(acc++xs).map ZnU→Rd U2 v r0 (ZX inside d un f' (.mk tys acc2 rules comps inits overs) r)) →
   Rd U2 v r0 (ZX inside d un f (.mk tys acc' rules comps inits overs) ((xs.map reK).flatten++r))
 | [],f,acc,acc',h,hf,ha,hk=>by simpa using hk f acc' (by simp) (by simpa using ha)
 | x::xs,0,acc,acc',h,hf,ha,hk=>by omega
 | x::xs,f+1,acc,acc',h,hf,ha,hk=>by
  rw [Tw,T7,Tg,reK,Tm,ZX,Te (Zoh (by decide) _),Te (by rw [Zr _ (by decide)];simp),Th (ZdH _ _)]
  split
  ·exact .lim Zt4
  ·have hx:=ZqL (h x (by simp)) (r:=(xs.map reK).flatten++r) (Js (fun x=>⟨_,_,by decide,rfl⟩) hr xs)
   rw [TH]
   rw [reK,TH] at hx
   refine hx.bind fun x' e=>?_
   refine ZqP tys rules comps inits overs hr xs f (acc++[x]) (acc'++[x']) (fun y hy=>h y (Tp _ hy)) (by simpa using hf) (by simp [ha,e]) fun f' acc2 h1 h2=>?_
   exact m76
theorem ZmB {inside:Bool} {d:Nat} {un:Ts→R Un} {v:Un} {r0 r:Ts} (tys:List Ty) (rels:List Re) (rules:List Ru) (inits:List Ini) (overs:List Ov) (hr:IHd r) :
  ∀(xs:List Co) (f:Nat) (acc acc':List Co),(∀x∈xs,∀r,Rd ZfW x r (ZfR d un ((coK x).tail++r)))→xs.length<f→acc'.map ZfW=acc.map ZfW →
   (∀f' acc2,f - xs.length≤f'→acc2.map ZfW=(acc++xs).map ZfW→Rd U2 v r0 (ZX inside d un f' (.mk tys rels rules acc2 inits overs) r)) →
   Rd U2 v r0 (ZX inside d un f (.mk tys rels rules acc' inits overs) ((xs.map coK).flatten++r))
 | [],f,acc,acc',h,hf,ha,hk=>by simpa using hk f acc' (by simp) (by simpa using ha)
 | x::xs,0,acc,acc',h,hf,ha,hk=>by omega
 | .mk nm ps base ty u a::xs,f+1,acc,acc',h,hf,ha,hk=>by
  have hx:=h (.mk nm ps base ty u a) (by simp) ((xs.map coK).flatten++r)
  rw [ZjC,TH] at hx
  rw [Tw,T7,Tg,ZjC,Tm,ZX,Te (Zoh (by decide) _),Te (by rw [Zr _ (by decide)];simp),Te (by rw [Zr _ (by decide)];simp),Th (ZdH _ _)]
  split
  ·exact .lim Zt4
  ·rw [TH]
   refine hx.bind fun x' e=>?_
   refine ZmB tys rels rules inits overs hr xs f (acc++[.mk nm ps base ty u a]) (acc'++[x']) (fun y hy=>h y (Tp _ hy)) (by simpa using hf) (by simp [ha,e]) fun f' acc2 h1 h2=>?_
   exact m76
theorem ZmC {inside:Bool} {d:Nat} {un:Ts→R Un} {v:Un} {r0 r:Ts} (tys:List Ty) (rels:List Re) (rules:List Ru) (comps:List Co) (overs:List Ov) (hr:IHd r) :
  ∀(xs:List Ini) (f:Nat) (acc acc':List Ini),(∀x∈xs,XX x=true)→xs.length<f→acc'.map ZnV=acc.map ZnV →
   (∀f' acc2,f - xs.length≤f'→acc2.map ZnV=(acc++xs).map ZnV→Rd U2 v r0 (ZX inside d un f' (.mk tys rels rules comps acc2 overs) r)) →
   Rd U2 v r0 (ZX inside d un f (.mk tys rels rules comps acc' overs) ((xs.map inK).flatten++r))
 | [],f,acc,acc',h,hf,ha,hk=>by simpa using hk f acc' (by simp) (by simpa using ha)
 | x::xs,0,acc,acc',h,hf,ha,hk=>by omega
 | x::xs,f+1,acc,acc',h,hf,ha,hk=>by
  rw [Tw,T7,Tg,inK,Tm,ZX,Te (Zoh (by decide) _),Te (by rw [Zr _ (by decide)];simp),Te (by rw [Zr _ (by decide)];simp),Te (by rw [Zr _ (by decide)];simp),Th (ZdH _ _)]
  split
  ·exact .lim Zt4
  ·have hx:=ZqM (h x (by simp)) (r:=(xs.map inK).flatten++r) (Js (fun x=>⟨_,_,by decide,rfl⟩) hr xs)
   rw [TH]
   rw [inK,TH] at hx
   refine hx.bind fun x' e=>?_
   refine ZmC tys rels rules comps overs hr xs f (acc++[x]) (acc'++[x']) (fun y hy=>h y (Tp _ hy)) (by simpa using hf) (by simp [ha,e]) fun f' acc2 h1 h2=>?_
   exact m76
theorem ZmD {inside:Bool} {d:Nat} {un:Ts→R Un} {v:Un} {r0 r:Ts} (tys:List Ty) (rels:List Re) (rules:List Ru) (comps:List Co) (inits:List Ini) :
  ∀(xs:List Ov) (f:Nat) (acc acc':List Ov),(∀x∈xs,W4 x=true)→xs.length<f→acc'.map ZnW=acc.map ZnW →
   (∀f' acc2,f - xs.length≤f'→acc2.map ZnW=(acc++xs).map ZnW→Rd U2 v r0 (ZX inside d un f' (.mk tys rels rules comps inits acc2) r)) →
   Rd U2 v r0 (ZX inside d un f (.mk tys rels rules comps inits acc') ((xs.map ovK).flatten++r))
 | [],f,acc,acc',h,hf,ha,hk=>by simpa using hk f acc' (by simp) (by simpa using ha)
 | x::xs,0,acc,acc',h,hf,ha,hk=>by omega
 | x::xs,f+1,acc,acc',h,hf,ha,hk=>by
  rw [Tw,T7,Tg,ovK,Tm,ZX,Te (Zoh (by decide) _),Te (by rw [Zr _ (by decide)];simp),Te (by rw [Zr _ (by decide)];simp),Te (by rw [Zr _ (by decide)];simp),Te (by rw [Zr _ (by decide)];simp),Th (ZdH _ _)]
  split
  ·exact .lim Zt4
  ·have hx:=ZqN (h x (by simp)) ((xs.map ovK).flatten++r)
   rw [TH]
   rw [ovK,TH] at hx
   refine hx.bind fun x' e=>?_
   refine ZmD tys rels rules comps inits xs f (acc++[x]) (acc'++[x']) (fun y hy=>h y (Tp _ hy)) (by simpa using hf) (by simp [ha,e]) fun f' acc2 h1 h2=>?_
   exact m76
theorem Zs5:∀w∈Zoe,Yk w=false:=by decide +kernel
theorem ZmE {inside:Bool} {d:Nat} {un:Ts→R Un} {v:Un} {r0 r:Ts} (tys:List Ty) (rels:List Re) (comps:List Co) (inits:List Ini) (overs:List Ov) :
  ∀(xs:List Ru) (f:Nat) (acc acc':List Ru),(∀x∈xs,Y6 x=true)→xs.length<f→acc'.map ZgH=acc.map ZgH →
   (∀f' acc2,f - xs.length≤f'→acc2.map ZgH=(acc++xs).map ZgH→Rd U2 v r0 (ZX inside d un f' (.mk tys rels acc2 comps inits overs) r)) →
   Rd U2 v r0 (ZX inside d un f (.mk tys rels acc' comps inits overs) ((xs.map ruK).flatten++r))
 | [],f,acc,acc',h,hf,ha,hk=>by simpa using hk f acc' (by simp) (by simpa using ha)
 | x::xs,0,acc,acc',h,hf,ha,hk=>by omega
 | x::xs,f+1,acc,acc',h,hf,ha,hk=>by
  have hn:=(Zd4 (h x (by simp))).1
  have hx:=ZqJ (h x (by simp)) d ((xs.map ruK).flatten++r)
  have hw:∀w∈Zoe,isW (nmT x.head::(brK [40] [41] (x.args.map exK)++((if 0<x.body.length then sgT [58,45]::Z3 [44] (x.body.map liK) else [])++[sgT [46]])++((xs.map ruK).flatten++r))) [w]=false:=fun w hw=>Zfj hn (Zs5 w hw) _
  have hne:x.head≠[125]:=fun e=>by rw [e] at hn;revert hn;decide +kernel
  rw [Tw,T7,Tg]
  rw [ruK,Tm] at hx ⊢
  rw [ZX,Te (Zoh hne _),Te (by rw [hw _ (by decide)];simp),Te (by rw [hw _ (by decide)];simp),Te (by rw [hw _ (by decide)];simp),Te (by rw [hw _ (by decide)];simp),Te (by rw [hw _ (by decide)];simp),Th (nm_named hn _)]
  split
  ·exact .lim Zt4
  ·refine hx.bind fun x' e=>?_
   refine ZmE tys rels comps inits overs xs f (acc++[x]) (acc'++[x']) (fun y hy=>h y (Tp _ hy)) (by simpa using hf) (by simp [ha,e]) fun f' acc2 h1 h2=>?_
   exact m76
theorem ZqQ {tys:List Ty} {rels:List Re} {rules:List Ru} {comps:List Co} {inits:List Ini} {overs:List Ov} {k:Nat} (h:SizeOf.sizeOf (Un.mk tys rels rules comps inits overs)<k+1) {nm:Bs} {ps:List Bs} {base:Bs} {ty:List Bs} {u:Un} {a:Nat} (hx:Co.mk nm ps base ty u a∈comps):SizeOf.sizeOf u<k:=by
 have:=List.sizeOf_lt_of_mem hx
 simp only [Un.mk.sizeOf_spec,Co.mk.sizeOf_spec] at h this
 omega
theorem Zk9:∀(n:Nat) (u:Un),SizeOf.sizeOf u<n→Za1 u=true→∀(inside:Bool) (d:Nat) (un:Ts→R Un) (r:Ts),ZCW inside r→(∀k,d=k+1→un=Zhx k)→Rd U2 u r (Zhw inside d un (unK u++r))
 | 0,u,h,_=>by omega
 | k+1,.mk tys rels rules comps inits overs,h,hm=>fun inside d un r hr hun=>by
  obtain ⟨m1,m2,m3,m4,m5,m6⟩:=Zk8 hm
  have hi:=Zs4 hr
  have i6:IHd ((rules.map ruK).flatten++r):=ZAB hi m3
  have i5:IHd ((overs.map ovK).flatten++((rules.map ruK).flatten++r)):=Js (fun x=>⟨_,_,by decide,rfl⟩) i6 overs
  have i4:IHd ((inits.map inK).flatten++((overs.map ovK).flatten++((rules.map ruK).flatten++r))):=Js (fun x=>⟨_,_,by decide,rfl⟩) i5 inits
  have i3:IHd ((comps.map coK).flatten++((inits.map inK).flatten++((overs.map ovK).flatten++((rules.map ruK).flatten++r)))):=Js (fun x=>by obtain ⟨a1,a2,a3,a4,a5,a6⟩:=x;exact ⟨_,_,by decide,ZjC _ _ _ _ _ _⟩) i4 comps
  have i2:IHd ((rels.map reK).flatten++((comps.map coK).flatten++((inits.map inK).flatten++((overs.map ovK).flatten++((rules.map ruK).flatten++r))))):=Js (fun x=>⟨_,_,by decide,rfl⟩) i3 rels
  have l1:=ZaC (K:=tyK) (fun x=>by rw [tyK];simp) tys
  have l2:=ZaC (K:=reK) (fun x=>by rw [reK];simp) rels
  have l3:=ZaC (K:=coK) (fun x=>by obtain ⟨a1,a2,a3,a4,a5,a6⟩:=x;rw [ZjC];simp) comps
  have l4:=ZaC (K:=inK) (fun x=>by rw [inK];simp) inits
  have l5:=ZaC (K:=ovK) (fun x=>by rw [ovK];simp) overs
  have l6:=ZaC (K:=ruK) (fun x=>by rw [ruK];simp) rules
  rw [Zhw,ZAz]
  simp only [Tg]
  simp only [Ta]
  refine ZmA _ _ _ _ _ i2 tys _ [] [] m1 (by omega) rfl fun f1 a1 hf1 e1=>?_
  refine ZqP _ _ _ _ _ i3 rels _ [] [] m2 (by omega) rfl fun f2 a2 hf2 e2=>?_
  refine ZmB _ _ _ _ _ i4 comps _ [] [] ?_ (by omega) rfl fun f3 a3 hf3 e3=>?_
  ·intro x hx r'
   refine ZqO (m4 x hx) fun nm ps base ty u a e hd r2=>?_
   subst e
   obtain ⟨d,rfl⟩:∃k,d=k+1:=⟨d - 1,by omega⟩
   rw [hun d rfl]
   have hu:Za1 u=true:=(Zd5 (m4 _ hx)).2.2.2.2
   cases d with
   | zero=>exact Zk9 k u (ZqQ h hx) hu true 0 _ _ (.inr ⟨rfl,_,rfl⟩) fun k hk=>by omega
   | succ d=>exact Zk9 k u (ZqQ h hx) hu true (d+1) _ _ (.inr ⟨rfl,_,rfl⟩) fun k hk=>by cases hk;rfl
  refine ZmC _ _ _ _ _ i5 inits _ [] [] m5 (by omega) rfl fun f4 a4 hf4 e4=>?_
  refine ZmD _ _ _ _ _ overs _ [] [] m6 (by omega) rfl fun f5 a5 hf5 e5=>?_
  refine ZmE _ _ _ _ _ rules _ [] [] m3 (by omega) rfl fun f6 a6 hf6 e6=>?_
  rw [ZAC hr (by omega)]
  refine Rd.ok ?_
  simp only [To] at e1 e2 e3 e4 e5 e6
  simp only [U2,Zmm,e1,e2,e3,e4,e5,e6]
theorem ZqR {u:Un} (h:Za1 u=true):Rd U2 u [] (VJ (unK u)):=by
 have:=Zk9 _ u (Sc _) h false 64 (Zhx 63) [] (.inl ⟨rfl,rfl⟩) fun k hk=>by cases hk;rfl
 rwa [TA] at this
end Go.PM.Lex
end

section
namespace Go.PM.Lex
open Go.Proofs Go.RowKit
variable {w0:World} {nG:Nat}
noncomputable def ZAD:Tbl:=[(75,ZfY)]
theorem ZAE {n:Nat}:PCalls (GG w0 nG) 196 (Ze9 (Xd (fun _=>ZA)) YG fiT wFi n):=by
 refine pc (tbl:=ZAD) ⟨⟨Za2,Y2⟩,trivial⟩ Tryz.func196 ?_
 intro args σ K h
 unfold Ze9 at h
 split at h
 ·obtain ⟨l,pl,⟨nm,ty⟩,rfl,rfl,⟨rfl,rfl⟩,⟨hmay,hz,hn⟩,hlen,h⟩:=h
  refine ⟨Za [],2,true,by simp,Tb rfl,?_⟩
  conv=>whnf
  refine ⟨l,fiT ⟨nm,ty⟩,rfl,⟨.inr rfl,rfl,rfl⟩,⟨[nm,[58,32],ty],rfl,by simp,by simp,by simp [fiT]⟩,hlen,?_⟩
  exact m31
 ·exact h.elim
theorem ZDS (n:Nat):PCalls (GG w0 nG) 195 (Zn5 196 (fun _=>ZA) YG fiT wFi n):=Zw4 ⟨⟨Zqm,UQ⟩,⟨ZAE,Zc2 _ _ _ _ _⟩,trivial⟩
noncomputable def ZqS (n:Nat):Zz:=Zj2 (.tuple []) fun rest txt=>∃(fr fin:Bs) (xs:List Fi),rest=[.d (.str fr),.d (.sl (xs.map ZA)),.d (.str fin)]∧(xs.all YG=true∧szS wFi xs≤n∧n≤1073741824)∧txt=Um fr xs fin
theorem Zc8 (n:Nat):Zc (ZqS n):=VR _ _
noncomputable def ZAF (n:Nat):Tbl:=[(75,ZfY),(195,Zn5 196 (fun _=>ZA) YG fiT wFi n)]
theorem ZqT {n:Nat}:PCalls (GG w0 nG) 132 (ZqS n):=by
 refine pc (tbl:=ZAF n) ⟨⟨Za2,Y2⟩,⟨ZDS n,Zci _ _ _ _ _ _⟩,trivial⟩ Tryz.func132 ?_
 intro args σ K h
 unfold ZqS Zj2 at h
 split at h
 ·rename_i rest t p e rows
  obtain ⟨l,txt,rfl,⟨hp,rfl,rfl⟩,⟨fr,fin,xs,rfl,⟨hmay,hz,hn⟩,rfl⟩,hlen,h⟩:=h
  have key:l++Um fr xs fin=l++fr++Zf cmm (xs.map fiT)++fin:=by simp only [Um,Tg]
  rw [key] at h
  have hlen:l.length+(fr.length+((Zf cmm (xs.map fiT)).length+fin.length))<70368744177664:=by have:=hlen;simp only [Um,Ta] at this;exact this
  refine ⟨Za [],1,true,by simp,Tb rfl,?_⟩
  rcases hp with rfl | rfl
  all_goals
   conv=>whnf
   refine ⟨l,fr,rfl,⟨(by first | exact .inl rfl | exact .inr rfl),rfl,rfl⟩,⟨[fr],rfl,by simp,by simp,by simp⟩,by omega,?_⟩
   conv=>whnf
   refine ⟨l++fr,fun _=>0,xs,rfl,rfl,⟨rfl,rfl,rfl⟩,⟨hmay,hz,hn⟩,by rw [Ta];show _+(Zf cmm (xs.map fiT)).length<_;omega,?_⟩
   conv=>whnf
   refine ⟨l++fr++Zf cmm (xs.map fiT),fin,rfl,⟨.inr rfl,rfl,rfl⟩,⟨[fin],rfl,by simp,by simp,by simp⟩,by simp only [Ta];omega,?_⟩
   conv=>whnf
   exact h
 ·exact h.elim
noncomputable def ZAG (n:Nat):Tbl:=[(132,ZqS n)]
theorem ZAH {n:Nat}:PCalls (GG w0 nG) 134 (Ze9 (Xd (fun _=>ZI)) Xz caT wCa n):=by
 refine pc (tbl:=ZAG n) ⟨⟨ZqT,Zc8 n⟩,trivial⟩ Tryz.func134 ?_
 intro args σ K h
 unfold Ze9 at h
 split at h
 ·obtain ⟨l,pl,⟨nm,fs⟩,rfl,rfl,⟨rfl,rfl⟩,⟨hmay,hz,hn⟩,hlen,h⟩:=h
  have hm:fs.all YG=true:=by simp only [Xz,Tj] at hmay;exact hmay.2
  have hz:nm.length+szS wFi fs≤n:=by unfold wCa at hz;simp only at hz;omega
  refine ⟨Za [],2,true,by simp,Tb rfl,?_⟩
  conv=>whnf
  refine ⟨by simp only [Tc,Td];omega,?_⟩
  conv=>whnf
  refine ⟨l,caT ⟨nm,fs⟩,rfl,⟨.inr rfl,rfl,rfl⟩,⟨nm++[32,123],[125],fs,rfl,⟨hm,by omega,hn⟩,rfl⟩,hlen,?_⟩
  exact m31
 ·exact h.elim
theorem ZDA (n:Nat):PCalls (GG w0 nG) 133 (Zn5 134 (fun _=>ZI) Xz caT wCa n):=Zw6 ⟨⟨Zqm,UQ⟩,⟨ZAH,Zc2 _ _ _ _ _⟩,trivial⟩
theorem ZbE (sep:Bs):∀l:List Bs,Lib.join l sep=Zf sep l
 | []=>rfl
 | [x]=>by simp [Lib.join,List.intercalate,Zf]
 | x::y::l=>by
  have ih:=ZbE sep (y::l)
  simp only [Lib.join,List.intercalate] at ih ⊢
  rw [Zf,← ih]
  ·simp
  ·intro h;cases h
theorem Zc9 (l:List Bs):(Zf cmm l).length≤szS wBs l:=by
 match l with
 | []=>exact Sa _
 | [x]=>simp only [Zf,szS,wBs];omega
 | x::y::l =>
  have ih:=Zc9 (y::l)
  rw [Zf]
  ·simp only [Ta,szS,wBs] at ih ⊢
   have:cmm.length=2:=rfl
   omega
  ·intro h;cases h
noncomputable def ZjD (n:Nat):Zz:=fun args σ K=>match args,σ with
 | [.d (.sl rows),.d (.str sp)],⟨[],[],0⟩=>∃l:List Bs,rows=l.map ZC∧(sp=cmm∧szS wBs l≤n∧n≤1073741824)∧K (.ret (.d (.str (Zf cmm l)))) ⟨[],[],0⟩
 | _,_=>False
theorem Zla (n:Nat):Zc (ZjD n):=fun args σ K K' hK h=>by
 unfold ZjD at h ⊢
 split at h
 ·obtain ⟨l,h1,h2,h3⟩:=h;exact ⟨l,h1,h2,hK _ _ h3⟩
 ·exact h.elim
theorem Zxz {n:Nat}:PCalls (GG w0 nG) 197 (ZjD n):=Y1 (Zi Tryz.func197 (by kernel_rfl) rfl) fun args σ K h e w vs hS ha=>by
 unfold ZjD at h
 split at h
 ·rename_i rows sp
  obtain ⟨l,rfl,⟨rfl,hz,hn⟩,h⟩:=h
  obtain ⟨u,v,rfl,hu,hv⟩:=ZiP ha
  cases hv.dstr
  have hcl:=Zc9 l
  have hll:=ZH wBs l
  generalize hrows:l.map ZC=rows at hu
  have hnil:l=[]→Zf cmm l=[]:=fun e=>by rw [e];rfl
  have empty:∀a c,rows=[]→Calls Tryz.prog 197 #[.slice a 0 c,.string ⟨cmm.toArray⟩] w fun en w'=>en=.returned (.string ⟨(Zf cmm l).toArray⟩)∧Grows w w':=fun a c hr=>by
   have:l=[]:=by rw [hr] at hrows;simpa using hrows
   rw [hnil this]
   exact (Tryz.strings_Join_none a c _ w).mono fun en w' ⟨h1,h2⟩=>⟨h1,by rw [h2];exact Grows.refl _⟩
  refine ⟨_,h,.string ⟨(Zf cmm l).toArray⟩,fun _ _=>.mkstr,?_⟩
  cases hu with
  | d _ _ hd =>
   cases hd with
   | slnil=>exact empty _ _ rfl
   | slz a=>exact empty _ _ rfl
   | sl _ b off cap sz u hcap hsz hc ho hu =>
    have hlen:rows.length=l.length:=by rw [← hrows,Tf]
    by_cases h0:l=[]
    ·have hr:rows=[]:=by rw [← hrows,h0];rfl
     rw [hr]
     exact empty _ _ hr
    ·have hpos:=TT.2 h0
     have hsz1:sz=1:=by
      have:=hsz (ZC l[0]) (by rw [← hrows];exact List.mem_map_of_mem (TV hpos))
      simpa [ZC] using this.symm
     subst hsz1
     have hcell:∀(j:Nat) x,(l.map fun s=>(⟨s.toArray⟩:ByteArray))[j]?=some x→w.cell? ⟨b,off+j,none⟩=some (.string x):=fun j x hx=>by
      rw [TQ] at hx
      obtain ⟨s,hs,rfl⟩:=Option.map_eq_some_iff.1 hx
      have hj:=(Ti.1 hs).1
      have h1:=hc j 0 (by omega) (by omega)
      have h2:=hu j 0 (.str s) (by rw [← hrows,TQ,hs];rfl)
      generalize huu:u j 0=uu at h1 h2
      cases h2
      simpa using h1
     have hmap:(l.map fun s=>(⟨s.toArray⟩:ByteArray)).map (·.data.toList)=l:=by rw [TL];simp [Function.comp_def]
     have hj:=Tryz.strings_Join b off cap (l.map fun s=>(⟨s.toArray⟩:ByteArray)) ⟨cmm.toArray⟩ w hcell (by
      have:=hc 0 0 (by omega) (by omega)
      exact World.block_lt_of_cell? w _ this) (by rw [Tf];omega) (by rw [Tf];omega) (by rw [hmap,ZbE];show (Zf cmm l).length≤_;omega)
     rw [hmap,ZbE,Tf,← hlen] at hj
     exact hj.mono fun en w' ⟨h1,h2⟩=>⟨h1,ZEi h2⟩
 ·exact h.elim
noncomputable def ZqU (n:Nat):Zz:=fun args σ K=>match args,σ with
 | [.d (.sl rows)],⟨[],[],0⟩=>∃l:List Bs,rows=l.map ZC∧(szS wBs l≤n∧n≤1073741824)∧K (.ret (.d (.str (JK l)))) ⟨[],[],0⟩
 | _,_=>False
theorem ZgM (n:Nat):Zc (ZqU n):=fun args σ K K' hK h=>by
 unfold ZqU at h ⊢
 split at h
 ·obtain ⟨l,h1,h2,h3⟩:=h;exact ⟨l,h1,h2,hK _ _ h3⟩
 ·exact h.elim
noncomputable def ZAI (n:Nat):Tbl:=[(197,ZjD n)]
theorem Zt9 {n:Nat}:PCalls (GG w0 nG) 135 (ZqU n):=by
 refine pc (tbl:=ZAI n) ⟨⟨Zxz,Zla n⟩,trivial⟩ Tryz.func135 ?_
 intro args σ K h
 unfold ZqU at h
 split at h
 ·obtain ⟨l,rfl,⟨hz,hn⟩,h⟩:=h
  have hl:(l.map ZC).length=l.length:=Tf ..
  have hcl:=Zc9 l
  refine ⟨Za [],0,false,by simp,Tb rfl,?_⟩
  conv=>whnf
  refine ZEb (fun c=>?_) (fun c=>?_)
  ·have c:l.length=0:=by have c:((l.map ZC).length:Int)=0:=c;omega
   rw [JK,Th c] at h
   exact m31
  ·have c:¬l.length=0:=by have c:¬((l.map ZC).length:Int)=0:=c;omega
   rw [JK,Te c] at h
   conv=>whnf
   refine ⟨l,rfl,⟨rfl,hz,hn⟩,?_⟩
   generalize Zf cmm l=T at h hcl ⊢
   conv=>whnf
   refine ⟨by simp only [Tc,Td];omega,?_⟩
   conv=>whnf
   refine ⟨by simp only [Ta,Tc,Td];omega,?_⟩
   exact m31
 ·exact h.elim
end Go.PM.Lex
end
