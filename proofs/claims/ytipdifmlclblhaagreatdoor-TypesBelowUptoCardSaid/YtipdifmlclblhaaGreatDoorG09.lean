/- A part of the proof: plain logic, contracts and laws over the given program. -/
import Derived.Lib.LaidTab
import Derived.Test.YtipdifmlclblhaaGreatDoorG08
set_option linter.unusedVariables false
set_option linter.unusedSimpArgs false
set_option linter.all false
set_option maxRecDepth 100000
set_option maxHeartbeats 16000000
section
namespace Go.PM.Lex
open Go.Proofs
variable {w0:World} {nG:Nat}
noncomputable def ZqS (n:Nat):Tbl:=[(124,Zgo),(180,Zgn (YJ YP) ZjB exT wE n)]
theorem Zw2 {n:Nat} (ht:TO w0 nG (ZqS n)):PC w0 nG 179 (ZqF 180 YP ZjB exT wE n):=by
 refine Zd Zc mixed (tbl:=ZqS n) ht Tryz.func179 rfl kR kR ?_;intro args σ K h
 unfold ZqF at h
 split at h
 ·rename_i r bt g t e rows tp
  obtain ⟨l,pl,xs,rfl,rfl,⟨rfl,rfl,rfl⟩,⟨co,hz,hn⟩,aa,h⟩:=h;have cn:(xs.map (YP pl)).length=xs.length:=Tf ..;have hsz:=Zv wE xs;refine ⟨Zb [(1,⟨[12],[0,1,2,3,10,11],fun vs σ=>∃i:Nat,vs=[.d (.int .i64 i)]/\σ=⟨[.cells 115 [.ptr 0 0,.sl 0 5 (Zj (l++Zg bt ((xs.take i).map exT)))],.cells tp [.ptr 0 0]],[0],1⟩/\i<=xs.length,mu1 xs.length⟩)],2,true,sM,Ta rfl,wN ?_⟩;refine ⟨⟨0,rfl,(by simp only [Sf,TL,Zg,TU];rfl),oM⟩,?_⟩;intro vs σ hI
  obtain ⟨i,rfl,rfl,hi⟩:=hI;(conv=>whnf);refine ZDc (fun af=>wN ?_) (fun af=>?_)
  ·have af:i<xs.length:=lzI cn af;have hg:=ZA wE xs i af;have ky:ZjB xs[i]=true:=Tm.1 co _ (TB af);have bw:=VM bt exT af;have aq:=Zak bt exT xs (i+1);obtain ⟨eA,hA⟩:∃x,xs[i]=x:=⟨_,rfl⟩
   obtain ⟨a1,a2,a3,a4,a5⟩:=eA;rw [hA] at hg ky bw;have bi:(xs.map (YP pl))[((i:Nat):Int).toNat]?=some (YP pl (.mk a1 a2 a3 a4 a5)):=by simp [af,hA]
   refine ⟨_,oM,bi,wN ?_⟩;refine ZDc (fun h0=>wN ?_) (fun h0=>?_)
   ·have h0:0<i:=by omega
    rw [Tg oM] at bw;rw [bw] at aq;simp only [Tb] at aq;refine wk _ bt ⟨rfl,rfl⟩ (wN ?_);refine ⟨l++Zg bt ((xs.take i).map exT)++bt,pl,(.mk a1 a2 a3 a4 a5),rfl,rfl,⟨rfl,rfl⟩,⟨ky,oM,oM⟩,by simp only [Tb];omega,wN ?_⟩;exact m58
   obtain rfl:i=0:=by omega
   rw [Tj rfl] at bw;rw [bw] at aq;(conv=>whnf);refine ⟨l++Zg bt ((xs.take 0).map exT),pl,(.mk a1 a2 a3 a4 a5),rfl,rfl,⟨rfl,rfl⟩,⟨ky,oM,oM⟩,by simp only [Sf,TL,Zg,Tb,Td];omega,wN ?_⟩;exact m51
  exact m83
 exact h.elim
theorem Zuq {n:Nat} (h:PC w0 nG 181 (Zs4 n)):PC w0 nG 128 (Zs5 n) :=
 ZBv ⟨Jc,Zw2 ⟨ZqG,Zzl ⟨h,trivial⟩,trivial⟩,trivial⟩
theorem cWE (hN:NumOK w0 nG) (hL:LexC w0 nG):∀n,PC w0 nG 181 (Zs4 n)
 | 0=>Zzp ⟨ZsT,Jc,Yp (Zk Tryz.func181 kR rfl),Yp (Zk Tryz.func128 kR rfl),ZqL hN,ZqO hN,hL.quote,trivial⟩
 | n+1=>Zzp ⟨ZsT,Jc,Yq (sp:=Zs4) (cWE hN hL n),Yq (sp:=Zs5) (Zuq (cWE hN hL n)),ZqL hN,ZqO hN,hL.quote,trivial⟩
noncomputable def ZqT:Zo:=fun args σ K=>match args,σ with
 | [.ptr 0 0,.d (.int .i64 c)],⟨[.cells t [p,.sl 0 e rows]],[0],1⟩=>∃l:Bs,(rows=Zj l/\t=115/\e=5/\(p=.d .nilp\/p=.ptr 0 0)/\l.length<70368744177664) /\
   ((c=3\/c=151->K (.ret (.tuple [.d (.str []),.d (.int .i64 3)])) ⟨[.cells t [p,.sl 0 e rows]],[0],1⟩)/\(c≠3/\c≠151->K (.ret (.tuple [.d (.str l),.d (.int .i64 0)])) ⟨[.cells t [p,.sl 0 e rows]],[0],1⟩))
 | _,_=>False
noncomputable def Zw3:Tbl:=[(40,Zam)]
theorem Zw4:PC w0 nG 41 ZqT:=by
 refine Zd Zc mixed (tbl:=Zw3) ⟨Zfc,trivial⟩ Tryz.func41 rfl kR kR ?_;intro args σ K h
 unfold ZqT at h
 split at h
 ·rename_i c t p e rows
  obtain ⟨l,⟨rfl,rfl,rfl,hp,aa⟩,ha,hb⟩:=h;refine ⟨Zb [],1,true,sM,Ta rfl,?_⟩;rcases hp with rfl | rfl
  all_goals
   conv=>whnf
   refine ZDc (fun c1=>wN ?_) (fun c1=>wN ?_)
   ·exact ha (.inl c1)
   refine ZDc (fun c2=>wN ?_) (fun c2=>wN ?_)
   ·exact ha (.inr c2)
   refine ⟨l,⟨rfl,rfl,rfl,iM,aa⟩,?_⟩;(conv=>whnf);exact hb ⟨c1,c2⟩
 exact h.elim
def ZdE (txt:Bs) {α:Type}:Top α->Bs×Nat
 | .ok _ _=>(txt,0)
 | .err _ e=>if e=3\/e=151 then ([],3) else (txt,0)
def nmT (s:Bs):T0:=⟨1,s,0⟩
def sgT (s:Bs):T0:=⟨4,s,0⟩
def Zur (sep:Bs):List Ts->Ts
 | []=>[]
 | x::l=>sgT sep::(x++Zur sep l)
def Zw5 (sep:Bs):List Ts->Ts
 | []=>[]
 | x::l=>x++Zur sep l
def Zzq (want:Nat) (p:Nat×Ts):Ts:=if p.1<want then sgT [40]::(p.2++[sgT [41]]) else p.2
def opT (op:Nat):T0:=if 15<=op/\op<=19 then nmT (VL op) else sgT (VL op)
def ZCq (w1 w2:Nat) (mid:Ts):List (Nat×Ts)->Ts
 | []=>[]
 | [a]=>Zzq w1 a
 | a::b::_=>Zzq w1 a++(mid++Zzq w2 b)
def brK (fr fin:Bs) (ps:List Ts):Ts:=sgT fr::(Zw5 [44] ps++[sgT fin])
def ZCN (op:Nat) (text:Bs) (n:Int) (ps:List (Nat×Ts)):Ts :=
 if ZO op<5 then ZCq (ZO op) (ZO op+1) [opT op] ps
 else if ZO op=5 then sgT (VL op)::ZCq 5 5 [] ps
 else if VL op≠[] then nmT (VL op)::brK [40] [41] (ps.map Prod.snd)
 else if op=6 then brK [91] [93] (ps.map Prod.snd)
 else if op=7 then sgT [36]::nmT text::(if ps.length=0 then [] else brK [40] [41] (ps.map Prod.snd))
 else if op=3 then [⟨2,[],n⟩]
 else if op=4 then [⟨3,text,0⟩]
 else if op=5 then [nmT [110,105,108]]
 else if op=2 then [nmT [95]]
 else [nmT text]
mutual
def exK:Ex->Ts
 | .mk op text n args _=>ZCN op text n (ZCr args)
def ZCr:List Ex->List (Nat×Ts)
 | []=>[]
 | e::l=>(ZO (opE e),exK e)::ZCr l
end
def ZAx (want:Nat) (e:Ex):Ts:=Zzq want (ZO (opE e),exK e)
def Lim {α:Type} (x:R α):Prop:=∃p,x=.err p 3\/x=.err p 151
def Rd {α β:Type} (er:α->β) (v:α) (r:Ts) (x:R α):Prop:=(∃v',er v'=er v/\x=.ok v' r)\/Lim x
theorem Lim.bind {α β:Type} {x:R α} {f:α->Ts->R β} (h:Lim x):Lim (x.bind f):=by
 obtain ⟨p,rfl | rfl⟩:=h
 ·exact ⟨p,.inl rfl⟩
 exact ⟨p,.inr rfl⟩
theorem Rd.bind {α β γ δ:Type} {er:α->β} {er2:γ->δ} {v:α} {u:γ} {r s:Ts} {x:R α} {f:α->Ts->R γ} (h:Rd er v r x) (hf:∀v',er v'=er v->Rd er2 u s (f v' r)):Rd er2 u s (x.bind f):=by
 rcases h with ⟨v',e,rfl⟩ | h
 ·exact hf v' e
 exact .inr h.bind
theorem Rd.ok {α β:Type} {er:α->β} {v v':α} {r:Ts} (h:er v'=er v):Rd er v r (.ok v' r):=.inl ⟨v',h,rfl⟩
theorem Rd.id {α:Type} {v:α} {r:Ts}:Rd (fun x:α=>x) v r (.ok v r):=.inl ⟨v,rfl,rfl⟩
theorem Rd.lim {α β:Type} {er:α->β} {v:α} {r:Ts} {x:R α} (h:Lim x):Rd er v r x:=.inr h
theorem Rd.binds {α γ δ:Type} {er2:γ->δ} {v:α} {u:γ} {r s:Ts} {x:R α} {f:α->Ts->R γ} (h:Rd (fun x:α=>x) v r x) (hf:Rd er2 u s (f v r)):Rd er2 u s (x.bind f):=h.bind fun v' e=>by cases (show v'=v from e);exact hf
structure Nx (r:Ts):Prop where
 par:isW r [[40]]=false
 bin:(ZaU r).1=0
theorem Zus {l:List Ex} (h:l.length=2):∃a b,l=[a,b]:=by match l,h with | [a,b],_=>exact ⟨a,b,rfl⟩
theorem Zzr {l:List Ex} (h:l.length=1):∃a,l=[a]:=by match l,h with | [a],_=>exact ⟨a,rfl⟩
def Ln (e:Ex) (r:Ts) (sub:Nat->Ts->R Ex) (least:Nat) (x:R Ex):Prop:=(∃f e',r.length<f/\erE e'=erE e/\x=U8 sub least f e' r)\/Lim x
theorem Zw6 {e:Ex} {r:Ts} {sub:Nat->Ts->R Ex} {least:Nat} {x:R Ex} (h:Ln e r sub least x) (hb:(ZaU r).1<least\/(ZaU r).1=0):Rd erE e r x:=by
 rcases h with ⟨f,e',h1,h2,rfl⟩ | h
 ·obtain ⟨f,rfl⟩:∃k,f=k+1:=⟨f - 1,oM⟩
  rw [U8,Tj hb];exact Rd.ok h2
 exact .lim h
structure ExR (e:Ex):Prop where
 sg:∀d r,isW r [[40]]=false->Rd erE e r (Xw d (ZAx 5 e++r))
 ln:∀d k w l r,w<=l->l<=5->6<=k+w->isW r [[40]]=false->(ZaU r).1<l+2->Ln e r (Jx (Xw d) (k - 1)) (w+1) (Jx (Xw d) k (w+1) (ZAx l e++r))
theorem Zzs (e:Ex):ZAx 0 e=exK e:=by rw [ZAx,Zzq,Tg sM]
theorem ExR.full {e:Ex} (h:ExR e) (d:Nat) {r:Ts} (hr:Nx r):Rd erE e r (Zac d (exK e++r)):=by
 have:=h.ln d 6 0 0 r oM oM oM hr.par (by have:=hr.bin;omega);rw [Zzs] at this;exact Zw6 this (.inr hr.bin)
theorem Zw7 {op:Nat} {rel:Bs} {args:List Ex} {body:List Li} {a:Nat} (h:Y7 (.mk op rel args body a)=true):Y5 op rel args.length body.length=true/\(∀x∈args,Z9 x=true)/\∀x∈body,Y7 x=true:=by
 simp only [Y7,Zs,WR,Tl] at h;exact ⟨h.1,Tm.1 h.2.1,Tm.1 h.2.2⟩
theorem Zw8 {op:Nat} {rel:Bs} {na nb:Nat} (h:Y5 op rel na nb=true):((op=1\/op=2)/\Xc rel=true/\nb=0)\/(3<=op/\op<=8/\rel=[]/\na=2/\nb=0)\/(op=9/\rel=[]/\na=1/\0<nb)\/(9<op/\op<=12/\rel=[]/\na=2/\0<nb):=by
 unfold Y5 at h
 split at h
 ·rename_i c
  simp only [Tl,T2,decide_eq_false_iff_not] at h;exact .inl ⟨c,h.1,oM⟩
 split at h
 ·rename_i c
  simp only [Tl,T2,decide_eq_false_iff_not,TM] at h;exact .inr (.inl ⟨c.1,c.2,h.1,h.2.1,oM⟩)
 split at h
 ·rename_i c
  simp only [Tl,TM] at h;exact .inr (.inr (.inl ⟨c,h.1,h.2.1,h.2.2⟩))
 split at h
 ·rename_i c
  simp only [Tl,TM] at h;exact .inr (.inr (.inr ⟨c.1,c.2,h.1,h.2.1,h.2.2⟩))
 cases h
def Zs6 (x:Li):Bool:=Y7 x && ZmO x
theorem Zw9 {op:Nat} {rel:Bs} {args:List Ex} {body:List Li} {a:Nat} (h:Zs6 (.mk op rel args body a)=true):Y5 op rel args.length body.length=true/\(∀x∈args,ZjB x=true)/\∀x∈body,Zs6 x=true:=by
 simp only [Zs6,Tl] at h;obtain ⟨h1,h2⟩:=h;obtain ⟨m1,m2,m3⟩:=Zw7 h1;obtain ⟨r1,r2⟩:=ZqP h2;exact ⟨m1,fun x hx=>by rw [ZjB,m2 x hx,r1 x hx];rfl,fun x hx=>by rw [Zs6,m3 x hx,r2 x hx];rfl⟩
noncomputable def Zzt (n:Nat):Zo:=Zir (.tuple []) fun rest txt=>∃pl x,rest=[YJ XD pl x]/\(Zs6 x=true/\wL x<=n/\n<=1073741824)/\txt=liT x
noncomputable def ZmT (n:Nat):Zo:=fun args σ K=>match args,σ with
 | [.ptr 0 0,.d (.sl r),.d (.str bt),.func g [.ptr 0 0] []],⟨[.cells t [p,.sl 0 e rows]],[0],1⟩=>∃l pl xs,rows=Zj l/\r=xs.map (XD pl)/\(p=.ptr 0 0/\t=115/\e=5/\g=130)/\(xs.all Zs6=true/\szS wL xs<=n/\n<=1073741824)/\l.length+(Zg bt (xs.map liT)).length<70368744177664 /\
   K (.ret (.tuple [])) ⟨[.cells t [.ptr 0 0,.sl 0 e (Zj (l++Zg bt (xs.map liT)))]],[0],1⟩
 | _,_=>False
noncomputable def Zut (n:Nat):Tbl:=[(124,Zgo),(130,Zzt n)]
theorem Zzu {n:Nat} (ht:TO w0 nG (Zut n)):PC w0 nG 129 (ZmT n):=by
 refine Zd Zc mixed (tbl:=Zut n) ht Tryz.func129 rfl kR kR ?_;intro args σ K h
 unfold ZmT at h
 split at h
 ·rename_i r bt g t p e rows
  obtain ⟨l,pl,xs,rfl,rfl,⟨rfl,rfl,rfl,rfl⟩,⟨co,hz,hn⟩,aa,h⟩:=h;have cn:(xs.map (XD pl)).length=xs.length:=Tf ..;have hsz:=Zv wL xs;refine ⟨Zb [(1,⟨[12],[0,1,2,3,10,11],fun vs σ=>∃i:Nat,vs=[.d (.int .i64 i)]/\σ=⟨[.cells 115 [.ptr 0 0,.sl 0 5 (Zj (l++Zg bt ((xs.take i).map liT)))]],[0],1⟩/\i<=xs.length,mu1 xs.length⟩)],1,true,sM,Ta rfl,wN ?_⟩;refine ⟨⟨0,rfl,(by simp only [Sf,TL,Zg,TU];rfl),oM⟩,?_⟩;intro vs σ hI
  obtain ⟨i,rfl,rfl,hi⟩:=hI;(conv=>whnf);refine ZDc (fun af=>wN ?_) (fun af=>?_)
  ·have af:i<xs.length:=lzI cn af;have hg:=ZA wL xs i af;have ky:Zs6 xs[i]=true:=Tm.1 co _ (TB af);have bw:=VM bt liT af;have aq:=Zak bt liT xs (i+1);obtain ⟨eA,hA⟩:∃x,xs[i]=x:=⟨_,rfl⟩
   obtain ⟨a1,a2,a3,a4,a5⟩:=eA;rw [hA] at hg ky bw;have bi:(xs.map (XD pl))[((i:Nat):Int).toNat]?=some (XD pl (.mk a1 a2 a3 a4 a5)):=by simp [af,hA]
   refine ⟨_,oM,bi,wN ?_⟩;refine ZDc (fun h0=>wN ?_) (fun h0=>?_)
   ·have h0:0<i:=by omega
    rw [Tg oM] at bw;rw [bw] at aq;simp only [Tb] at aq;refine wk _ bt ⟨rfl,rfl⟩ (wN ?_);refine wk _ (liT (.mk a1 a2 a3 a4 a5)) ⟨pl,(.mk a1 a2 a3 a4 a5),rfl,⟨ky,oM,oM⟩,rfl⟩ (wN ?_);exact m58
   obtain rfl:i=0:=by omega
   rw [Tj rfl] at bw;rw [bw] at aq;(conv=>whnf);refine ⟨l++Zg bt ((xs.take 0).map liT),liT (.mk a1 a2 a3 a4 a5),rfl,⟨.inr rfl,rfl,rfl⟩,⟨pl,(.mk a1 a2 a3 a4 a5),rfl,⟨ky,oM,oM⟩,rfl⟩,by simp only [Sf,TL,Zg,Tb,Td];omega,wN ?_⟩;exact m51
  exact m83
 exact h.elim
noncomputable def Zzv (n:Nat):Tbl:=[(72,Zeb),(128,Zs5 n),(181,Zs4 n),(129,spB ZmT n)]
theorem Zzw {n:Nat} (ht:TO w0 nG (Zzv n)):PC w0 nG 130 (Zzt n):=by
 refine Jp Zc mixed (tbl:=Zzv n) ht Tryz.func130 rfl kR kR ?_;intro args σ K h
 unfold Zzt Zir at h
 split at h
 ·rename_i rest t p e rows
  obtain ⟨l,txt,rfl,⟨hp,rfl,rfl⟩,⟨pl,⟨op,rel,xs,body,at'⟩,rfl,⟨co,hz,hn⟩,rfl⟩,aa,h⟩:=h;obtain ⟨m1,m2,m3⟩:=Zw9 co;have pi:szS wE xs+szS wL body+rel.length+1<=n:=by rw [wL,Ur] at hz;omega
  refine ⟨Zb [],VV [(13,2)],Xj [],1,true,sM,Ta rfl,?_⟩;have s7:((op=1\/op=2)/\Xc rel=true/\body.length=0)\/(3<=op/\op<=8/\rel=[]/\xs.length=2/\body.length=0)\/(op=9/\rel=[]/\xs.length=1/\0<body.length)\/(9<op/\op<=12/\rel=[]/\xs.length=2/\0<body.length):=Zw8 m1;rcases s7 with ⟨gh,hnm,hb⟩ | ⟨c1,c2,rfl,ce,hb⟩ | ⟨rfl,rfl,dk,hb⟩ | ⟨c1,c2,rfl,ce,hb⟩
  ·rcases gh with rfl | rfl
   ·rcases hp with rfl | rfl
    all_goals
     have hx:liT (.mk 1 rel xs body at')=rel++argT [40] [41] xs:=by rw [liT];rfl
     rw [hx] at h aa
     (try simp only [Tb,Tc,Td] at aa)
     conv=>whnf
     refine wk _ rel ⟨[rel],rfl,sM,sM,sM⟩ ?_;(conv=>whnf);refine wk _ (argT [40] [41] xs) ⟨[40],[41],pl,xs,rfl,⟨Tm.2 m2,oM,oM⟩,rfl⟩ ?_;rw [show l++(rel++argT [40] [41] xs)=l++rel++argT [40] [41] xs by simp only [Tk]] at h;(conv=>whnf);exact h
   rcases hp with rfl | rfl
   all_goals
    have hx:liT (.mk 2 rel xs body at')=[33]++(rel++argT [40] [41] xs):=by rw [liT];rfl
    rw [hx] at h aa
    (try simp only [Tb,Tc,Td] at aa)
    conv=>whnf
    refine wk _ [33] ⟨[[33]],rfl,sM,sM,sM⟩ ?_;(conv=>whnf);refine wk _ rel ⟨[rel],rfl,sM,sM,sM⟩ ?_;(conv=>whnf);refine wk _ (argT [40] [41] xs) ⟨[40],[41],pl,xs,rfl,⟨Tm.2 m2,oM,oM⟩,rfl⟩ ?_;rw [show l++([33]++(rel++argT [40] [41] xs))=l++[33]++rel++argT [40] [41] xs by simp only [Tk]] at h;(conv=>whnf);exact h
  ·obtain ⟨x0,x1,rfl⟩:=Zus ce;simp only [szS] at pi;have g0:=m2 x0 sM;have g1:=m2 x1 sM;have z0:wE x0<=n:=oM;have z1:wE x1<=n:=oM;obtain ⟨o0,t0,n0,y0,q0⟩:=x0;obtain ⟨o1,t1,n1,y1,q1⟩:=x1;obtain rfl | rfl | rfl | rfl | rfl | rfl:op=3\/op=4\/op=5\/op=6\/op=7\/op=8:=oM
   ·rcases hp with rfl | rfl
    all_goals
     have hx:liT (.mk 3 [] [(.mk o0 t0 n0 y0 q0),(.mk o1 t1 n1 y1 q1)] body at')=exW 0 (.mk o0 t0 n0 y0 q0)++([32,61,32]++exW 0 (.mk o1 t1 n1 y1 q1)):=by rw [liT,Vo,Vo];rfl
     rw [hx] at h aa
     (try simp only [Tb,Tc,Td] at aa)
     conv=>whnf
     refine ⟨_,dM,rfl,wN ?_⟩;refine wk _ (exW 0 (.mk o0 t0 n0 y0 q0)) ⟨pl,(.mk o0 t0 n0 y0 q0),0,rfl,⟨g0,oM,oM,oM,oM⟩,rfl⟩ ?_;(conv=>whnf);refine Or.inl ⟨InR.u8 dM dM,wN ?_⟩;refine ⟨dM,dM,wN ?_⟩;refine wk _ [32,61,32] ⟨[[32,61,32]],rfl,sM,sM,sM⟩ ?_;(conv=>whnf);refine ⟨_,dM,rfl,wN ?_⟩;refine wk _ (exW 0 (.mk o1 t1 n1 y1 q1)) ⟨pl,(.mk o1 t1 n1 y1 q1),0,rfl,⟨g1,oM,oM,oM,oM⟩,rfl⟩ ?_;rw [show l++(exW 0 (.mk o0 t0 n0 y0 q0)++([32,61,32]++exW 0 (.mk o1 t1 n1 y1 q1)))=l++exW 0 (.mk o0 t0 n0 y0 q0)++[32,61,32]++exW 0 (.mk o1 t1 n1 y1 q1) by simp only [Tk]] at h;(conv=>whnf);exact h
   ·rcases hp with rfl | rfl
    all_goals
     have hx:liT (.mk 4 [] [(.mk o0 t0 n0 y0 q0),(.mk o1 t1 n1 y1 q1)] body at')=exW 0 (.mk o0 t0 n0 y0 q0)++([32,33,61,32]++exW 0 (.mk o1 t1 n1 y1 q1)):=by rw [liT,Vo,Vo];rfl
     rw [hx] at h aa
     (try simp only [Tb,Tc,Td] at aa)
     conv=>whnf
     refine ⟨_,dM,rfl,wN ?_⟩;refine wk _ (exW 0 (.mk o0 t0 n0 y0 q0)) ⟨pl,(.mk o0 t0 n0 y0 q0),0,rfl,⟨g0,oM,oM,oM,oM⟩,rfl⟩ ?_;(conv=>whnf);refine Or.inl ⟨InR.u8 dM dM,wN ?_⟩;refine ⟨dM,dM,wN ?_⟩;refine wk _ [32,33,61,32] ⟨[[32,33,61,32]],rfl,sM,sM,sM⟩ ?_;(conv=>whnf);refine ⟨_,dM,rfl,wN ?_⟩;refine wk _ (exW 0 (.mk o1 t1 n1 y1 q1)) ⟨pl,(.mk o1 t1 n1 y1 q1),0,rfl,⟨g1,oM,oM,oM,oM⟩,rfl⟩ ?_;rw [show l++(exW 0 (.mk o0 t0 n0 y0 q0)++([32,33,61,32]++exW 0 (.mk o1 t1 n1 y1 q1)))=l++exW 0 (.mk o0 t0 n0 y0 q0)++[32,33,61,32]++exW 0 (.mk o1 t1 n1 y1 q1) by simp only [Tk]] at h;(conv=>whnf);exact h
   ·rcases hp with rfl | rfl
    all_goals
     have hx:liT (.mk 5 [] [(.mk o0 t0 n0 y0 q0),(.mk o1 t1 n1 y1 q1)] body at')=exW 0 (.mk o0 t0 n0 y0 q0)++([32,60,32]++exW 0 (.mk o1 t1 n1 y1 q1)):=by rw [liT,Vo,Vo];rfl
     rw [hx] at h aa
     (try simp only [Tb,Tc,Td] at aa)
     conv=>whnf
     refine ⟨_,dM,rfl,wN ?_⟩;refine wk _ (exW 0 (.mk o0 t0 n0 y0 q0)) ⟨pl,(.mk o0 t0 n0 y0 q0),0,rfl,⟨g0,oM,oM,oM,oM⟩,rfl⟩ ?_;(conv=>whnf);refine Or.inl ⟨InR.u8 dM dM,wN ?_⟩;refine ⟨dM,dM,wN ?_⟩;refine wk _ [32,60,32] ⟨[[32,60,32]],rfl,sM,sM,sM⟩ ?_;(conv=>whnf);refine ⟨_,dM,rfl,wN ?_⟩;refine wk _ (exW 0 (.mk o1 t1 n1 y1 q1)) ⟨pl,(.mk o1 t1 n1 y1 q1),0,rfl,⟨g1,oM,oM,oM,oM⟩,rfl⟩ ?_;rw [show l++(exW 0 (.mk o0 t0 n0 y0 q0)++([32,60,32]++exW 0 (.mk o1 t1 n1 y1 q1)))=l++exW 0 (.mk o0 t0 n0 y0 q0)++[32,60,32]++exW 0 (.mk o1 t1 n1 y1 q1) by simp only [Tk]] at h;(conv=>whnf);exact h
   ·rcases hp with rfl | rfl
    all_goals
     have hx:liT (.mk 6 [] [(.mk o0 t0 n0 y0 q0),(.mk o1 t1 n1 y1 q1)] body at')=exW 0 (.mk o0 t0 n0 y0 q0)++([32,60,61,32]++exW 0 (.mk o1 t1 n1 y1 q1)):=by rw [liT,Vo,Vo];rfl
     rw [hx] at h aa
     (try simp only [Tb,Tc,Td] at aa)
     conv=>whnf
     refine ⟨_,dM,rfl,wN ?_⟩;refine wk _ (exW 0 (.mk o0 t0 n0 y0 q0)) ⟨pl,(.mk o0 t0 n0 y0 q0),0,rfl,⟨g0,oM,oM,oM,oM⟩,rfl⟩ ?_;(conv=>whnf);refine Or.inl ⟨InR.u8 dM dM,wN ?_⟩;refine ⟨dM,dM,wN ?_⟩;refine wk _ [32,60,61,32] ⟨[[32,60,61,32]],rfl,sM,sM,sM⟩ ?_;(conv=>whnf);refine ⟨_,dM,rfl,wN ?_⟩;refine wk _ (exW 0 (.mk o1 t1 n1 y1 q1)) ⟨pl,(.mk o1 t1 n1 y1 q1),0,rfl,⟨g1,oM,oM,oM,oM⟩,rfl⟩ ?_;rw [show l++(exW 0 (.mk o0 t0 n0 y0 q0)++([32,60,61,32]++exW 0 (.mk o1 t1 n1 y1 q1)))=l++exW 0 (.mk o0 t0 n0 y0 q0)++[32,60,61,32]++exW 0 (.mk o1 t1 n1 y1 q1) by simp only [Tk]] at h;(conv=>whnf);exact h
   ·rcases hp with rfl | rfl
    all_goals
     have hx:liT (.mk 7 [] [(.mk o0 t0 n0 y0 q0),(.mk o1 t1 n1 y1 q1)] body at')=exW 0 (.mk o0 t0 n0 y0 q0)++([32,62,32]++exW 0 (.mk o1 t1 n1 y1 q1)):=by rw [liT,Vo,Vo];rfl
     rw [hx] at h aa
     (try simp only [Tb,Tc,Td] at aa)
     conv=>whnf
     refine ⟨_,dM,rfl,wN ?_⟩;refine wk _ (exW 0 (.mk o0 t0 n0 y0 q0)) ⟨pl,(.mk o0 t0 n0 y0 q0),0,rfl,⟨g0,oM,oM,oM,oM⟩,rfl⟩ ?_;(conv=>whnf);refine Or.inl ⟨InR.u8 dM dM,wN ?_⟩;refine ⟨dM,dM,wN ?_⟩;refine wk _ [32,62,32] ⟨[[32,62,32]],rfl,sM,sM,sM⟩ ?_;(conv=>whnf);refine ⟨_,dM,rfl,wN ?_⟩;refine wk _ (exW 0 (.mk o1 t1 n1 y1 q1)) ⟨pl,(.mk o1 t1 n1 y1 q1),0,rfl,⟨g1,oM,oM,oM,oM⟩,rfl⟩ ?_;rw [show l++(exW 0 (.mk o0 t0 n0 y0 q0)++([32,62,32]++exW 0 (.mk o1 t1 n1 y1 q1)))=l++exW 0 (.mk o0 t0 n0 y0 q0)++[32,62,32]++exW 0 (.mk o1 t1 n1 y1 q1) by simp only [Tk]] at h;(conv=>whnf);exact h
   rcases hp with rfl | rfl
   all_goals
    have hx:liT (.mk 8 [] [(.mk o0 t0 n0 y0 q0),(.mk o1 t1 n1 y1 q1)] body at')=exW 0 (.mk o0 t0 n0 y0 q0)++([32,62,61,32]++exW 0 (.mk o1 t1 n1 y1 q1)):=by rw [liT,Vo,Vo];rfl
    rw [hx] at h aa
    (try simp only [Tb,Tc,Td] at aa)
    conv=>whnf
    refine ⟨_,dM,rfl,wN ?_⟩;refine wk _ (exW 0 (.mk o0 t0 n0 y0 q0)) ⟨pl,(.mk o0 t0 n0 y0 q0),0,rfl,⟨g0,oM,oM,oM,oM⟩,rfl⟩ ?_;(conv=>whnf);refine Or.inl ⟨InR.u8 dM dM,wN ?_⟩;refine ⟨dM,dM,wN ?_⟩;refine wk _ [32,62,61,32] ⟨[[32,62,61,32]],rfl,sM,sM,sM⟩ ?_;(conv=>whnf);refine ⟨_,dM,rfl,wN ?_⟩;refine wk _ (exW 0 (.mk o1 t1 n1 y1 q1)) ⟨pl,(.mk o1 t1 n1 y1 q1),0,rfl,⟨g1,oM,oM,oM,oM⟩,rfl⟩ ?_;rw [show l++(exW 0 (.mk o0 t0 n0 y0 q0)++([32,62,61,32]++exW 0 (.mk o1 t1 n1 y1 q1)))=l++exW 0 (.mk o0 t0 n0 y0 q0)++[32,62,61,32]++exW 0 (.mk o1 t1 n1 y1 q1) by simp only [Tk]] at h;(conv=>whnf);exact h
  ·obtain ⟨x0,rfl⟩:=Zzr dk;simp only [szS] at pi;have g0:=m2 x0 sM;have z0:wE x0<=n:=oM;obtain ⟨o0,t0,n0,y0,q0⟩:=x0;rcases hp with rfl | rfl
   all_goals
    have hx:liT (.mk 9 [] [(.mk o0 t0 n0 y0 q0)] body at')=exW 0 (.mk o0 t0 n0 y0 q0)++(([32,61,32]++[99,111,117,110,116])++([32,58,32,123,32]++(Zg cmm (body.map liT)++([32,125])))):=by rw [liT,ZdB,Vo];simp [Zlf,ZsR,Zjw]
    rw [hx] at h aa
    (try simp only [Tb,Tc,Td] at aa)
    conv=>whnf
    refine ⟨_,dM,rfl,wN ?_⟩;refine wk _ (exW 0 (.mk o0 t0 n0 y0 q0)) ⟨pl,(.mk o0 t0 n0 y0 q0),0,rfl,⟨g0,oM,oM,oM,oM⟩,rfl⟩ ?_;(conv=>whnf);refine Or.inl ⟨InR.u8 dM dM,wN ?_⟩;refine ⟨dM,dM,wN ?_⟩;refine wk _ ([32,61,32]++[99,111,117,110,116]) ⟨[[32,61,32],[99,111,117,110,116]],rfl,sM,sM,sM⟩ ?_;(conv=>whnf);refine ⟨fun r hr=>?_,dM,by rw [Zh];simp,wN ?_⟩
    ·rw [Zh] at hr;simp only [TC,TL,Tr,List.not_mem_nil,or_false] at hr;rcases hr with rfl;rfl
    refine wk _ [32,58,32,123,32] ⟨[[32,58,32,123,32]],rfl,sM,sM,sM⟩ ?_;(conv=>whnf);refine ⟨oM,l++exW 0 (.mk o0 t0 n0 y0 q0)++([32,61,32]++[99,111,117,110,116])++[32,58,32,123,32],pl,body,rfl,Zp pl body,⟨rfl,rfl,rfl,rfl⟩,⟨Tm.2 m3,oM,oM⟩,(by (try simp only [Tb,Tc,Td]);show _+(Zg cmm (body.map liT)).length<_;omega),?_⟩;(conv=>whnf);refine wk (l++exW 0 (.mk o0 t0 n0 y0 q0)++([32,61,32]++[99,111,117,110,116])++[32,58,32,123,32]++Zg cmm (body.map liT)) [32,125] ⟨[[32,125]],rfl,sM,sM,sM⟩ ?_;rw [show l++(exW 0 (.mk o0 t0 n0 y0 q0)++(([32,61,32]++[99,111,117,110,116])++([32,58,32,123,32]++(Zg cmm (body.map liT)++([32,125])))))=l++exW 0 (.mk o0 t0 n0 y0 q0)++([32,61,32]++[99,111,117,110,116])++[32,58,32,123,32]++Zg cmm (body.map liT)++[32,125] by simp only [Tk]] at h;(conv=>whnf);exact h
  obtain ⟨x0,x1,rfl⟩:=Zus ce;simp only [szS] at pi;have g0:=m2 x0 sM;have g1:=m2 x1 sM;have z0:wE x0<=n:=oM;have z1:wE x1<=n:=oM;obtain ⟨o0,t0,n0,y0,q0⟩:=x0;obtain ⟨o1,t1,n1,y1,q1⟩:=x1;obtain rfl | rfl | rfl:op=10\/op=11\/op=12:=oM
  ·rcases hp with rfl | rfl
   all_goals
    have hx:liT (.mk 10 [] [(.mk o0 t0 n0 y0 q0),(.mk o1 t1 n1 y1 q1)] body at')=exW 0 (.mk o0 t0 n0 y0 q0)++(([32,61,32]++[115,117,109])++([32]++(exW 0 (.mk o1 t1 n1 y1 q1)++([32,58,32,123,32]++(Zg cmm (body.map liT)++([32,125])))))):=by rw [liT,ZdB,Vo,Vo];simp [Zlf,ZsR,Zjw]
    rw [hx] at h aa
    (try simp only [Tb,Tc,Td] at aa)
    conv=>whnf
    refine ⟨_,dM,rfl,wN ?_⟩;refine wk _ (exW 0 (.mk o0 t0 n0 y0 q0)) ⟨pl,(.mk o0 t0 n0 y0 q0),0,rfl,⟨g0,oM,oM,oM,oM⟩,rfl⟩ ?_;(conv=>whnf);refine Or.inl ⟨InR.u8 dM dM,wN ?_⟩;refine ⟨dM,dM,wN ?_⟩;refine wk _ ([32,61,32]++[115,117,109]) ⟨[[32,61,32],[115,117,109]],rfl,sM,sM,sM⟩ ?_;(conv=>whnf);refine ⟨fun r hr=>?_,dM,by rw [Zh];simp,wN ?_⟩
    ·exact m88
    refine ⟨_,dM,rfl,wN ?_⟩;refine wk _ [32] ⟨[[32]],rfl,sM,sM,sM⟩ ?_;(conv=>whnf);refine wk _ (exW 0 (.mk o1 t1 n1 y1 q1)) ⟨pl,(.mk o1 t1 n1 y1 q1),0,rfl,⟨g1,oM,oM,oM,oM⟩,rfl⟩ ?_;(conv=>whnf);refine Or.inl ⟨InR.i64 dM dM,wN ?_⟩;refine wk _ [32,58,32,123,32] ⟨[[32,58,32,123,32]],rfl,sM,sM,sM⟩ ?_;(conv=>whnf);refine ⟨oM,l++exW 0 (.mk o0 t0 n0 y0 q0)++([32,61,32]++[115,117,109])++[32]++exW 0 (.mk o1 t1 n1 y1 q1)++[32,58,32,123,32],pl,body,rfl,Zp pl body,⟨rfl,rfl,rfl,rfl⟩,⟨Tm.2 m3,oM,oM⟩,(by (try simp only [Tb,Tc,Td]);show _+(Zg cmm (body.map liT)).length<_;omega),?_⟩;(conv=>whnf);refine wk (l++exW 0 (.mk o0 t0 n0 y0 q0)++([32,61,32]++[115,117,109])++[32]++exW 0 (.mk o1 t1 n1 y1 q1)++[32,58,32,123,32]++Zg cmm (body.map liT)) [32,125] ⟨[[32,125]],rfl,sM,sM,sM⟩ ?_;rw [show l++(exW 0 (.mk o0 t0 n0 y0 q0)++(([32,61,32]++[115,117,109])++([32]++(exW 0 (.mk o1 t1 n1 y1 q1)++([32,58,32,123,32]++(Zg cmm (body.map liT)++([32,125])))))))=l++exW 0 (.mk o0 t0 n0 y0 q0)++([32,61,32]++[115,117,109])++[32]++exW 0 (.mk o1 t1 n1 y1 q1)++[32,58,32,123,32]++Zg cmm (body.map liT)++[32,125] by simp only [Tk]] at h;(conv=>whnf);exact h
  ·rcases hp with rfl | rfl
   all_goals
    have hx:liT (.mk 11 [] [(.mk o0 t0 n0 y0 q0),(.mk o1 t1 n1 y1 q1)] body at')=exW 0 (.mk o0 t0 n0 y0 q0)++(([32,61,32]++[109,105,110])++([32]++(exW 0 (.mk o1 t1 n1 y1 q1)++([32,58,32,123,32]++(Zg cmm (body.map liT)++([32,125])))))):=by rw [liT,ZdB,Vo,Vo];simp [Zlf,ZsR,Zjw]
    rw [hx] at h aa
    (try simp only [Tb,Tc,Td] at aa)
    conv=>whnf
    refine ⟨_,dM,rfl,wN ?_⟩;refine wk _ (exW 0 (.mk o0 t0 n0 y0 q0)) ⟨pl,(.mk o0 t0 n0 y0 q0),0,rfl,⟨g0,oM,oM,oM,oM⟩,rfl⟩ ?_;(conv=>whnf);refine Or.inl ⟨InR.u8 dM dM,wN ?_⟩;refine ⟨dM,dM,wN ?_⟩;refine wk _ ([32,61,32]++[109,105,110]) ⟨[[32,61,32],[109,105,110]],rfl,sM,sM,sM⟩ ?_;(conv=>whnf);refine ⟨fun r hr=>?_,dM,by rw [Zh];simp,wN ?_⟩
    ·exact m88
    refine ⟨_,dM,rfl,wN ?_⟩;refine wk _ [32] ⟨[[32]],rfl,sM,sM,sM⟩ ?_;(conv=>whnf);refine wk _ (exW 0 (.mk o1 t1 n1 y1 q1)) ⟨pl,(.mk o1 t1 n1 y1 q1),0,rfl,⟨g1,oM,oM,oM,oM⟩,rfl⟩ ?_;(conv=>whnf);refine Or.inl ⟨InR.i64 dM dM,wN ?_⟩;refine wk _ [32,58,32,123,32] ⟨[[32,58,32,123,32]],rfl,sM,sM,sM⟩ ?_;(conv=>whnf);refine ⟨oM,l++exW 0 (.mk o0 t0 n0 y0 q0)++([32,61,32]++[109,105,110])++[32]++exW 0 (.mk o1 t1 n1 y1 q1)++[32,58,32,123,32],pl,body,rfl,Zp pl body,⟨rfl,rfl,rfl,rfl⟩,⟨Tm.2 m3,oM,oM⟩,(by (try simp only [Tb,Tc,Td]);show _+(Zg cmm (body.map liT)).length<_;omega),?_⟩;(conv=>whnf);refine wk (l++exW 0 (.mk o0 t0 n0 y0 q0)++([32,61,32]++[109,105,110])++[32]++exW 0 (.mk o1 t1 n1 y1 q1)++[32,58,32,123,32]++Zg cmm (body.map liT)) [32,125] ⟨[[32,125]],rfl,sM,sM,sM⟩ ?_;rw [show l++(exW 0 (.mk o0 t0 n0 y0 q0)++(([32,61,32]++[109,105,110])++([32]++(exW 0 (.mk o1 t1 n1 y1 q1)++([32,58,32,123,32]++(Zg cmm (body.map liT)++([32,125])))))))=l++exW 0 (.mk o0 t0 n0 y0 q0)++([32,61,32]++[109,105,110])++[32]++exW 0 (.mk o1 t1 n1 y1 q1)++[32,58,32,123,32]++Zg cmm (body.map liT)++[32,125] by simp only [Tk]] at h;(conv=>whnf);exact h
  rcases hp with rfl | rfl
  all_goals
   have hx:liT (.mk 12 [] [(.mk o0 t0 n0 y0 q0),(.mk o1 t1 n1 y1 q1)] body at')=exW 0 (.mk o0 t0 n0 y0 q0)++(([32,61,32]++[109,97,120])++([32]++(exW 0 (.mk o1 t1 n1 y1 q1)++([32,58,32,123,32]++(Zg cmm (body.map liT)++([32,125])))))):=by rw [liT,ZdB,Vo,Vo];simp [Zlf,ZsR,Zjw]
   rw [hx] at h aa
   (try simp only [Tb,Tc,Td] at aa)
   conv=>whnf
   refine ⟨_,dM,rfl,wN ?_⟩;refine wk _ (exW 0 (.mk o0 t0 n0 y0 q0)) ⟨pl,(.mk o0 t0 n0 y0 q0),0,rfl,⟨g0,oM,oM,oM,oM⟩,rfl⟩ ?_;(conv=>whnf);refine Or.inl ⟨InR.u8 dM dM,wN ?_⟩;refine ⟨dM,dM,wN ?_⟩;refine wk _ ([32,61,32]++[109,97,120]) ⟨[[32,61,32],[109,97,120]],rfl,sM,sM,sM⟩ ?_;(conv=>whnf);refine ⟨fun r hr=>?_,dM,by rw [Zh];simp,wN ?_⟩
   ·exact m88
   refine ⟨_,dM,rfl,wN ?_⟩;refine wk _ [32] ⟨[[32]],rfl,sM,sM,sM⟩ ?_;(conv=>whnf);refine wk _ (exW 0 (.mk o1 t1 n1 y1 q1)) ⟨pl,(.mk o1 t1 n1 y1 q1),0,rfl,⟨g1,oM,oM,oM,oM⟩,rfl⟩ ?_;(conv=>whnf);refine Or.inl ⟨InR.i64 dM dM,wN ?_⟩;refine wk _ [32,58,32,123,32] ⟨[[32,58,32,123,32]],rfl,sM,sM,sM⟩ ?_;(conv=>whnf);refine ⟨oM,l++exW 0 (.mk o0 t0 n0 y0 q0)++([32,61,32]++[109,97,120])++[32]++exW 0 (.mk o1 t1 n1 y1 q1)++[32,58,32,123,32],pl,body,rfl,Zp pl body,⟨rfl,rfl,rfl,rfl⟩,⟨Tm.2 m3,oM,oM⟩,(by (try simp only [Tb,Tc,Td]);show _+(Zg cmm (body.map liT)).length<_;omega),?_⟩;(conv=>whnf);refine wk (l++exW 0 (.mk o0 t0 n0 y0 q0)++([32,61,32]++[109,97,120])++[32]++exW 0 (.mk o1 t1 n1 y1 q1)++[32,58,32,123,32]++Zg cmm (body.map liT)) [32,125] ⟨[[32,125]],rfl,sM,sM,sM⟩ ?_;rw [show l++(exW 0 (.mk o0 t0 n0 y0 q0)++(([32,61,32]++[109,97,120])++([32]++(exW 0 (.mk o1 t1 n1 y1 q1)++([32,58,32,123,32]++(Zg cmm (body.map liT)++([32,125])))))))=l++exW 0 (.mk o0 t0 n0 y0 q0)++([32,61,32]++[109,97,120])++[32]++exW 0 (.mk o1 t1 n1 y1 q1)++[32,58,32,123,32]++Zg cmm (body.map liT)++[32,125] by simp only [Tk]] at h;(conv=>whnf);exact h
 exact h.elim
theorem cWA (hN:NumOK w0 nG) (hL:LexC w0 nG) (n:Nat):PC w0 nG 128 (Zs5 n):=Zuq (cWE hN hL n)
theorem ZqU {n:Nat} (h:PC w0 nG 130 (Zzt n)):PC w0 nG 129 (ZmT n):=Zzu ⟨ZqG,h,trivial⟩
theorem cWL (hN:NumOK w0 nG) (hL:LexC w0 nG):∀n,PC w0 nG 130 (Zzt n)
 | 0=>Zzw ⟨Jc,cWA hN hL 0,cWE hN hL 0,Yp (Zk Tryz.func129 kR rfl),trivial⟩
 | n+1=>Zzw ⟨Jc,cWA hN hL (n+1),cWE hN hL (n+1),Yq (sp:=ZmT) (ZqU (cWL hN hL n)),trivial⟩
def Zzx (r:Ru):Bool:=XX r && Zgp r
theorem Zxa {r:Ru} (h:Zzx r=true):(∀x∈r.args,ZjB x=true)/\∀x∈r.body,Zs6 x=true:=by
 simp only [Zzx,XX,Zgp,Tl] at h;obtain ⟨⟨_,h1,h2⟩,h3,h4⟩:=h;rw [Tm] at h1 h2 h3 h4;exact ⟨fun x hx=>by rw [ZjB,h1 x hx,h3 x hx];rfl,fun x hx=>by rw [Zs6,h2 x hx,h4 x hx];rfl⟩
noncomputable def ZAy (n:Nat):Zo:=Zir (.tuple []) fun rest txt=>∃pl x,rest=[YJ Z8 pl x]/\(Zzx x=true/\wRu x<=n/\n<=1073741824)/\txt=ruT x
noncomputable def Zuu (n:Nat):Tbl:=[(72,Zeb),(128,Zs5 n),(129,ZmT n)]
theorem ZBw {n:Nat} (ht:TO w0 nG (Zuu n)):PC w0 nG 77 (ZAy n):=by
 refine Zd Zc mixed (tbl:=Zuu n) ht Tryz.func77 rfl kR kR ?_;intro args σ K h
 unfold ZAy Zir at h
 split at h
 ·rename_i rest t p e rows
  obtain ⟨l,txt,rfl,⟨hp,rfl,rfl⟩,⟨pl,⟨head,xs,body,at'⟩,rfl,⟨co,hz,hn⟩,rfl⟩,aa,h⟩:=h;obtain ⟨m2,m3⟩:=Zxa co;simp only at m2 m3;have pi:szS wE xs+szS wL body+head.length+1<=n:=by unfold wRu at hz;simp only at hz;omega
  have cq:(Zd9 pl body).length=body.length:=by rw [Zp,Tf]
  refine ⟨Zb [],1,true,sM,Ta rfl,?_⟩;have mj:l.length+head.length+(argT [40] [41] xs).length+10<70368744177664+10:=by
   have e:(ruT ⟨head,xs,body,at'⟩).length>=head.length+(argT [40] [41] xs).length:=by rw [ruT];simp only [Tb];omega
   omega
  rcases hp with rfl | rfl
  all_goals
   conv=>whnf
   refine wk _ head ⟨[head],rfl,sM,sM,sM⟩ ?_;(conv=>whnf);refine wk _ (argT [40] [41] xs) ⟨[40],[41],pl,xs,rfl,⟨Tm.2 m2,oM,oM⟩,rfl⟩ ?_;(conv=>whnf);refine ZDc (fun c=>wN ?_) (fun c=>wN ?_)
   ·have c:0<body.length:=by have c:((Zd9 pl body).length:Int)>0:=c;omega
    have hx:ruT ⟨head,xs,body,at'⟩=head++(argT [40] [41] xs++([32,58,45,32]++(Zg cmm (body.map liT)++[46]))):=by rw [ruT,Tj c,ZdB];simp
    rw [hx] at h aa;simp only [Tb,Tc,Td] at aa;refine wk _ [32,58,45,32] ⟨[[32,58,45,32]],rfl,sM,sM,sM⟩ ?_;(conv=>whnf);refine ⟨l++head++argT [40] [41] xs++[32,58,45,32],pl,body,rfl,Zp pl body,⟨rfl,rfl,rfl,rfl⟩,⟨Tm.2 m3,oM,oM⟩,(by (try simp only [Tb,Tc,Td]);show _+(Zg cmm (body.map liT)).length<_;omega),?_⟩;(conv=>whnf);refine wk (l++head++argT [40] [41] xs++[32,58,45,32]++Zg cmm (body.map liT)) [46] ⟨[[46]],rfl,sM,sM,sM⟩ ?_;simp only [<- Tk] at h;exact m92
   have c:¬0<body.length:=by have c:¬((Zd9 pl body).length:Int)>0:=c;omega
   have hx:ruT ⟨head,xs,body,at'⟩=head++(argT [40] [41] xs++[46]):=by rw [ruT,Tg c,Sg]
   rw [hx] at h aa;simp only [Tb,Tc,Td] at aa;refine wk _ [46] ⟨[[46]],rfl,sM,sM,sM⟩ ?_;simp only [<- Tk] at h;exact m92
 exact h.elim
theorem cWR (hN:NumOK w0 nG) (hL:LexC w0 nG) (n:Nat):PC w0 nG 77 (ZAy n):=ZBw ⟨Jc,cWA hN hL n,ZqU (cWL hN hL n),trivial⟩
theorem Zs7 {t:Ty} (h:Ya t=true):Xc t.name=true/\(∀f∈t.fields,YQ f=true)/\(∀c∈t.cases,Xq c=true) /\
  ((t.kind=1/\Xc t.base=true/\t.fields=[]/\t.cases=[])\/(t.kind=2/\t.base=[]/\t.cases=[])\/(t.kind=3/\t.base=[]/\t.fields=[]/\t.cases≠[])):=by
 simp only [Ya,Tl] at h;obtain ⟨h1,h2,h3,h4⟩:=h;refine ⟨h2,Tm.1 h3,Tm.1 h4,?_⟩;unfold Za6 at h1
 split at h1
 ·rename_i c
  simp only [Tl,TM] at h1;exact .inl ⟨c,h1.1,TY h1.2.1,TY h1.2.2⟩
 split at h1
 ·rename_i c
  simp only [Tl,TM] at h1;exact .inr (.inl ⟨c,h1.1,TY h1.2⟩)
 split at h1
 ·rename_i c
  simp only [Tl,TM,T2,decide_eq_false_iff_not] at h1;exact .inr (.inr ⟨c,h1.1,TY h1.2.1,fun e=>h1.2.2 (by rw [e];rfl)⟩)
 cases h1
theorem Zxb {tys:List Ty} {rels:List Re} {rules:List Ru} {comps:List Co} {inits:List Ini} {overs:List Ov} (h:ZdA (.mk tys rels rules comps inits overs)=true) :
  (∀x∈tys,Ya x=true)/\(∀x∈rels,X9 x=true)/\(∀x∈rules,XX x=true)/\(∀x∈comps,Z7 x=true)/\(∀x∈inits,Ww x=true)/\∀x∈overs,W2 x=true:=by
 simp only [ZdA,Wx,Tl] at h;obtain ⟨h1,h2,h3,h4,h5,h6⟩:=h;exact ⟨Tm.1 h1,Tm.1 h2,Tm.1 h3,Tm.1 h4,Tm.1 h5,Tm.1 h6⟩
theorem Zs8 {nm:Bs} {ps:List Bs} {base:Bs} {tys:List Bs} {u:Un} {a:Nat} (h:Z7 (.mk nm ps base tys u a)=true):Xc nm=true/\(∀x∈ps,Xc x=true)/\(∀x∈tys,Xc x=true)/\((base=[]/\tys=[])\/Xc base=true)/\ZdA u=true:=by
 simp only [Z7,Tl,So,TM] at h;obtain ⟨h1,h2,h3,h4,h5⟩:=h;refine ⟨h1,Tm.1 h2,Tm.1 h3,?_,h5⟩;rcases h4 with ⟨e1,e2⟩ | h4
 ·exact .inl ⟨e1,TY e2⟩
 exact .inr h4
end Go.PM.Lex
end

section
namespace Go.PM.Lex
open Go.Proofs Go.RowKit
variable {w0:World} {nG:Nat}
noncomputable def Zzy:Tbl:=[(72,Zeb)]
theorem Zzz {n:Nat}:PC w0 nG 126 (Zgn (YJ (fun _=>Zw)) YQ fiT wFi n):=by
 refine Zd Zc mixed (tbl:=Zzy) ⟨Jc,trivial⟩ Tryz.func126 rfl kR kR ?_;intro args σ K h
 unfold Zgn at h
 split at h
 ·obtain ⟨l,pl,⟨nm,ty⟩,rfl,rfl,⟨rfl,rfl⟩,⟨co,hz,hn⟩,aa,h⟩:=h;refine ⟨Zb [],2,true,sM,Ta rfl,wN ?_⟩;refine ⟨l,fiT ⟨nm,ty⟩,rfl,⟨.inr rfl,rfl,rfl⟩,⟨[nm,[58,32],ty],rfl,sM,sM,by simp [fiT]⟩,aa,wN ?_⟩;exact h
 exact h.elim
theorem ZCO (n:Nat):PC w0 nG 125 (ZqF 126 (fun _=>Zw) YQ fiT wFi n):=ZwP ⟨ZqG,Zzz,trivial⟩
noncomputable def Zs9 (n:Nat):Zo:=Zir (.tuple []) fun rest txt=>∃(fr fin:Bs) (xs:List Fi),rest=[.d (.str fr),.d (.sl (xs.map Zw)),.d (.str fin)]/\(xs.all YQ=true/\szS wFi xs<=n/\n<=1073741824)/\txt=Vn fr xs fin
theorem ZqV {n:Nat}:PC w0 nG 73 (Zs9 n):=by
 refine Zd Zc mixed (tbl:=[(72,Zeb),(125,ZqF 126 (fun _=>Zw) YQ fiT wFi n)]) ⟨Jc,ZCO n,trivial⟩ Tryz.func73 rfl kR kR ?_;intro args σ K h
 unfold Zs9 Zir at h
 split at h
 ·rename_i rest t p e rows
  obtain ⟨l,txt,rfl,⟨hp,rfl,rfl⟩,⟨fr,fin,xs,rfl,⟨co,hz,hn⟩,rfl⟩,aa,h⟩:=h;have key:l++Vn fr xs fin=l++fr++Zg cmm (xs.map fiT)++fin:=by simp only [Vn,Tk]
  rw [key] at h;have aa:l.length+(fr.length+((Zg cmm (xs.map fiT)).length+fin.length))<70368744177664:=by have:=aa;simp only [Vn,Tb] at this;exact this
  refine ⟨Zb [],1,true,sM,Ta rfl,?_⟩;rcases hp with rfl | rfl
  all_goals
   conv=>whnf
   refine wk _ fr ⟨[fr],rfl,sM,sM,sM⟩ ?_;(conv=>whnf);refine ⟨l++fr,fun _=>0,xs,rfl,rfl,⟨rfl,rfl,rfl⟩,⟨co,hz,hn⟩,by rw [Tb];show _+(Zg cmm (xs.map fiT)).length<_;omega,wN ?_⟩;refine wk (l++fr++Zg cmm (xs.map fiT)) fin ⟨[fin],rfl,sM,sM,sM⟩ (wN ?_);exact h
 exact h.elim
theorem ZzC {n:Nat}:PC w0 nG 75 (Zgn (YJ (fun _=>Zn)) Xq caT wCa n):=by
 refine Zd Zc mixed (tbl:=[(73,Zs9 n)]) ⟨ZqV,trivial⟩ Tryz.func75 rfl kR kR ?_;intro args σ K h
 unfold Zgn at h
 split at h
 ·obtain ⟨l,pl,⟨nm,fs⟩,rfl,rfl,⟨rfl,rfl⟩,⟨co,hz,hn⟩,aa,h⟩:=h;have hm:fs.all YQ=true:=by simp only [Xq,Tl] at co;exact co.2
  have hz:nm.length+szS wFi fs<=n:=by unfold wCa at hz;simp only at hz;omega
  refine ⟨Zb [],2,true,sM,Ta rfl,wN ?_⟩;refine ⟨by simp only [Tc,Td];omega,wN ?_⟩;refine ⟨l,caT ⟨nm,fs⟩,rfl,⟨.inr rfl,rfl,rfl⟩,⟨nm++[32,123],[125],fs,rfl,⟨hm,oM,hn⟩,rfl⟩,aa,wN ?_⟩;exact h
 exact h.elim
theorem ZCs (n:Nat):PC w0 nG 74 (ZqF 75 (fun _=>Zn) Xq caT wCa n):=ZwQ ⟨ZqG,ZzC,trivial⟩
theorem JH (sep:Bs):∀l:List Bs,Lib.join l sep=Zg sep l
 | []=>rfl
 | [x]=>by simp [Lib.join,List.intercalate,Zg]
 | x::y::l=>by
  have ih:=JH sep (y::l);simp only [Lib.join,List.intercalate] at ih |-;rw [Zg,<- ih]
  ·simp
  intro h;cases h
theorem Za8 (l:List Bs):(Zg cmm l).length<=szS wBs l:=by
 match l with
 | []=>exact T6 _
 | [x]=>simp only [Zg,szS,wBs];omega
 | x::y::l =>
  have ih:=Za8 (y::l);rw [Zg]
  ·simp only [Tb,szS,wBs] at ih |-;have:cmm.length=2:=rfl;omega
  intro h;cases h
noncomputable def ZqW (n:Nat):Zo:=fun args σ K=>match args,σ with
 | [.d (.sl rows),.d (.str sp)],⟨[],[],0⟩=>∃l:List Bs,rows=l.map ZY/\(sp=cmm/\szS wBs l<=n/\n<=1073741824)/\K (.ret (.d (.str (Zg cmm l)))) ⟨[],[],0⟩
 | _,_=>False
theorem Zxc {n:Nat}:PC w0 nG 127 (ZqW n):=Yw (Zk Tryz.func127 kR rfl) fun args σ K h e w vs hS ha=>by
 unfold ZqW at h
 split at h
 ·rename_i rows sp
  obtain ⟨l,rfl,⟨rfl,hz,hn⟩,h⟩:=h;obtain ⟨u,v,rfl,hu,hv⟩:=Zhy ha
  cases hv.dstr
  have mb:=Za8 l;have tu:=Zv wBs l;generalize bh:l.map ZY=rows at hu;have eu:l=[]->Zg cmm l=[]:=fun e=>by rw [e];rfl
  have empty:∀a c,rows=[]->Calls Tryz.prog 127 #[.slice a 0 c,.string ⟨cmm.toArray⟩] w fun en w'=>en=.returned (.string ⟨(Zg cmm l).toArray⟩)/\Grows w w':=fun a c hr=>by
   have:l=[]:=by rw [hr] at bh;simpa using bh
   rw [eu this];exact (Tryz.strings_Join_none a c _ w).mono fun en w' ⟨h1,h2⟩=>⟨h1,by rw [h2];exact Grows.refl _⟩
  refine ⟨_,h,.string ⟨(Zg cmm l).toArray⟩,fun _ _=>.mkstr,?_⟩
  cases hu with
  | d _ _ hd =>
  cases hd with
  | slnil=>exact empty _ _ rfl
  | slz a=>exact empty _ _ rfl
  | sl _ b off cap sz u hcap hsz hc ho hu =>
  have aa:rows.length=l.length:=by rw [<- bh,Tf]
  by_cases h0:l=[]
  ·have hr:rows=[]:=by rw [<- bh,h0];rfl
   rw [hr];exact empty _ _ hr
  have ay:=List.length_pos_iff.2 h0;have ib:sz=1:=by
   have:=hsz (ZY l[0]) (by rw [<- bh];exact List.mem_map_of_mem (TB ay));simpa [ZY] using this.symm
  subst ib;have be:∀(j:Nat) x,(l.map fun s=>(⟨s.toArray⟩:ByteArray))[j]?=some x->w.cell? ⟨b,off+j,none⟩=some (.string x):=fun j x hx=>by
   rw [To] at hx;obtain ⟨s,hs,rfl⟩:=TW.1 hx;have hj:=(Th.1 hs).1;have h1:=hc j 0 oM oM;have h2:=hu j 0 (.str s) (by rw [<- bh,To,hs];rfl);generalize huu:u j 0=uu at h1 h2
   cases h2
   simpa using h1
  have wy:(l.map fun s=>(⟨s.toArray⟩:ByteArray)).map (·.data.toList)=l:=by rw [List.map_map];simp [Function.comp_def]
  have hj:=Tryz.strings_Join b off cap (l.map fun s=>(⟨s.toArray⟩:ByteArray)) ⟨cmm.toArray⟩ w be (by
   have:=hc 0 0 oM oM;exact World.block_lt_of_cell? w _ this) (by rw [Tf];omega) (by rw [Tf];omega) (by rw [wy,JH];show (Zg cmm l).length<=_;omega)
  rw [wy,JH,Tf,<- aa] at hj;exact hj.mono fun en w' ⟨h1,h2⟩=>⟨h1,ZDi h2⟩
 exact h.elim
noncomputable def Zxd (n:Nat):Zo:=fun args σ K=>match args,σ with
 | [.d (.sl rows)],⟨[],[],0⟩=>∃l:List Bs,rows=l.map ZY/\(szS wBs l<=n/\n<=1073741824)/\K (.ret (.d (.str (JL l)))) ⟨[],[],0⟩
 | _,_=>False
theorem Zuv {n:Nat}:PC w0 nG 76 (Zxd n):=by
 refine Zd Zc mixed (tbl:=[(127,ZqW n)]) ⟨Zxc,trivial⟩ Tryz.func76 rfl kR kR ?_;intro args σ K h
 unfold Zxd at h
 split at h
 ·obtain ⟨l,rfl,⟨hz,hn⟩,h⟩:=h;have hl:(l.map ZY).length=l.length:=Tf ..;have mb:=Za8 l;refine ⟨Zb [],0,false,sM,Ta rfl,wN ?_⟩;refine ZDc (fun c=>wN ?_) (fun c=>wN ?_)
  ·have c:l.length=0:=by have c:((l.map ZY).length:Int)=0:=c;omega
   rw [JL,Tj c] at h;exact h
  have c:¬l.length=0:=by have c:¬((l.map ZY).length:Int)=0:=c;omega
  rw [JL,Tg c] at h;refine ⟨l,rfl,⟨rfl,hz,hn⟩,?_⟩;generalize Zg cmm l=T at h mb |-;(conv=>whnf);refine ⟨by simp only [Tc,Td];omega,wN ?_⟩;refine ⟨by simp only [Tb,Tc,Td];omega,wN ?_⟩;exact h
 exact h.elim
end Go.PM.Lex
end

section
namespace Go.PM.Lex
open Go.Proofs
variable {w0:World} {nG:Nat}
def ZxQ (x:Un):Bool:=ZdA x && ZmQ x
def Zta (x:Co):Bool:=Z7 x && ZmR x
theorem Zxe {tys:List Ty} {rels:List Re} {rules:List Ru} {comps:List Co} {inits:List Ini} {overs:List Ov} (h:ZxQ (.mk tys rels rules comps inits overs)=true) :
  (∀x∈tys,Ya x=true)/\(∀x∈rels,X9 x=true)/\(∀x∈rules,Zzx x=true)/\∀x∈comps,Zta x=true:=by
 simp only [ZxQ,Tl] at h;obtain ⟨h,hr⟩:=h;obtain ⟨m1,m2,m3,m4,m5,m6⟩:=Zxb h;simp only [ZmQ,Zal,Tl] at hr;have r1:=Tm.1 hr.1;have r2:=Tm.1 hr.2;exact ⟨m1,m2,fun x hx=>by rw [Zzx,m3 x hx,r1 x hx];rfl,fun x hx=>by rw [Zta,m4 x hx,r2 x hx];rfl⟩
theorem Ztb {nm:Bs} {ps:List Bs} {base:Bs} {tys:List Bs} {u:Un} {a:Nat} (h:Zta (.mk nm ps base tys u a)=true):ZxQ u=true:=by
 simp only [Zta,Tl] at h;rw [ZxQ,(Zs8 h.1).2.2.2.2];have:=h.2;rw [ZmR] at this;rw [this];rfl
def Zry (r:Ru):Bs:=ruT r++[10]
noncomputable def ZzE (body:List PV->Bs->Prop):Zo:=fun args σ K=>match args,σ with
 | .ptr 0 0::rest,⟨[.cells t [p,.sl 0 e rows]],[0],1⟩=>∃l txt,rows=Zj l/\((p=.d .nilp\/p=.ptr 0 0)/\t=115/\e=5)/\body rest txt/\l.length+txt.length<70368744177664 /\
   ∀p',(p'=.d .nilp\/p'=.ptr 0 0)->K (.ret (.tuple [])) ⟨[.cells t [p',.sl 0 e (Zj (l++txt))]],[0],1⟩
 | _,_=>False
noncomputable def ZxR (n:Nat):Zo:=ZzE fun rest txt=>∃pl x,rest=[YJ Xb pl x]/\(ZxQ x=true/\wUn x<=n/\n<=1073741824)/\txt=unT x
theorem Vp {α:Type} (T:α->Bs) {xs:List α} {i:Nat} (h:i<xs.length):((xs.take (i+1)).map T).flatten=((xs.take i).map T).flatten++T xs[i]:=by
 rw [List.take_succ_eq_append_getElem h,Sp,List.flatten_append];simp
theorem Za9 {α:Type} (T:α->Bs) (xs:List α) (i:Nat):((xs.take i).map T).flatten.length<=(xs.map T).flatten.length:=by
 have e:(xs.map T).flatten=((xs.take i).map T).flatten++((xs.drop i).map T).flatten:=by rw [<- List.flatten_append,<- Sp,List.take_append_drop]
 rw [e,Tb];omega
noncomputable def ZzF (n:Nat):Tbl:=[(72,Zeb),(73,Zs9 n),(74,ZqF 75 (fun _=>Zn) Xq caT wCa n),(76,Zxd n),(77,ZAy n),(38,spB ZxR n)]
theorem ZzG {n:Nat} (ht:TO w0 nG (ZzF n)):PC w0 nG 38 (ZxR n):=by
 refine ZuN Zc mixed (tbl:=ZzF n) ht Tryz.func38 rfl kR kR ?_;intro args σ K h
 unfold ZxR ZzE at h
 split at h
 ·rename_i rest t p e rows
  obtain ⟨l,txt,rfl,⟨hp,rfl,rfl⟩,⟨pl,⟨tys,rels,rules,comps,inits,overs⟩,rfl,⟨co,hz,hn⟩,rfl⟩,aa,h⟩:=h;obtain ⟨m1,m2,m3,m4⟩:=Zxe co;have hz:szS wTy tys+szS wRe rels+szS wRu rules+szS wCo comps+szS wIn inits+szS wOv overs+1<=n:=by rw [wUn,W3] at hz;omega
  have hu:unT (.mk tys rels rules comps inits overs)=(tys.map tyT).flatten++((rels.map reT).flatten++((comps.map coT).flatten++((inits.map inT).flatten++((overs.map ovT).flatten++(rules.map Zry).flatten)))):=by rw [unT,Zwe];rfl
  rw [hu] at aa;simp only [Tb] at aa;have h:∀p',(p'=.d .nilp\/p'=.ptr 0 0)->K (.ret (.tuple [])) ⟨[.cells 115 [p',.sl 0 5 (Zj (l++(tys.map tyT).flatten++(rels.map reT).flatten++(comps.map coT).flatten++(inits.map inT).flatten++(overs.map ovT).flatten++(rules.map Zry).flatten))]],[0],1⟩:=by
   rw [hu] at h;simpa only [Tk] using h
  have ec:ZhN pl comps=comps.map (YY pl):=YH pl comps;have s1:=Zv wTy tys;have s2:=Zv wRe rels;have s3:=Zv wRu rules;have s4:=Zv wCo comps;have s5:=Zv wIn inits;have s6:=Zv wOv overs;refine ⟨Zb [(2,⟨[21],[2,3,19,20],fun vs σ=>∃(i:Nat) (P:PV),vs=[.d (.int .i64 i)]/\σ=⟨[.cells 115 [P,.sl 0 5 (Zj (l++((tys.take i).map tyT).flatten))],.cells 109 [.ptr 0 0],.cells 80 ((Xb pl (.mk tys rels rules comps inits overs)).map .d)],[0],1⟩/\(P=.d .nilp\/P=.ptr 0 0)/\i<=tys.length,mu1 tys.length⟩),(15,⟨[60],[2,3,58,59],fun vs σ=>∃(i:Nat) (P:PV),vs=[.d (.int .i64 i)]/\σ=⟨[.cells 115 [P,.sl 0 5 (Zj (l++(tys.map tyT).flatten++((rels.take i).map reT).flatten))],.cells 109 [.ptr 0 0],.cells 80 ((Xb pl (.mk tys rels rules comps inits overs)).map .d)],[0],1⟩/\(P=.d .nilp\/P=.ptr 0 0)/\i<=rels.length,mu1 rels.length⟩),(27,⟨[98],[2,3,96,97],fun vs σ=>∃(i:Nat) (P:PV),vs=[.d (.int .i64 i)]/\σ=⟨[.cells 115 [P,.sl 0 5 (Zj (l++(tys.map tyT).flatten++(rels.map reT).flatten++((comps.take i).map coT).flatten))],.cells 109 [.ptr 0 0],.cells 80 ((Xb pl (.mk tys rels rules comps inits overs)).map .d)],[0],1⟩/\(P=.d .nilp\/P=.ptr 0 0)/\i<=comps.length,mu1 comps.length⟩),(37,⟨[135],[2,3,133,134],fun vs σ=>∃(i:Nat) (P:PV),vs=[.d (.int .i64 i)]/\σ=⟨[.cells 115 [P,.sl 0 5 (Zj (l++(tys.map tyT).flatten++(rels.map reT).flatten++(comps.map coT).flatten++((inits.take i).map inT).flatten))],.cells 109 [.ptr 0 0],.cells 80 ((Xb pl (.mk tys rels rules comps inits overs)).map .d)],[0],1⟩/\(P=.d .nilp\/P=.ptr 0 0)/\i<=inits.length,mu1 inits.length⟩),(42,⟨[153],[2,3,151,152],fun vs σ=>∃(i:Nat) (P:PV),vs=[.d (.int .i64 i)]/\σ=⟨[.cells 115 [P,.sl 0 5 (Zj (l++(tys.map tyT).flatten++(rels.map reT).flatten++(comps.map coT).flatten++(inits.map inT).flatten++((overs.take i).map ovT).flatten))],.cells 109 [.ptr 0 0],.cells 80 ((Xb pl (.mk tys rels rules comps inits overs)).map .d)],[0],1⟩/\(P=.d .nilp\/P=.ptr 0 0)/\i<=overs.length,mu1 overs.length⟩),(47,⟨[166],[2,3,164,165],fun vs σ=>∃(i:Nat) (P:PV),vs=[.d (.int .i64 i)]/\σ=⟨[.cells 115 [P,.sl 0 5 (Zj (l++(tys.map tyT).flatten++(rels.map reT).flatten++(comps.map coT).flatten++(inits.map inT).flatten++(overs.map ovT).flatten++((rules.take i).map Zry).flatten))],.cells 109 [.ptr 0 0],.cells 80 ((Xb pl (.mk tys rels rules comps inits overs)).map .d)],[0],1⟩/\(P=.d .nilp\/P=.ptr 0 0)/\i<=rules.length,mu1 rules.length⟩)],VV [(19,4)],Xj [],Xj [],Xj [],ZxZ [(14,([2,3],fun vs σ=>∃P:PV,vs=[.ptr 1 0,.ptr 2 0]/\σ=⟨[.cells 115 [P,.sl 0 5 (Zj (l++(tys.map tyT).flatten))],.cells 109 [.ptr 0 0],.cells 80 ((Xb pl (.mk tys rels rules comps inits overs)).map .d)],[0],1⟩/\(P=.d .nilp\/P=.ptr 0 0))),(26,([2,3],fun vs σ=>∃P:PV,vs=[.ptr 1 0,.ptr 2 0]/\σ=⟨[.cells 115 [P,.sl 0 5 (Zj (l++(tys.map tyT).flatten++(rels.map reT).flatten))],.cells 109 [.ptr 0 0],.cells 80 ((Xb pl (.mk tys rels rules comps inits overs)).map .d)],[0],1⟩/\(P=.d .nilp\/P=.ptr 0 0))),(36,([2,3],fun vs σ=>∃P:PV,vs=[.ptr 1 0,.ptr 2 0]/\σ=⟨[.cells 115 [P,.sl 0 5 (Zj (l++(tys.map tyT).flatten++(rels.map reT).flatten++(comps.map coT).flatten))],.cells 109 [.ptr 0 0],.cells 80 ((Xb pl (.mk tys rels rules comps inits overs)).map .d)],[0],1⟩/\(P=.d .nilp\/P=.ptr 0 0))),(41,([2,3],fun vs σ=>∃P:PV,vs=[.ptr 1 0,.ptr 2 0]/\σ=⟨[.cells 115 [P,.sl 0 5 (Zj (l++(tys.map tyT).flatten++(rels.map reT).flatten++(comps.map coT).flatten++(inits.map inT).flatten))],.cells 109 [.ptr 0 0],.cells 80 ((Xb pl (.mk tys rels rules comps inits overs)).map .d)],[0],1⟩/\(P=.d .nilp\/P=.ptr 0 0))),(46,([2,3],fun vs σ=>∃P:PV,vs=[.ptr 1 0,.ptr 2 0]/\σ=⟨[.cells 115 [P,.sl 0 5 (Zj (l++(tys.map tyT).flatten++(rels.map reT).flatten++(comps.map coT).flatten++(inits.map inT).flatten++(overs.map ovT).flatten))],.cells 109 [.ptr 0 0],.cells 80 ((Xb pl (.mk tys rels rules comps inits overs)).map .d)],[0],1⟩/\(P=.d .nilp\/P=.ptr 0 0)))],1,true,sM,Ta rfl,?_⟩;rcases hp with rfl | rfl
  all_goals
   conv=>whnf
   refine ⟨wN ?_,?_⟩
   ·refine ⟨⟨0,_,rfl,zN,iM,oM⟩,?_⟩;intro vs σ hI
    obtain ⟨i,P,rfl,rfl,hP,hi⟩:=hI;(conv=>whnf);refine ZDc (fun af=>?_) (fun af=>?_)
    ·have cn:(tys.map (Zu pl)).length=tys.length:=Tf ..;have af:i<tys.length:=lzI cn af;have hg:=ZA wTy tys i af;have bw:=Vp tyT af;have aq:=Za9 tyT tys (i+1);have cg:=TB af;obtain ⟨L,hL⟩:∃L,l++((tys.take i).map tyT).flatten=L:=⟨_,rfl⟩
     have nv:L.length=(l).length+((tys.take i).map tyT).flatten.length:=by rw [<- hL,Tb]
     (try simp only [Tb] at nv)
     rw [bw,Tb] at aq;rw [hL];obtain ⟨x,hX⟩:∃x,tys[i]=x:=⟨_,rfl⟩
     rw [hX] at hg cg bw aq;obtain ⟨kd,nm,base,fs,cs,at'⟩:=x;have dl:l++((tys.take (i+1)).map tyT).flatten=L++tyT ⟨kd,nm,base,fs,cs,at'⟩:=by rw [bw,<- Tk,hL]
     have bi:(tys.map (Zu pl))[((i:Nat):Int).toNat]?=some (Zu pl ⟨kd,nm,base,fs,cs,at'⟩):=by simp [af,hX]
     obtain ⟨q1,q2,q3,q4⟩:=Zs7 (m1 _ cg);simp only at q1 q2 q3 q4;have hg2:wTy ⟨kd,nm,base,fs,cs,at'⟩=1+nm.length+base.length+szS wFi fs+szS wCa cs:=rfl;have hw:nm.length+base.length+szS wFi fs+szS wCa cs<=n:=oM;(conv=>whnf);refine ⟨_,oM,bi,?_⟩
     by_cases k1:kd=1
     ·have hT:tyT ⟨kd,nm,base,fs,cs,at'⟩=[116,121,112,101,32]++(nm++(([32,60,58,32]++base)++[10])):=by rw [tyT,Tj k1]
      rw [hT] at aq;simp only [Tb,Tc,Td] at aq;rcases hP with rfl | rfl
      all_goals
       conv=>whnf
       refine ⟨L,[116,121,112,101,32]++nm,rfl,⟨iM,rfl,rfl⟩,⟨[[116,121,112,101,32],nm],rfl,sM,sM,sM⟩,(by (try simp only [Tb,Tc,Td]);omega),?_⟩;(conv=>whnf);refine ZDc (fun _=>?_) (fun g=>absurd (show (kd:Int)=1 by omega) g);(conv=>whnf);refine ⟨L++([116,121,112,101,32]++nm),[32,60,58,32]++base,rfl,⟨.inr rfl,rfl,rfl⟩,⟨[[32,60,58,32],base],rfl,sM,sM,sM⟩,(by (try simp only [Tb,Tc,Td]);omega),?_⟩;(conv=>whnf);refine ⟨L++([116,121,112,101,32]++nm)++([32,60,58,32]++base),[10],rfl,⟨.inr rfl,rfl,rfl⟩,⟨[[10]],rfl,sM,sM,sM⟩,(by (try simp only [Tb,Tc,Td]);omega),?_⟩;(conv=>whnf);refine Or.inl ⟨InR.i64 oM oM,wN ?_⟩;refine ⟨⟨i+1,_,rfl,(by rw [dl,hT];simp only [Tk];rfl),.inr rfl,oM⟩,?_⟩;exact lzM oM
     by_cases k2:kd=2
     ·have hT:tyT ⟨kd,nm,base,fs,cs,at'⟩=[116,121,112,101,32]++(nm++(Vn [32,61,32,91] fs [93]++[10])):=by rw [tyT,Tg k1,Tj k2]
      rw [hT] at aq;simp only [Tb,Tc,Td] at aq;rcases hP with rfl | rfl
      all_goals
       conv=>whnf
       refine ⟨L,[116,121,112,101,32]++nm,rfl,⟨iM,rfl,rfl⟩,⟨[[116,121,112,101,32],nm],rfl,sM,sM,sM⟩,(by (try simp only [Tb,Tc,Td]);omega),?_⟩;(conv=>whnf);refine ZDc (fun g=>absurd (show kd=1 by have g:(kd:Int)=1:=g;omega) k1) (fun _=>wN ?_);refine ZDc (fun _=>?_) (fun g=>absurd (show (kd:Int)=2 by omega) g);(conv=>whnf);refine ⟨L++([116,121,112,101,32]++nm),Vn [32,61,32,91] fs [93],rfl,⟨.inr rfl,rfl,rfl⟩,⟨[32,61,32,91],[93],fs,rfl,⟨Tm.2 q2,oM,oM⟩,rfl⟩,(by (try simp only [Tb,Tc,Td]);omega),?_⟩;(conv=>whnf);refine ⟨L++([116,121,112,101,32]++nm)++Vn [32,61,32,91] fs [93],[10],rfl,⟨.inr rfl,rfl,rfl⟩,⟨[[10]],rfl,sM,sM,sM⟩,(by (try simp only [Tb,Tc,Td]);omega),?_⟩;(conv=>whnf);refine Or.inl ⟨InR.i64 oM oM,wN ?_⟩;refine ⟨⟨i+1,_,rfl,(by rw [dl,hT];simp only [Tk];rfl),.inr rfl,oM⟩,?_⟩;exact lzM oM
     have hT:tyT ⟨kd,nm,base,fs,cs,at'⟩=[116,121,112,101,32]++(nm++([32,61,32]++(Zg [32,124,32] (cs.map caT)++[10]))):=by rw [tyT,Tg k1,Tg k2];simp only [Tk]
     rw [hT] at aq;simp only [Tb,Tc,Td] at aq;rcases hP with rfl | rfl
     all_goals
      conv=>whnf
      refine ⟨L,[116,121,112,101,32]++nm,rfl,⟨iM,rfl,rfl⟩,⟨[[116,121,112,101,32],nm],rfl,sM,sM,sM⟩,(by (try simp only [Tb,Tc,Td]);omega),?_⟩;(conv=>whnf);refine ZDc (fun g=>absurd (show kd=1 by have g:(kd:Int)=1:=g;omega) k1) (fun _=>wN ?_);refine ZDc (fun g=>absurd (show kd=2 by have g:(kd:Int)=2:=g;omega) k2) (fun _=>wN ?_);refine ⟨L++([116,121,112,101,32]++nm),[32,61,32],rfl,⟨.inr rfl,rfl,rfl⟩,⟨[[32,61,32]],rfl,sM,sM,sM⟩,(by (try simp only [Tb,Tc,Td]);omega),?_⟩;(conv=>whnf);refine ⟨L++([116,121,112,101,32]++nm)++[32,61,32],fun _=>0,cs,rfl,rfl,⟨rfl,rfl,rfl⟩,⟨Tm.2 q3,oM,oM⟩,(by (try simp only [Tb,Tc,Td]);show _+(Zg [32,124,32] (cs.map caT)).length<_;omega),?_⟩;(conv=>whnf);refine ⟨L++([116,121,112,101,32]++nm)++[32,61,32]++Zg [32,124,32] (cs.map caT),[10],rfl,⟨.inr rfl,rfl,rfl⟩,⟨[[10]],rfl,sM,sM,sM⟩,(by (try simp only [Tb,Tc,Td]);omega),?_⟩;(conv=>whnf);refine Or.inl ⟨InR.i64 oM oM,wN ?_⟩;refine ⟨⟨i+1,_,rfl,(by rw [dl,hT];simp only [Tk];rfl),.inr rfl,oM⟩,?_⟩;exact lzM oM
    have af:i=tys.length:=by
     have cn:(tys.map (Zu pl)).length=tys.length:=Tf ..;have af:¬(i:Int)<(tys.map (Zu pl)).length:=af;rw [cn] at af;omega
    subst af;rw [T3];rcases hP with rfl | rfl
    all_goals
     conv=>whnf
     exact ⟨_,rfl,rfl,iM⟩
   intro vs σ hI
   obtain ⟨P,rfl,rfl,hP⟩:=hI;(conv=>whnf);refine ⟨?_,?_⟩
   ·rcases hP with rfl | rfl
    all_goals
     conv=>whnf
     refine ⟨⟨0,_,rfl,zN,iM,oM⟩,?_⟩;intro vs σ hI
     obtain ⟨i,P,rfl,rfl,hP,hi⟩:=hI;(conv=>whnf);refine ZDc (fun af=>?_) (fun af=>?_)
     ·have cn:(rels.map (ZN pl)).length=rels.length:=Tf ..;have af:i<rels.length:=lzI cn af;have hg:=ZA wRe rels i af;have bw:=Vp reT af;have aq:=Za9 reT rels (i+1);have cg:=TB af;obtain ⟨L,hL⟩:∃L,l++(tys.map tyT).flatten++((rels.take i).map reT).flatten=L:=⟨_,rfl⟩
      have nv:L.length=(l++(tys.map tyT).flatten).length+((rels.take i).map reT).flatten.length:=by rw [<- hL,Tb]
      (try simp only [Tb] at nv)
      rw [bw,Tb] at aq;rw [hL];obtain ⟨x,hX⟩:∃x,rels[i]=x:=⟨_,rfl⟩
      rw [hX] at hg cg bw aq;obtain ⟨nm,fs,b1,b2,b3,at'⟩:=x;have dl:l++(tys.map tyT).flatten++((rels.take (i+1)).map reT).flatten=L++reT ⟨nm,fs,b1,b2,b3,at'⟩:=by rw [bw,<- Tk,hL]
      have bi:(rels.map (ZN pl))[((i:Nat):Int).toNat]?=some (ZN pl ⟨nm,fs,b1,b2,b3,at'⟩):=by simp [af,hX]
      have q:=m2 _ cg;simp only [X9,Tl] at q;obtain ⟨q1,q2⟩:=q;have q2:=Tm.1 q2;have hg2:wRe ⟨nm,fs,b1,b2,b3,at'⟩=1+nm.length+szS wFi fs:=rfl;have hw:nm.length+szS wFi fs<=n:=oM;(conv=>whnf);refine ⟨_,oM,bi,?_⟩;have qv:reT ⟨nm,fs,b1,b2,b3,at'⟩=Vn ([100,101,99,108,32]++nm++[40]) fs [41]++((if b1 then [32,105,110,112,117,116] else [])++((if b2 then [32,111,117,116,112,117,116] else [])++((if b3 then [32,105,110,108,105,110,101] else [])++[10]))):=by rw [reT];simp only [Tk]
      rcases hP with rfl | rfl
      all_goals
       conv=>whnf
       refine ⟨by simp only [Tc,Td];omega,wN ?_⟩;refine ⟨by simp only [Tb,Tc,Td];omega,?_⟩
       cases b1 <;> cases b2 <;> cases b3
       ·have hT:=qv;simp only [if_true,Tp,if_false,Sg] at hT;rw [hT] at aq;simp only [Tb,Tc,Td] at aq;(conv=>whnf);refine ⟨L,Vn ([100,101,99,108,32]++nm++[40]) fs [41],rfl,⟨iM,rfl,rfl⟩,⟨([100,101,99,108,32]++nm++[40]),[41],fs,rfl,⟨Tm.2 q2,oM,oM⟩,rfl⟩,(by (try simp only [Tb,Tc,Td]);omega),?_⟩;(conv=>whnf);refine ⟨dM,dM,wN ?_⟩;refine Or.inl ⟨InR.i64 dM dM,wN ?_⟩;refine ⟨dM,dM,wN ?_⟩;refine Or.inl ⟨InR.i64 dM dM,wN ?_⟩;refine ⟨dM,dM,wN ?_⟩;refine Or.inl ⟨InR.i64 dM dM,wN ?_⟩;refine ⟨L++Vn ([100,101,99,108,32]++nm++[40]) fs [41],[10],rfl,⟨.inr rfl,rfl,rfl⟩,⟨[[10]],rfl,sM,sM,sM⟩,(by (try simp only [Tb,Tc,Td]);omega),?_⟩;exact m23
       ·have hT:=qv;simp only [if_true,Tp,if_false,Sg] at hT;rw [hT] at aq;simp only [Tb,Tc,Td] at aq;(conv=>whnf);refine ⟨L,Vn ([100,101,99,108,32]++nm++[40]) fs [41],rfl,⟨iM,rfl,rfl⟩,⟨([100,101,99,108,32]++nm++[40]),[41],fs,rfl,⟨Tm.2 q2,oM,oM⟩,rfl⟩,(by (try simp only [Tb,Tc,Td]);omega),?_⟩;(conv=>whnf);refine ⟨dM,dM,wN ?_⟩;refine Or.inl ⟨InR.i64 dM dM,wN ?_⟩;refine ⟨dM,dM,wN ?_⟩;refine Or.inl ⟨InR.i64 dM dM,wN ?_⟩;refine ⟨dM,dM,wN ?_⟩;refine ⟨dM,dM,wN ?_⟩;refine ⟨L++Vn ([100,101,99,108,32]++nm++[40]) fs [41],[32,105,110,108,105,110,101],rfl,⟨.inr rfl,rfl,rfl⟩,⟨[[32,105,110,108,105,110,101]],rfl,sM,sM,sM⟩,(by (try simp only [Tb,Tc,Td]);omega),?_⟩;(conv=>whnf)
        (repeat (refine ⟨rfl,?_⟩;conv=>whnf))
        conv=>whnf
        refine Or.inl ⟨InR.i64 dM dM,wN ?_⟩;refine ⟨L++Vn ([100,101,99,108,32]++nm++[40]) fs [41]++[32,105,110,108,105,110,101],[10],rfl,⟨.inr rfl,rfl,rfl⟩,⟨[[10]],rfl,sM,sM,sM⟩,(by (try simp only [Tb,Tc,Td]);omega),?_⟩;exact m23
       ·have hT:=qv;simp only [if_true,Tp,if_false,Sg] at hT;rw [hT] at aq;simp only [Tb,Tc,Td] at aq;(conv=>whnf);refine ⟨L,Vn ([100,101,99,108,32]++nm++[40]) fs [41],rfl,⟨iM,rfl,rfl⟩,⟨([100,101,99,108,32]++nm++[40]),[41],fs,rfl,⟨Tm.2 q2,oM,oM⟩,rfl⟩,(by (try simp only [Tb,Tc,Td]);omega),?_⟩;(conv=>whnf);refine ⟨dM,dM,wN ?_⟩;refine Or.inl ⟨InR.i64 dM dM,wN ?_⟩;refine ⟨dM,dM,wN ?_⟩;refine ⟨dM,dM,wN ?_⟩;refine ⟨L++Vn ([100,101,99,108,32]++nm++[40]) fs [41],[32,111,117,116,112,117,116],rfl,⟨.inr rfl,rfl,rfl⟩,⟨[[32,111,117,116,112,117,116]],rfl,sM,sM,sM⟩,(by (try simp only [Tb,Tc,Td]);omega),?_⟩;(conv=>whnf)
        (repeat (refine ⟨rfl,?_⟩;conv=>whnf))
        conv=>whnf
        refine Or.inl ⟨InR.i64 dM dM,wN ?_⟩;refine ⟨dM,dM,wN ?_⟩;refine Or.inl ⟨InR.i64 dM dM,wN ?_⟩;refine ⟨L++Vn ([100,101,99,108,32]++nm++[40]) fs [41]++[32,111,117,116,112,117,116],[10],rfl,⟨.inr rfl,rfl,rfl⟩,⟨[[10]],rfl,sM,sM,sM⟩,(by (try simp only [Tb,Tc,Td]);omega),?_⟩;exact m23
       ·have hT:=qv;simp only [if_true,Tp,if_false,Sg] at hT;rw [hT] at aq;simp only [Tb,Tc,Td] at aq;(conv=>whnf);refine ⟨L,Vn ([100,101,99,108,32]++nm++[40]) fs [41],rfl,⟨iM,rfl,rfl⟩,⟨([100,101,99,108,32]++nm++[40]),[41],fs,rfl,⟨Tm.2 q2,oM,oM⟩,rfl⟩,(by (try simp only [Tb,Tc,Td]);omega),?_⟩;(conv=>whnf);refine ⟨dM,dM,wN ?_⟩;refine Or.inl ⟨InR.i64 dM dM,wN ?_⟩;refine ⟨dM,dM,wN ?_⟩;refine ⟨dM,dM,wN ?_⟩;refine ⟨L++Vn ([100,101,99,108,32]++nm++[40]) fs [41],[32,111,117,116,112,117,116],rfl,⟨.inr rfl,rfl,rfl⟩,⟨[[32,111,117,116,112,117,116]],rfl,sM,sM,sM⟩,(by (try simp only [Tb,Tc,Td]);omega),?_⟩;(conv=>whnf)
        (repeat (refine ⟨rfl,?_⟩;conv=>whnf))
        conv=>whnf
        refine Or.inl ⟨InR.i64 dM dM,wN ?_⟩;refine ⟨dM,dM,wN ?_⟩;refine ⟨dM,dM,wN ?_⟩;refine ⟨L++Vn ([100,101,99,108,32]++nm++[40]) fs [41]++[32,111,117,116,112,117,116],[32,105,110,108,105,110,101],rfl,⟨.inr rfl,rfl,rfl⟩,⟨[[32,105,110,108,105,110,101]],rfl,sM,sM,sM⟩,(by (try simp only [Tb,Tc,Td]);omega),?_⟩;(conv=>whnf)
        (repeat (refine ⟨rfl,?_⟩;conv=>whnf))
        conv=>whnf
        refine Or.inl ⟨InR.i64 dM dM,wN ?_⟩;refine ⟨L++Vn ([100,101,99,108,32]++nm++[40]) fs [41]++[32,111,117,116,112,117,116]++[32,105,110,108,105,110,101],[10],rfl,⟨.inr rfl,rfl,rfl⟩,⟨[[10]],rfl,sM,sM,sM⟩,(by (try simp only [Tb,Tc,Td]);omega),?_⟩;exact m23
       ·have hT:=qv;simp only [if_true,Tp,if_false,Sg] at hT;rw [hT] at aq;simp only [Tb,Tc,Td] at aq;(conv=>whnf);refine ⟨L,Vn ([100,101,99,108,32]++nm++[40]) fs [41],rfl,⟨iM,rfl,rfl⟩,⟨([100,101,99,108,32]++nm++[40]),[41],fs,rfl,⟨Tm.2 q2,oM,oM⟩,rfl⟩,(by (try simp only [Tb,Tc,Td]);omega),?_⟩;(conv=>whnf);refine ⟨dM,dM,wN ?_⟩;refine ⟨dM,dM,wN ?_⟩;refine ⟨L++Vn ([100,101,99,108,32]++nm++[40]) fs [41],[32,105,110,112,117,116],rfl,⟨.inr rfl,rfl,rfl⟩,⟨[[32,105,110,112,117,116]],rfl,sM,sM,sM⟩,(by (try simp only [Tb,Tc,Td]);omega),?_⟩;(conv=>whnf)
        (repeat (refine ⟨rfl,?_⟩;conv=>whnf))
        conv=>whnf
        refine Or.inl ⟨InR.i64 dM dM,wN ?_⟩;refine ⟨dM,dM,wN ?_⟩;refine Or.inl ⟨InR.i64 dM dM,wN ?_⟩;refine ⟨dM,dM,wN ?_⟩;refine Or.inl ⟨InR.i64 dM dM,wN ?_⟩;refine ⟨L++Vn ([100,101,99,108,32]++nm++[40]) fs [41]++[32,105,110,112,117,116],[10],rfl,⟨.inr rfl,rfl,rfl⟩,⟨[[10]],rfl,sM,sM,sM⟩,(by (try simp only [Tb,Tc,Td]);omega),?_⟩;exact m23
       ·have hT:=qv;simp only [if_true,Tp,if_false,Sg] at hT;rw [hT] at aq;simp only [Tb,Tc,Td] at aq;(conv=>whnf);refine ⟨L,Vn ([100,101,99,108,32]++nm++[40]) fs [41],rfl,⟨iM,rfl,rfl⟩,⟨([100,101,99,108,32]++nm++[40]),[41],fs,rfl,⟨Tm.2 q2,oM,oM⟩,rfl⟩,(by (try simp only [Tb,Tc,Td]);omega),?_⟩;(conv=>whnf);refine ⟨dM,dM,wN ?_⟩;refine ⟨dM,dM,wN ?_⟩;refine ⟨L++Vn ([100,101,99,108,32]++nm++[40]) fs [41],[32,105,110,112,117,116],rfl,⟨.inr rfl,rfl,rfl⟩,⟨[[32,105,110,112,117,116]],rfl,sM,sM,sM⟩,(by (try simp only [Tb,Tc,Td]);omega),?_⟩;(conv=>whnf)
        (repeat (refine ⟨rfl,?_⟩;conv=>whnf))
        conv=>whnf
        refine Or.inl ⟨InR.i64 dM dM,wN ?_⟩;refine ⟨dM,dM,wN ?_⟩;refine Or.inl ⟨InR.i64 dM dM,wN ?_⟩;refine ⟨dM,dM,wN ?_⟩;refine ⟨dM,dM,wN ?_⟩;refine ⟨L++Vn ([100,101,99,108,32]++nm++[40]) fs [41]++[32,105,110,112,117,116],[32,105,110,108,105,110,101],rfl,⟨.inr rfl,rfl,rfl⟩,⟨[[32,105,110,108,105,110,101]],rfl,sM,sM,sM⟩,(by (try simp only [Tb,Tc,Td]);omega),?_⟩;(conv=>whnf)
        (repeat (refine ⟨rfl,?_⟩;conv=>whnf))
        conv=>whnf
        refine Or.inl ⟨InR.i64 dM dM,wN ?_⟩;refine ⟨L++Vn ([100,101,99,108,32]++nm++[40]) fs [41]++[32,105,110,112,117,116]++[32,105,110,108,105,110,101],[10],rfl,⟨.inr rfl,rfl,rfl⟩,⟨[[10]],rfl,sM,sM,sM⟩,(by (try simp only [Tb,Tc,Td]);omega),?_⟩;exact m23
       ·have hT:=qv;simp only [if_true,Tp,if_false,Sg] at hT;rw [hT] at aq;simp only [Tb,Tc,Td] at aq;(conv=>whnf);refine ⟨L,Vn ([100,101,99,108,32]++nm++[40]) fs [41],rfl,⟨iM,rfl,rfl⟩,⟨([100,101,99,108,32]++nm++[40]),[41],fs,rfl,⟨Tm.2 q2,oM,oM⟩,rfl⟩,(by (try simp only [Tb,Tc,Td]);omega),?_⟩;(conv=>whnf);refine ⟨dM,dM,wN ?_⟩;refine ⟨dM,dM,wN ?_⟩;refine ⟨L++Vn ([100,101,99,108,32]++nm++[40]) fs [41],[32,105,110,112,117,116],rfl,⟨.inr rfl,rfl,rfl⟩,⟨[[32,105,110,112,117,116]],rfl,sM,sM,sM⟩,(by (try simp only [Tb,Tc,Td]);omega),?_⟩;(conv=>whnf)
        (repeat (refine ⟨rfl,?_⟩;conv=>whnf))
        conv=>whnf
        refine Or.inl ⟨InR.i64 dM dM,wN ?_⟩;refine ⟨dM,dM,wN ?_⟩;refine ⟨dM,dM,wN ?_⟩;refine ⟨L++Vn ([100,101,99,108,32]++nm++[40]) fs [41]++[32,105,110,112,117,116],[32,111,117,116,112,117,116],rfl,⟨.inr rfl,rfl,rfl⟩,⟨[[32,111,117,116,112,117,116]],rfl,sM,sM,sM⟩,(by (try simp only [Tb,Tc,Td]);omega),?_⟩;(conv=>whnf)
        (repeat (refine ⟨rfl,?_⟩;conv=>whnf))
        conv=>whnf
        refine Or.inl ⟨InR.i64 dM dM,wN ?_⟩;refine ⟨dM,dM,wN ?_⟩;refine Or.inl ⟨InR.i64 dM dM,wN ?_⟩;refine ⟨L++Vn ([100,101,99,108,32]++nm++[40]) fs [41]++[32,105,110,112,117,116]++[32,111,117,116,112,117,116],[10],rfl,⟨.inr rfl,rfl,rfl⟩,⟨[[10]],rfl,sM,sM,sM⟩,(by (try simp only [Tb,Tc,Td]);omega),?_⟩;exact m23
       have hT:=qv;simp only [if_true,Tp,if_false,Sg] at hT;rw [hT] at aq;simp only [Tb,Tc,Td] at aq;(conv=>whnf);refine ⟨L,Vn ([100,101,99,108,32]++nm++[40]) fs [41],rfl,⟨iM,rfl,rfl⟩,⟨([100,101,99,108,32]++nm++[40]),[41],fs,rfl,⟨Tm.2 q2,oM,oM⟩,rfl⟩,(by (try simp only [Tb,Tc,Td]);omega),?_⟩;(conv=>whnf);refine ⟨dM,dM,wN ?_⟩;refine ⟨dM,dM,wN ?_⟩;refine ⟨L++Vn ([100,101,99,108,32]++nm++[40]) fs [41],[32,105,110,112,117,116],rfl,⟨.inr rfl,rfl,rfl⟩,⟨[[32,105,110,112,117,116]],rfl,sM,sM,sM⟩,(by (try simp only [Tb,Tc,Td]);omega),?_⟩;(conv=>whnf)
       (repeat (refine ⟨rfl,?_⟩;conv=>whnf))
       conv=>whnf
       refine Or.inl ⟨InR.i64 dM dM,wN ?_⟩;refine ⟨dM,dM,wN ?_⟩;refine ⟨dM,dM,wN ?_⟩;refine ⟨L++Vn ([100,101,99,108,32]++nm++[40]) fs [41]++[32,105,110,112,117,116],[32,111,117,116,112,117,116],rfl,⟨.inr rfl,rfl,rfl⟩,⟨[[32,111,117,116,112,117,116]],rfl,sM,sM,sM⟩,(by (try simp only [Tb,Tc,Td]);omega),?_⟩;(conv=>whnf)
       (repeat (refine ⟨rfl,?_⟩;conv=>whnf))
       conv=>whnf
       refine Or.inl ⟨InR.i64 dM dM,wN ?_⟩;refine ⟨dM,dM,wN ?_⟩;refine ⟨dM,dM,wN ?_⟩;refine ⟨L++Vn ([100,101,99,108,32]++nm++[40]) fs [41]++[32,105,110,112,117,116]++[32,111,117,116,112,117,116],[32,105,110,108,105,110,101],rfl,⟨.inr rfl,rfl,rfl⟩,⟨[[32,105,110,108,105,110,101]],rfl,sM,sM,sM⟩,(by (try simp only [Tb,Tc,Td]);omega),?_⟩;(conv=>whnf)
       (repeat (refine ⟨rfl,?_⟩;conv=>whnf))
       conv=>whnf
       refine Or.inl ⟨InR.i64 dM dM,wN ?_⟩;refine ⟨L++Vn ([100,101,99,108,32]++nm++[40]) fs [41]++[32,105,110,112,117,116]++[32,111,117,116,112,117,116]++[32,105,110,108,105,110,101],[10],rfl,⟨.inr rfl,rfl,rfl⟩,⟨[[10]],rfl,sM,sM,sM⟩,(by (try simp only [Tb,Tc,Td]);omega),?_⟩;exact m23
     have af:i=rels.length:=by
      have cn:(rels.map (ZN pl)).length=rels.length:=Tf ..;have af:¬(i:Int)<(rels.map (ZN pl)).length:=af;rw [cn] at af;omega
     subst af;rw [T3];rcases hP with rfl | rfl
     all_goals
      conv=>whnf
      exact ⟨_,rfl,rfl,iM⟩
   intro vs σ hI
   obtain ⟨P,rfl,rfl,hP⟩:=hI;(conv=>whnf);refine ⟨?_,?_⟩
   ·rcases hP with rfl | rfl
    all_goals
     conv=>whnf
     refine ⟨⟨0,_,rfl,zN,iM,oM⟩,?_⟩;intro vs σ hI
     obtain ⟨i,P,rfl,rfl,hP,hi⟩:=hI;(conv=>whnf);refine ZDc (fun af=>?_) (fun af=>?_)
     ·have cn:(comps.map (YY pl)).length=comps.length:=Tf ..;have af:i<comps.length:=by have af:(i:Int)<(comps.map (YY pl)).length:=(by rw [<- ec];exact af);rw [cn] at af;omega
      have hg:=ZA wCo comps i af;have bw:=Vp coT af;have aq:=Za9 coT comps (i+1);have cg:=TB af;obtain ⟨L,hL⟩:∃L,l++(tys.map tyT).flatten++(rels.map reT).flatten++((comps.take i).map coT).flatten=L:=⟨_,rfl⟩
      have nv:L.length=(l++(tys.map tyT).flatten++(rels.map reT).flatten).length+((comps.take i).map coT).flatten.length:=by rw [<- hL,Tb]
      (try simp only [Tb] at nv)
      rw [bw,Tb] at aq;rw [hL];obtain ⟨x,hX⟩:∃x,comps[i]=x:=⟨_,rfl⟩
      rw [hX] at hg cg bw aq;obtain ⟨nm,ps,base,ts,⟨u1,u2,u3,u4,u5,u6⟩,at'⟩:=x;have dl:l++(tys.map tyT).flatten++(rels.map reT).flatten++((comps.take (i+1)).map coT).flatten=L++coT (.mk nm ps base ts (.mk u1 u2 u3 u4 u5 u6) at'):=by rw [bw,<- Tk,hL]
      have bi:(comps.map (YY pl))[((i:Nat):Int).toNat]?=some (YY pl (.mk nm ps base ts (.mk u1 u2 u3 u4 u5 u6) at')):=by simp [af,hX]
      have hu:=Ztb (m4 _ cg);have hw:nm.length+szS wBs ps+base.length+szS wBs ts+wUn (.mk u1 u2 u3 u4 u5 u6)+1<=n:=by rw [wCo] at hg;omega
      rw [<- ec] at bi;(conv=>whnf);refine ⟨_,oM,bi,?_⟩
      by_cases k1:base=[]
      ·have hT:coT (.mk nm ps base ts (.mk u1 u2 u3 u4 u5 u6) at')=([99,111,109,112,32]++nm++JL ps)++([32,123,10]++(unT (.mk u1 u2 u3 u4 u5 u6)++([125,10]))):=by rw [coT,Tj k1,Sg];simp only [Tk]
       rw [hT] at aq;simp only [Tb,Tc,Td] at aq;rcases hP with rfl | rfl
       all_goals
        conv=>whnf
        refine ⟨ps,rfl,⟨oM,hn⟩,wN ?_⟩
        (repeat (refine ⟨rfl,?_⟩;conv=>whnf))
        refine ⟨L,[99,111,109,112,32]++nm++JL ps,rfl,⟨iM,rfl,rfl⟩,⟨[[99,111,109,112,32],nm,JL ps],rfl,sM,sM,sM⟩,(by (try simp only [Tb,Tc,Td]);omega),?_⟩;(conv=>whnf)
        (repeat (refine ⟨rfl,?_⟩;conv=>whnf))
        refine ZDe (fun g=>absurd k1 g) (fun _=>wN ?_);refine ⟨L++([99,111,109,112,32]++nm++JL ps),[32,123,10],rfl,⟨.inr rfl,rfl,rfl⟩,⟨[[32,123,10]],rfl,sM,sM,sM⟩,(by (try simp only [Tb,Tc,Td]);omega),?_⟩;(conv=>whnf);refine ⟨oM,L++([99,111,109,112,32]++nm++JL ps)++[32,123,10],unT (.mk u1 u2 u3 u4 u5 u6),rfl,⟨.inr rfl,rfl,rfl⟩,⟨pl,.mk u1 u2 u3 u4 u5 u6,rfl,⟨hu,oM,oM⟩,rfl⟩,(by (try simp only [Tb,Tc,Td]);omega),fun p' gf=>?_⟩;rcases gf with rfl | rfl
        all_goals
         conv=>whnf
         refine ⟨L++([99,111,109,112,32]++nm++JL ps)++[32,123,10]++unT (.mk u1 u2 u3 u4 u5 u6),[125,10],rfl,⟨iM,rfl,rfl⟩,⟨[[125,10]],rfl,sM,sM,sM⟩,(by (try simp only [Tb,Tc,Td]);omega),?_⟩;(conv=>whnf);refine Or.inl ⟨InR.i64 oM oM,wN ?_⟩;refine ⟨⟨i+1,_,rfl,(by rw [dl,hT];simp only [Tk];rfl),.inr rfl,oM⟩,?_⟩;exact lzM oM
      have hT:coT (.mk nm ps base ts (.mk u1 u2 u3 u4 u5 u6) at')=([99,111,109,112,32]++nm++JL ps)++(([32,58,32]++base++JL ts)++([32,123,10]++(unT (.mk u1 u2 u3 u4 u5 u6)++([125,10])))):=by rw [coT,Tg k1];simp only [Tk]
      rw [hT] at aq;simp only [Tb,Tc,Td] at aq;rcases hP with rfl | rfl
      all_goals
       conv=>whnf
       refine ⟨ps,rfl,⟨oM,hn⟩,wN ?_⟩
       (repeat (refine ⟨rfl,?_⟩;conv=>whnf))
       refine ⟨L,[99,111,109,112,32]++nm++JL ps,rfl,⟨iM,rfl,rfl⟩,⟨[[99,111,109,112,32],nm,JL ps],rfl,sM,sM,sM⟩,(by (try simp only [Tb,Tc,Td]);omega),?_⟩;(conv=>whnf)
       (repeat (refine ⟨rfl,?_⟩;conv=>whnf))
       refine ZDe (fun _=>wN ?_) (fun g=>absurd g k1);refine ⟨ts,rfl,⟨oM,hn⟩,wN ?_⟩
       (repeat (refine ⟨rfl,?_⟩;conv=>whnf))
       refine ⟨L++([99,111,109,112,32]++nm++JL ps),[32,58,32]++base++JL ts,rfl,⟨.inr rfl,rfl,rfl⟩,⟨[[32,58,32],base,JL ts],rfl,sM,sM,sM⟩,(by (try simp only [Tb,Tc,Td]);omega),?_⟩;(conv=>whnf)
       (repeat (refine ⟨rfl,?_⟩;conv=>whnf))
       conv=>whnf
       refine ⟨L++([99,111,109,112,32]++nm++JL ps)++([32,58,32]++base++JL ts),[32,123,10],rfl,⟨.inr rfl,rfl,rfl⟩,⟨[[32,123,10]],rfl,sM,sM,sM⟩,(by (try simp only [Tb,Tc,Td]);omega),?_⟩;(conv=>whnf);refine ⟨oM,L++([99,111,109,112,32]++nm++JL ps)++([32,58,32]++base++JL ts)++[32,123,10],unT (.mk u1 u2 u3 u4 u5 u6),rfl,⟨.inr rfl,rfl,rfl⟩,⟨pl,.mk u1 u2 u3 u4 u5 u6,rfl,⟨hu,oM,oM⟩,rfl⟩,(by (try simp only [Tb,Tc,Td]);omega),fun p' gf=>?_⟩;rcases gf with rfl | rfl
       all_goals
        conv=>whnf
        refine ⟨L++([99,111,109,112,32]++nm++JL ps)++([32,58,32]++base++JL ts)++[32,123,10]++unT (.mk u1 u2 u3 u4 u5 u6),[125,10],rfl,⟨iM,rfl,rfl⟩,⟨[[125,10]],rfl,sM,sM,sM⟩,(by (try simp only [Tb,Tc,Td]);omega),?_⟩;(conv=>whnf);refine Or.inl ⟨InR.i64 oM oM,wN ?_⟩;refine ⟨⟨i+1,_,rfl,(by rw [dl,hT];simp only [Tk];rfl),.inr rfl,oM⟩,?_⟩;exact lzM oM
     have af:i=comps.length:=by
      have cn:(comps.map (YY pl)).length=comps.length:=Tf ..;have af:¬(i:Int)<(comps.map (YY pl)).length:=(by rw [<- ec];exact af)
      rw [cn] at af;omega
     subst af;rw [T3];rcases hP with rfl | rfl
     all_goals
      conv=>whnf
      exact ⟨_,rfl,rfl,iM⟩
   intro vs σ hI
   obtain ⟨P,rfl,rfl,hP⟩:=hI;(conv=>whnf);refine ⟨?_,?_⟩
   ·rcases hP with rfl | rfl
    all_goals
     conv=>whnf
     refine ⟨⟨0,_,rfl,zN,iM,oM⟩,?_⟩;intro vs σ hI
     obtain ⟨i,P,rfl,rfl,hP,hi⟩:=hI;(conv=>whnf);refine ZDc (fun af=>?_) (fun af=>?_)
     ·have cn:(inits.map (Xm pl)).length=inits.length:=Tf ..;have af:i<inits.length:=lzI cn af;have hg:=ZA wIn inits i af;have bw:=Vp inT af;have aq:=Za9 inT inits (i+1);have cg:=TB af;obtain ⟨L,hL⟩:∃L,l++(tys.map tyT).flatten++(rels.map reT).flatten++(comps.map coT).flatten++((inits.take i).map inT).flatten=L:=⟨_,rfl⟩
      have nv:L.length=(l++(tys.map tyT).flatten++(rels.map reT).flatten++(comps.map coT).flatten).length+((inits.take i).map inT).flatten.length:=by rw [<- hL,Tb]
      (try simp only [Tb] at nv)
      rw [bw,Tb] at aq;rw [hL];obtain ⟨x,hX⟩:∃x,inits[i]=x:=⟨_,rfl⟩
      rw [hX] at hg cg bw aq;obtain ⟨nm,cp,ts,at'⟩:=x;have dl:l++(tys.map tyT).flatten++(rels.map reT).flatten++(comps.map coT).flatten++((inits.take (i+1)).map inT).flatten=L++inT ⟨nm,cp,ts,at'⟩:=by rw [bw,<- Tk,hL]
      have bi:(inits.map (Xm pl))[((i:Nat):Int).toNat]?=some (Xm pl ⟨nm,cp,ts,at'⟩):=by simp [af,hX]
      have hg2:wIn ⟨nm,cp,ts,at'⟩=1+nm.length+cp.length+szS wBs ts:=rfl;have hw:nm.length+cp.length+szS wBs ts<=n:=oM;have hT:inT ⟨nm,cp,ts,at'⟩=[105,110,105,116,32]++nm++[32,61,32]++cp++JL ts++[10]:=by rw [inT];simp only [Tk]
      rw [hT] at aq;simp only [Tb,Tc,Td] at aq;(conv=>whnf);refine ⟨_,oM,bi,?_⟩;rcases hP with rfl | rfl
      all_goals
       conv=>whnf
       refine ⟨ts,rfl,⟨oM,hn⟩,wN ?_⟩
       (repeat (refine ⟨rfl,?_⟩;conv=>whnf))
       refine ⟨L,[105,110,105,116,32]++nm++[32,61,32]++cp++JL ts++[10],rfl,⟨iM,rfl,rfl⟩,⟨[[105,110,105,116,32],nm,[32,61,32],cp,JL ts,[10]],rfl,sM,sM,sM⟩,(by (try simp only [Tb,Tc,Td]);omega),?_⟩;(conv=>whnf)
       (repeat (refine ⟨rfl,?_⟩;conv=>whnf))
       refine Or.inl ⟨InR.i64 oM oM,wN ?_⟩;refine ⟨⟨i+1,_,rfl,(by rw [dl,hT];simp only [Tk];rfl),.inr rfl,oM⟩,?_⟩;exact lzM oM
     have af:i=inits.length:=by
      have cn:(inits.map (Xm pl)).length=inits.length:=Tf ..;have af:¬(i:Int)<(inits.map (Xm pl)).length:=af;rw [cn] at af;omega
     subst af;rw [T3];rcases hP with rfl | rfl
     all_goals
      conv=>whnf
      exact ⟨_,rfl,rfl,iM⟩
   intro vs σ hI
   obtain ⟨P,rfl,rfl,hP⟩:=hI;(conv=>whnf);refine ⟨?_,?_⟩
   ·rcases hP with rfl | rfl
    all_goals
     conv=>whnf
     refine ⟨⟨0,_,rfl,zN,iM,oM⟩,?_⟩;intro vs σ hI
     obtain ⟨i,P,rfl,rfl,hP,hi⟩:=hI;(conv=>whnf);refine ZDc (fun af=>?_) (fun af=>?_)
     ·have cn:(overs.map (Xn pl)).length=overs.length:=Tf ..;have af:i<overs.length:=lzI cn af;have hg:=ZA wOv overs i af;have bw:=Vp ovT af;have aq:=Za9 ovT overs (i+1);have cg:=TB af;obtain ⟨L,hL⟩:∃L,l++(tys.map tyT).flatten++(rels.map reT).flatten++(comps.map coT).flatten++(inits.map inT).flatten++((overs.take i).map ovT).flatten=L:=⟨_,rfl⟩
      have nv:L.length=(l++(tys.map tyT).flatten++(rels.map reT).flatten++(comps.map coT).flatten++(inits.map inT).flatten).length+((overs.take i).map ovT).flatten.length:=by rw [<- hL,Tb]
      (try simp only [Tb] at nv)
      rw [bw,Tb] at aq;rw [hL];obtain ⟨x,hX⟩:∃x,overs[i]=x:=⟨_,rfl⟩
      rw [hX] at hg cg bw aq;obtain ⟨rel,at'⟩:=x;have dl:l++(tys.map tyT).flatten++(rels.map reT).flatten++(comps.map coT).flatten++(inits.map inT).flatten++((overs.take (i+1)).map ovT).flatten=L++ovT ⟨rel,at'⟩:=by rw [bw,<- Tk,hL]
      have bi:(overs.map (Xn pl))[((i:Nat):Int).toNat]?=some (Xn pl ⟨rel,at'⟩):=by simp [af,hX]
      have hg2:wOv ⟨rel,at'⟩=1+rel.length:=rfl;have hw:rel.length<=n:=oM;have hT:ovT ⟨rel,at'⟩=[111,118,101,114,114,105,100,101,32]++rel++[10]:=by rw [ovT];simp only [Tk]
      rw [hT] at aq;simp only [Tb,Tc,Td] at aq;(conv=>whnf);refine ⟨_,oM,bi,?_⟩;rcases hP with rfl | rfl
      all_goals
       conv=>whnf
       refine ⟨L,[111,118,101,114,114,105,100,101,32]++rel++[10],rfl,⟨iM,rfl,rfl⟩,⟨[[111,118,101,114,114,105,100,101,32],rel,[10]],rfl,sM,sM,sM⟩,(by (try simp only [Tb,Tc,Td]);omega),?_⟩;(conv=>whnf);refine Or.inl ⟨InR.i64 oM oM,wN ?_⟩;refine ⟨⟨i+1,_,rfl,(by rw [dl,hT];simp only [Tk];rfl),.inr rfl,oM⟩,?_⟩;exact lzM oM
     have af:i=overs.length:=by
      have cn:(overs.map (Xn pl)).length=overs.length:=Tf ..;have af:¬(i:Int)<(overs.map (Xn pl)).length:=af;rw [cn] at af;omega
     subst af;rw [T3];rcases hP with rfl | rfl
     all_goals
      conv=>whnf
      exact ⟨_,rfl,rfl,iM⟩
   intro vs σ hI
   obtain ⟨P,rfl,rfl,hP⟩:=hI;(conv=>whnf);rcases hP with rfl | rfl
   all_goals
    refine ⟨⟨0,_,rfl,zN,iM,oM⟩,?_⟩;intro vs σ hI
    obtain ⟨i,P,rfl,rfl,hP,hi⟩:=hI;(conv=>whnf);refine ZDc (fun af=>?_) (fun af=>?_)
    ·have cn:(rules.map (Z8 pl)).length=rules.length:=Tf ..;have af:i<rules.length:=lzI cn af;have hg:=ZA wRu rules i af;have bw:=Vp Zry af;have aq:=Za9 Zry rules (i+1);have cg:=TB af;obtain ⟨L,hL⟩:∃L,l++(tys.map tyT).flatten++(rels.map reT).flatten++(comps.map coT).flatten++(inits.map inT).flatten++(overs.map ovT).flatten++((rules.take i).map Zry).flatten=L:=⟨_,rfl⟩
     have nv:L.length=(l++(tys.map tyT).flatten++(rels.map reT).flatten++(comps.map coT).flatten++(inits.map inT).flatten++(overs.map ovT).flatten).length+((rules.take i).map Zry).flatten.length:=by rw [<- hL,Tb]
     (try simp only [Tb] at nv)
     rw [bw,Tb] at aq;rw [hL];obtain ⟨x,hX⟩:∃x,rules[i]=x:=⟨_,rfl⟩
     rw [hX] at hg cg bw aq;obtain ⟨head,as',bd,at'⟩:=x;have dl:l++(tys.map tyT).flatten++(rels.map reT).flatten++(comps.map coT).flatten++(inits.map inT).flatten++(overs.map ovT).flatten++((rules.take (i+1)).map Zry).flatten=L++Zry ⟨head,as',bd,at'⟩:=by rw [bw,<- Tk,hL]
     have bi:(rules.map (Z8 pl))[((i:Nat):Int).toNat]?=some (Z8 pl ⟨head,as',bd,at'⟩):=by simp [af,hX]
     have hw:wRu ⟨head,as',bd,at'⟩<=n:=oM;have hT:Zry ⟨head,as',bd,at'⟩=(ruT ⟨head,as',bd,at'⟩)++[10]:=rfl;rw [hT] at aq;simp only [Tb,Tc,Td] at aq;(conv=>whnf);refine ⟨_,oM,bi,?_⟩;rcases hP with rfl | rfl
     all_goals
      conv=>whnf
      refine ⟨L,(ruT ⟨head,as',bd,at'⟩),rfl,⟨iM,rfl,rfl⟩,⟨pl,⟨head,as',bd,at'⟩,rfl,⟨m3 _ cg,hw,hn⟩,rfl⟩,(by (try simp only [Tb,Tc,Td]);omega),?_⟩;(conv=>whnf);refine ⟨L++(ruT ⟨head,as',bd,at'⟩),[10],rfl,⟨.inr rfl,rfl,rfl⟩,⟨[[10]],rfl,sM,sM,sM⟩,(by (try simp only [Tb,Tc,Td]);omega),?_⟩;(conv=>whnf);refine Or.inl ⟨InR.i64 oM oM,wN ?_⟩;refine ⟨⟨i+1,_,rfl,(by rw [dl,hT];simp only [Tk];rfl),.inr rfl,oM⟩,?_⟩;exact lzM oM
    have af:i=rules.length:=by
     have cn:(rules.map (Z8 pl)).length=rules.length:=Tf ..;have af:¬(i:Int)<(rules.map (Z8 pl)).length:=af;rw [cn] at af;omega
    subst af;rw [T3];rcases hP with rfl | rfl
    all_goals
     conv=>whnf
     exact h _ iM
 exact h.elim
theorem cWU (hN:NumOK w0 nG) (hL:LexC w0 nG):∀n,PC w0 nG 38 (ZxR n)
 | 0=>ZzG ⟨Jc,ZqV,ZCs 0,Zuv,cWR hN hL 0,Yp (Zk Tryz.func38 kR rfl),trivial⟩
 | n+1=>ZzG ⟨Jc,ZqV,ZCs _,Zuv,cWR hN hL _,Yq (sp:=ZxR) (cWU hN hL n),trivial⟩
theorem Zxf {z:Bs} {c:UInt8} (hc:c.toNat<128):pk (c::z)=((c.toNat:Int),1):=by
 have e:Lib.decodeL (c::z)=(c.toNat,1):=by
  rw [Lib.decodeL_N];unfold Lib.decodeN;rw [Tj (by simpa using hc)];simp
 unfold pk
 rw [e,Tg sO]
structure Fol (c:UInt8) (z:Bs):Prop where
 low:c.toNat<128
 let':Zl c.toNat=false
 dig:Zm c.toNat=false
 dot:c=46->Zl (pk z).1=false
theorem Fol.pk {c:UInt8} {z:Bs} (h:Fol c z):Lex.pk (c::z)=((c.toNat:Int),1):=Zxf h.low
inductive Pc where
 | blank (b:UInt8) | tok (s:Bs) (t:T0)
def Pc.bs:Pc->Bs | .blank b=>[b] | .tok s _=>s
def Pc.ts:Pc->Ts | .blank _=>[] | .tok _ t=>[t]
def bsP (l:List Pc):Bs:=(l.map Pc.bs).flatten
def tsP (l:List Pc):Ts:=(l.map Pc.ts).flatten
@[simp] theorem bsP_nil:bsP []=[]:=rfl
@[simp] theorem tsP_nil:tsP []=[]:=rfl
@[simp] theorem bsP_cons (p:Pc) (l:List Pc):bsP (p::l)=p.bs++bsP l:=by simp [bsP]
@[simp] theorem tsP_cons (p:Pc) (l:List Pc):tsP (p::l)=p.ts++tsP l:=by simp [tsP]
@[simp] theorem bsP_app (l m:List Pc):bsP (l++m)=bsP l++bsP m:=by simp [bsP]
@[simp] theorem tsP_app (l m:List Pc):tsP (l++m)=tsP l++tsP m:=by simp [tsP]
def nmP (s:Bs):Pc:=.tok s (nmT s)
def sgP (s:Bs):Pc:=.tok s (sgT s)
theorem ZmU:∀d:Fin 16,Zf3 (Zip d.val)=d.val/\X8 true (Zip d.val)=true/\(d.val<10->X8 false (Zip d.val)=true)/\Zip d.val≠120:=by decide +kernel
theorem Ztc (base:Nat) (l:Bs) (b:UInt8):WD base (l++[b])=WD base l * base+Zf3 b:=by simp [WD]
theorem Zba {base:Nat} (hb:base=10\/base=16):∀(f n:Nat),n<f->WD base (JG base f n)=n/\(∀b∈JG base f n,X8 (decide (base=16)) b=true/\b≠120)/\JG base f n≠[]/\∀k,n<base ^ (k+1)->(JG base f n).length<=k+1
 | 0,n,h=>oM
 | f+1,n,h=>by
  have hd:∀d,d<base->Zf3 (Zip d)=d/\X8 (decide (base=16)) (Zip d)=true/\Zip d≠120:=fun d hd=>by
   obtain ⟨h1,h2,h3,h4⟩:=ZmU ⟨d,oM⟩;refine ⟨h1,?_,h4⟩;rcases hb with rfl | rfl
   ·exact h3 hd
   exact h2
  rw [JG]
  by_cases c:n<base
  ·rw [Tj c];obtain ⟨h1,h2,h3⟩:=hd n c;refine ⟨by simpa [WD] using h1,fun b hb=>?_,sM,fun k _=>sM⟩;rw [List.mem_singleton.1 hb];exact ⟨h2,h3⟩
  rw [Tg c];have ai:n / base<n:=Nat.div_lt_self oM oM;obtain ⟨i1,i2,i3,i4⟩:=Zba hb f (n / base) oM;obtain ⟨h1,h2,h3⟩:=hd (n % base) (Nat.mod_lt _ oM);refine ⟨?_,fun b hb=>?_,sM,fun k hk=>?_⟩
  ·rw [Ztc,i1,h1,Nat.mul_comm];exact Nat.div_add_mod n base
  ·rcases TN.1 hb with hb | hb
   ·exact i2 b hb
   rw [List.mem_singleton.1 hb];exact ⟨h2,h3⟩
  cases k with
  | zero=>simp at hk;omega
  | succ k =>
  have:n / base<base ^ (k+1):=by
   rw [Nat.div_lt_iff_lt_mul oM];rw [Nat.pow_succ] at hk;exact hk
  have:=i4 k this;exact m90
def spP:Pc:=.blank 32
def nlP:Pc:=.blank 10
@[simp] theorem bs_sp:spP.bs=[32]:=rfl
@[simp] theorem bs_nl:nlP.bs=[10]:=rfl
@[simp] theorem ts_sp:spP.ts=[]:=rfl
@[simp] theorem ts_nl:nlP.ts=[]:=rfl
@[simp] theorem bs_nm (s:Bs):(nmP s).bs=s:=rfl
@[simp] theorem bs_sg (s:Bs):(sgP s).bs=s:=rfl
@[simp] theorem ts_nm (s:Bs):(nmP s).ts=[nmT s]:=rfl
@[simp] theorem ts_sg (s:Bs):(sgP s).ts=[sgT s]:=rfl
@[simp] theorem bs_tok (s:Bs) (t:T0):(Pc.tok s t).bs=s:=rfl
@[simp] theorem ts_tok (s:Bs) (t:T0):(Pc.tok s t).ts=[t]:=rfl
def ts2 (p:Nat×List Pc):Nat×Ts:=(p.1,tsP p.2)
theorem ZdF:∀(f:Nat) (r out q:Bs),VK f r out=some q->q.length<=out.length+4 * r.length
 | 0,r,out,q,h=>by simp [VK] at h
 | f+1,r,out,q,h=>by
  unfold VK at h
  split at h
  ·cases h;omega
  rename_i hr
  have hd:=Lib.decodeL_le r hr;have hg:=Zgb r;split at h
  ·have:=ZdF f _ _ _ h;simp only [Tb,Tc,Td,TA] at this;omega
  split at h
  ·cases h
  have:=ZdF f _ _ _ h;have h4:=ZAY (Lib.decodeL r).1;simp only [Tb,TA] at this;omega
theorem Ztd (s:Bs):(Zwb s).length<=4 * s.length+2:=by
 unfold Zwb Ja
 split
 ·cases hq:VK (s.length+1) s [34] with
  | none=>simp
  | some q =>
  have:=ZdF _ _ _ _ hq;simp only [Sk,Sm,Tb,Tc,Td] at this |-;omega
 simp
theorem Zte {n:Int} (h0:-9223372036854775808<=n) (h1:n<9223372036854775808):(Zfb n).length<=20:=by
 unfold Zfb
 split
 ·have h:=(Zba (base:=16) (.inr rfl) ((n+18446744073709551616).toNat+1) (n+18446744073709551616).toNat oM).2.2.2 15 (by
   have:(16:Nat) ^ (15+1)=18446744073709551616:=dM;omega)
  simp only [Tb,Tc,Td,Vm];omega
 have h:=(Zba (base:=10) (.inl rfl) (n.toNat+1) n.toNat oM).2.2.2 18 (by
  have:(10:Nat) ^ (18+1)=10000000000000000000:=dM;omega)
 rw [Vm];omega
theorem Ztf (op:Nat):(VL op).length<=6:=by
 by_cases h:op<26
 ·have hk:∀o:Fin 26,(VL o.val).length<=6:=by decide
  exact hk ⟨op,h⟩
 unfold VL
 (repeat rw [Tg oM])
 decide
def Zuw (l:List (Nat×Bs)):Nat:=(l.map fun p=>p.2.length+4).sum
theorem Vq (l:List Bs):(Zg cmm l).length<=(l.map fun s=>s.length+4).sum:=by
 match l with
 | []=>exact T6 _
 | [x]=>simp [Zg]
 | x::y::l =>
  have ih:=Vq (y::l);rw [Zg]
  ·simp only [Tb,TC,List.sum_cons] at ih |-;have:cmm.length=2:=rfl;omega
  intro h;cases h
theorem Zgq (w:Nat) (p:Nat×Bs):(ZsQ w p).length<=p.2.length+2:=by
 unfold ZsQ;split
 ·exact m90
 omega
theorem ZqX (w1 w2:Nat) (sep:Bs) (l:List (Nat×Bs)):(exA w1 w2 sep l).length<=Zuw l+sep.length:=by
 match l with
 | []=>simp [exA]
 | [a]=>have:=Zgq w1 a;simp only [exA,Zuw,TC,TL,List.sum_cons,List.sum_nil];omega
 | a::b::l =>
  have h1:=Zgq w1 a;have h2:=Zgq w2 b;simp only [exA,Zuw,TC,List.sum_cons,Tb];omega
theorem ZqY (op:Nat) (t:Bs) (n:Int) (l:List (Nat×Bs)) (h0:-9223372036854775808<=n) (h1:n<9223372036854775808):(exN op t n l).length<=Zuw l+5 * t.length+30:=by
 have hw:=Ztf op;have hn:=Zte h0 h1;have hq:=Ztd t;have hc:(Zg cmm (l.map Prod.snd)).length<=Zuw l:=by
  have:=Vq (l.map Prod.snd);rw [List.map_map] at this;exact this
 unfold exN
 split
 ·have:=ZqX (ZO op) (ZO op+1) ([32]++(VL op++[32])) l;simp only [Tb,Tc,Td] at this;omega
 split
 ·have:=ZqX 5 5 [] l;simp only [Tb,Td] at this |-;omega
 split
 ·exact m90
 split
 ·exact m90
 split
 ·simp only [Tb,Tc,Td];split
  ·simp only [Td];omega
  exact m90
 split
 ·omega
 split
 ·omega
 split
 ·simp only [Tc,Td];omega
 split
 ·simp only [Tc,Td];omega
 omega
mutual
theorem ZdG:∀e:Ex,Zh9 e=true->(exT e).length+4<=64 * wE e
 | .mk op t n l a,h=>by
  obtain ⟨r1,r2⟩:=ZdD h;have ih:=Zbb l (by rw [VN];exact Tm.2 r2);have:=ZqY op t n (Zp1 l) r1.1 r1.2;rw [exT,wE];omega
theorem Zbb:∀l:List Ex,ZjA l=true->Zuw (Zp1 l)<=64 * wEs l
 | [],h=>by rw [Zp1];simp [Zuw]
 | x::l,h=>by
  rw [ZjA,Tl] at h;have h1:=ZdG x h.1;have h2:=Zbb l h.2;rw [Zp1,wEs];unfold Zuw at h2 |-
  simp only [TC,List.sum_cons];omega
end
theorem ZqZ {α:Type} {T:α->Bs} {w:α->Nat}:∀l:List α,(∀x∈l,(T x).length+4<=64 * w x)->(l.map fun x=>(T x).length+4).sum<=64 * szS w l
 | [],h=>T6 _
 | x::l,h=>by
  have h1:=h x sM;have h2:=ZqZ l fun y hy=>h y (Tu _ hy)
  simp only [TC,List.sum_cons,szS];omega
theorem JI {α:Type} {T:α->Bs} {w:α->Nat} {l:List α} (h:∀x∈l,(T x).length+4<=64 * w x):(Zg cmm (l.map T)).length<=64 * szS w l:=by
 have h1:=Vq (l.map T);rw [List.map_map] at h1;exact T1 h1 (ZqZ l h)
theorem Wz {α:Type} {T:α->Bs} {w:α->Nat}:∀{l:List α},(∀x∈l,(T x).length+4<=64 * w x)->((l.map T).flatten).length<=64 * szS w l
 | [],h=>T6 _
 | x::l,h=>by
  have h1:=h x sM;have h2:=Wz (l:=l) fun y hy=>h y (Tu _ hy)
  simp only [TC,List.flatten_cons,Tb,szS];omega
theorem ZjC:∀{l:List Ex},(∀x∈l,Zh9 x=true)->(Zlf l).length+(ZsR l.tail).length<=64 * szS wE l/\(Zlf l).length+(Zlf l.tail).length<=64 * szS wE l
 | [],h=>by simp [Zlf,ZsR]
 | x::l,h=>by
  have h1:=ZdG x (h x sM);have h2:=Wz (T:=fun e=>[32]++exT e) (w:=fun e=>wE e) (l:=l) fun y hy=>by
   have:=ZdG y (h y (Tu _ hy))
   cases y with
   | mk o t n a b =>
   have hw:1<=wE (.mk o t n a b):=by rw [wE];omega
   have h3:=ZqY o t n (Zp1 a) (ZdD (h _ (Tu _ hy))).1.1 (ZdD (h _ (Tu _ hy))).1.2;have h4:=Zbb a (by rw [VN];exact Tm.2 (ZdD (h _ (Tu _ hy))).2);simp only [Tb,Tc,Td];rw [exT,wE];omega
  refine ⟨?_,?_⟩
  ·show (exT x).length+(ZsR l).length<=64 * szS wE (x::l);rw [szS];unfold ZsR
   have:szS (fun e=>wE e) l=szS wE l:=rfl;omega
  show (exT x).length+(Zlf l).length<=64 * szS wE (x::l)
  cases l with
  | nil=>rw [szS,szS];simp [Zlf];omega
  | cons y l =>
  have h5:=ZdG y (h y sM);rw [szS,szS];simp only [Zlf];omega
theorem Zxg (op:Nat):(Zwc op).length<=4:=by unfold Zwc;(repeat' split) <;> decide
theorem Zxh (op:Nat):(Zjw op).length<=5:=by unfold Zjw;(repeat' split) <;> decide
theorem Zia {fr fin:Bs} {l:List Ex} (h:∀x∈l,Zh9 x=true):(argT fr fin l).length<=fr.length+64 * szS wE l+fin.length:=by
 have:=JI (T:=exT) (w:=wE) fun x hx=>ZdG x (h x hx)
 unfold argT ZyQ
 simp only [Tb];omega
mutual
theorem Zxi:∀x:Li,ZmO x=true->(liT x).length+4<=64 * wL x
 | .mk op rel args body a,h=>by
  obtain ⟨r1,r2⟩:=ZqP h;have h1:=Zgr body (by rw [UO];exact Tm.2 r2);have h2:=Zia (fr:=[40]) (fin:=[41]) r1;obtain ⟨h3,h4⟩:=ZjC r1;have h5:=Zxg op;have h6:=Zxh op;have h7:=Vq (Zrx body);rw [liT,wL];simp only [Tc,Td] at h2;split
  ·exact m90
  split
  ·simp only [Tb];omega
  split
  ·simp only [Tb];omega
  exact m90
theorem Zgr:∀l:List Li,ZmP l=true->((Zrx l).map fun s=>s.length+4).sum<=64 * wLs l
 | [],h=>by rw [Zrx];simp
 | x::l,h=>by
  rw [ZmP,Tl] at h;have h1:=Zxi x h.1;have h2:=Zgr l h.2;rw [Zrx,wLs];simp only [TC,List.sum_cons];omega
end
theorem Zxj {r:Ru} (h:Zgp r=true):(ruT r).length+10<=64 * wRu r:=by
 simp only [Zgp,Tl] at h;have r1:=Tm.1 h.1;have r2:=Tm.1 h.2;have h1:=Zia (fr:=[40]) (fin:=[41]) r1;have h2:=Zgr r.body (by rw [UO];exact h.2);have h3:=Vq (Zrx r.body);rw [Ur] at h2;unfold ruT wRu
 simp only [Tc,Td] at h1;split
 ·exact m90
 exact m90
theorem Zxk (f:Fi):(fiT f).length+4<=64 * wFi f:=by
 unfold fiT wFi;simp only [Tb,Tc,Td];omega
theorem ZjD (fr fin:Bs) (l:List Fi):(Vn fr l fin).length<=fr.length+64 * szS wFi l+fin.length:=by
 have:=JI (T:=fiT) (w:=wFi) (l:=l) fun x _=>Zxk x
 unfold Vn
 simp only [Tb];omega
theorem Zxl (c:Ca):(caT c).length+4<=64 * wCa c:=by
 have:=ZjD (c.name++[32,123]) [125] c.fields;unfold caT wCa
 simp only [Tb,Tc,Td] at this |-;omega
theorem Zfd (l:List Bs):(Zg [32,124,32] l).length<=(l.map fun s=>s.length+4).sum:=by
 match l with
 | []=>exact T6 _
 | [x]=>simp [Zg]
 | x::y::l =>
  have ih:=Zfd (y::l);rw [Zg]
  ·simp only [Tb,TC,List.sum_cons,Tc,Td] at ih |-;omega
  intro h;cases h
theorem Zxm (t:Ty):(tyT t).length+4<=64 * wTy t:=by
 have h1:=ZjD [32,61,32,91] [93] t.fields;have h2:=Zfd (t.cases.map caT);rw [List.map_map] at h2;have h3:=ZqZ (T:=caT) (w:=wCa) t.cases fun x _=>Zxl x
 have h4:(t.cases.map fun x=>(caT x).length+4).sum=(t.cases.map ((fun s:Bs=>s.length+4)∘caT)).sum:=rfl;rw [h4] at h3;unfold tyT wTy
 simp only [Tc,Td] at h1;simp only [Tb,Tc,Td];split
 ·exact m90
 split
 ·omega
 exact m90
theorem Zxn (d:Re):(reT d).length+4<=64 * wRe d:=by
 have h1:=ZjD ([100,101,99,108,32]++(d.name++[40])) [41] d.fields;have hi:∀(b:Bool) (s:Bs),(if b then s else []).length<=s.length:=fun b s=>by cases b <;> simp
 have i1:=hi d.inn [32,105,110,112,117,116];have i2:=hi d.out [32,111,117,116,112,117,116];have i3:=hi d.inl [32,105,110,108,105,110,101];unfold reT wRe
 simp only [Tb,Tc,Td] at h1 i1 i2 i3 |-;omega
theorem ZjE (l:List Bs):(JL l).length<=2+64 * szS wBs l:=by
 have h1:=JI (T:=fun s:Bs=>s) (w:=wBs) (l:=l) fun x _=>by unfold wBs;omega
 rw [List.map_id'] at h1;unfold JL
 split
 ·simp
 exact m90
theorem Zxo (i:Ini):(inT i).length+4<=64 * wIn i:=by
 have:=ZjE i.types;unfold inT wIn
 exact m90
theorem Zxp (o:Ov):(ovT o).length+4<=64 * wOv o:=by
 unfold ovT wOv
 exact m90
mutual
theorem ZjF:∀u:Un,ZmQ u=true->(unT u).length+4<=64 * wUn u
 | .mk a b c d e f,h=>by
  simp only [ZmQ,Tl] at h;have r1:=Tm.1 h.1;have h1:=Wz (T:=tyT) (w:=wTy) (l:=a) fun x _=>Zxm x
  have h2:=Wz (T:=reT) (w:=wRe) (l:=b) fun x _=>Zxn x
  have h3:=Wz (T:=fun r=>ruT r++[10]) (w:=wRu) (l:=c) fun x hx=>by
   have:=Zxj (r1 x hx);exact m90
  have h4:=Zlh d h.2;have h5:=Wz (T:=inT) (w:=wIn) (l:=e) fun x _=>Zxo x
  have h6:=Wz (T:=ovT) (w:=wOv) (l:=f) fun x _=>Zxp x
  rw [unT,wUn];simp only [Tb];omega
theorem Zxq:∀c:Co,ZmR c=true->(coT c).length+4<=64 * wCo c+64
 | .mk nm ps base tys u a,h=>by
  rw [ZmR] at h;have h1:=ZjF u h;have h2:=ZjE ps;have h3:=ZjE tys;rw [coT,wCo];split
  ·exact m90
  exact m90
theorem Zlh:∀l:List Co,ZbN l=true->((Zwd l).flatten).length<=64 * ZsS l
 | [],h=>by rw [Zwd];simp
 | x::l,h=>by
  rw [ZbN,Tl] at h;have h1:=Zxq x h.1;have h2:=Zlh l h.2;rw [Zwd,ZsS];simp only [List.flatten_cons,Tb];omega
end
noncomputable def Ztg (n:Nat):Zo:=fun args σ K=>match args,σ with
 | [.agg c],⟨[],[],0⟩=>∃pl x,c=(Xb pl x).map .d/\((ZdA x=true->ZmQ x=true)/\wUn x<=n/\n<=16777216) /\
   ((ZdA x=false->K (.ret (.tuple [.d (.str []),.d (.int .i64 160)])) ⟨[],[],0⟩)/\(ZdA x=true->∀r,JE 65536 16384 ZaW (unT x)=r->K (.ret (.tuple [.d (.str (ZdE (unT x) r).1),.d (.int .i64 (ZdE (unT x) r).2)])) ⟨[],[],0⟩))
 | _,_=>False
noncomputable def Zux (n:Nat):Tbl:=[(37,YZ (YJ Xb) ZdA wUn n),(38,ZxR n),(40,Zam),(39,Zla),(41,ZqT)]
theorem ZzH {n:Nat} (ht:TO w0 nG (Zux n)):PC w0 nG 24 (Ztg n):=by
 refine Zd Zc mixed (tbl:=Zux n) ht Tryz.func24 rfl kR kR ?_;intro args σ K h
 unfold Ztg at h
 split at h
 ·obtain ⟨pl,⟨u1,u2,u3,u4,u5,u6⟩,rfl,⟨mg,hz,hn⟩,ha,hb⟩:=h;refine ⟨Zb [],0,true,sM,Ta rfl,wN ?_⟩;refine ⟨pl,(.mk u1 u2 u3 u4 u5 u6),rfl,⟨hz,oM⟩,fun b cj=>?_⟩
  cases b with
  | false =>
   conv=>whnf
   exact ha cj
  | true =>
  have h1:=mg cj;have h2:=ZjF _ h1;have hb:=hb cj;(conv=>whnf);refine ⟨[],unT (.mk u1 u2 u3 u4 u5 u6),rfl,⟨.inl rfl,rfl,rfl⟩,⟨pl,(.mk u1 u2 u3 u4 u5 u6),rfl,⟨by rw [ZxQ,cj,h1];rfl,hz,oM⟩,rfl⟩,by simp only [Td];omega,fun p' gf=>?_⟩;obtain ⟨T,hT⟩:∃T,unT (.mk u1 u2 u3 u4 u5 u6)=T:=⟨_,rfl⟩
  rw [hT] at hb h2 |-;rcases gf with rfl | rfl
  all_goals
   conv=>whnf
   refine ⟨T,⟨rfl,rfl,rfl,iM,oM⟩,?_⟩;(conv=>whnf);refine ⟨oM,fun x hx=>?_⟩;have hb:=hb x hx
   cases x with
   | ok v L =>
    obtain ⟨v1,v2,v3,v4,v5,v6⟩:=v;unfold ZCa
    dsimp only;(conv=>whnf);refine ⟨T,⟨rfl,rfl,rfl,iM,oM⟩,?_⟩;(conv=>whnf);refine ⟨fun g=>absurd g dM,fun _=>wN ?_⟩;exact hb
   | err p c =>
   conv=>whnf
   refine ⟨T,⟨rfl,rfl,rfl,iM,oM⟩,?_⟩;(conv=>whnf);refine ⟨fun g=>wN ?_,fun g=>wN ?_⟩
   ·rw [ZdE,Tj oM] at hb;exact hb
   rw [ZdE,Tg oM] at hb;exact hb
 exact h.elim
theorem ZCP (hg:GlobOK w0 nG) (hN:NumOK w0 nG) (hL:LexC w0 nG) (n:Nat):PC w0 nG 24 (Ztg n) :=
 ZzH ⟨ZCk hL n,cWU hN hL n,Zfc,ZBe hg,Zw4,trivial⟩
noncomputable def ZmV {α:Type} (enc:Pl->α->List D) (c:Nat->α->Prop) (f:α->Bs×Nat) (n:Nat):Zo:=fun args σ K=>match args,σ with
 | [.agg cs],⟨[],[],0⟩=>∃pl e,cs=(enc pl e).map .d/\(c n e/\n<=16777216)/\∀s k,f e=(s,k)->K (.ret (.tuple [.d (.str s),.d (.int .i64 (k:Nat))])) ⟨[],[],0⟩
 | _,_=>False
def Zas (x:Un):Bs×Nat:=if ZdA x=true then ZdE (unT x) (JE 65536 16384 ZaW (unT x)) else ([],160)
def Zib (n:Nat) (x:Un):Prop:=ZmQ x=true/\wUn x<=n/\(unT x).length<1073741824
theorem ZzI (hg:GlobOK w0 nG) (hN:NumOK w0 nG) (hL:LexC w0 nG) (n:Nat):PC w0 nG 24 (ZmV Xb Zib Zas n):=(ZCP hg hN hL n).weaken1 fun args σ K h=>by
 unfold ZmV at h
 unfold Ztg
 split at h
 ·obtain ⟨pl,e,h1,⟨⟨h2,h3,h4⟩,h5⟩,h⟩:=h;exact ⟨pl,e,h1,⟨fun _=>h2,h3,oM⟩,fun g=>h _ _ (by rw [Zas,Tg (by rw [g];simp)]),fun g x hx=>h _ _ (by rw [Zas,Tj g,hx])⟩
 exact h.elim
noncomputable def Zq0 {α:Type} (enc:Pl->α->List D) (sz:α->Nat) (bd:Int->Int) (m:Nat):Zo:=fun args σ K=>match args,σ with
 | [.agg c,.d (.int .i64 au)],⟨[],[],0⟩=>∃pl x B,c=(enc pl x).map .d/\((0<=au/\au<m)/\m<=1000000/\sz x<=B/\B<=1099511627776)/\∀r,0<=r->r<=bd au->K (.ret (.d (.int .i64 r))) ⟨[],[],0⟩
 | _,_=>False
noncomputable def ZbW {α:Type} (enc:Pl->α->List D) (sz:α->Nat) (bd:Int->Int) (m:Nat):Zo:=fun args σ K=>match args,σ with
 | [.d (.sl r1),.d (.int .i64 au)],⟨[],[],0⟩=>∃pl l B,r1=l.map (enc pl)/\((0<=au/\au<m)/\m<=1000000/\szS sz l<=B/\B<=1099511627776)/\∀r,0<=r->r<=bd au->K (.ret (.d (.int .i64 r))) ⟨[],[],0⟩
 | _,_=>False
def bd2 (m:Int):Int:=2 * m+1
def bd3 (m:Int):Int:=3 * m+1
def bd5 (m:Int):Int:=5 * m+2
noncomputable def ZzJ (m:Nat):Tbl:=[(21,spB (Zq0 YP szE bd2) m)]
theorem ZzK {m:Nat} (ht:TO w0 nG (ZzJ m)):PC w0 nG 21 (Zq0 YP szE bd2 m):=by
 refine Zd Zc mixed (tbl:=(ZzJ m)) ht Tryz.func21 rfl kR kR ?_;intro args σ K h
 unfold Zq0 at h
 split at h
 ·obtain ⟨pl,⟨a1,a2,a3,a4,a5⟩,B,rfl,⟨⟨yj,oz⟩,yk,hz,hB⟩,h⟩:=h
  rename_i au
  simp only [szE] at hz;have je:(Yn pl a4).length=a4.length:=by rw [Zh,Tf]
  have hsz:=Zlb a4;unfold bd2 at h
  refine ⟨Zb [(3,⟨[6,5],[1,2],fun vs σ=>∃(i:Nat) (nn:Int),vs=[.d (.int .i64 i),.d (.int .i64 nn)]/\σ=⟨[.cells 74 ((YP pl (.mk a1 a2 a3 a4 a5)).map .d)],[],0⟩/\i<=a4.length/\1<=nn/\nn<=2 * au+1,fun vs _=>match vs with | [.d (.int _ i),_]=>((a4.length:Nat) - i:Int).toNat | _=>0⟩)],0,false,sM,Ta rfl,wN ?_⟩
  (repeat (first | (refine Or.inl ⟨InR.i64 oM oM,?_⟩;conv=>whnf) | (refine ⟨_,oM,bi,?_⟩;conv=>whnf)))
  refine ⟨⟨0,_,rfl,rfl,oM,oM,oM⟩,?_⟩;intro vs σ hI
  obtain ⟨i,nn,rfl,rfl,hi,du,eo⟩:=hI;(conv=>whnf);refine ZDc (fun af=>?_) (fun af=>?_);rotate_left
  ·exact m136
  have af:i<a4.length:=lzI je af;(conv=>whnf);refine ZDc (fun gu=>?_) (fun gu=>?_);rotate_left
  ·exact m136
  conv=>whnf
  obtain ⟨eA,hA⟩:∃e,a4[i]=e:=⟨_,rfl⟩
  have hg:=Zlc a4 i af;obtain ⟨b1,b2,b3,b4,b5⟩:=eA;rw [hA] at hg;have bi:(Yn pl a4)[((i:Nat):Int).toNat]?=some (YP pl (.mk b1 b2 b3 b4 b5)):=by rw [Zh];simp [af,hA]
  (repeat (first | (refine Or.inl ⟨InR.i64 oM oM,?_⟩;conv=>whnf) | (refine ⟨_,oM,bi,?_⟩;conv=>whnf)))
  refine ⟨oM,pl,.mk b1 b2 b3 b4 b5,B,rfl,⟨⟨oM,oM⟩,oM,oM,hB⟩,fun r kl kz=>wN ?_⟩;unfold bd2 at kz
  refine Or.inl ⟨InR.i64 oM oM,wN ?_⟩;refine Or.inl ⟨InR.i64 oM oM,wN ?_⟩;refine ⟨⟨i+1,_,rfl,rfl,oM,oM,oM⟩,?_⟩;show ((a4.length:Nat) - ((i:Int)+1)).toNat<((a4.length:Nat) - (i:Int)).toNat;omega
 exact h.elim
theorem cZE:∀m,PC w0 nG 21 (Zq0 YP szE bd2 m)
 | 0=>ZzK ⟨Yp (Zk Tryz.func21 kR rfl),trivial⟩
 | m+1=>ZzK ⟨Yq (sp:=Zq0 YP szE bd2) (cZE m),trivial⟩
theorem ZzL {m:Nat} :PC w0 nG 12 (ZbW (fun _=>Zw) sz0 bd3 m):=by
 refine Zd Zc mixed (tbl:=[]) trivial Tryz.func12 rfl kR kR ?_;intro args σ K h
 unfold ZbW at h
 split at h
 ·obtain ⟨pl,l,B,rfl,⟨⟨yj,oz⟩,yk,hz,hB⟩,h⟩:=h
  rename_i au
  have je:(l.map Zw).length=l.length:=Tf ..;have hsz:=Zv (sz0 (α:=Fi)) l;unfold bd3 at h
  refine ⟨Zb [(3,⟨[6,5],[0,1],fun vs σ=>∃(i:Nat) (nn:Int),vs=[.d (.int .i64 i),.d (.int .i64 nn)]/\σ=⟨[],[],0⟩/\i<=l.length/\0<=nn/\nn<=3 * au+1,fun vs _=>match vs with | [.d (.int _ i),_]=>((l.length:Nat) - i:Int).toNat | _=>0⟩)],0,false,sM,Ta rfl,wN ?_⟩;refine ⟨⟨0,0,rfl,rfl,oM,oM,oM⟩,?_⟩;intro vs σ hI
  obtain ⟨i,nn,rfl,rfl,hi,du,eo⟩:=hI;(conv=>whnf);refine ZDc (fun af=>?_) (fun af=>?_);rotate_left
  ·exact m136
  have af:i<l.length:=lzI je af;(conv=>whnf);refine ZDc (fun gu=>?_) (fun gu=>?_);rotate_left
  ·exact m136
  conv=>whnf
  obtain ⟨eA,hA⟩:∃e,l[i]=e:=⟨_,rfl⟩
  obtain ⟨b1,b2⟩:=eA;have bi:(l.map Zw)[((i:Nat):Int).toNat]?=some (Zw ⟨b1,b2⟩):=by simp [af,hA]
  (repeat (first | (refine Or.inl ⟨InR.i64 oM oM,?_⟩;conv=>whnf) | (refine ⟨_,oM,bi,?_⟩;conv=>whnf)))
  exact m177
 exact h.elim
noncomputable def ZzM (m:Nat):Tbl:=[(21,Zq0 YP szE bd2 m),(22,spB (ZbW XD szL bd2) m)]
theorem ZzN {m:Nat} (ht:TO w0 nG (ZzM m)):PC w0 nG 22 (ZbW XD szL bd2 m):=by
 refine Zd Zc mixed (tbl:=(ZzM m)) ht Tryz.func22 rfl kR kR ?_;intro args σ K h
 unfold ZbW at h
 split at h
 ·obtain ⟨pl,l,B,rfl,⟨⟨yj,oz⟩,yk,hz,hB⟩,h⟩:=h
  rename_i au
  have je:(l.map (XD pl)).length=l.length:=Tf ..;have hsz:=Zv szL l;unfold bd2 at h
  refine ⟨Zb [(3,⟨[6,5],[0,1],fun vs σ=>∃(i:Nat) (nn:Int),vs=[.d (.int .i64 i),.d (.int .i64 nn)]/\σ=⟨[],[],0⟩/\i<=l.length/\0<=nn/\nn<=2 * au+1,fun vs _=>match vs with | [.d (.int _ i),_]=>((l.length:Nat) - i:Int).toNat | _=>0⟩),(7,⟨[7,5],[0,1,6],fun vs σ=>∃(i:Nat) (nn:Int),vs=[.d (.int .i64 i),.d (.int .i64 nn)]/\σ=⟨[],[],0⟩/\i<=B/\1<=nn/\nn<=2 * au+1,fun vs _=>match vs with | [.d (.int _ i),_]=>((B:Nat) - i:Int).toNat | _=>0⟩)],0,false,sM,Ta rfl,wN ?_⟩;refine ⟨⟨0,0,rfl,rfl,oM,oM,oM⟩,?_⟩;intro vs σ hI
  obtain ⟨i,nn,rfl,rfl,hi,du,eo⟩:=hI;(conv=>whnf);refine ZDc (fun af=>?_) (fun af=>?_);rotate_left
  ·exact m136
  have af:i<l.length:=lzI je af;(conv=>whnf);refine ZDc (fun gu=>?_) (fun gu=>?_);rotate_left
  ·exact m136
  conv=>whnf
  obtain ⟨eA,hA⟩:∃e,l[i]=e:=⟨_,rfl⟩
  have hg:=ZA szL l i af;obtain ⟨b1,b2,ar,b4,b5⟩:=eA;rw [hA] at hg;simp only [szL,W1] at hg;have bi:(l.map (XD pl))[((i:Nat):Int).toNat]?=some (XD pl (.mk b1 b2 ar b4 b5)):=by simp [af,hA]
  have um:(Yn pl ar).length=ar.length:=by rw [Zh,Tf]
  have hs4:=Zv szE ar
  (repeat (first | (refine Or.inl ⟨InR.i64 oM oM,?_⟩;conv=>whnf) | (refine ⟨_,oM,bi,?_⟩;conv=>whnf)))
  refine ⟨⟨0,_,rfl,rfl,oM,oM,oM⟩,?_⟩;intro vs' σ' wz
  obtain ⟨j,n2,rfl,rfl,hj,w5,w6⟩:=wz;(conv=>whnf)
  (repeat (first | (refine Or.inl ⟨InR.i64 oM oM,?_⟩;conv=>whnf) | (refine ⟨_,oM,bi,?_⟩;conv=>whnf)))
  refine ZDc (fun gw=>?_) (fun gw=>?_);rotate_left
  ·exact m150
  have gw:j<ar.length:=lzI um gw;(conv=>whnf);refine ZDc (fun qj=>?_) (fun qj=>?_);rotate_left
  ·exact m150
  exact m32
 exact h.elim
theorem cZL:∀m,PC w0 nG 22 (ZbW XD szL bd2 m)
 | 0=>ZzN ⟨cZE 0,Yp (Zk Tryz.func22 kR rfl),trivial⟩
 | m+1=>ZzN ⟨cZE _,Yq (sp:=ZbW XD szL bd2) (cZL m),trivial⟩
noncomputable def Zuy (m:Nat):Tbl:=[(21,Zq0 YP szE bd2 m),(22,ZbW XD szL bd2 m)]
theorem ZzO {m:Nat} (ht:TO w0 nG (Zuy m)):PC w0 nG 13 (ZbW Z8 ZmH bd2 m):=by
 refine Zd Zc mixed (tbl:=(Zuy m)) ht Tryz.func13 rfl kR kR ?_;intro args σ K h
 unfold ZbW at h
 split at h
 ·obtain ⟨pl,l,B,rfl,⟨⟨yj,oz⟩,yk,hz,hB⟩,h⟩:=h
  rename_i au
  have je:(l.map (Z8 pl)).length=l.length:=Tf ..;have hsz:=Zv ZmH l;unfold bd2 at h
  refine ⟨Zb [(3,⟨[6,5],[0,1],fun vs σ=>∃(i:Nat) (nn:Int),vs=[.d (.int .i64 i),.d (.int .i64 nn)]/\σ=⟨[],[],0⟩/\i<=l.length/\0<=nn/\nn<=2 * au+1,fun vs _=>match vs with | [.d (.int _ i),_]=>((l.length:Nat) - i:Int).toNat | _=>0⟩),(7,⟨[7,5],[0,1,6],fun vs σ=>∃(i:Nat) (nn:Int),vs=[.d (.int .i64 i),.d (.int .i64 nn)]/\σ=⟨[],[],0⟩/\i<=B/\1<=nn/\nn<=2 * au+1,fun vs _=>match vs with | [.d (.int _ i),_]=>((B:Nat) - i:Int).toNat | _=>0⟩)],0,false,sM,Ta rfl,wN ?_⟩;refine ⟨⟨0,0,rfl,rfl,oM,oM,oM⟩,?_⟩;intro vs σ hI
  obtain ⟨i,nn,rfl,rfl,hi,du,eo⟩:=hI;(conv=>whnf);refine ZDc (fun af=>?_) (fun af=>?_);rotate_left
  ·exact m136
  have af:i<l.length:=lzI je af;(conv=>whnf);refine ZDc (fun gu=>?_) (fun gu=>?_);rotate_left
  ·exact m136
  conv=>whnf
  obtain ⟨eA,hA⟩:∃e,l[i]=e:=⟨_,rfl⟩
  have hg:=ZA ZmH l i af;obtain ⟨b1,ar,b4,b5⟩:=eA;rw [hA] at hg;simp only [ZmH,W1] at hg;have bi:(l.map (Z8 pl))[((i:Nat):Int).toNat]?=some (Z8 pl (⟨b1,ar,b4,b5⟩:Ru)):=by simp [af,hA]
  have um:(Yn pl ar).length=ar.length:=by rw [Zh,Tf]
  have hs4:=Zv szE ar
  (repeat (first | (refine Or.inl ⟨InR.i64 oM oM,?_⟩;conv=>whnf) | (refine ⟨_,oM,bi,?_⟩;conv=>whnf)))
  refine ⟨⟨0,_,rfl,rfl,oM,oM,oM⟩,?_⟩;intro vs' σ' wz
  obtain ⟨j,n2,rfl,rfl,hj,w5,w6⟩:=wz;(conv=>whnf)
  (repeat (first | (refine Or.inl ⟨InR.i64 oM oM,?_⟩;conv=>whnf) | (refine ⟨_,oM,bi,?_⟩;conv=>whnf)))
  refine ZDc (fun gw=>?_) (fun gw=>?_);rotate_left
  ·exact m152
  have gw:j<ar.length:=lzI um gw;(conv=>whnf);refine ZDc (fun qj=>?_) (fun qj=>?_);rotate_left
  ·exact m152
  exact m32
 exact h.elim
structure Pr where
 types:List Ty
 rels:List Re
 rules:List Ru
def Ut (pl:Pl) (p:Pr):List D:=[.sl (p.types.map (Zu pl)),.sl (p.rels.map (ZN pl)),.sl (p.rules.map (Z8 pl))]
def Zis (p:Pr):Nat:=1+szS ZmI p.types+szS Zju p.rels+szS ZmH p.rules
noncomputable def Zuz (m:Nat):Tbl:=[(12,ZbW (fun _=>Zw) sz0 bd3 m),(13,ZbW Z8 ZmH bd2 m)]
theorem ZzP {m:Nat} (ht:TO w0 nG (Zuz m)):PC w0 nG 5 (Zq0 Ut Zis bd5 m):=by
 refine Zd Zc mixed (tbl:=(Zuz m)) ht Tryz.func5 rfl kR kR ?_;intro args σ K h
 unfold Zq0 at h
 split at h
 ·obtain ⟨pl,⟨p1,p2,p3⟩,B,rfl,⟨⟨yj,oz⟩,yk,hz,hB⟩,h⟩:=h
  rename_i au
  simp only [Zis] at hz;unfold bd5 at h
  have cn:(p1.map (Zu pl)).length=p1.length:=Tf ..;have gl:(p2.map (ZN pl)).length=p2.length:=Tf ..;have l6:=Zv ZmI p1;have ew:=Zv Zju p2;refine ⟨Zb [(3,⟨[6,5],[1,2],fun vs σ=>∃(i:Nat) (nn:Int),vs=[.d (.int .i64 i),.d (.int .i64 nn)]/\σ=⟨[.cells 26 ((Ut pl ⟨p1,p2,p3⟩).map .d)],[],0⟩/\i<=p1.length/\0<=nn/\nn<=5 * au+2,fun vs _=>match vs with | [.d (.int _ i),_]=>((p1.length:Nat) - i:Int).toNat | _=>0⟩),(10,⟨[8,5],[1,2,6,7],fun vs σ=>∃(i:Nat) (nn:Int) (b1:Nat) (b2 b3:Bs) (b4:List Fi) (b5:List Ca) (b6:Nat),vs=[.d (.int .i64 i),.d (.int .i64 nn)]/\σ=⟨[.cells 26 ((Ut pl ⟨p1,p2,p3⟩).map .d),.cells 48 ((Zu pl ⟨b1,b2,b3,b4,b5,b6⟩).map .d)],[],0⟩/\(i<=b5.length/\szS Zio b5<=B)/\0<=nn/\nn<=5 * au+2,fun vs _=>match vs with | [.d (.int _ i),_]=>((B:Nat) - i:Int).toNat | _=>0⟩),(14,⟨[9,5],[1,2],fun vs σ=>∃(i:Nat) (nn:Int),vs=[.d (.int .i64 i),.d (.int .i64 nn)]/\σ=⟨[.cells 26 ((Ut pl ⟨p1,p2,p3⟩).map .d)],[],0⟩/\i<=p2.length/\0<=nn/\nn<=5 * au+2,fun vs _=>match vs with | [.d (.int _ i),_]=>((p2.length:Nat) - i:Int).toNat | _=>0⟩)],0,false,sM,Ta rfl,wN ?_⟩;refine ⟨⟨0,0,rfl,rfl,oM,oM,oM⟩,?_⟩;intro vs σ hI
  obtain ⟨i,nn,rfl,rfl,hi,du,eo⟩:=hI;(conv=>whnf);refine ZDc (fun af=>?_) (fun af=>?_);rotate_left
  ·exact m9
  have af:i<p1.length:=lzI cn af;(conv=>whnf);refine ZDc (fun gu=>?_) (fun gu=>?_);rotate_left
  ·exact m9
  conv=>whnf
  obtain ⟨eA,hA⟩:∃e,p1[i]=e:=⟨_,rfl⟩
  have hg:=ZA ZmI p1 i af;obtain ⟨b1,b2,b3,b4,b5,b6⟩:=eA;rw [hA] at hg;simp only [ZmI] at hg;have bi:(p1.map (Zu pl))[((i:Nat):Int).toNat]?=some (Zu pl ⟨b1,b2,b3,b4,b5,b6⟩):=by simp [af,hA]
  (repeat (first | (refine Or.inl ⟨InR.i64 oM oM,?_⟩;conv=>whnf) | (refine ⟨_,oM,bi,?_⟩;conv=>whnf)))
  refine ZDc (fun aq=>wN ?_) (fun aq=>wN ?_)
  ·(repeat (first | (refine Or.inl ⟨InR.i64 oM oM,?_⟩;conv=>whnf) | (refine ⟨_,oM,bi,?_⟩;conv=>whnf)))
   refine ⟨pl,b4,B,rfl,⟨⟨oM,oM⟩,oM,oM,hB⟩,fun r kl kz=>wN ?_⟩;unfold bd3 at kz
   (repeat (first | (refine Or.inl ⟨InR.i64 oM oM,?_⟩;conv=>whnf) | (refine ⟨_,oM,bi,?_⟩;conv=>whnf)))
   exact m12
  exact m12
 exact h.elim
theorem ZCQ (m:Nat):PC w0 nG 5 (Zq0 Ut Zis bd5 m):=ZzP ⟨ZzL,ZzO ⟨cZE m,cZL m,trivial⟩,trivial⟩
def mvM {α:Type} (f:α->MV) (m:List (Bs×α)):List (Bs×MV):=m.map fun x=>(x.1,f x.2)
def mvI (n:Int):MV:=.one (.int .i64 n)
def mvB (b:Bool):MV:=.one (.bool b)
def mvC (c:Int×Int):MV:=.agg [.int .i64 c.1,.int .i64 c.2]
theorem XQ {α:Type} {f:α->MV} {k:Bs}:∀m:List (Bs×α),lkM k (mvM f m)=(lkM k m).map f
 | []=>rfl
 | (x,v)::l=>by
  have ih:=XQ (f:=f) (k:=k) l;simp only [mvM,TC,lkM] at ih |-
  cases decide (k=x) with
  | true=>rfl
  | false=>exact ih
theorem Uu {α:Type} {f:α->MV} {k:Bs} {v:α}:∀m:List (Bs×α),Uv k (f v) (mvM f m)=mvM f (Uv k v m)
 | []=>rfl
 | (x,u)::l=>by
  have ih:=Uu (f:=f) (k:=k) (v:=v) l;simp only [mvM,TC,Uv] at ih |-
  cases decide (k=x) with
  | true=>rfl
  | false=>simp only [ih];rfl
theorem Zxr {α:Type} {f:α->MV} (m:List (Bs×α)):(mvM f m).length=m.length:=Tf ..
theorem ZjG {α:Type} {k s:Bs} {v:α}:∀m:List (Bs×α),lkM s (Uv k v m)=if s=k then some v else lkM s m
 | []=>by simp only [Uv,lkM];by_cases h:s=k <;> simp [h]
 | (x,u)::l=>by
  have ih:=ZjG (k:=k) (s:=s) (v:=v) l;simp only [Uv]
  by_cases h:k=x
  ·subst h;rw [Ss rfl];simp only [lkM]
   by_cases g:s=k <;> simp [g]
  rw [decide_eq_false h];simp only [lkM,ih]
  by_cases g:s=x
  ·subst g;rw [Ss rfl];simp only;rw [Tg (fun e=>h e.symm)]
  rw [decide_eq_false g]
theorem Zgs {α:Type} {k:Bs} {v:α}:∀{m:List (Bs×α)},lkM k m=none->(Uv k v m).length=m.length+1
 | [],_=>rfl
 | (x,u)::l,h=>by
  simp only [lkM] at h;simp only [Uv]
  cases hd:decide (k=x) with
  | true=>rw [hd] at h;cases h
  | false=>rw [hd] at h;simp only [Tc,Zgs h]
def Zrz:Bs:=[110,117,109,98,101,114]
def ZxS:Bs:=[115,121,109,98,111,108]
def Zic (s:Bs):Bool:=decide (s=Zrz) || decide (s=ZxS)
def Wa:Nat->List Bs->List (Bs×Int)->List (Bs×Int)
 | _,[],m=>m
 | i,s::l,m=>Wa (i+1) l (if (lkM s m).isNone=true then Uv s (i:Int) m else m)
def Y0 (l:List Bs):List (Bs×Int):=Wa 0 l []
def Zth (p:Pr):List (Bs×Int):=Y0 (p.types.map (·.name))
def ZjH (p:Pr):List (Bs×Int):=Y0 (p.rels.map (·.name))
def Yz (i:Nat):Nat->List Ca->List (Bs×(Int×Int))->List (Bs×(Int×Int))
 | _,[],m=>m
 | k,c::l,m=>Yz i (k+1) l (if (lkM c.name m).isNone=true then Uv c.name ((i:Int),(k:Int)) m else m)
def Zbc:Nat->List Ty->List (Bs×(Int×Int))->List (Bs×(Int×Int))
 | _,[],m=>m
 | i,t::l,m=>Zbc (i+1) l (Yz i 0 t.cases m)
def Zli (p:Pr):List (Bs×(Int×Int)):=Zbc 0 p.types []
def Yr:List Ty->List (Bs×Int)->List (Bs×Int)
 | [],m=>m
 | t::l,m=>Yr l (if t.kind≠1/\(lkM t.name m).isNone=true then Uv t.name (m.length:Int) m else m)
def Zbd (p:Pr):List (Bs×Int):=Yr p.types [(Zrz,0),(ZxS,1)]
def W4 (p:Pr) (s:Bs):Option Bs:=match lkM s (Zth p) with
 | none=>none
 | some i=>if Zic s=true then none else match p.types[i.toNat]? with
  | some t=>if t.kind=1/\t.base≠[] then some t.base else none
  | none=>none
def XR (p:Pr) (s:Bs):Bool:=(lkM s (Zth p)).isSome || Zic s
theorem ZdH {s:Bs}:∀(l:List Bs) (i:Nat) (m:List (Bs×Int)) (n:Int),lkM s (Wa i l m)=some n->lkM s m=some n\/∃k:Nat,n=i+k/\l[k]?=some s
 | [],i,m,n,h=>.inl h
 | x::l,i,m,n,h=>by
  rcases ZdH l (i+1) _ n h with h | ⟨k,h1,h2⟩
  ·split at h
   ·rw [ZjG] at h;split at h
    ·rename_i e;cases h;exact .inr ⟨0,oM,by simp [e]⟩
    exact .inl h
   exact .inl h
  exact .inr ⟨k+1,oM,by simpa using h2⟩
theorem ZmW {s:Bs} {l:List Bs} {n:Int} (h:lkM s (Y0 l)=some n):∃k:Nat,n=k/\l[k]?=some s:=by
 rcases ZdH l 0 [] n h with h | ⟨k,h1,h2⟩
 ·cases h
 exact ⟨k,oM,h2⟩
theorem Zq1 {p:Pr} {s:Bs} {n:Int} (h:lkM s (Zth p)=some n):∃(k:Nat) (t:Ty),n=k/\p.types[k]?=some t/\t.name=s:=by
 obtain ⟨k,h1,h2⟩:=ZmW h;rw [To] at h2;obtain ⟨t,h3,h4⟩:=TW.1 h2;exact ⟨k,t,h1,h3,h4⟩
abbrev ZzQ (pl:Pl) (p:Pr) (b:Nat):List PV:=[.mp b,.mp (b+1),.mp (b+2),.mp (b+3),.d (.sl (p.types.map (Zu pl))),.d (.sl (p.rels.map (ZN pl))),.d (.sl (p.rules.map (Z8 pl)))]
abbrev ZzR (p:Pr):List Box:=[.dmap (mvM mvI (Zth p)),.dmap (mvM mvI (ZjH p)),.dmap (mvM mvI (Zbd p)),.dmap (mvM mvC (Zli p))]
abbrev Zid (pl:Pl) (p:Pr):List Box:=.cells 91 (ZzQ pl p 1)::ZzR p
def BP (p:Pr):Prop:=Zis p<=1073741824
theorem BP.len {p:Pr} (h:BP p):p.types.length<=1073741824/\p.rels.length<=1073741824/\p.rules.length<=1073741824:=by
 unfold BP Zis at h
 have h1:=Zv ZmI p.types;have h2:=Zv Zju p.rels;have h3:=Zv ZmH p.rules;omega
theorem ZjI {α:Type} {f:α->Nat} {l:List α} {x:α} (h:x∈l):f x<szS f l:=by
 obtain ⟨i,hi,rfl⟩:=Se h;exact ZA f l i hi
theorem BP.ty {p:Pr} (h:BP p) {t:Ty} (ht:t∈p.types):t.fields.length<=1073741824/\t.cases.length<=1073741824/\∀c∈t.cases,c.fields.length<=1073741824:=by
 unfold BP Zis at h
 have h1:=ZjI (f:=ZmI) ht;have e1:ZmI t=1+szS sz0 t.fields+szS Zio t.cases:=rfl;have h2:=Zv sz0 t.fields;have h3:=Zv Zio t.cases;refine ⟨oM,oM,fun c hc=>?_⟩;have h4:=ZjI (f:=Zio) hc;have e2:Zio c=1+szS sz0 c.fields:=rfl;have h5:=Zv sz0 c.fields;omega
theorem BP.re {p:Pr} (h:BP p) {d:Re} (hd:d∈p.rels):d.fields.length<=1073741824:=by
 unfold BP Zis at h
 have h1:=ZjI (f:=Zju) hd;have e1:Zju d=1+szS sz0 d.fields:=rfl;have h2:=Zv sz0 d.fields;omega
def VO (p:Pr) (b:Bs):Nat->Bs->Bool
 | 0,_=>false
 | n+1,a=>if a=b then true else match W4 p a with
  | none=>false
  | some c=>VO p b n c
def WS (p:Pr) (a b:Bs):Bool:=VO p b (p.types.length+1) a
def Zan (p:Pr):Nat->Bs->Option Bs
 | 0,_=>none
 | n+1,a=>match W4 p a with
  | none=>some a
  | some c=>Zan p n c
def Zq2 (p:Pr) (a:Bs):Option Bs:=Zan p (p.types.length+1) a
def Vr (p:Pr):Nat->Bs->Nat
 | 0,_=>0
 | n+1,a=>match W4 p a with
  | none=>0
  | some c=>Vr p n c+1
def YV (p:Pr) (a:Bs):Int:=(lkM ((Zq2 p a).getD []) (Zbd p)).getD 0
def Yi (p:Pr) (l:List Fi):List Int:=l.map fun f=>YV p f.typ
def Zxs (p:Pr):Prop:=∀s,(Zq2 p s).isSome=true
theorem Zfe {p:Pr}:∀{n m:Nat} {a r:Bs},Zan p n a=some r->n<=m->Zan p m a=some r
 | 0,_,_,_,h,_=>by cases h
 | n+1,0,_,_,_,h=>oM
 | n+1,m+1,a,r,h,aq=>by
  simp only [Zan] at h |-;split at h
  ·exact h
  exact Zfe h oM
theorem Zlj {p:Pr} {n:Nat} {a c r:Bs} (hb:W4 p a=some c) (h:Zan p n a=some r):∃m,n=m+1/\Zan p m c=some r:=by
 cases n with
 | zero=>cases h
 | succ m=>refine ⟨m,rfl,?_⟩;simpa only [Zan,hb] using h
theorem Zlk {p:Pr} {a c r:Bs} (hb:W4 p a=some c) (h:Zq2 p a=some r):Zq2 p c=some r:=by
 obtain ⟨m,h1,h2⟩:=Zlj hb h;exact Zfe h2 oM
theorem Zti {p:Pr} {a:Bs} (hb:W4 p a=none):Zq2 p a=some a:=by simp only [Zq2,Zan,hb]
theorem Zgt {p:Pr}:∀{n:Nat} {a c r:Bs},Zan p n a=some r->W4 p a=some c->∀m,n<=m->Vr p m c<Vr p m a
 | 0,_,_,_,h,_,_,_=>by cases h
 | n+1,a,c,r,h,hb,m,hm=>by
  obtain ⟨k,rfl⟩:∃k,m=k+1:=⟨m - 1,oM⟩
  simp only [Zan,hb] at h;have e:Vr p (k+1) a=Vr p k c+1:=by simp only [Vr,hb]
  rw [e]
  cases hc:W4 p c with
  | none=>simp only [Vr,hc];omega
  | some d =>
  have e2:Vr p (k+1) c=Vr p k d+1:=by simp only [Vr,hc]
  rw [e2];have:=Zgt h hc k oM;omega
noncomputable def Zao (body:List PV->Pl->Pr->(PEnd->Prop)->Prop):Zo:=fun args σ K=>match args,σ with
 | .ptr 0 0::rest,⟨bx,[],0⟩=>∃pl p,bx=Zid pl p/\BP p/\body rest pl p fun pe=>K pe ⟨bx,[],0⟩
 | _,_=>False
noncomputable def ZjJ:Zo:=fun args σ K=>match args,σ with
 | [.d (.str s)],⟨[],[],0⟩=>∀b,Zic s=b->K (.ret (.d (.bool b))) ⟨[],[],0⟩
 | _,_=>False
theorem Zll:PC w0 nG 33 ZjJ:=by
 refine Zd Zc mixed (tbl:=[]) trivial Tryz.func33 rfl kR kR ?_;intro args σ K h
 unfold ZjJ at h
 split at h
 ·rename_i s
  refine ⟨Zb [],0,false,sM,Ta rfl,wN ?_⟩;refine ZDc (fun h1=>wN ?_) (fun h1=>wN ?_)
  ·exact h _ (by simp [Zic,show s=Zrz from h1])
  exact h _ (by simp [Zic,show ¬s=Zrz from h1];rfl)
 exact h.elim
noncomputable def Zie:Zo:=Zao fun rest pl p K=>match rest with
 | [.d (.str s)]=>∀x,W4 p s=x->K (.ret (.tuple [.d (.str (x.getD [])),.d (.bool x.isSome)]))
 | _=>False
noncomputable def Zgu:Tbl:=[(33,ZjJ)]
theorem Zxt (ht:TO w0 nG Zgu):PC w0 nG 32 Zie:=by
 refine Zd Zc mixed (tbl:=Zgu) ht Tryz.func32 rfl kR kR ?_;intro args σ K h
 unfold Zie Zao at h
 split at h
 ·obtain ⟨pl,p,rfl,hp,h⟩:=h;split at h
  ·rename_i s
   refine ⟨Zb [],5,false,sM,Ta rfl,wN ?_⟩;refine ZDl (fun v hv=>?_) (fun hv=>?_);rotate_left
   ·rw [XQ,Option.map_eq_none_iff] at hv;(conv=>whnf);exact h none (by simp only [W4,hv])
   rw [XQ] at hv;obtain ⟨n,hn,rfl⟩:=TW.1 hv;obtain ⟨k,⟨t1,t2,t3,t4,t5,t6⟩,rfl,ht,ak⟩:=Zq1 hn;have hk:p.types[(k:Int).toNat]?=some ⟨t1,t2,t3,t4,t5,t6⟩:=by rw [Tw];exact ht
   have hr:(p.types.map (Zu pl))[(k:Int).toNat]?=some (Zu pl ⟨t1,t2,t3,t4,t5,t6⟩):=by rw [To,hk];rfl
   conv=>whnf
   intro b hb
   cases b with
   | true =>
    conv=>whnf
    exact h none (by simp only [W4,hn,hb,if_true])
   | false =>
   conv=>whnf
   refine ⟨_,oM,hr,wN ?_⟩;refine ZDe (fun hc=>wN ?_) (fun hc=>wN ?_)
   ·exact h none (by simp only [W4,hn,hb,hk];rw [Tg sM,Tg];intro g;exact hc (by simp only [g.1];rfl))
   refine ⟨_,oM,hr,wN ?_⟩;refine ⟨_,oM,hr,wN ?_⟩;have cy:t1=1:=by have hc:(t1:Int)=1:=hc;omega
   cases t3 with
   | nil=>exact h none (by simp only [W4,hn,hb,hk];rw [Tg sM,Tg sM])
   | cons x t3=>exact h (some (x::t3)) (by simp only [W4,hn,hb,hk];rw [Tg sM,Tj ⟨cy,sM⟩])
  exact h.elim
 exact h.elim
noncomputable def UP:Zo:=Zao fun rest pl p K=>match rest with
 | [.d (.str s)]=>∀b,XR p s=b->K (.ret (.d (.bool b)))
 | _=>False
theorem Zq3 (ht:TO w0 nG Zgu):PC w0 nG 18 UP:=by
 refine Zd Zc mixed (tbl:=Zgu) ht Tryz.func18 rfl kR kR ?_;intro args σ K h
 unfold UP Zao at h
 split at h
 ·obtain ⟨pl,p,rfl,hp,h⟩:=h;split at h
  ·rename_i s
   refine ⟨Zb [],5,false,sM,Ta rfl,wN ?_⟩;refine ZDl (fun v hv=>?_) (fun hv=>wN ?_)
   ·rw [XQ] at hv;obtain ⟨n,hn,rfl⟩:=TW.1 hv;(conv=>whnf);exact h true (by simp [XR,hn])
   rw [XQ,Option.map_eq_none_iff] at hv;intro b hb
   conv=>whnf
   exact h b (by simp [XR,hv,hb])
  exact h.elim
 exact h.elim
noncomputable def ZdI:Zo:=Zao fun rest pl p K=>match rest with
 | [.d (.str s)]=>Zxs p/\∀n,YV p s=n->K (.ret (.d (.int .i64 n)))
 | _=>False
noncomputable def Zcg:Tbl:=[(32,Zie)]
theorem Zq4 (ht:TO w0 nG Zcg):PC w0 nG 19 ZdI:=by
 refine Zd Zc mixed (tbl:=Zcg) ht Tryz.func19 rfl kR kR ?_;intro args σ K h
 unfold ZdI Zao at h
 split at h
 ·obtain ⟨pl,p,rfl,hp,h⟩:=h;split at h
  ·rename_i s
   obtain ⟨he,h⟩:=h;obtain ⟨r,hr⟩:=T7.1 (he s);refine ⟨Zb [(1,⟨[1],[0],fun vs σ=>∃a,vs=[.d (.str a)]/\σ=⟨Zid pl p,[],0⟩/\Zq2 p a=some r,fun vs _=>match vs with | [.d (.str a)]=>Vr p (p.types.length+1) a | _=>0⟩)],5,false,sM,Ta rfl,wN ?_⟩;refine ⟨⟨s,rfl,rfl,hr⟩,?_⟩
   rintro vs σ1 ⟨a,rfl,rfl,ha⟩
   conv=>whnf
   refine ⟨pl,p,rfl,hp,fun x hx=>?_⟩
   cases x with
   | none =>
    have hra:r=a:=by rw [Zti hx] at ha;exact (Option.some.inj ha).symm
    subst hra;(conv=>whnf);refine ZDl (fun v hv=>?_) (fun hv=>wN ?_)
    ·rw [XQ] at hv;obtain ⟨n,hn,rfl⟩:=TW.1 hv;(conv=>whnf);exact h n (by simp [YV,hr,hn])
    rw [XQ,Option.map_eq_none_iff] at hv;exact h 0 (by simp [YV,hr,hv])
   | some c =>
   conv=>whnf
   exact ⟨⟨c,rfl,rfl,Zlk hx ha⟩,Zgt ha hx _ (Tq _)⟩
  exact h.elim
 exact h.elim
noncomputable def ZjK:Zo:=Zao fun rest pl p K=>match rest with
 | [.d (.str a),.d (.str b)]=>∀x,WS p a b=x->K (.ret (.d (.bool x)))
 | _=>False
theorem Zq5 (ht:TO w0 nG Zcg):PC w0 nG 17 ZjK:=by
 refine Zd Zc mixed (tbl:=Zcg) ht Tryz.func17 rfl kR kR ?_;intro args σ K h
 unfold ZjK Zao at h
 split at h
 ·obtain ⟨pl,p,rfl,hp,h⟩:=h;split at h
  ·rename_i s b
   have ai:=hp.len.1;have hl:(p.types.map (Zu pl)).length=p.types.length:=Tf ..;refine ⟨Zb [(2,⟨[1,16],[0,2,15],fun vs σ=>∃a j,vs=[.d (.str a),.d (.int .i64 j)]/\σ=⟨Zid pl p,[],0⟩/\(0<=j/\j<=p.types.length+1)/\VO p b (p.types.length+1 - j.toNat) a=WS p s b,
    fun vs _=>match vs with | [_,.d (.int _ j)]=>((p.types.length:Int)+1 - j).toNat | _=>0⟩)],5,false,sM,Ta rfl,?_⟩
   conv=>whnf
   refine Or.inl ⟨InR.i64 oM oM,wN ?_⟩;refine ⟨⟨s,0,rfl,rfl,⟨oM,oM⟩,rfl⟩,?_⟩
   rintro vs σ1 ⟨a,j,rfl,rfl,⟨qw,hj1⟩,ha⟩
   conv=>whnf
   refine ZDc (fun hc=>?_) (fun hc=>?_);rotate_left
   ·conv=>whnf
    rw [show p.types.length+1 - j.toNat=0 by omega] at ha;exact h false (by rw [<- ha];rfl)
   obtain ⟨q,hq⟩:∃q,p.types.length+1 - j.toNat=q+1:=⟨p.types.length - j.toNat,oM⟩
   rw [hq] at ha;simp only [VO] at ha;(conv=>whnf);refine ZDc (fun mg=>wN ?_) (fun mg=>wN ?_)
   ·rw [Tj mg] at ha;exact h true ha.symm
   rw [Tg mg] at ha;refine ⟨pl,p,rfl,hp,fun x hx=>?_⟩;rw [hx] at ha
   cases x with
   | none =>
    conv=>whnf
    exact h false ha.symm
   | some c =>
   conv=>whnf
   refine Or.inl ⟨InR.i64 oM oM,wN ?_⟩;refine ⟨⟨c,j+1,rfl,rfl,⟨oM,oM⟩,?_⟩,?_⟩
   ·rw [show p.types.length+1 - (j+1).toNat=q by omega];exact ha
   show ((p.types.length:Int)+1 - (j+1)).toNat<((p.types.length:Int)+1 - j).toNat;omega
  exact h.elim
 exact h.elim
abbrev Zq6 (pl:Pl) (p:Pr):List Box:=.cells 56 [.ptr 1 0]::.cells 91 (ZzQ pl p 2)::ZzR p
noncomputable def ZmX {α:Type} (enc:α->List D) (cond:α->Prop) (q:Pr->α->Bool):Zo:=fun args σ K=>match args,σ with
 | [.agg c,.ptr 0 0],⟨bx,[],0⟩=>∃pl p x,bx=Zq6 pl p/\c=(enc x).map .d/\(BP p/\cond x)/\∀b,q p x=b->K (.ret (.d (.bool b))) ⟨bx,[],0⟩
 | _,_=>False
def Zq7 {α:Type} (q:α->Bool):Nat->List α->Int
 | _,[]=>-1
 | i,x::l=>if q x=true then i else Zq7 q (i+1) l
theorem ZjL {α:Type} {q:α->Bool}:∀(l:List α) (i:Nat),(0<=Zq7 q i l)↔l.any q=true
 | [],i=>by simp [Zq7]
 | x::l,i=>by
  simp only [Zq7,List.any_cons]
  cases hq:q x with
  | true=>simp
  | false=>simpa using ZjL l (i+1)
noncomputable def Zff {α:Type} (clo:FuncId) (enc:α->List D) (cond:α->Prop) (q:Pr->α->Bool):Zo:=fun args σ K=>match args,σ with
 | [.d (.sl rows),.func g [] [.ptr 0 0]],⟨bx,[],0⟩=>∃pl p l,bx=Zq6 pl p/\rows=l.map enc/\(g=clo/\BP p/\l.length<=1073741824/\∀x∈l,cond x)/\∀i,Zq7 (q p) 0 l=i->K (.ret (.d (.int .i64 i))) ⟨bx,[],0⟩
 | _,_=>False
noncomputable def Zfg {α:Type} (clo:FuncId) (enc:α->List D) (cond:α->Prop) (q:Pr->α->Bool):Zo:=fun args σ K=>match args,σ with
 | [.d (.sl rows),.func g [] [.ptr 0 0]],⟨bx,[],0⟩=>∃pl p,∃l:List α,bx=Zq6 pl p/\rows=l.map enc/\(g=clo/\BP p/\l.length<=1073741824/\∀x∈l,cond x)/\∀b,l.any (q p)=b->K (.ret (.d (.bool b))) ⟨bx,[],0⟩
 | _,_=>False
def Vs (p:Pr) (l:List Fi):Bool:=!(l.any fun f=>!XR p f.typ)
def Zbe:{α:Type}->α->Prop:=fun _=>True
def Zfh (c:Ca):Prop:=c.fields.length<=1073741824
noncomputable def Zlm:Tbl:=[(18,UP)]
theorem Ztj (ht:TO w0 nG Zlm):PC w0 nG 83 (ZmX Zw Zbe (fun p (f:Fi)=>!XR p f.typ)):=by
 refine Zd Zc mixed (tbl:=Zlm) ht Tryz.func83 rfl kR kR ?_;intro args σ K h
 unfold ZmX at h
 split at h
 ·obtain ⟨pl,p,⟨f1,f2⟩,rfl,rfl,⟨hp,s8⟩,h⟩:=h;refine ⟨Zb [],6,false,sM,Ta rfl,wN ?_⟩;refine ⟨pl,p,rfl,hp,fun b hb=>wN ?_⟩;exact h _ (by simp only [hb])
 exact h.elim
noncomputable def Zln:Tbl:=[(83,ZmX Zw Zbe (fun p (f:Fi)=>!XR p f.typ))]
theorem Ztk (ht:TO w0 nG Zln):PC w0 nG 145 (Zff 83 Zw Zbe (fun p (f:Fi)=>!XR p f.typ)):=by
 refine Zd Zc mixed (tbl:=Zln) ht Tryz.func145 rfl kR kR ?_;intro args σ K h
 unfold Zff at h
 split at h
 ·obtain ⟨pl,p,l,rfl,rfl,⟨rfl,hp,aa,j8⟩,h⟩:=h;have hl:(l.map Zw).length=l.length:=Tf ..;refine ⟨Zb [(2,⟨[8],[0,1,7],fun vs σ=>∃j:Nat,vs=[.d (.int .i64 j)]/\σ=⟨Zq6 pl p,[],0⟩/\j<=l.length/\Zq7 ((fun p (f:Fi)=>!XR p f.typ) p) j (l.drop j)=Zq7 ((fun p (f:Fi)=>!XR p f.typ) p) 0 l,
   mu1 l.length⟩)],6,false,sM,Ta rfl,?_⟩
  conv=>whnf
  refine ⟨⟨0,rfl,rfl,oM,rfl⟩,?_⟩
  rintro vs σ1 ⟨j,rfl,rfl,hj,ha⟩
  conv=>whnf
  refine ZDc (fun hc=>?_) (fun hc=>?_);rotate_left
  ·conv=>whnf
   rw [TJ oM] at ha;exact h (-1) ha.symm
  have ai:j<l.length:=oM;rw [TH ai] at ha;have hr:(l.map Zw)[(j:Int).toNat]?=some (Zw l[j]):=by rw [Tw,To,Te ai];rfl
  have s8:=j8 _ (TB ai);generalize l[j]=x at ha hr s8;obtain ⟨f1,f2⟩:=x;exact m44
 exact h.elim
noncomputable def Zlo:Tbl:=[(145,Zff 83 Zw Zbe (fun p (f:Fi)=>!XR p f.typ))]
theorem Ztl (ht:TO w0 nG Zlo):PC w0 nG 82 (Zfg 83 Zw Zbe (fun p (f:Fi)=>!XR p f.typ)):=by
 refine Zd Zc mixed (tbl:=Zlo) ht Tryz.func82 rfl kR kR ?_;exact _root_.m64
noncomputable def ZdJ:Zo:=Zao fun rest pl p K=>match rest with
 | [.d (.sl rows)]=>∃l:List Fi,rows=l.map Zw/\l.length<=1073741824/\∀b,Vs p l=b->K (.ret (.d (.bool b)))
 | _=>False
noncomputable def Zlp:Tbl:=[(82,Zfg 83 Zw Zbe (fun p (f:Fi)=>!XR p f.typ))]
theorem Ztm (ht:TO w0 nG Zlp):PC w0 nG 44 ZdJ:=by
 refine Zd Zc mixed (tbl:=Zlp) ht Tryz.func44 rfl kR kR ?_;intro args σ K h
 unfold ZdJ Zao at h
 split at h
 ·obtain ⟨pl,p,rfl,hp,h⟩:=h;split at h
  ·obtain ⟨l,rfl,aa,h⟩:=h;refine ⟨Zb [],5,false,sM,Ta rfl,wN ?_⟩;refine ⟨pl,p,l,rfl,rfl,⟨rfl,hp,aa,fun _ _=>trivial⟩,fun b hb=>wN ?_⟩;exact h _ (by simp only [Vs,hb])
  exact h.elim
 exact h.elim
noncomputable def Zlq:Tbl:=[(44,ZdJ)]
theorem Ztn (ht:TO w0 nG Zlq):PC w0 nG 43 (ZmX Zn Zfh (fun p (c:Ca)=>!Vs p c.fields)):=by
 refine Zd Zc mixed (tbl:=Zlq) ht Tryz.func43 rfl kR kR ?_;intro args σ K h
 unfold ZmX at h
 split at h
 ·obtain ⟨pl,p,⟨c1,c2⟩,rfl,rfl,⟨hp,s8⟩,h⟩:=h;refine ⟨Zb [],6,false,sM,Ta rfl,wN ?_⟩;refine ⟨pl,p,rfl,hp,c2,rfl,s8,fun b hb=>wN ?_⟩;exact h _ (by simp only [hb])
 exact h.elim
noncomputable def Zlr:Tbl:=[(43,ZmX Zn Zfh (fun p (c:Ca)=>!Vs p c.fields))]
theorem Zto (ht:TO w0 nG Zlr):PC w0 nG 81 (Zff 43 Zn Zfh (fun p (c:Ca)=>!Vs p c.fields)):=by
 refine Zd Zc mixed (tbl:=Zlr) ht Tryz.func81 rfl kR kR ?_;intro args σ K h
 unfold Zff at h
 split at h
 ·obtain ⟨pl,p,l,rfl,rfl,⟨rfl,hp,aa,j8⟩,h⟩:=h;have hl:(l.map Zn).length=l.length:=Tf ..;refine ⟨Zb [(2,⟨[8],[0,1,7],fun vs σ=>∃j:Nat,vs=[.d (.int .i64 j)]/\σ=⟨Zq6 pl p,[],0⟩/\j<=l.length/\Zq7 ((fun p (c:Ca)=>!Vs p c.fields) p) j (l.drop j)=Zq7 ((fun p (c:Ca)=>!Vs p c.fields) p) 0 l,
   mu1 l.length⟩)],6,false,sM,Ta rfl,?_⟩
  conv=>whnf
  refine ⟨⟨0,rfl,rfl,oM,rfl⟩,?_⟩
  rintro vs σ1 ⟨j,rfl,rfl,hj,ha⟩
  conv=>whnf
  refine ZDc (fun hc=>?_) (fun hc=>?_);rotate_left
  ·conv=>whnf
   rw [TJ oM] at ha;exact h (-1) ha.symm
  have ai:j<l.length:=oM;rw [TH ai] at ha;have hr:(l.map Zn)[(j:Int).toNat]?=some (Zn l[j]):=by rw [Tw,To,Te ai];rfl
  have s8:=j8 _ (TB ai);generalize l[j]=x at ha hr s8;obtain ⟨c1,c2⟩:=x;exact m44
 exact h.elim
noncomputable def Zls:Tbl:=[(81,Zff 43 Zn Zfh (fun p (c:Ca)=>!Vs p c.fields))]
theorem Ztp (ht:TO w0 nG Zls):PC w0 nG 42 (Zfg 43 Zn Zfh (fun p (c:Ca)=>!Vs p c.fields)):=by
 refine Zd Zc mixed (tbl:=Zls) ht Tryz.func42 rfl kR kR ?_;exact _root_.m64
def VZ (l:List Int):List (List D):=l.map fun n=>[.int .i64 n]
noncomputable def ZdK:Zo:=Zao fun rest pl p K=>match rest with
 | [.d (.sl rows)]=>∃l:List Fi,rows=l.map Zw/\(Zxs p/\l.length<=1073741824)/\K (.ret (.d (.sl (VZ (Yi p l)))))
 | _=>False
noncomputable def Zfi:Tbl:=[(19,ZdI)]
theorem ZmY (ht:TO w0 nG Zfi):PC w0 nG 20 ZdK:=by
 refine Zd Zc mixed (tbl:=Zfi) ht Tryz.func20 rfl kR kR ?_;intro args σ K h
 unfold ZdK Zao at h
 split at h
 ·obtain ⟨pl,p,rfl,hp,h⟩:=h;split at h
  ·obtain ⟨l,rfl,⟨he,aa⟩,h⟩:=h;have hl:(l.map Zw).length=l.length:=Tf ..;refine ⟨Zb [(3,⟨[5,10],[0,8,9],fun vs σ=>∃j:Nat,vs=[.sl 0 3 (VZ (Yi p (l.take j))),.d (.int .i64 j)]/\σ=⟨Zid pl p,[0],1⟩/\j<=l.length,
    mu2 l.length⟩)],5,false,sM,Ta rfl,?_⟩
   conv=>whnf
   refine ⟨⟨0,rfl,rfl,oM⟩,?_⟩
   rintro vs σ1 ⟨j,rfl,rfl,hj⟩
   conv=>whnf
   refine ZDc (fun hc=>?_) (fun hc=>?_);rotate_left
   ·conv=>whnf
    rw [List.take_of_length_le oM];exact h
   have ai:j<l.length:=oM;have ht:Yi p (l.take (j+1))=Yi p (l.take j)++[YV p l[j].typ]:=by simp only [Yi,List.take_succ,Te ai,Option.toList_some,Sp,TC,TL]
   have hr:(l.map Zw)[(j:Int).toNat]?=some (Zw l[j]):=by rw [Tw,To,Te ai];rfl
   have hlr:(VZ (Yi p (l.take j))).length=j:=by simp [VZ,Yi];omega
   generalize l[j]=x at ht hr;obtain ⟨f1,f2⟩:=x;(conv=>whnf);refine ⟨_,oM,hr,wN ?_⟩;refine ⟨pl,p,rfl,hp,he,fun n hn=>wN ?_⟩;refine ⟨fun r hr=>by simp at hr;subst hr;rfl,?_,?_,?_⟩
   ·show ((VZ (Yi p (l.take j))).length+1) * 8<=2 ^ 47;omega
   ·show (VZ (Yi p (l.take j))).length+1<=2 ^ 47;omega
   conv=>whnf
   refine Or.inl ⟨InR.i64 oM oM,wN ?_⟩;refine ⟨⟨j+1,?_,rfl,oM⟩,?_⟩
   ·rw [ht,hn];simp only [VZ,Sp,TC,TL];rfl
   show ((l.length:Int) - ((j:Int)+1)).toNat<((l.length:Int) - (j:Int)).toNat;omega
  exact h.elim
 exact h.elim
end Go.PM.Lex
end
