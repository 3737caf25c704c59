/- A part of the proof: plain logic, contracts and laws over the given program. -/
import Derived.Test.YtkoicjdlpkaopaaGreatDoorU09
set_option linter.unusedVariables false
set_option linter.unusedSimpArgs false
set_option linter.all false
set_option maxRecDepth 100000
set_option maxHeartbeats 16000000
section
namespace Go.PM.Lex
open Go.Proofs
variable {w0:World} {nG:Nat}
theorem ZpJ {a:Nat} {r:Bs} {t:Tok} (h:Xq a r true=.tok t):1<=t.kind/\t.kind<=4:=by
 rw [YT] at h;split at h
 ·cases h
 rw [Tc sM] at h;split at h
 ·cases h;exact ⟨Ta rfl,Ta rfl⟩
 split at h
 ·unfold J3 at h
  split at h
  ·cases h
  cases h;exact ⟨Ta rfl,Ta rfl⟩
 split at h
 ·unfold XM at h
  split at h
  ·cases h
  cases h;exact ⟨Ta rfl,Ta rfl⟩
 cases h;exact ⟨Ta rfl,Ta rfl⟩
theorem ZkV:∀(f:Nat) (most:Int) (a:Nat) (r:Bs),∀x∈(Xk f most a r).1,1<=x.kind/\x.kind<=4
 | 0,most,a,r=>fun x hx=>by simp [Xk] at hx
 | f+1,most,a,r=>by
  rw [Xk];split
  ·intro x hx;cases hx
  dsimp only;split
  ·intro x hx;cases hx
  rename_i an
  split
  ·intro x hx;cases hx
  rename_i t ht
  have f8:=ZiI ht;rw [f8] at ht;intro x hx
  rcases Tv.1 hx with rfl | hx
  ·exact ZpJ ht
  exact ZkV f _ _ _ x hx
theorem ZrT {a:Nat} {r:Bs} {t:Tok} (h:Xq a r true=.tok t) (hk:t.kind=1):t.text≠[40]:=by
 rw [YT] at h;split at h
 ·cases h
 rw [Tc sM] at h;split at h
 ·cases h;exact absurd hk sM
 rename_i hs
 split at h
 ·unfold J3 at h
  exact m161
 split at h
 ·unfold XM at h
  exact m161
 cases h
 intro g
 apply hs
 cases r with
 | nil=>simp at g
 | cons b r =>
 cases hn:XD (b::r) with
 | zero=>rw [hn] at g;simp at g
 | succ k =>
 rw [hn] at g;have hb:b=40:=by
  have:=congrArg (fun l=>l.getD 0 0) g;simpa using this
 subst hb;unfold Yo
 split
 ·omega
 rw [Tg (by simp [ones])];omega
theorem ZpK:∀(f:Nat) (most:Int) (a:Nat) (r:Bs),∀x∈(Xk f most a r).1,x.kind=1->x.text≠[40]
 | 0,most,a,r=>fun x hx=>by simp [Xk] at hx
 | f+1,most,a,r=>by
  rw [Xk];split
  ·intro x hx;cases hx
  dsimp only;split
  ·intro x hx;cases hx
  rename_i an
  split
  ·intro x hx;cases hx
  rename_i t ht
  have f8:=ZiI ht;rw [f8] at ht;intro x hx
  rcases Tv.1 hx with rfl | hx
  ·exact ZrT ht
  exact ZpK f _ _ _ x hx
theorem ZrU {a:Nat} {r:Bs} {t:Tok} (h:Xq a r true=.tok t) (hk:t.kind=4):t.text.length<=2:=by
 rw [YT] at h;split at h
 ·cases h
 rw [Tc sM] at h;have h2:Yo r<=2:=by unfold Yo;split <;> first | omega | (split <;> omega)
 split at h
 ·cases h;simp only [Sn];omega
 split at h
 ·unfold J3 at h
  exact m161
 split at h
 ·unfold XM at h
  exact m161
 cases h;exact absurd hk sM
theorem ZpL:∀(f:Nat) (most:Int) (a:Nat) (r:Bs),∀x∈(Xk f most a r).1,x.kind=4->x.text.length<=2
 | 0,most,a,r=>fun x hx=>by simp [Xk] at hx
 | f+1,most,a,r=>by
  rw [Xk];split
  ·intro x hx;cases hx
  dsimp only;split
  ·intro x hx;cases hx
  rename_i an
  split
  ·intro x hx;cases hx
  rename_i t ht
  have f8:=ZiI ht;rw [f8] at ht;intro x hx
  rcases Tv.1 hx with rfl | hx
  ·exact ZrU ht
  exact ZpL f _ _ _ x hx
theorem ZrV:PC w0 nG 246 (UD 0 6):=by
 refine Zd Zb mixed (tbl:=[]) trivial Tryz.func246 rfl kR kR ?_;intro args σ K h
 unfold UD qSp at h
 split at h
 ·rename_i t rows a en dp w pl
  obtain ⟨L,S,rfl,ho,h⟩:=h;split at h
  ·obtain ⟨j,rfl,hj5,dc,h⟩:=h
   replace h:=h _ rfl
   cases S with
   | ok d ts=>have:=dc _ _ rfl;omega
   | bad e =>
   refine ⟨Za [],1,false,sM,Ta rfl,wN ?_⟩;have hw:¬w=0:=by have:=ho.1;have:=ho.2.1;omega
   refine ZBE (fun _=>wN ?_) (fun g=>absurd (by simpa using g) hw);exact h _ _ _ _ _ _ _ _ _ ho
  exact h.elim
 exact h.elim
theorem ZkW {n:Nat} (he:PC w0 nG 246 (UD n 6)):∀k,k<=6->PC w0 nG 246 (UD n (6 - k))
 | 0,_=>he
 | k+1,hk=>by
  have ih:=ZkW he k oM;rw [show 6 - k=(6 - (k+1))+1 by omega] at ih;exact Zyb ⟨ZrG (ZrK he) he,ZvM,ih,Xx,trivial⟩
theorem Zy5:∀n,PC w0 nG 246 (UD n 6)
 | 0=>ZrV
 | n+1=>(ZkW (Zy5 n) 6 oM).weaken1 fun args σ K h=>by
  unfold UD qSp at h |-
  split at h
  ·obtain ⟨L,S,h1,h2,h⟩:=h;refine ⟨L,S,h1,h2,?_⟩;split at h
   ·obtain ⟨j,h3,h4,h5,h6⟩:=h;exact ⟨j,h3,h4,fun d ts hq=>by have:=h5 d ts hq;omega,h6⟩
   exact h.elim
  exact h
def ZpM:SS->SS
 | .ok d []=>.ok d []
 | .ok _ (_::_)=>.bad 150
 | .bad e=>.bad e
def Zz2:SS->Nat
 | .ok _ _=>0
 | .bad e=>e
def Zjf:Zt:=qSp fun rest S K=>match rest with
 | []=>∀e:Nat,Zz2 (ZpM S)=e->∀p:Int,K (.tuple [.d (.int .i64 p),.d (.int .i64 e)]) (ZpM S)
 | _=>False
theorem SOK.err {L:List Tok} {a dp w:Int} {S:SS} (h:SOK L a dp w S):w=(Zz2 S:Int):=by
 cases S with
 | ok d ts=>exact h.1
 | bad e=>exact h.1
noncomputable def ZrW:Tbl:=[(81,VO)]
theorem ZrX:PC w0 nG 35 Zjf:=by
 refine Zd Zb mixed (tbl:=ZrW) ⟨VD,trivial⟩ Tryz.func35 rfl kR kR ?_;intro args σ K h
 unfold Zjf qSp at h
 split at h
 ·rename_i rest t rows a en dp w pl
  obtain ⟨L,S,rfl,ho,h⟩:=h;split at h
  ·replace h:=h _ rfl
   refine ⟨Za [],1,false,sM,Ta rfl,wN ?_⟩;refine ZBC (fun hc=>wN ?_) (fun hc=>wN ?_)
   ·have hc:a<L.length:=by have hc:a<((Zy L).length:Int):=hc;rw [ZG] at hc;exact hc
    have hf:Zi8 150 S=ZpM S:=by
     cases S with
     | bad e=>rfl
     | ok d ts =>
     have:=ho.2.1.len
     cases ts with
     | nil=>simp at this;omega
     | cons t ts=>rfl
    refine ⟨L,S,rfl,ho,150,rfl,oM,?_⟩;rw [hf];intro a2 dp2 w2 pl2 ac
    conv=>whnf
    obtain rfl:=ac.err;exact h _ _ _ _ _ ac
   have hc:¬a<L.length:=by have hc:¬a<((Zy L).length:Int):=hc;rw [ZG] at hc;exact hc
   have hf:S=ZpM S:=by
    cases S with
    | bad e=>rfl
    | ok d ts =>
    have:=ho.2.1.len
    cases ts with
    | nil=>rfl
    | cons t ts=>simp at this;omega
   rw [hf] at ho;obtain rfl:=ho.err;exact h _ _ _ _ _ ho
  exact h.elim
 exact h.elim
noncomputable def ZpN:Tbl:=[(78,ZpI)]
noncomputable def Zgm:Zt:=fun args σ K=>match args,σ with
 | [.d (.str s),.d (.int .i64 b),.d (.int .i64 m)],⟨[],[],0⟩=>s.length<4294967281/\b=65536/\m=16384 /\
   (65536<s.length->K (.ret (.tuple [.d .nilp,.d (.int .i64 0),.d (.int .i64 3)])) ⟨[],[],0⟩) /\
   (¬65536<s.length->∀(l:List Tok) (p:Int) (c:Nat),(Uh s ((16384:Nat):Int)).2.2=c->(c=0->l=(Uh s ((16384:Nat):Int)).1)->K (.ret (.tuple [.ptr 0 0,.d (.int .i64 p),.d (.int .i64 c)])) ⟨[Ue 143 l 0 s.length 0 0 0],[],0⟩)
 | _,_=>False
theorem ZpO:PC w0 nG 33 Zgm:=by
 refine Zd Zb mixed (tbl:=ZpN) ⟨Zv5,trivial⟩ Tryz.func33 rfl kR kR ?_;intro args σ K h
 unfold Zgm at h
 split at h
 ·rename_i s b m
  obtain ⟨hs,rfl,rfl,h1,h2⟩:=h
  by_cases hl:65536<s.length
  ·replace h1:=h1 hl
   refine ⟨Za [],0,false,sM,Ta rfl,wN ?_⟩;refine ZBC (fun hc=>?_) (fun hc=>absurd (show (s.length:Int)>65536 by omega) hc);(conv=>whnf);exact h1
  replace h2:=h2 hl
  refine ⟨Za [],1,false,sM,Ta rfl,wN ?_⟩;refine ZBC (fun hc=>absurd (show 65536<s.length by have hc:(s.length:Int)>65536:=hc;omega) hl) (fun hc=>wN ?_);refine ⟨hs,?_⟩;intro x hx
  have hx:Uh s ((16384:Nat):Int)=x:=hx;obtain ⟨l,q,c⟩:=x
  cases c with
  | succ c =>
   conv=>whnf
   exact h2 [] _ (c+1) (by rw [hx]) sM
  | zero =>
  conv=>whnf
  exact h2 l _ 0 (by rw [hx]) (fun _=>by rw [hx])
 exact h.elim
def VS {α:Type}:Top α->Nat
 | .ok _ _=>0
 | .err _ e=>e
theorem Zv6 {α:Type} {P:Nat->Ts->R α} {s:Bs} (h1:¬65536<s.length) (h2:(Uh s ((16384:Nat):Int)).2.2=0):VS (Yv 65536 16384 (P 64) s)=Zz2 (ZpM (ZM P (.ok 64 ((Uh s ((16384:Nat):Int)).1.map Tok.t0)))):=by
 rw [Zk];unfold Yv
 rw [Tc h1,Tc (by simpa using h2)]
 cases P 64 ((Uh s ((16384:Nat):Int)).1.map Tok.t0) with
 | err r e=>rfl
 | ok v ts=>cases ts <;> rfl
abbrev ZwF (o:Int) (s:Bs) (args body:List (List D)) (p:Int):PV:=.agg [.d (.int .u8 o),.d (.str s),.d (.sl args),.d (.sl body),.d (.int .i64 p)]
abbrev ZBe (s:Bs) (args body:List (List D)) (p:Int):PV:=.agg [.d (.str s),.d (.sl args),.d (.sl body),.d (.int .i64 p)]
theorem JA (w:Bs) (S:SS):ZM (fun _=>ZT w) S=Yk w S:=by
 cases S with
 | bad e=>rfl
 | ok d ts =>
 rw [Zk,ZT,Yk]
 by_cases h:isW ts [w]=true
 ·rw [Tg h,Tg h];rfl
 rw [Tc h,Tc h];rfl
theorem ZkX (op a:Nat) (S:SS):ZM (fun d=>UR d op a) S=ZM (fun d=>XX d (Yp d) [40] [41]) (YW S):=by
 cases S with
 | bad e=>rfl
 | ok d ts =>
 rw [<- VI,Zk,Zk,UR]
 cases Z2 ts with
 | err r e=>rfl
 | ok v ts' =>
 rw [R.bind_ok];show _=ZM (fun d=>XX d (Yp d) [40] [41]) (.ok d ts');rw [Zk];exact Vo d _ _
theorem ZrY (S:SS):ZM (fun d=>ZcU d true) S =
  Yk [46] (if YV 0 [58,45] (ZM (fun d=>XX d (Yp d) [40] [41]) (YW S))=true then ZM VU (Xg (ZM (fun d=>XX d (Yp d) [40] [41]) (YW S))) else ZM (fun d=>XX d (Yp d) [40] [41]) (YW S)):=by
 cases S with
 | bad e=>rfl
 | ok d ts =>
 rw [<- VI,Zk,Zk,ZcU]
 cases Z2 ts with
 | err r e=>rfl
 | ok v ts1 =>
 rw [R.bind_ok];show _=Yk [46] (if YV 0 [58,45] (ZM (fun d=>XX d (Yp d) [40] [41]) (.ok d ts1))=true then ZM VU (Xg (ZM (fun d=>XX d (Yp d) [40] [41]) (.ok d ts1))) else ZM (fun d=>XX d (Yp d) [40] [41]) (.ok d ts1));rw [Zk]
 cases XX d (Yp d) [40] [41] ts1 with
 | err r e=>rfl
 | ok l ts2 =>
 rw [R.bind_ok];show VH d _=Yk [46] (if isW ts2 [[58,45]]=true then ZM VU (.ok d ts2.tail) else .ok d ts2)
 by_cases h:isW ts2 [[58,45]]=true
 ·rw [Tg ⟨rfl,h⟩,Tg h,Zk]
  cases VU d ts2.tail with
  | err r e=>rfl
  | ok b ts3 =>
  rw [R.bind_ok];show _=Yk [46] (.ok d ts3);rw [<- JA,Zk];exact Vo d _ _
 rw [Tc (fun g=>h g.2),Tc h];rw [<- JA,Zk];exact Vo d _ _
def Zgn (n:Nat):Zt:=qSp fun rest S K=>match rest with
 | [.d (.int .u8 op),.d (.int .i64 p)]=>dLt (n+1) S/\∀S',ZM (fun d=>XX d (Yp d) [40] [41]) (YW S)=S'->∀o s a b q,K (ZwF o s a b q) S'
 | _=>False
theorem JB {n:Nat} {S:SS} (h:dLt n S):dLt n (YW S):=by rw [<- VI];exact Yn h
theorem ZkY {n:Nat} (ha:PC w0 nG 210 (Jc n)):PC w0 nG 267 (Zgn n):=by
 refine Zd Zb mixed (tbl:=[(148,VR),(210,Jc n)]) ⟨VG,ha,trivial⟩ Tryz.func267 rfl kR kR ?_;intro args σ K h
 unfold Zgn qSp at h
 split at h
 ·rename_i t rows a en dp w pl
  obtain ⟨L,S,rfl,ho,h⟩:=h;split at h
  ·rename_i op p
   obtain ⟨dc,h⟩:=h
   replace h:=h _ rfl
   refine ⟨Za [],1,false,sM,Ta rfl,wN ?_⟩;refine ⟨L,S,rfl,ho,fun S1 s1 cx=>?_⟩;have eh:=JB dc;rw [cx] at h eh;intro a1 dp1 w1 pl1 af
   conv=>whnf
   refine ⟨L,S1,rfl,af,⟨rfl,sM,eh⟩,fun S2 ce rows2=>?_⟩;rw [ce] at h;exact m129
  exact h.elim
 exact h.elim
def Zb3 (n:Nat):Zt:=qSp fun rest S K=>match rest with
 | []=>dLt (n+1) S/\∀S',ZM VU S=S'->∀rows,K (.d (.sl rows)) S'
 | _=>False
def Zgo (n:Nat):Zt:=qSp fun rest S K=>match rest with
 | []=>dLt (n+1) S/\∀S',ZM (fun d=>ZcU d true) S=S'->∀s a b q,K (ZBe s a b q) S'
 | _=>False
theorem Zr1 {n:Nat} (ha:PC w0 nG 210 (Jc n)) (hb:PC w0 nG 211 (Zb3 n)):PC w0 nG 149 (Zgo n):=by
 refine Zd Zb mixed (tbl:=[(147,VP),(148,VR),(210,Jc n),(79,XS),(211,Zb3 n),(205,VQ)]) ⟨VE,VG,ha,Xx,hb,VF,trivial⟩ Tryz.func149 rfl kR kR ?_;intro args σ K h
 unfold Zgo qSp at h
 split at h
 ·rename_i rest t rows a en dp w pl
  obtain ⟨L,S,rfl,ho,h⟩:=h;split at h
  ·obtain ⟨dc,h⟩:=h
   replace h:=h _ rfl
   rw [ZrY] at h;refine ⟨Za [],1,false,sM,Ta rfl,wN ?_⟩;refine ⟨L,S,rfl,ho,fun p=>?_⟩;intro a0 dp0 w0 pl0 rx
   conv=>whnf
   refine ⟨L,S,rfl,rx,fun S1 s1 cx=>?_⟩;have eh:=JB dc;rw [cx] at h eh;intro a1 dp1 w1 pl1 af
   conv=>whnf
   refine ⟨L,S1,rfl,af,⟨rfl,sM,eh⟩,fun S2 ce rows2=>?_⟩;have j7:=Yn (P:=fun d=>XX d (Yp d) [40] [41]) eh;rw [ce] at h j7;intro a2 dp2 w2 pl2 ac
   conv=>whnf
   refine ⟨L,S2,rfl,ac,0,rfl,oM,fun b f6=>?_⟩;rw [f6] at h;intro a3 dp3 w3 pl3 ai
   cases b with
   | false =>
    rw [Tc sM] at h;(conv=>whnf);refine ⟨L,S2,rfl,ai,fun S4 ef=>?_⟩;rw [ef] at h;intro a4 dp4 w4 pl4 av
    conv=>whnf
    exact h _ _ _ _ _ _ _ _ av
   | true =>
   rw [Tg rfl] at h
   cases S2 with
   | bad e=>cases f6
   | ok d2 ts2 =>
   have f6:isW ts2 [[58,45]]=true:=f6;obtain ⟨rfl,bi,rfl,bf⟩:=ai;have bm:=bi.tlq (ZS f6);have q1:=bm.lo;have q2:=bm.hi;have q3:=bm.big;(conv=>whnf);refine Or.inl ⟨InR.i64 oM oM,wN ?_⟩;refine ⟨L,_,rfl,SOK.mk bm rfl bf,⟨(fun d ts hq=>by cases hq;exact j7 _ _ rfl),fun S4 ef rows4=>?_⟩⟩;have ef:ZM VU (Xg (.ok d2 ts2))=S4:=ef;rw [ef] at h;intro a4 dp4 w4 pl4 av
   conv=>whnf
   refine ⟨L,S4,rfl,av,fun S5 pz=>?_⟩;rw [pz] at h;intro a5 dp5 w5 pl5 cy
   conv=>whnf
   exact h _ _ _ _ _ _ _ _ cy
  exact h.elim
 exact h.elim
end Go.PM.Lex
end

section
namespace Go.PM.Lex
open Go.Proofs
variable {w0:World} {nG:Nat}
def stS (st:Ts->Bool):SS->Bool
 | .ok _ ts=>st ts
 | .bad _=>false
def LRg {α:Type} (sg:Bs) (most:Nat) (st:Ts->Bool) (one:Nat->Ts->R α) (n N:Nat) (X:SS):SS->Nat->Prop
 | .bad e,k=>X=.bad e/\k<=2000000
 | .ok d ts,k=>(d<n/\d<=64)/\∃f l,X=VH d (Xl sg most st (one d) f l ts)/\ts.length<f/\l.length=k/\k<=most/\k+ts.length<=N
def PRg {α:Type} (sg:Bs) (most:Nat) (st:Ts->Bool) (one:Nat->Ts->R α) (n N:Nat) (X:SS):SS->Nat->Prop
 | .bad e,k=>X=.bad e/\k<=2000000
 | .ok d ts,k=>(d<n/\d<=64)/\∃f l,X=VH d ((one d ts).bind fun x ts=>if isW ts [sg]=true then Xl sg most st (one d) f (l++[x]) ts.tail else .ok (l++[x]) ts)/\ts.length<=f/\l.length=k/\(st ts=true->k<most)/\k<=most/\k+ts.length<=N
def ERg {α:Type} (sg:Bs) (most:Nat) (st:Ts->Bool) (one:Nat->Ts->R α) (n N:Nat) (X:SS):SS->Nat->Prop
 | .bad e,k=>X=.bad e/\k<=2000001
 | .ok d ts,k=>(d<n/\d<=64)/\∃f l,X=VH d (if isW ts [sg]=true then Xl sg most st (one d) f l ts.tail else .ok l ts)/\ts.length<=f/\l.length=k/\k<=most/\k+ts.length<=N
section
variable {α:Type} {sg:Bs} {most:Nat} {st:Ts->Bool} {one:Nat->Ts->R α} {n N:Nat} {X S:SS} {k:Nat}
theorem LRg.room {b:Bool} (hm:most<=2000000) (h:LRg sg most st one n N X S k) (hb:stS st S=b):PRg sg most st one n N X (if b=true then Wi k most S else S) k:=by
 cases S with
 | bad e=>cases b <;> simp only [if_true,if_false,To] <;> first | exact h | (unfold Wi;split <;> exact h)
 | ok d ts =>
 obtain ⟨h1,f,l,h3,h4,h5,h6,h7⟩:=h;obtain ⟨f,rfl⟩:∃g,f=g+1:=⟨f - 1,oM⟩
 rw [Vj] at h3;have hb:st ts=b:=hb
 cases b with
 | false =>
  rw [Tc (by rw [hb];simp)] at h3;exact ⟨h1,f,l,h3,oM,h5,by rw [hb];simp,h6,h7⟩
 | true =>
 rw [Tg rfl]
 by_cases hk:k=most
 ·rw [Tg ⟨hb,oM⟩] at h3;rw [Wi,Tg oM];exact ⟨h3,oM⟩
 rw [Tc (fun g=>hk oM)] at h3;rw [Wi,Tc oM];exact ⟨h1,f,l,h3,oM,h5,fun _=>oM,h6,h7⟩
theorem PRg.next (hm:most<=2000000) (mh:∀d ts v ts',one d ts=.ok v ts'->ts'.length+1<=ts.length) (hst:∀d ts,st ts=false->∃r e,one d ts=.err r e) (h:PRg sg most st one n N X S k):ERg sg most st one n N X (ZM one S) (k+1):=by
 cases S with
 | bad e=>exact ⟨h.1,by have:=h.2;omega⟩
 | ok d ts =>
 obtain ⟨h1,f,l,h3,h4,h5,h6,h6b,h7⟩:=h;rw [Zk]
 by_cases hs:st ts=true
 ·have h6:=h6 hs
  cases hx:one d ts with
  | err r e=>rw [hx,R.bind_err] at h3;exact ⟨h3,oM⟩
  | ok v ts3 =>
  have hf:=mh d ts v ts3 hx;rw [hx,R.bind_ok] at h3;exact ⟨h1,f,l++[v],h3,oM,sO,oM,oM⟩
 obtain ⟨r,e,hx⟩:=hst d ts (by simpa using hs);rw [hx] at h3 |-;exact ⟨h3,oM⟩
theorem ERg.stop (h:ERg sg most st one n N X S k) (hb:YV 0 sg S=false):X=S:=by
 cases S with
 | bad e=>exact h.1
 | ok d ts =>
 obtain ⟨h1,f,l,h3,_⟩:=h;have hb:isW ts [sg]=false:=hb;rw [Tc (by rw [hb];simp)] at h3;exact h3
theorem ERg.more (h:ERg sg most st one n N X S k) (hb:YV 0 sg S=true):LRg sg most st one n N X (Xg S) k:=by
 cases S with
 | bad e=>cases hb
 | ok d ts =>
 obtain ⟨h1,f,l,h3,h4,h5,h6,h7⟩:=h;have hb:isW ts [sg]=true:=hb;rw [Tg hb] at h3;have hn:ts.tail.length<ts.length:=by
  cases ts with
  | nil=>exact absurd rfl (ZS hb)
  | cons t ts=>simp
 exact ⟨h1,f,l,h3,oM,h5,oM,oM⟩
theorem PRg.lt (h:PRg sg most st one n N X S k):dLt n S:=by
 rintro d ts rfl;exact h.1.1
theorem LRg.tight {d:Nat} {ts:Ts} (h:LRg sg most st one n N X (.ok d ts) k):LRg sg most st one n (k+ts.length) X (.ok d ts) k:=by
 obtain ⟨h1,f,l,h3,h4,h5,h6,h7⟩:=h;exact ⟨h1,f,l,h3,h4,h5,h6,Tr _⟩
theorem LRg.wide {d:Nat} {ts:Ts} (h:LRg sg most st one n N X (.ok d ts) k):k+ts.length<=N:=by
 obtain ⟨h1,f,l,h3,h4,h5,h6,h7⟩:=h;exact h7
theorem LRg.le {M:Nat} (h:LRg sg most st one n N X S k) (hn:N<=M):LRg sg most st one n M X S k:=by
 cases S with
 | bad e=>exact h
 | ok d ts=>obtain ⟨h1,f,l,h3,h4,h5,h6,h7⟩:=h;exact ⟨h1,f,l,h3,h4,h5,h6,oM⟩
theorem LRg.start (hn:dLt n S) (je:∀d ts,S=.ok d ts->d<=64/\ts.length<=N):LRg sg most st one n N (ZM (fun d=>YM sg most st (one d)) S) S 0:=by
 cases S with
 | bad e=>exact ⟨rfl,oM⟩
 | ok d ts=>exact ⟨⟨hn _ _ rfl,(je _ _ rfl).1⟩,ts.length+1,[],by rw [Zk];rfl,oM,rfl,oM,by have:=(je _ _ rfl).2;omega⟩
theorem ZBP (hm:most<=2000000) (h:PRg sg most st one n N X S k):k<=2000000:=by
 cases S with
 | bad e=>exact h.2
 | ok d ts=>obtain ⟨_,f,l,_,_,_,_,h6,h7⟩:=h;omega
end
theorem Zau {d:Nat} {bd:Ts->R (List Li)} {ts:Ts} (h:ZE ts=false):∃r e,ZaB d bd ts=.err r e:=by
 unfold ZE at h
 rw [T9] at h;have hn:¬Zq ts=true:=by
  intro g
  have hk:ZA ts=true:=by
   simp only [Zq,Tk,TG] at g;unfold ZA
   rw [Tc oM,Tc oM,Tg g.1,g.2.2,Bool.true_or]
  rw [hk] at h;exact absurd h.1 dM
 obtain ⟨r,e,hx⟩:=Zcu (d:=d) h.1;refine ⟨r,e,?_⟩;rw [ZaB,Tc (by rw [h.2];simp),Tc (fun g=>hn g.1),ZeI,hx,R.bind_err]
def ZkZ (n:Nat):Zt:=qSp fun rest S K=>match rest with
 | []=>dLt (n+1) S/\∀S',ZM (fun d=>ZaB d (WJ d)) S=S'->∀o s a b q,K (ZwF o s a b q) S'
 | _=>False
theorem Zea (d:Nat) (ts:Ts) (v:Li) (ts':Ts) (h:ZaB d (WJ d) ts=.ok v ts'):ts'.length+1<=ts.length:=by
 have hb:Fit (szS szL) (WJ d):=by
  cases d with
  | zero=>intro _ _ _ g;cases g
  | succ d=>exact Zf9 d
 have:=Zi7 hb _ _ _ h;dsimp only at this;omega
theorem Zk0 {n:Nat} (hl:PC w0 nG 247 (ZkZ n)):PC w0 nG 211 (Zb3 n):=by
 refine Zd Zb mixed (tbl:=[(245,Ja),(79,XS),(142,ZbX),(247,ZkZ n)]) ⟨ZbY,Xx,ZcN,hl,trivial⟩ Tryz.func211 rfl kR kR ?_;intro args σ K h
 unfold Zb3 qSp at h
 split at h
 ·rename_i rest t rows a en dp w pl
  obtain ⟨L,S,rfl,ho,h⟩:=h;split at h
  ·obtain ⟨dc,h⟩:=h
   replace h:=h _ rfl
   rw [show VU=(fun d=>YM [44] 32 ZE (ZaB d (WJ d))) from funext Zkc] at h;have je:∀d ts,S=.ok d ts->d<=64/\ts.length<=L.length:=by
    rintro d ts rfl
    obtain ⟨q1,q2,q3,q4⟩:=ho;have:=q2.len;have:=q2.lo;exact ⟨q4,oM⟩
   have bz:=LRg.start (sg:=[44]) (most:=32) (st:=ZE) (one:=fun d=>ZaB d (WJ d)) dc je;obtain ⟨X,hX⟩:∃x,ZM (fun d=>YM [44] 32 ZE (ZaB d (WJ d))) S=x:=⟨_,rfl⟩
   have bz:LRg [44] 32 ZE (fun d=>ZaB d (WJ d)) (n+1) L.length X S 0:=by rw [<- hX];exact bz
   rw [hX] at h
   clear hX
   obtain ⟨r1,r2,r3⟩:=ho.rg;refine ⟨Za [(2,⟨[3],[0],fun vs σ=>∃(rows:List (List D)) (a' dp' w' pl':Int) (S':SS),vs=[.sl 0 151 rows]/\σ=⟨[Ue t L a' en dp' w' pl'],[0],1⟩/\SOK L a' dp' w' S'/\LRg [44] 32 ZE (fun d=>ZaB d (WJ d)) (n+1) L.length X S' rows.length,
    fun _ σ=>match σ with | ⟨.cells _ [_,.d (.int _ i),_,_,.d (.int _ w),_]::_,_,_⟩=>if w=0 then ((L.length:Int) - i).toNat+1 else 0 | _=>0⟩)],1,false,sM,Ta rfl,?_⟩
   conv=>whnf
   refine ⟨⟨[],a,dp,w,pl,S,rfl,rfl,ho,bz⟩,?_⟩
   clear bz ho je dc
   intro vs σ hI
   obtain ⟨rows,a3,dp3,w3,pl3,S3,rfl,rfl,ai,bz⟩:=hI;(conv=>whnf);refine ZBC (fun hw=>?_) (fun hw=>?_)
   ·obtain ⟨d3,ts3,rfl,bm,oa,my⟩:=ai.wz hw;have fe:=bm.len;have pt:=bm.lo;have pu:=bm.hi;have io:=bz.wide;have hq:∀b,ZE ts3=b->PRg [44] 32 ZE (fun d=>ZaB d (WJ d)) (n+1) (rows.length+ts3.length) X (if b=true then Wi rows.length 32 (.ok d3 ts3) else .ok d3 ts3) rows.length:=fun b hb=>bz.tight.room oM hb
    conv=>whnf
    refine ⟨L,_,rfl,ai,fun b1 aj=>?_⟩;have aj:ZA ts3=b1:=aj;intro a4 dp4 w4 pl4 av
    cases b1 with
    | true =>
     have eg:=hq true (by rw [ZE,aj];rfl);exact m218
    | false =>
    conv=>whnf
    refine ⟨L,_,rfl,av,0,rfl,oM,fun b2 bp=>?_⟩;have bp:isW ts3 [[33]]=b2:=bp;have eg:=hq b2 (by rw [ZE,aj,bp];rfl)
    clear av
    intro a4 dp4 w4 pl4 av
    cases b2 with
    | true =>
     exact m218
    | false =>
    rw [Tc sM] at eg;have cy:=av;exact m13
   obtain ⟨e,rfl,ki,lc⟩:=ai.w1 hw;obtain ⟨rfl,_⟩:=bz;(conv=>whnf);exact h _ _ _ _ _ ai
  exact h.elim
 exact h.elim
end Go.PM.Lex
end

section
namespace Go.PM.Lex
open Go.Proofs
variable {w0:World} {nG:Nat}
def Zmd (n:Nat):Zt:=qSp fun rest S K=>match rest with
 | []=>dLt n S/\∀S',ZM VU S=S'->∀rows,K (.d (.sl rows)) S'
 | _=>False
theorem Zr3:PC w0 nG 211 (Zmd 0):=by
 refine Zd Zb mixed (tbl:=[]) trivial Tryz.func211 rfl kR kR ?_;intro args σ K h
 unfold Zmd qSp at h
 split at h
 ·rename_i rest t rows a en dp w pl
  obtain ⟨L,S,rfl,ho,h⟩:=h;split at h
  ·obtain ⟨dc,h⟩:=h
   replace h:=h _ rfl
   cases S with
   | ok d ts=>have:=dc _ _ rfl;omega
   | bad e =>
   refine ⟨Za [(2,⟨[3],[0],fun vs σ=>vs=[.sl 0 151 []]/\σ=⟨[Ue t L a en dp w pl],[0],1⟩,fun _ _=>0⟩)],1,false,sM,Ta rfl,wN ?_⟩;have hw:¬w=0:=by have:=ho.1;have:=ho.2.1;omega
   refine ⟨⟨rfl,rfl⟩,?_⟩;intro vs σ hI
   obtain ⟨rfl,rfl⟩:=hI;(conv=>whnf);refine ZBC (fun g=>absurd g hw) (fun _=>wN ?_);exact h _ _ _ _ _ ho
  exact h.elim
 exact h.elim
def Zv7 (op:Int) (S:SS):SS:=Zbg [125] (ZM VU (Wh [123] (Yk [58] (if op=9 then S else ZM Ya S))))
noncomputable def Zk1 (n:Nat):Zt:=fun args σ K=>match args,σ with
 | [.ptr 0 0,.agg [.d (.int .u8 o),.d (.str s),.sl 0 e1 rows1,.sl 1 e2 rows2,.d (.int .i64 p)],.d (.int .u8 op)],⟨[.cells t [.d (.sl rows),.d (.int .i64 a),.d (.int .i64 en),.d (.int .i64 dp),.d (.int .i64 w),.d (.int .i64 pl)]],[1,0],2⟩ =>
   (e1=48/\e2=151/\rows1.length<=1)/\∃L d ts,rows=Zy L/\SOK L a dp w (.ok d ts)/\ts≠[]/\d<n+1 /\
    ∀S',Zv7 op (.ok d ts.tail)=S'->∀o s x y q a' dp' w' pl',SOK L a' dp' w' S'->K (.ret (ZwF o s x y q)) ⟨[Ue t L a' en dp' w' pl'],[],0⟩
 | _,_=>False
theorem ZcO {w:Bs} {n:Nat} {S:SS} (h:dLt n S):dLt n (Yk w S):=by rw [<- JA];exact Yn h
theorem ZpP {n:Nat} (hb:PC w0 nG 211 (Zmd n)):PC w0 nG 268 (Zk1 n):=by
 refine Zd Zb mixed (tbl:=[(246,UD (n+1) 6),(205,VQ),(208,Jb),(211,Zmd n),(209,Zar)]) ⟨Zy5 _,VF,Jy,hb,Zbi,trivial⟩ Tryz.func268 rfl kR kR ?_;intro args σ K h
 unfold Zk1 at h
 split at h
 ·rename_i o s e1 rows1 e2 rows2 p op t rows a en dp w pl
  obtain ⟨⟨rfl,rfl,ae⟩,L,d,ts,rfl,ho,an,dc,h⟩:=h
  replace h:=h _ rfl
  unfold Zv7 at h
  have wc:dLt (n+1) (.ok d ts.tail):=fun d' ts' hq=>by cases hq;exact dc
  have gu:dLt 65 (.ok d ts.tail):=fun d' ts' hq=>by cases hq;have:=ho.2.2.2;omega
  obtain ⟨rfl,bi,rfl,bf⟩:=ho;have bm:=bi.tlq an;have q1:=bm.lo;have q2:=bm.hi;have q3:=bm.big;refine ⟨Za [],1,false,sM,Ta rfl,wN ?_⟩;refine Or.inl ⟨InR.i64 oM oM,wN ?_⟩;refine ZBE (fun hc=>wN ?_) (fun hc=>wN ?_)
  ·rw [Tc hc] at h;refine ⟨L,_,rfl,SOK.mk bm rfl bf,0,rfl,oM,(fun d' ts' hq=>Or.inl (wc d' ts' hq)),fun S1 cx=>?_⟩;have cx:ZM (fun d=>dsK (Zv d) 5) (.ok d ts.tail)=S1:=cx;rw [funext Zb1] at cx;have eh:=Yn (P:=fun d=>Ya d) wc;have we:=Yn (P:=fun d=>Ya d) gu;rw [cx] at eh we;have h:∀(o:Int) (s:List UInt8) (x y:List (List D)) (q a' dp' w' pl':Int),SOK L a' dp' w' (Zbg [125] (ZM VU (Wh [123] (Yk [58] S1))))->K (.ret (ZwF o s x y q)) ⟨[Ue t L a' en dp' w' pl'],[],0⟩:=by rw [<- cx];exact h
   intro eo es em er ep a1 dp1 w1 pl1 af
   conv=>whnf
   refine ⟨Tl.2 rfl,(show (rows1.length+1) * 64<=2 ^ 47 by omega),(show rows1.length+1<=2 ^ 47 by omega),wN ?_⟩
   (repeat (refine ⟨rfl,?_⟩;conv=>whnf))
   refine ⟨L,_,rfl,af,fun S2 ce=>?_⟩;exact m47
  rw [Tg hc] at h;have eh:=wc;have we:=gu;refine ⟨L,_,rfl,(SOK.mk bm rfl bf),fun S2 ce=>?_⟩;exact m47
 exact h.elim
theorem Zk2 {ts:Ts}:∀(ws:List Bs) (i:Nat),(∀u∈ws,isW ts [u]=false)->Ui ts i ws=none
 | [],_,_=>rfl
 | w::ws,i,h=>by
  rw [Ui,Tc (by rw [h w (List.mem_cons_self ..)];simp)];exact Zk2 ws _ fun u hu=>h u (Tx _ hu)
theorem Zk3 {ts:Ts}:∀(ws:List Bs) (i j:Nat) (hj:j<ws.length),ws.Nodup->isW ts [ws[j]]=true->Ui ts i ws=some (i+j)
 | [],_,_,hj,_,_=>by simp at hj
 | w::ws,i,0,hj,hn,h=>by rw [Ui,Tg (by simpa using h)];simp
 | w::ws,i,j+1,hj,hn,h=>by
  have gh:j<ws.length:=by simpa using hj
  have h2:isW ts [ws[j]]=true:=by simpa using h
  have an:¬isW ts [w]=true:=fun g=>by
   have:=Zat g h2;rw [List.nodup_cons] at hn;exact hn.1 (this ▸ TD gh)
  rw [Ui,Tc an,Zk3 ws (i+1) j gh (List.nodup_cons.1 hn).2 h2]
  congr 1;omega
theorem Ztl {ts:Ts}:∀(ws:List Bs) (i j:Nat),Ui ts i ws=some j->j<i+ws.length
 | [],_,_,h=>by cases h
 | w::ws,i,j,h=>by
  rw [Ui] at h;split at h
  ·cases h;simp
  have:=Ztl ws (i+1) j h;simp only [Td];omega
def Zz3 (S1:SS) (k:Option Nat) (j:Option Nat):SS:=match k with
 | none=>Zi8 150 S1
 | some 0=>match j with
  | some j=>Zv7 (9+(j:Int)) (Xg (Xg S1))
  | none=>ZM Ya (Xg S1)
 | some _=>ZM Ya (Xg S1)
def ZwG (S:SS) (ws:List Bs):Option Nat:=match S with
 | .ok _ ts=>Ui ts 0 ws
 | .bad _=>none
def Zz4 (S:SS):SS :=
 if YV 0 [33] S=true then ZM (fun d=>XX d (Yp d) [40] [41]) (YW (Xg S))
 else if Zfm S=true/\YV 1 [40] S=true then ZM (fun d=>XX d (Yp d) [40] [41]) (YW S)
 else Zz3 (ZM Ya S) (ZwG (ZM Ya S) relWords) (ZwG (Xg (ZM Ya S)) aggWords)
theorem ZpQ (d a op:Nat) (l:List Ex) (ts:Ts) (h:9<=op):VH d (XF d (WJ d) a op l ts)=Zbg [125] (ZM VU (Wh [123] (Yk [58] (.ok d ts)))):=by
 rw [XF,Tg h,ZT,Yk]
 by_cases hb:isW ts [[58]]=true
 ·rw [Tg hb,Tg hb,R.bind_ok,Vo];have:=Uf WJ [123] [125] dM (.ok d ts.tail);rw [Zk] at this;rw [this];rfl
 rw [Tc hb,Tc hb];rfl
theorem Zv9 (S:SS) (hS:∀d ts,S=.ok d ts->(hd ts.tail).kind=1->(hd ts.tail).text≠[40]):ZM (fun d=>ZaB d (WJ d)) S=Zz4 S:=by
 cases S with
 | bad e=>rfl
 | ok d ts =>
 have hS:=hS _ _ rfl;rw [Zk];unfold ZaB Zz4
 by_cases h1:isW ts [[33]]=true
 ·rw [Tg h1,Tg (show YV 0 [33] (.ok d ts)=true from h1)];have:=ZkX 2 ts.length (.ok d ts.tail);rw [Zk] at this;exact this
 rw [Tc h1,Tc (show ¬YV 0 [33] (.ok d ts)=true from h1)];have hq:(Zq ts=true/\(hd ts.tail).kind=4/\(hd ts.tail).text=[40])↔(Zfm (.ok d ts)=true/\YV 1 [40] (.ok d ts)=true):=by
  show _↔Zq ts=true/\isW (ts.drop 1) [[40]]=true;rw [List.drop_one,Zgi]
  constructor
  ·rintro ⟨a,b,c⟩;exact ⟨a,Or.inr b,c⟩
  rintro ⟨a,b | b,c⟩
  ·exact absurd c (hS b)
  exact ⟨a,b,c⟩
 by_cases h2:Zq ts=true/\(hd ts.tail).kind=4/\(hd ts.tail).text=[40]
 ·rw [Tg h2,Tg (hq.1 h2)];have:=ZkX 1 ts.length (.ok d ts);rw [Zk] at this;exact this
 rw [Tc h2,Tc (fun g=>h2 (hq.2 g)),ZeI];rw [Zk]
 cases hx:Ya d ts with
 | err r e=>rfl
 | ok v ts1 =>
 rw [R.bind_ok,ZaA];show _=Zz3 (.ok d ts1) (Ui ts1 0 relWords) (Ui ts1.tail 0 aggWords);have gj:∀(op:Nat),op≠9->¬9<=op->VH d ((Ya d ts1.tail).bind fun g ts'=>XF d (WJ d) ts.length op [v,g] ts')=ZM Ya (.ok d ts1.tail):=fun op _ h9=>by
  rw [Zk]
  cases Ya d ts1.tail with
  | err r e=>rfl
  | ok g ts2=>rw [R.bind_ok,XF,Tc h9];rfl
 cases hk:Ui ts1 0 relWords with
 | none=>rfl
 | some k =>
 have oi:=Ztl _ _ _ hk
 cases k with
 | zero =>
  cases hj:Ui ts1.tail 0 aggWords with
  | none =>
   show VH d ((R.ok 3 ts1.tail).bind _)=ZM Ya (.ok d ts1.tail);rw [R.bind_ok,Tc dM];exact gj 3 dM dM
  | some j =>
  show VH d ((R.ok (9+j) ts1.tail.tail).bind _)=Zv7 (9+(j:Int)) (.ok d ts1.tail.tail);rw [R.bind_ok,Zv7]
  by_cases h0:j=0
  ·subst h0;rw [Tg rfl,Tg (by rfl)];exact ZpQ d _ _ _ _ oM
  rw [Tc oM,Tc oM,Zk]
  cases Ya d ts1.tail.tail with
  | err r e=>rfl
  | ok g ts2=>rw [R.bind_ok];exact ZpQ d _ _ _ _ oM
 | succ k =>
 have oi:k+1<0+6:=oi;show VH d ((R.ok (3+(k+1)) ts1.tail).bind _)=ZM Ya (.ok d ts1.tail);rw [R.bind_ok,Tc oM];exact gj _ oM oM
structure Cn where
 a:Nat
 b:Nat
 c:Nat
 d:Nat
 e:Nat
 f:Nat
def cnU:Un->Cn
 | .mk ty re ru co i o=>⟨ty.length,re.length,ru.length,co.length,i.length,o.length⟩
def Cn.ok (c:Cn):Prop:=(c.a<=256/\c.b<=256/\c.c<=1024)/\c.d<=64/\c.e<=256/\c.f<=256
def Zav (ts:Ts) (c:Cn):Cn :=
 if isW ts [[116,121,112,101]]=true then { c with a:=c.a+1 }
 else if isW ts [[100,101,99,108]]=true then { c with b:=c.b+1 }
 else if isW ts [[99,111,109,112]]=true then { c with d:=c.d+1 }
 else if isW ts [[105,110,105,116]]=true then { c with e:=c.e+1 }
 else if isW ts [[111,118,101,114,114,105,100,101]]=true then { c with f:=c.f+1 }
 else { c with c:=c.c+1 }
def Vs (d:Nat) (ts:Ts) (c:Cn):SS :=
 if isW ts [[116,121,112,101]]=true then (if c.a=256 then .bad 3 else ZM (fun _=>UQ) (.ok d ts.tail))
 else if isW ts [[100,101,99,108]]=true then (if c.b=256 then .bad 3 else ZM (fun _=>ZcT) (.ok d ts.tail))
 else if isW ts [[99,111,109,112]]=true then (if c.d=64 then .bad 3 else ZM (fun d=>ZcV d (JD d)) (.ok d ts.tail))
 else if isW ts [[105,110,105,116]]=true then (if c.e=256 then .bad 3 else ZM (fun _=>ZcW) (.ok d ts.tail))
 else if isW ts [[111,118,101,114,114,105,100,101]]=true then (if c.f=256 then .bad 3 else ZM (fun _=>Zee) (.ok d ts.tail))
 else if Zq ts=true then (if c.c=1024 then .bad 3 else ZM (fun d=>ZcU d true) (.ok d ts))
 else .bad 150
theorem ZhT:∀d,Zy1 (JD d)
 | 0=>fun _ _ _ h=>by cases h
 | d+1=>ZhO d
def LU (b:Bool) (X:SS):SS->Cn->Prop
 | .bad e,c=>X=.bad e
 | .ok d ts,c=>∃f u,X=VH d (X0 b d (JD d) f u ts)/\ts.length<f/\cnU u=c/\c.ok
theorem LU.bind {b:Bool} {X:SS} {d g:Nat} {α:Type} {x:R α} {k:α->Un} {c:Cn} {m:Nat} (h:X=VH d (x.bind fun v ts=>X0 b d (JD d) g (k v) ts)) (hx:∀v ts',x=.ok v ts'->ts'.length<m) (hm:m<=g) (hk:∀v,cnU (k v)=c) (hc:c.ok):LU b X (VH d x) c:=by
 cases x with
 | err r e=>exact h
 | ok v ts'=>rw [R.bind_ok] at h;exact ⟨g,k v,h,TH (hx v ts' rfl) hm,hk v,hc⟩
theorem LU.step {b:Bool} {X:SS} {d:Nat} {ts:Ts} {c:Cn} (h:LU b X (.ok d ts) c) (hs:¬(ts=[]\/(b=true/\isW ts [[125]]=true))):LU b X (Vs d ts c) (Zav ts c):=by
 obtain ⟨f,u,h,hf,hu,hc⟩:=h;obtain ⟨g,rfl⟩:∃g,f=g+1:=⟨f - 1,oM⟩
 obtain ⟨ty,re,ru,co,i,o⟩:=u;subst hu;obtain ⟨⟨c1,c2,c3⟩,c4,c5,c6⟩:=hc;rw [U6,Tc hs] at h;have an:ts≠[]:=fun g=>hs (.inl g)
 have n6:ts.tail.length+1=ts.length:=by cases ts with | nil=>exact absurd rfl an | cons t l=>simp
 unfold Vs Zav
 have c1:ty.length<=256:=c1;have c2:re.length<=256:=c2;have c3:ru.length<=1024:=c3;have c4:co.length<=64:=c4;have c5:i.length<=256:=c5;have c6:o.length<=256:=c6
 by_cases h1:isW ts [[116,121,112,101]]=true
 ·rw [Tg h1] at h |-;rw [Tg h1]
  by_cases hl:ty.length=256
  ·rw [Tg hl] at h;rw [Tg (show (cnU (.mk ty re ru co i o)).a=256 from hl)];exact h
  rw [Tc hl] at h;rw [Tc (show ¬(cnU (.mk ty re ru co i o)).a=256 from hl),Zk];exact LU.bind (m:=ts.length) h (fun v ts' e=>by have:=Zd0 _ _ _ e;dsimp only at this;omega) oM (fun v=>by simp [cnU]) ⟨⟨by show _+1<=_;simp only [cnU];omega,c2,c3⟩,c4,c5,c6⟩
 rw [Tc h1] at h |-;rw [Tc h1]
 by_cases h2:isW ts [[100,101,99,108]]=true
 ·rw [Tg h2] at h |-;rw [Tg h2]
  by_cases hl:re.length=256
  ·rw [Tg hl] at h;rw [Tg (show (cnU (.mk ty re ru co i o)).b=256 from hl)];exact h
  rw [Tc hl] at h;rw [Tc (show ¬(cnU (.mk ty re ru co i o)).b=256 from hl),Zk];exact LU.bind (m:=ts.length) h (fun v ts' e=>by have:=Zf8 _ _ _ e;dsimp only at this;omega) oM (fun v=>by simp [cnU]) ⟨⟨c1,by show _+1<=_;simp only [cnU];omega,c3⟩,c4,c5,c6⟩
 rw [Tc h2] at h |-;rw [Tc h2]
 by_cases h3:isW ts [[99,111,109,112]]=true
 ·rw [Tg h3] at h |-;rw [Tg h3]
  by_cases hl:co.length=64
  ·rw [Tg hl] at h;rw [Tg (show (cnU (.mk ty re ru co i o)).d=64 from hl)];exact h
  rw [Tc hl] at h;rw [Tc (show ¬(cnU (.mk ty re ru co i o)).d=64 from hl),Zk];exact LU.bind (m:=ts.length) h (fun v ts' e=>by have:=Zgb (ZhT d) _ _ _ e;dsimp only at this;omega) oM (fun v=>by simp [cnU]) ⟨⟨c1,c2,c3⟩,by show _+1<=_;simp only [cnU];omega,c5,c6⟩
 rw [Tc h3] at h |-;rw [Tc h3]
 by_cases h4:isW ts [[105,110,105,116]]=true
 ·rw [Tg h4] at h |-;rw [Tg h4]
  by_cases hl:i.length=256
  ·rw [Tg hl] at h;rw [Tg (show (cnU (.mk ty re ru co i o)).e=256 from hl)];exact h
  rw [Tc hl] at h;rw [Tc (show ¬(cnU (.mk ty re ru co i o)).e=256 from hl),Zk];exact LU.bind (m:=ts.length) h (fun v ts' e=>by have:=Zgc _ _ _ e;dsimp only at this;omega) oM (fun v=>by simp [cnU]) ⟨⟨c1,c2,c3⟩,c4,by show _+1<=_;simp only [cnU];omega,c6⟩
 rw [Tc h4] at h |-;rw [Tc h4]
 by_cases h5:isW ts [[111,118,101,114,114,105,100,101]]=true
 ·rw [Tg h5] at h |-;rw [Tg h5]
  by_cases hl:o.length=256
  ·rw [Tg hl] at h;rw [Tg (show (cnU (.mk ty re ru co i o)).f=256 from hl)];exact h
  rw [Tc hl] at h;rw [Tc (show ¬(cnU (.mk ty re ru co i o)).f=256 from hl),Zk];exact LU.bind (m:=ts.length) h (fun v ts' e=>by have:=Zgd _ _ _ e;dsimp only at this;omega) oM (fun v=>by simp [cnU]) ⟨⟨c1,c2,c3⟩,c4,c5,by show _+1<=_;simp only [cnU];omega⟩
 rw [Tc h5] at h |-;rw [Tc h5]
 by_cases h6:Zq ts=true
 ·rw [Tg h6] at h |-
  by_cases hl:ru.length=1024
  ·rw [Tg hl] at h;rw [Tg (show (cnU (.mk ty re ru co i o)).c=1024 from hl)];exact h
  rw [Tc hl] at h;rw [Tc (show ¬(cnU (.mk ty re ru co i o)).c=1024 from hl),Zk];exact LU.bind (m:=ts.length) h (fun v ts' e=>by have:=Zga _ _ _ _ _ e;dsimp only at this;omega) oM (fun v=>by simp [cnU]) ⟨⟨c1,c2,by show _+1<=_;simp only [cnU];omega⟩,c4,c5,c6⟩
 rw [Tc h6] at h |-;exact h
theorem LU.stop {b:Bool} {X:SS} {d:Nat} {ts:Ts} {c:Cn} (h:LU b X (.ok d ts) c) (hs:ts=[]\/(b=true/\isW ts [[125]]=true)):X=.ok d ts:=by
 obtain ⟨f,u,h,hf,hu,hc⟩:=h;obtain ⟨g,rfl⟩:∃g,f=g+1:=⟨f - 1,oM⟩
 obtain ⟨ty,re,ru,co,i,o⟩:=u;rw [U6,Tg hs] at h;exact h
theorem LU.start (b:Bool) (S:SS):LU b (ZM (fun d=>Zem b d) S) S ⟨0,0,0,0,0,0⟩:=by
 cases S with
 | bad e=>rfl
 | ok d ts =>
 refine ⟨ts.length+1,.nil,?_,oM,rfl,⟨dM,dM,dM⟩,dM,dM,dM⟩;rw [Zk];rfl
theorem Zk4 {n d:Nat} {ts:Ts} {c:Cn} (h:d<n):dLt n (Vs d ts c):=by
 have h0:dLt n (.ok d ts.tail):=fun d' ts' e=>by cases e;exact h
 have h1:dLt n (.ok d ts):=fun d' ts' e=>by cases e;exact h
 have hb:∀e,dLt n (.bad e):=fun e d' ts' g=>by cases g
 unfold Vs
 repeat' split
 all_goals first | exact hb _ | exact Yn h0 | exact Yn h1
theorem ZpR (S:SS):ZM (fun _=>YP) S=YW (Yk [58] (YW S)):=by
 have h1:(fun (_:Nat)=>YP)=fun d ts=>((fun _=>Z2) d ts).bind fun a ts=>(ZT [58] ts).bind fun _ ts=>(Z2 ts).bind fun b ts=>.ok ⟨a,b⟩ ts:=rfl
 cases S with
 | bad e=>rfl
 | ok d ts =>
 rw [<- VI,<- JA,<- VI,Zk,YP,Zk (fun _=>Z2)]
 cases Z2 ts with
 | err r e=>rfl
 | ok a t1 =>
 rw [R.bind_ok];show _=ZM (fun _=>Z2) (ZM (fun _=>ZT [58]) (.ok d t1));rw [Zk]
 cases ZT [58] t1 with
 | err r e=>rfl
 | ok u t2 =>
 rw [R.bind_ok];show _=ZM (fun _=>Z2) (.ok d t2);rw [Zk]
 cases Z2 t2 <;> rfl
theorem Zme (w:Bs) (S:SS):ZM (fun _=>Yu w) S=if YV 0 w S=true then S else ZM (fun _=>YM [44] 12 Zq YP) S:=by
 cases S with
 | bad e=>rw [Tc (by simp [YV])];rfl
 | ok d ts =>
 rw [Zk,Yu];show _=if isW ts [w]=true then _ else _
 by_cases h:isW ts [w]=true
 ·rw [Tg h,Tg h];rfl
 rw [Tc h,Tc h,Zk]
theorem ZpS (S:SS):ZM (fun _=>Y6) S=if YV 0 [60] S=true then Yk [62] (ZM (fun _=>YM [44] 12 Zq Z2) (Xg S)) else S:=by
 cases S with
 | bad e=>rw [Tc (by simp [YV])];rfl
 | ok d ts =>
 rw [Zk,Y6];show _=if isW ts [[60]]=true then _ else _
 by_cases h:isW ts [[60]]=true
 ·rw [Tg h,Tg h,<- JA];show _=ZM (fun _=>ZT [62]) (ZM (fun _=>YM [44] 12 Zq Z2) (.ok d ts.tail));rw [Zk]
  cases YM [44] 12 Zq Z2 ts.tail with
  | err r e=>rfl
  | ok l t1 =>
  rw [R.bind_ok];show _=ZM (fun _=>ZT [62]) (.ok d t1);rw [Zk]
  cases ZT [62] t1 <;> rfl
 rw [Tc h,Tc h];rfl
theorem Zjg (d:Nat) (ts:Ts) (v:Fi) (ts':Ts) (h:(fun (_:Nat)=>YP) d ts=.ok v ts'):ts'.length+1<=ts.length:=by
 have:=ZhL _ _ _ h;dsimp only at this;omega
theorem ZhU (d:Nat) (ts:Ts) (h:Zq ts=false):∃r e,(fun (_:Nat)=>YP) d ts=.err r e:=by
 refine ⟨ts.length,150,?_⟩;show YP ts=_;rw [YP,Z2,Tc (by rw [h];simp),R.bind_err]
theorem Zmf (d:Nat) (ts:Ts) (v:Bs) (ts':Ts) (h:(fun (_:Nat)=>Z2) d ts=.ok v ts'):ts'.length+1<=ts.length:=by
 have:=YI h;omega
theorem Zjh (d:Nat) (ts:Ts) (h:Zq ts=false):∃r e,(fun (_:Nat)=>Z2) d ts=.err r e:=by
 refine ⟨ts.length,150,?_⟩;show Z2 ts=_;rw [Z2,Tc (by rw [h];simp)]
def Zbk:Zt:=qSp fun rest S K=>match rest with
 | [.d (.str w)]=>∀S',ZM (fun _=>Yu w) S=S'->∀rows,K (.d (.sl rows)) S'
 | _=>False
def ZcP:Zt:=qSp fun rest S K=>match rest with
 | []=>∀S',ZM (fun _=>Y6) S=S'->∀rows,K (.d (.sl rows)) S'
 | _=>False
theorem Zr4 {L:List Tok} {a dp w:Int} {S:SS} (h:SOK L a dp w S):dLt 65 S:=by
 rintro d ts rfl;have:=h.2.2.2;omega
theorem Zz5 {L:List Tok} {a dp w:Int} {S:SS} (h:SOK L a dp w S):∀d ts,S=.ok d ts->d<=64/\ts.length<=L.length:=by
 rintro d ts rfl
 obtain ⟨q1,q2,q3,q4⟩:=h;have:=q2.len;have:=q2.lo;exact ⟨q4,oM⟩
noncomputable def JC:Tbl:=[(79,XS),(141,Jx),(142,ZbX),(148,VR),(205,VQ)]
theorem UE:TO w0 nG JC:=⟨Xx,Zbh,ZcN,VG,VF,trivial⟩
theorem Zfn:PC w0 nG 206 Zbk:=by
 refine Zd Zb mixed (tbl:=JC) UE Tryz.func206 rfl kR kR ?_;intro args σ K h
 unfold Zbk qSp at h
 split at h
 ·rename_i rest t rows a en dp w pl
  obtain ⟨L,S,rfl,ho,h⟩:=h;split at h
  ·rename_i wd
   replace h:=h _ rfl
   rw [Zme] at h;have bz:=LRg.start (sg:=[44]) (most:=12) (st:=Zq) (one:=fun _=>YP) (Zr4 ho) (Zz5 ho);obtain ⟨X,hX⟩:∃x,ZM (fun _=>YM [44] 12 Zq YP) S=x:=⟨_,rfl⟩
   have bz:LRg [44] 12 Zq (fun _=>YP) 65 L.length X S 0:=by rw [<- hX];exact bz
   rw [hX] at h
   clear hX
   refine ⟨Za [(4,⟨[5],[0],fun vs σ=>∃(rows:List (List D)) (a' dp' w' pl':Int) (S':SS),vs=[.sl 0 100 rows]/\σ=⟨[Ue t L a' en dp' w' pl'],[0],1⟩/\SOK L a' dp' w' S'/\LRg [44] 12 Zq (fun _=>YP) 65 L.length X S' rows.length,
    fun _ σ=>match σ with | ⟨.cells _ [_,.d (.int _ i),_,_,.d (.int _ w),_]::_,_,_⟩=>if w=0 then ((L.length:Int) - i).toNat+1 else 0 | _=>0⟩)],1,false,sM,Ta rfl,?_⟩
   conv=>whnf
   refine ⟨L,S,rfl,ho,0,rfl,oM,fun b0 au=>?_⟩;intro a dp w pl ho
   cases b0 with
   | true =>
    rw [Tg au] at h;(conv=>whnf);exact h _ _ _ _ _ ho
   | false =>
   rw [Tc (by rw [au];simp)] at h;(conv=>whnf);refine ⟨⟨[],a,dp,w,pl,S,rfl,rfl,ho,bz⟩,?_⟩;intro vs σ hI
   obtain ⟨rows,a3,dp3,w3,pl3,S3,rfl,rfl,ai,bz⟩:=hI;(conv=>whnf);refine ZBC (fun hw=>?_) (fun hw=>?_)
   ·obtain ⟨d3,ts3,rfl,bm,oa,my⟩:=ai.wz hw;have fe:=bm.len;have pt:=bm.lo;have pu:=bm.hi;have io:=bz.wide;have hq:∀b,Zq ts3=b->PRg [44] 12 Zq (fun _=>YP) 65 (rows.length+ts3.length) X (if b=true then Wi rows.length 12 (.ok d3 ts3) else .ok d3 ts3) rows.length:=fun b hb=>bz.tight.room oM hb
    conv=>whnf
    refine ⟨L,_,rfl,ai,rfl,fun b1 aj=>?_⟩;have eg:=hq b1 aj;intro a4 dp4 w4 pl4 av
    cases b1
    case' true =>
     rw [Tg rfl] at eg;(conv=>whnf);refine ⟨L,_,rfl,av,fun S4 ef=>?_⟩;have eg:PRg [44] 12 Zq (fun _=>YP) 65 (rows.length+ts3.length) X S4 rows.length:=by rw [<- ef];exact eg
     intro a4 dp4 w4 pl4 av
    case' false =>
     rw [Tc sM] at eg;obtain ⟨S4,ef⟩:∃x,SS.ok d3 ts3=x:=⟨_,rfl⟩
     rw [ef] at eg av
    all_goals
     have gg:=PRg.next oM Zjg ZhU eg;have hk:=ZBP oM eg;rw [ZpR] at gg;(conv=>whnf);refine ⟨L,_,rfl,av,fun S5 nm pz=>?_⟩;rw [pz] at gg;intro a4 dp4 w4 pl4 av
     conv=>whnf
     refine ⟨L,_,rfl,av,fun S6 qr=>?_⟩;rw [qr] at gg;intro a4 dp4 w4 pl4 av
     conv=>whnf
     refine ⟨L,_,rfl,av,fun S7 ty wg=>?_⟩;rw [wg] at gg;intro a4 dp4 w4 pl4 av
     conv=>whnf
     refine ⟨Tl.2 rfl,(show (rows.length+1) * 32<=2 ^ 47 by omega),(show rows.length+1<=2 ^ 47 by omega),wN ?_⟩;refine ⟨L,_,rfl,av,0,rfl,oM,fun b fb=>?_⟩;intro a7 dp7 w7 pl7 fk
     cases b with
     | true =>
      have jt:=gg.more fb
      cases S7 with
      | bad e=>cases fb
      | ok d6 ts6 =>
      have fb:isW ts6 [[44]]=true:=fb;obtain ⟨rfl,mb,j6,qs⟩:=fk;have bw:=mb.tlq (ZS fb);have q1:=bw.lo;have q2:=bw.hi;have q3:=bw.len;have q5:=bw.big;(conv=>whnf);refine Or.inl ⟨InR.i64 oM oM,wN ?_⟩;refine ⟨⟨_,_,_,_,_,.ok d6 ts6.tail,rfl,rfl,SOK.mk bw j6 qs,?_⟩,?_⟩
      ·rw [Tb];exact jt.le io
      obtain ⟨_,_,_,_,_,_,_,ak⟩:=gg;show (if (0:Int)=0 then ((L.length:Int) - (a7+1)).toNat+1 else 0)<(if w3=0 then ((L.length:Int) - a3).toNat+1 else 0);rw [Tg rfl,Tg hw];have q4:=mb.len;omega
     | false =>
     have hst:=gg.stop fb;subst hst;(conv=>whnf);exact h _ _ _ _ _ fk
   obtain ⟨e,rfl,ki,lc⟩:=ai.w1 hw;obtain ⟨rfl,_⟩:=bz;(conv=>whnf);exact h _ _ _ _ _ ai
  exact h.elim
 exact h.elim
theorem ZhV:PC w0 nG 207 ZcP:=by
 refine Zd Zb mixed (tbl:=JC) UE Tryz.func207 rfl kR kR ?_;intro args σ K h
 unfold ZcP qSp at h
 split at h
 ·rename_i rest t rows a en dp w pl
  obtain ⟨L,S,rfl,ho,h⟩:=h;split at h
  ·replace h:=h _ rfl
   rw [ZpS] at h;obtain ⟨X,hX⟩:∃x,ZM (fun _=>YM [44] 12 Zq Z2) (Xg S)=x:=⟨_,rfl⟩
   rw [hX] at h;refine ⟨Za [(5,⟨[3],[0],fun vs σ=>∃(rows:List (List D)) (a' dp' w' pl':Int) (S':SS),vs=[.sl 0 9 rows]/\σ=⟨[Ue t L a' en dp' w' pl'],[0],1⟩/\SOK L a' dp' w' S'/\LRg [44] 12 Zq (fun _=>Z2) 65 L.length X S' rows.length,
    fun _ σ=>match σ with | ⟨.cells _ [_,.d (.int _ i),_,_,.d (.int _ w),_]::_,_,_⟩=>if w=0 then ((L.length:Int) - i).toNat+1 else 0 | _=>0⟩)],1,false,sM,Ta rfl,?_⟩
   conv=>whnf
   refine ⟨L,S,rfl,ho,0,rfl,oM,fun b0 au=>?_⟩;intro a dp w pl ho
   cases b0 with
   | false =>
    rw [Tc (by rw [au];simp)] at h;(conv=>whnf);exact h _ _ _ _ _ ho
   | true =>
   rw [Tg au] at h
   cases S with
   | bad e=>cases au
   | ok d0 ts0 =>
   have au:isW ts0 [[60]]=true:=au;obtain ⟨rfl,hr,d7,hd⟩:=ho;have ge:=hr.tlq (ZS au);have ho:=SOK.mk ge d7 hd;have bz:=LRg.start (sg:=[44]) (most:=12) (st:=Zq) (one:=fun _=>Z2) (Zr4 ho) (Zz5 ho);have bz:LRg [44] 12 Zq (fun _=>Z2) 65 L.length X (.ok d0 ts0.tail) 0:=by rw [<- hX];exact bz
   have q1:=ge.lo;have q2:=ge.hi;have q3:=ge.big;(conv=>whnf);refine Or.inl ⟨InR.i64 oM oM,wN ?_⟩;refine ⟨⟨[],_,_,_,_,_,rfl,rfl,ho,bz⟩,?_⟩
   clear bz ho ge hr q1 q2 q3
   intro vs σ hI
   obtain ⟨rows,a3,dp3,w3,pl3,S3,rfl,rfl,ai,bz⟩:=hI;(conv=>whnf);refine ZBC (fun hw=>?_) (fun hw=>?_)
   ·obtain ⟨d3,ts3,rfl,bm,oa,my⟩:=ai.wz hw;have fe:=bm.len;have pt:=bm.lo;have pu:=bm.hi;have io:=bz.wide;have hq:∀b,Zq ts3=b->PRg [44] 12 Zq (fun _=>Z2) 65 (rows.length+ts3.length) X (if b=true then Wi rows.length 12 (.ok d3 ts3) else .ok d3 ts3) rows.length:=fun b hb=>bz.tight.room oM hb
    conv=>whnf
    refine ⟨L,_,rfl,ai,rfl,fun b1 aj=>?_⟩;have eg:=hq b1 aj;intro a4 dp4 w4 pl4 av
    cases b1
    case' true =>
     rw [Tg rfl] at eg;(conv=>whnf);refine ⟨L,_,rfl,av,fun S4 ef=>?_⟩;have eg:PRg [44] 12 Zq (fun _=>Z2) 65 (rows.length+ts3.length) X S4 rows.length:=by rw [<- ef];exact eg
     intro a4 dp4 w4 pl4 av
    case' false =>
     rw [Tc sM] at eg;obtain ⟨S4,ef⟩:∃x,SS.ok d3 ts3=x:=⟨_,rfl⟩
     rw [ef] at eg av
    all_goals
     have gg:=PRg.next oM Zmf Zjh eg;have hk:=ZBP oM eg;rw [VI] at gg;(conv=>whnf);refine ⟨L,_,rfl,av,fun S7 nm wg=>?_⟩;rw [wg] at gg;intro a4 dp4 w4 pl4 av
     conv=>whnf
     refine ⟨Tl.2 rfl,(show (rows.length+1) * 16<=2 ^ 47 by omega),(show rows.length+1<=2 ^ 47 by omega),wN ?_⟩;refine ⟨L,_,rfl,av,0,rfl,oM,fun b fb=>?_⟩;intro a7 dp7 w7 pl7 fk
     cases b with
     | true =>
      have jt:=gg.more fb
      cases S7 with
      | bad e=>cases fb
      | ok d6 ts6 =>
      have fb:isW ts6 [[44]]=true:=fb;obtain ⟨rfl,mb,j6,qs⟩:=fk;have bw:=mb.tlq (ZS fb);have q1:=bw.lo;have q2:=bw.hi;have q3:=bw.len;have q5:=bw.big;(conv=>whnf);refine Or.inl ⟨InR.i64 oM oM,wN ?_⟩;refine ⟨⟨_,_,_,_,_,.ok d6 ts6.tail,rfl,rfl,SOK.mk bw j6 qs,?_⟩,?_⟩
      ·rw [Tb];exact jt.le io
      obtain ⟨_,_,_,_,_,_,_,ak⟩:=gg;show (if (0:Int)=0 then ((L.length:Int) - (a7+1)).toNat+1 else 0)<(if w3=0 then ((L.length:Int) - a3).toNat+1 else 0);rw [Tg rfl,Tg hw];have q4:=mb.len;omega
     | false =>
     have hst:=gg.stop fb;subst hst;(conv=>whnf);refine ⟨L,_,rfl,fk,fun S8 rv=>?_⟩;rw [rv] at h;intro a8 dp8 w8 pl8 mt
     conv=>whnf
     exact h _ _ _ _ _ mt
   obtain ⟨e,rfl,ki,lc⟩:=ai.w1 hw;obtain ⟨rfl,_⟩:=bz;(conv=>whnf);refine ⟨L,_,rfl,ai,fun S8 rv=>?_⟩;rw [rv] at h;intro a8 dp8 w8 pl8 mt
   conv=>whnf
   exact h _ _ _ _ _ mt
  exact h.elim
 exact h.elim
theorem Xe {α β:Type} {d:Nat} {x:R α} {f:α->Ts->R β} {F:SS->SS} (hb:∀e,F (.bad e)=.bad e) (h:∀v ts,VH d (f v ts)=F (.ok d ts)):VH d (x.bind f)=F (VH d x):=by
 cases x with
 | err r e=>exact (hb e).symm
 | ok v ts=>rw [R.bind_ok];exact h v ts
theorem UF (w:Bs) (d:Nat) (ts:Ts):VH d (ZT w ts)=Yk w (.ok d ts):=by rw [<- JA,Zk]
theorem WZ (d:Nat) (ts:Ts):VH d (Z2 ts)=YW (.ok d ts):=by rw [<- VI,Zk]
theorem Zr5 (S:SS):ZM (fun _=>Wo) S=Yk [125] (ZM (fun _=>Yu [125]) (Yk [123] (YW S))):=by
 cases S with
 | bad e=>rfl
 | ok d ts =>
 rw [Zk,Wo,<- WZ];refine Xe (F:=fun S=>Yk [125] (ZM (fun _=>Yu [125]) (Yk [123] S))) (fun e=>rfl) fun v ts=>?_
 try dsimp only
 rw [<- UF];refine Xe (F:=fun S=>Yk [125] (ZM (fun _=>Yu [125]) S)) (fun e=>rfl) fun v ts=>?_
 try dsimp only
 rw [Zk];refine Xe (F:=fun S=>Yk [125] S) (fun e=>rfl) fun v ts=>?_
 try dsimp only
 rw [<- UF];exact m112
def ZpT (S:SS):SS :=
 if YV 0 [60,58] S=true then YW (Xg S)
 else if YV 0 [91] (Yk [61] S)=true then Yk [93] (ZM (fun _=>Yu [93]) (Xg (Yk [61] S)))
 else ZM (fun _=>YM [124] 64 Zq Wo) (Yk [61] S)
theorem ZpU (S:SS):ZM (fun _=>UQ) S=ZpT (YW S):=by
 cases S with
 | bad e=>rfl
 | ok d ts =>
 rw [Zk,UQ,<- WZ];refine Xe (fun e=>rfl) fun v ts=>?_
 unfold ZpT
 show _=if isW ts [[60,58]]=true then _ else _
 by_cases h1:isW ts [[60,58]]=true
 ·rw [Tg h1,Tg h1];show _=YW (.ok d ts.tail);rw [<- WZ];exact m112
 rw [Tc h1,Tc h1,<- UF];refine Xe (F:=fun S=>if YV 0 [91] S=true then Yk [93] (ZM (fun _=>Yu [93]) (Xg S)) else ZM (fun _=>YM [124] 64 Zq Wo) S) (fun e=>rfl) fun v ts=>?_
 show _=if isW ts [[91]]=true then _ else _
 by_cases h2:isW ts [[91]]=true
 ·rw [Tg h2,Tg h2];show _=Yk [93] (ZM (fun _=>Yu [93]) (.ok d ts.tail));rw [Zk];refine Xe (F:=fun S=>Yk [93] S) (fun e=>rfl) fun v ts=>?_
  try dsimp only
  rw [<- UF];exact m112
 rw [Tc h2,Tc h2,Zk];exact m112
def Zeb:SS->SS
 | .ok d ts=>.ok d (YS 4 false false false ts).2
 | .bad e=>.bad e
theorem Zr6 (S:SS):ZM (fun _=>ZcT) S=Zeb (Yk [41] (ZM (fun _=>Yu [41]) (Yk [40] (YW S)))):=by
 cases S with
 | bad e=>rfl
 | ok d ts =>
 rw [Zk,ZcT,<- WZ];refine Xe (F:=fun S=>Zeb (Yk [41] (ZM (fun _=>Yu [41]) (Yk [40] S)))) (fun e=>rfl) fun v ts=>?_
 try dsimp only
 rw [<- UF];refine Xe (F:=fun S=>Zeb (Yk [41] (ZM (fun _=>Yu [41]) S))) (fun e=>rfl) fun v ts=>?_
 try dsimp only
 rw [Zk];refine Xe (F:=fun S=>Zeb (Yk [41] S)) (fun e=>rfl) fun v ts=>?_
 try dsimp only
 rw [<- UF];exact Xe (F:=Zeb) (fun e=>rfl) fun v ts=>rfl
theorem Zr7 (S:SS):ZM (fun _=>ZcW) S=ZM (fun _=>Y6) (YW (Yk [61] (YW S))):=by
 cases S with
 | bad e=>rfl
 | ok d ts =>
 rw [Zk,ZcW,<- WZ];refine Xe (F:=fun S=>ZM (fun _=>Y6) (YW (Yk [61] S))) (fun e=>rfl) fun v ts=>?_
 try dsimp only
 rw [<- UF];refine Xe (F:=fun S=>ZM (fun _=>Y6) (YW S)) (fun e=>rfl) fun v ts=>?_
 try dsimp only
 rw [<- WZ];refine Xe (F:=fun S=>ZM (fun _=>Y6) S) (fun e=>rfl) fun v ts=>?_
 try dsimp only
 rw [Zk];exact m112
theorem Zr8 (S:SS):ZM (fun _=>Zee) S=YW S:=by
 cases S with
 | bad e=>rfl
 | ok d ts =>
 rw [Zk,Zee,<- WZ];exact m112
theorem Zmg (d:Nat) (ts:Ts) (v:Ca) (ts':Ts) (h:(fun (_:Nat)=>Wo) d ts=.ok v ts'):ts'.length+1<=ts.length:=by
 have:=ZkI _ _ _ h;dsimp only at this;omega
theorem Zji (d:Nat) (ts:Ts) (h:Zq ts=false):∃r e,(fun (_:Nat)=>Wo) d ts=.err r e:=by
 refine ⟨ts.length,150,?_⟩;show Wo ts=_;rw [Wo,Z2,Tc (by rw [h];simp),R.bind_err]
def Zgp:Zt:=qSp fun rest S K=>match rest with
 | []=>∀S',ZM (fun _=>UQ) S=S'->∀k n b fs cs p,K (.agg [.d (.int .u8 k),.d (.str n),.d (.str b),.d (.sl fs),.d (.sl cs),.d (.int .i64 p)]) S'
 | _=>False
noncomputable def ZpV:Tbl:=(147,VP)::(206,Zbk)::JC
theorem ZpW:PC w0 nG 143 Zgp:=by
 refine Zd Zb mixed (tbl:=ZpV) ⟨VE,Zfn,UE⟩ Tryz.func143 rfl kR kR ?_;intro args σ K h
 unfold Zgp qSp at h
 split at h
 ·rename_i rest t rows a en dp w pl
  obtain ⟨L,S,rfl,ho,h⟩:=h;split at h
  ·replace h:=h _ rfl
   rw [ZpU] at h;obtain ⟨S1,cx⟩:∃x,YW S=x:=⟨_,rfl⟩
   rw [cx] at h;unfold ZpT at h
   obtain ⟨X,hX⟩:∃x,ZM (fun _=>YM [124] 64 Zq Wo) (Yk [61] S1)=x:=⟨_,rfl⟩
   rw [hX] at h;refine ⟨Za [(16,⟨[],[0,2,3],fun vs σ=>∃(rows:List (List D)) (nm:Bs) (p a' dp' w' pl':Int) (S':SS),vs=[] /\
     σ=⟨[Ue t L a' en dp' w' pl',.cells 67 [.d (.int .u8 0),.d (.str []),.d (.str []),.sl 0 100 [],.sl 1 70 [],.d (.int .i64 0)],
      .cells 67 [.d (.int .u8 3),.d (.str nm),.d (.str []),.sl 2 100 [],.sl 3 70 rows,.d (.int .i64 p)]],[3,2,1,0],4⟩/\SOK L a' dp' w' S'/\LRg [124] 64 Zq (fun _=>Wo) 65 L.length X S' rows.length,
    fun _ σ=>match σ with | ⟨.cells _ [_,.d (.int _ i),_,_,.d (.int _ w),_]::_,_,_⟩=>if w=0 then ((L.length:Int) - i).toNat+1 else 0 | _=>0⟩)],1,false,sM,Ta rfl,?_⟩
   conv=>whnf
   refine ⟨L,S,rfl,ho,fun p=>?_⟩;intro a1 dp1 w1 pl1 af
   conv=>whnf
   refine ⟨L,S,rfl,af,fun S1' nm js=>?_⟩;obtain rfl:S1=S1':=cx.symm.trans js;intro a2 dp2 w2 pl2 ac
   conv=>whnf
   refine ⟨L,S1,rfl,ac,0,rfl,oM,fun b1 aj=>?_⟩;intro a3 dp3 w3 pl3 ai
   cases b1 with
   | true =>
    rw [Tg aj] at h
    cases S1 with
    | bad e=>cases aj
    | ok d ts =>
    have aj:isW ts [[60,58]]=true:=aj;obtain ⟨rfl,hr,d7,hd⟩:=ai;have bw:=hr.tlq (ZS aj);have q1:=bw.lo;have q2:=bw.hi;have q3:=bw.big;(conv=>whnf);refine Or.inl ⟨InR.i64 oM oM,wN ?_⟩;refine ⟨L,_,rfl,SOK.mk bw d7 hd,fun S2 bs ce=>?_⟩;rw [show YW (Xg (.ok d ts))=S2 from ce] at h;intro a4 dp4 w4 pl4 av
    conv=>whnf
    exact h _ _ _ _ _ _ _ _ _ _ av
   | false =>
   rw [Tc (by rw [aj];simp)] at h;(conv=>whnf);refine ⟨L,S1,rfl,ai,fun S2 ce=>?_⟩;rw [ce] at h hX;intro a4 dp4 w4 pl4 av
   conv=>whnf
   refine ⟨L,S2,rfl,av,0,rfl,oM,fun b2 bp=>?_⟩;intro a5 dp5 w5 pl5 cy
   cases b2 with
   | true =>
    rw [Tg bp] at h
    cases S2 with
    | bad e=>cases bp
    | ok d ts =>
    have bp:isW ts [[91]]=true:=bp;obtain ⟨rfl,hr,d7,hd⟩:=cy;have bw:=hr.tlq (ZS bp);have q1:=bw.lo;have q2:=bw.hi;have q3:=bw.big;(conv=>whnf);refine Or.inl ⟨InR.i64 oM oM,wN ?_⟩;refine ⟨L,_,rfl,SOK.mk bw d7 hd,fun S3 cg rows3=>?_⟩;rw [show ZM (fun _=>Yu [93]) (Xg (.ok d ts))=S3 from cg] at h;intro a6 dp6 w6 pl6 jm
    conv=>whnf
    refine ⟨L,_,rfl,jm,fun S4 ef=>?_⟩;rw [ef] at h;intro a7 dp7 w7 pl7 fk
    conv=>whnf
    exact h _ _ _ _ _ _ _ _ _ _ fk
   | false =>
   rw [Tc (by rw [bp];simp)] at h;have bz:=LRg.start (sg:=[124]) (most:=64) (st:=Zq) (one:=fun _=>Wo) (Zr4 cy) (Zz5 cy);have bz:LRg [124] 64 Zq (fun _=>Wo) 65 L.length X S2 0:=by rw [<- hX];exact bz
   conv=>whnf
   refine ⟨⟨[],_,_,_,_,_,_,_,rfl,rfl,cy,bz⟩,?_⟩
   clear bz hX
   intro vs σ hI
   obtain ⟨rows,nm,p,a3,dp3,w3,pl3,S3,rfl,rfl,ai,bz⟩:=hI;(conv=>whnf);refine ZBC (fun hw=>?_) (fun hw=>?_)
   ·obtain ⟨d3,ts3,rfl,bm,oa,my⟩:=ai.wz hw;have fe:=bm.len;have pt:=bm.lo;have pu:=bm.hi;have io:=bz.wide;have hq:∀b,Zq ts3=b->PRg [124] 64 Zq (fun _=>Wo) 65 (rows.length+ts3.length) X (if b=true then Wi rows.length 64 (.ok d3 ts3) else .ok d3 ts3) rows.length:=fun b hb=>bz.tight.room oM hb
    conv=>whnf
    refine ⟨L,_,rfl,ai,rfl,fun b1 aj=>?_⟩;have eg:=hq b1 aj;intro a4 dp4 w4 pl4 av
    cases b1
    case' true =>
     rw [Tg rfl] at eg;(conv=>whnf);refine ⟨L,_,rfl,av,fun S4 ef=>?_⟩;have eg:PRg [124] 64 Zq (fun _=>Wo) 65 (rows.length+ts3.length) X S4 rows.length:=by rw [<- ef];exact eg
     intro a4 dp4 w4 pl4 av
    case' false =>
     rw [Tc sM] at eg
     obtain ⟨S4,ef⟩:∃x,SS.ok d3 ts3=x:=⟨_,rfl⟩
     rw [ef] at eg av
    all_goals
     have gg:=PRg.next oM Zmg Zji eg;have hk:=ZBP oM eg;rw [Zr5] at gg;(conv=>whnf);refine ⟨L,_,rfl,av,fun S5 nm pz=>?_⟩;rw [pz] at gg;intro a4 dp4 w4 pl4 av
     conv=>whnf
     refine ⟨L,_,rfl,av,fun S6 qr=>?_⟩;rw [qr] at gg;intro a4 dp4 w4 pl4 av
     conv=>whnf
     refine ⟨L,_,rfl,av,fun S8 rv rows8=>?_⟩;rw [rv] at gg;intro a4 dp4 w4 pl4 av
     conv=>whnf
     refine ⟨L,_,rfl,av,fun S7 wg=>?_⟩;rw [wg] at gg;intro a4 dp4 w4 pl4 av
     conv=>whnf
     refine ⟨Tl.2 rfl,(show (rows.length+1) * 40<=2 ^ 47 by omega),(show rows.length+1<=2 ^ 47 by omega),wN ?_⟩;refine ⟨L,_,rfl,av,0,rfl,oM,fun b fb=>?_⟩;intro a7 dp7 w7 pl7 fk
     cases b with
     | true =>
      have jt:=gg.more fb
      cases S7 with
      | bad e=>cases fb
      | ok d6 ts6 =>
      have fb:isW ts6 [[124]]=true:=fb;obtain ⟨rfl,mb,j6,qs⟩:=fk;have bw:=mb.tlq (ZS fb);have q1:=bw.lo;have q2:=bw.hi;have q3:=bw.len;have q5:=bw.big;(conv=>whnf);refine Or.inl ⟨InR.i64 oM oM,wN ?_⟩;refine ⟨⟨_,_,_,_,_,_,_,.ok d6 ts6.tail,rfl,rfl,SOK.mk bw j6 qs,?_⟩,?_⟩
      ·rw [Tb];exact jt.le io
      obtain ⟨_,_,_,_,_,_,_,ak⟩:=gg;exact m37
     | false =>
     have hst:=gg.stop fb;subst hst;(conv=>whnf);exact h _ _ _ _ _ _ _ _ _ _ fk
   obtain ⟨e,rfl,ki,lc⟩:=ai.w1 hw;obtain ⟨rfl,_⟩:=bz;exact m190
  exact h.elim
 exact h.elim
def Zjj:Zt:=qSp fun rest S K=>match rest with
 | []=>∀S',ZM (fun _=>ZcW) S=S'->∀n c ts p,K (.agg [.d (.str n),.d (.str c),.d (.sl ts),.d (.int .i64 p)]) S'
 | _=>False
noncomputable def Zr9:Tbl:=[(147,VP),(148,VR),(205,VQ),(207,ZcP)]
theorem Zsa:PC w0 nG 146 Zjj:=by
 refine Zd Zb mixed (tbl:=Zr9) ⟨VE,VG,VF,ZhV,trivial⟩ Tryz.func146 rfl kR kR ?_;intro args σ K h
 unfold Zjj qSp at h
 split at h
 ·rename_i rest t rows a en dp w pl
  obtain ⟨L,S,rfl,ho,h⟩:=h;split at h
  ·replace h:=h _ rfl
   rw [Zr7] at h;refine ⟨Za [],1,false,sM,Ta rfl,wN ?_⟩;refine ⟨L,S,rfl,ho,fun p=>?_⟩;intro a1 dp1 w1 pl1 af
   conv=>whnf
   refine ⟨L,S,rfl,af,fun S1 nm cx=>?_⟩;rw [cx] at h;intro a2 dp2 w2 pl2 ac
   conv=>whnf
   refine ⟨L,S1,rfl,ac,fun S2 ce=>?_⟩;rw [ce] at h;intro a3 dp3 w3 pl3 ai
   conv=>whnf
   refine ⟨L,S2,rfl,ai,fun S3 nm3 cg=>?_⟩;rw [cg] at h;intro a4 dp4 w4 pl4 av
   conv=>whnf
   refine ⟨L,S3,rfl,av,fun S4 ef rows4=>?_⟩;rw [ef] at h;intro a5 dp5 w5 pl5 cy
   conv=>whnf
   exact h _ _ _ _ _ _ _ _ cy
  exact h.elim
 exact h.elim
def Zjk:Zt:=qSp fun rest S K=>match rest with
 | []=>∀S',ZM (fun _=>ZcT) S=S'->∀n fs i o l p,K (.agg [.d (.str n),.d (.sl fs),.d (.bool i),.d (.bool o),.d (.bool l),.d (.int .i64 p)]) S'
 | _=>False
def FL (X:SS) (i o n:Bool):SS->Prop
 | .bad e=>X=.bad e
 | .ok d ts=>∃f,WH i o n<f/\X=.ok d (YS f i o n ts).2
theorem FL.stop {X:SS} {i o n:Bool} {S:SS} (h:FL X i o n S) (h1:i=false->YV 0 [105,110,112,117,116] S=false) (h2:o=false->YV 0 [111,117,116,112,117,116] S=false) (h3:n=false->YV 0 [105,110,108,105,110,101] S=false):X=S:=by
 cases S with
 | bad e=>exact h
 | ok d ts =>
 obtain ⟨f,hf,h⟩:=h;obtain ⟨f,rfl⟩:∃g,f=g+1:=⟨f - 1,oM⟩
 have g1:¬(i=false/\isW ts [[105,110,112,117,116]]=true):=fun g=>by have:=h1 g.1;rw [show isW ts [[105,110,112,117,116]]=false from this] at g;exact absurd g.2 sM
 have g2:¬(o=false/\isW ts [[111,117,116,112,117,116]]=true):=fun g=>by have:=h2 g.1;rw [show isW ts [[111,117,116,112,117,116]]=false from this] at g;exact absurd g.2 sM
 have g3:¬(n=false/\isW ts [[105,110,108,105,110,101]]=true):=fun g=>by have:=h3 g.1;rw [show isW ts [[105,110,108,105,110,101]]=false from this] at g;exact absurd g.2 sM
 rw [V8,Tc g1,Tc g2,Tc g3] at h;exact h
theorem FL.in' {X:SS} {o n:Bool} {d:Nat} {ts:Ts} (h:FL X false o n (.ok d ts)) (h1:isW ts [[105,110,112,117,116]]=true):FL X true o n (.ok d ts.tail):=by
 obtain ⟨f,hf,h⟩:=h;obtain ⟨f,rfl⟩:∃g,f=g+1:=⟨f - 1,oM⟩
 rw [V8,Tg ⟨rfl,h1⟩] at h;exact ⟨f,by simp only [WH] at hf |-;omega,h⟩
theorem FL.out {X:SS} {i n:Bool} {d:Nat} {ts:Ts} (h:FL X i false n (.ok d ts)) (h1:i=false->isW ts [[105,110,112,117,116]]=false) (h2:isW ts [[111,117,116,112,117,116]]=true):FL X i true n (.ok d ts.tail):=by
 obtain ⟨f,hf,h⟩:=h;obtain ⟨f,rfl⟩:∃g,f=g+1:=⟨f - 1,oM⟩
 rw [V8,Tc (fun g=>by rw [h1 g.1] at g;exact absurd g.2 sM),Tg ⟨rfl,h2⟩] at h;exact ⟨f,by simp only [WH] at hf |-;omega,h⟩
theorem FL.inl {X:SS} {i o:Bool} {d:Nat} {ts:Ts} (h:FL X i o false (.ok d ts)) (h1:i=false->isW ts [[105,110,112,117,116]]=false) (h2:o=false->isW ts [[111,117,116,112,117,116]]=false) (h3:isW ts [[105,110,108,105,110,101]]=true):FL X i o true (.ok d ts.tail):=by
 obtain ⟨f,hf,h⟩:=h;obtain ⟨f,rfl⟩:∃g,f=g+1:=⟨f - 1,oM⟩
 rw [V8,Tc (fun g=>by rw [h1 g.1] at g;exact absurd g.2 sM),Tc (fun g=>by rw [h2 g.1] at g;exact absurd g.2 sM),Tg ⟨rfl,h3⟩] at h;exact ⟨f,by simp only [WH] at hf |-;omega,h⟩
theorem FL.start (S:SS):FL (Zeb S) false false false S:=by
 cases S with
 | bad e=>rfl
 | ok d ts=>exact ⟨4,dM,rfl⟩
noncomputable def Zsb:Tbl:=[(147,VP),(148,VR),(205,VQ),(206,Zbk),(79,XS)]
theorem Zsc:PC w0 nG 144 Zjk:=by
 refine Zd Zb mixed (tbl:=Zsb) ⟨VE,VG,VF,Zfn,Xx,trivial⟩ Tryz.func144 rfl kR kR ?_;intro args σ K h
 unfold Zjk qSp at h
 split at h
 ·rename_i rest t rows a en dp w pl
  obtain ⟨L,S,rfl,ho,h⟩:=h;split at h
  ·replace h:=h _ rfl
   rw [Zr6] at h;obtain ⟨X,hX⟩:∃x,Zeb (Yk [41] (ZM (fun _=>Yu [41]) (Yk [40] (YW S))))=x:=⟨_,rfl⟩
   rw [hX] at h;refine ⟨Za [(6,⟨[],[0,2,3],fun vs σ=>∃(nm:Bs) (fl:List (List D)) (i o n:Bool) (p a' dp' w' pl':Int) (S':SS),vs=[] /\
     σ=⟨[Ue t L a' en dp' w' pl',.cells 72 [.d (.str []),.sl 0 100 [],.d (.bool false),.d (.bool false),.d (.bool false),.d (.int .i64 0)],
      .cells 72 [.d (.str nm),.d (.sl fl),.d (.bool i),.d (.bool o),.d (.bool n),.d (.int .i64 p)]],[0],1⟩/\SOK L a' dp' w' S'/\FL X i o n S',
    fun _ σ=>match σ with | ⟨[_,_,.cells _ [_,_,.d (.bool i),.d (.bool o),.d (.bool n),_]],_,_⟩=>WH i o n | _=>0⟩)],1,false,sM,Ta rfl,?_⟩
   conv=>whnf
   refine ⟨L,S,rfl,ho,fun p=>?_⟩;intro a1 dp1 w1 pl1 af
   conv=>whnf
   refine ⟨L,S,rfl,af,fun S1 nm cx=>?_⟩;rw [cx] at hX;intro a2 dp2 w2 pl2 ac
   conv=>whnf
   refine ⟨L,S1,rfl,ac,fun S2 ce=>?_⟩;rw [ce] at hX;intro a3 dp3 w3 pl3 ai
   conv=>whnf
   refine ⟨L,S2,rfl,ai,fun S3 cg fl=>?_⟩;rw [cg] at hX;intro a4 dp4 w4 pl4 av
   conv=>whnf
   refine ⟨L,S3,rfl,av,fun S4 ef=>?_⟩;rw [ef] at hX;intro a5 dp5 w5 pl5 cy
   have dv:=FL.start S4;rw [hX] at dv;(conv=>whnf);refine ⟨⟨nm,fl,false,false,false,p,_,_,_,_,S4,rfl,rfl,cy,dv⟩,?_⟩
   clear dv hX
   intro vs σ hI
   obtain ⟨nm,fl,i,o,n,p,a3,dp3,w3,pl3,S3,rfl,rfl,ai,dv⟩:=hI;(conv=>whnf);refine ZBC (fun hw=>?_) (fun hw=>?_)
   ·obtain ⟨d3,ts3,rfl,bm,oa,my⟩:=ai.wz hw;(conv=>whnf);refine ⟨L,_,rfl,ai,0,rfl,oM,fun b1 aj=>?_⟩;have aj:isW ts3 [[105,110,112,117,116]]=b1:=aj;intro a4 dp4 w4 pl4 av
    by_cases h1:b1=true/\i=false
    ·obtain ⟨rfl,rfl⟩:=h1;obtain ⟨rfl,l4,qa,t8⟩:=av;have bw:=l4.tlq (ZS aj);have q1:=bw.lo;have q2:=bw.hi;have q5:=bw.big;(conv=>whnf);refine Or.inl ⟨InR.i64 oM oM,wN ?_⟩;refine ⟨⟨nm,fl,true,o,n,p,_,_,_,_,_,rfl,rfl,SOK.mk bw qa t8,dv.in' aj⟩,?_⟩;show WH true o n<WH false o n;simp only [WH];omega
    have g1:i=false->isW ts3 [[105,110,112,117,116]]=false:=fun hi=>by rw [aj];cases b1 with | false=>rfl | true=>exact absurd ⟨rfl,hi⟩ h1
    cases b1
    case' true=>obtain rfl:i=true:=by cases i with | true=>rfl | false=>exact absurd ⟨rfl,rfl⟩ h1
    all_goals
     conv=>whnf
     refine ⟨L,_,rfl,av,0,rfl,oM,fun b2 bp=>?_⟩;have bp:isW ts3 [[111,117,116,112,117,116]]=b2:=bp;intro a5 dp5 w5 pl5 cy
     by_cases h2:b2=true/\o=false
     ·obtain ⟨rfl,rfl⟩:=h2;obtain ⟨rfl,l4,qa,t8⟩:=cy;have bw:=l4.tlq (ZS bp);have q1:=bw.lo;have q2:=bw.hi;have q5:=bw.big;(conv=>whnf);refine Or.inl ⟨InR.i64 oM oM,wN ?_⟩;refine ⟨⟨nm,fl,_,true,n,p,_,_,_,_,_,rfl,rfl,SOK.mk bw qa t8,dv.out g1 bp⟩,?_⟩
      first | show WH i true n<WH i false n | show WH true true n<WH true false n
      simp only [WH];omega
     have g2:o=false->isW ts3 [[111,117,116,112,117,116]]=false:=fun hi=>by rw [bp];cases b2 with | false=>rfl | true=>exact absurd ⟨rfl,hi⟩ h2
     cases b2
     case' true=>obtain rfl:o=true:=by cases o with | true=>rfl | false=>exact absurd ⟨rfl,rfl⟩ h2
     all_goals
      conv=>whnf
      refine ⟨L,_,rfl,cy,0,rfl,oM,fun b3 f6=>?_⟩;have f6:isW ts3 [[105,110,108,105,110,101]]=b3:=f6;intro a6 dp6 w6 pl6 jm
      by_cases h3:b3=true/\n=false
      ·obtain ⟨rfl,rfl⟩:=h3;obtain ⟨rfl,l4,qa,t8⟩:=jm;have bw:=l4.tlq (ZS f6);have q1:=bw.lo;have q2:=bw.hi;have q5:=bw.big;(conv=>whnf);refine Or.inl ⟨InR.i64 oM oM,wN ?_⟩;refine ⟨⟨nm,fl,_,_,true,p,_,_,_,_,_,rfl,rfl,SOK.mk bw qa t8,dv.inl g1 g2 f6⟩,?_⟩
       first | show WH i o true<WH i o false | show WH true o true<WH true o false | show WH i true true<WH i true false | show WH true true true<WH true true false
       simp only [WH];omega
      have g3:n=false->isW ts3 [[105,110,108,105,110,101]]=false:=fun hi=>by rw [f6];cases b3 with | false=>rfl | true=>exact absurd ⟨rfl,hi⟩ h3
      have hst:=dv.stop g1 g2 g3;subst hst
      cases b3
      case' true=>obtain rfl:n=true:=by cases n with | true=>rfl | false=>exact absurd ⟨rfl,rfl⟩ h3
      all_goals
       conv=>whnf
       exact h _ _ _ _ _ _ _ _ _ _ jm
   obtain ⟨e,rfl,ki,lc⟩:=ai.w1 hw;have dv:X=.bad e:=dv;subst dv;exact m190
  exact h.elim
 exact h.elim
end Go.PM.Lex
end

section
namespace Go.PM.Lex
open Go.Proofs
variable {w0:World} {nG:Nat}
def WI (ws:List Bs) (S:SS) (i:Nat):Option Nat->Prop
 | none=>∀k u,k<i->ws[k]?=some u->YV 0 u S=false
 | some k=>∃u,ws[k]?=some u/\YV 0 u S=true
section
variable {ws:List Bs} {S:SS} {i:Nat} {r:Option Nat} {u:Bs}
theorem WI.no (h:WI ws S i r) (hu:ws[i]?=some u) (hs:YV 0 u S=false):WI ws S (i+1) r:=by
 cases r with
 | some k=>exact h
 | none =>
 intro k v hk hv
 by_cases nw:k=i
 ·subst nw;rw [hu] at hv;cases hv;exact hs
 exact h k v oM hv
theorem WI.yes (hu:ws[i]?=some u) (hs:YV 0 u S=true):WI ws S (i+1) (some i):=⟨u,hu,hs⟩
theorem WI.fin (h:WI ws S ws.length r) (hn:ws.Nodup):ZwG S ws=r:=by
 cases S with
 | bad e =>
  cases r with
  | none=>rfl
  | some k=>obtain ⟨u,_,hs⟩:=h;cases hs
 | ok d ts =>
 cases r with
 | none =>
  exact Zk2 ws 0 fun u hu=>by
   obtain ⟨k,hk,rfl⟩:=Sd hu;exact h k _ hk (Ti hk)
 | some k =>
 obtain ⟨u,hu,hs⟩:=h;obtain ⟨hk,rfl⟩:=Tj.1 hu;have:=Zk3 (ts:=ts) ws 0 k hk hn hs
 rwa [Sf] at this
theorem WI.okS {k:Nat} (h:WI ws S i (some k)):∃d ts,S=.ok d ts/\ts≠[]/\k<ws.length:=by
 obtain ⟨u,hu,hs⟩:=h
 cases S with
 | bad e=>cases hs
 | ok d ts=>exact ⟨d,ts,rfl,ZS (show isW ts [u]=true from hs),(Tj.1 hu).1⟩
end
def opR:Option Nat->Nat
 | none=>0
 | some k=>3+k
theorem Zz6:relWords.length=6:=rfl
theorem ZAQ:aggWords.length=4:=rfl
theorem ZpX {n:Nat} (ha:PC w0 nG 267 (Zgn n)) (hg:PC w0 nG 268 (Zk1 n)):PC w0 nG 247 (ZkZ n):=by
 refine Ziw Zb mixed (tbl:=[(147,VP),(79,XS),(141,Jx),(267,Zgn n),(246,UD (n+1) 6),(81,VO),(268,Zk1 n)]) ⟨VE,Xx,Zbh,ha,Zy5 _,VD,hg,trivial⟩ Tryz.func247 rfl kR kR ?_;intro args σ K h
 unfold ZkZ qSp at h
 split at h
 ·rename_i rest t rows a en dp w pl
  obtain ⟨L,S,rfl,ho,h⟩:=h;split at h
  ·obtain ⟨dc,h⟩:=h
   replace h:=h _ rfl
   have hS:∀d ts,S=.ok d ts->(hd ts.tail).kind=1->(hd ts.tail).text≠[40]:=fun d ts g=>by
    subst g;have:=ho.2.1.nam 1
    rwa [List.drop_one] at this
   rw [Zv9 S hS] at h
   clear hS
   unfold Zz4 at h
   obtain ⟨S1,cx⟩:∃x,ZM Ya S=x:=⟨_,rfl⟩
   rw [cx] at h;have eh:=Yn (P:=fun d=>Ya d) dc;rw [show ZM (fun d=>Ya d) S=S1 from cx] at eh;have j7:dLt (n+1) (Xg S1):=by
    cases S1 with
    | bad e=>intro d ts hq;cases hq
    | ok d ts=>intro d' ts' hq;cases hq;exact eh _ _ rfl
   refine ⟨Za [(11,⟨[7],[0,2,4,5,6],fun vs σ=>∃(i:Nat) (r:Option Nat) (a' dp' w' pl' p eo:Int) (es:List UInt8) (em:Int) (er:List (List D)) (ep:Int),vs=[.d (.int .i64 i)] /\
     σ=⟨[Ue t L a' en dp' w' pl',.cells 151 [.d (.int .u8 0),.d (.str []),.sl 0 48 [],.sl 1 151 [],.d (.int .i64 0)],
      .cells 151 [.d (.int .u8 (opR r)),.d (.str []),.sl 2 48 [],.sl 3 151 [],.d (.int .i64 p)],
      .cells 48 [.d (.int .u8 eo),.d (.str es),.d (.int .i64 em),.d (.sl er),.d (.int .i64 ep)]],[3,2,1,0],4⟩/\(i<=6/\SOK L a' dp' w' S1/\WI relWords S1 i r),
     fun vs _=>match vs with | [.d (.int _ i)]=>(6 - i).toNat | _=>0⟩),
    (22,⟨[9],[0,2,4,8],fun vs σ=>∃(i k:Nat) (r:Option Nat) (a' dp' w' pl' p:Int) (row:List D) (eo:Int) (es:List UInt8) (em:Int) (er:List (List D)) (ep:Int),vs=[.d (.int .i64 i)] /\
     σ=⟨[Ue t L a' en dp' w' pl',.cells 151 [.d (.int .u8 0),.d (.str []),.sl 0 48 [],.sl 1 151 [],.d (.int .i64 0)],
      .cells 151 [.d (.int .u8 (3+(k:Int))),.d (.str []),.sl 2 48 [row],.sl 3 151 [],.d (.int .i64 p)],
      .cells 48 [.d (.int .u8 eo),.d (.str es),.d (.int .i64 em),.d (.sl er),.d (.int .i64 ep)]],[3,2,1,0],4⟩/\(i<=4/\k<6/\ZwG S1 relWords=some k/\SOK L a' dp' w' (Xg S1)/\(k=0->WI aggWords (Xg S1) i none)),
     fun vs _=>match vs with | [.d (.int _ i)]=>(4 - i).toNat | _=>0⟩)],Wv [],Ys [],Ys [],Ys [268],Ys [],1,false,sM,Ta rfl,?_⟩
   conv=>whnf
   refine ⟨L,S,rfl,ho,fun p=>?_⟩;intro a1 dp1 w1 pl1 af
   conv=>whnf
   refine ⟨L,S,rfl,af,0,rfl,oM,fun b0 au=>?_⟩;intro a2 dp2 w2 pl2 ac
   cases b0 with
   | true =>
    rw [Tg au] at h
    cases S with
    | bad e=>cases au
    | ok d ts =>
    have au:isW ts [[33]]=true:=au;obtain ⟨rfl,hr,d7,hd⟩:=ac;have bw:=hr.tlq (ZS au);have q1:=bw.lo;have q2:=bw.hi;have q3:=bw.big;(conv=>whnf);refine Or.inl ⟨InR.i64 oM oM,wN ?_⟩;refine ⟨L,_,rfl,SOK.mk bw d7 hd,⟨fun d' ts' hq=>(by cases hq;exact dc _ _ rfl),fun S2 ce=>?_⟩⟩;rw [show ZM (fun d=>XX d (Yp d) [40] [41]) (YW (Xg (.ok d ts)))=S2 from ce] at h;intro o2 s2 x2 y2 p2 a3 dp3 w3 pl3 ai
    conv=>whnf
    exact h _ _ _ _ _ _ _ _ _ ai
   | false =>
   rw [Tc (by rw [au];simp)] at h;(conv=>whnf);refine ⟨L,S,rfl,ac,rfl,fun b1 aj=>?_⟩;intro a3 dp3 w3 pl3 ai
   by_cases hq:Zfm S=true/\YV 1 [40] S=true
   ·rw [Tg hq] at h;obtain rfl:b1=true:=aj.symm.trans hq.1;(conv=>whnf);refine ⟨L,S,rfl,ai,1,rfl,oM,fun b2 bp=>?_⟩;obtain rfl:b2=true:=bp.symm.trans hq.2;intro a4 dp4 w4 pl4 av
    conv=>whnf
    refine ⟨L,S,rfl,av,⟨dc,fun S2 ce=>?_⟩⟩;rw [ce] at h;intro o2 s2 x2 y2 p2 a5 dp5 w5 pl5 cy
    conv=>whnf
    exact h _ _ _ _ _ _ _ _ _ cy
   rw [Tc hq] at h
   cases b1
   case' true =>
    conv=>whnf
    refine ⟨L,S,rfl,ai,1,rfl,oM,fun b2 bp=>?_⟩;obtain rfl:b2=false:=by cases b2 with | false=>rfl | true=>exact absurd ⟨aj,bp⟩ hq
    intro a4 dp4 w4 pl4 av
   all_goals
    conv=>whnf
    refine ⟨L,S,rfl,by assumption,0,rfl,oM,(fun d' ts' hq=>Or.inl (dc _ _ hq)),fun S1' js=>?_⟩;obtain rfl:S1=S1':=by
     rw [<- cx,<- js];show ZM (fun d=>Ya d) S=ZM (fun d=>dsK (Zv d) 5) S;rw [funext Zb1]
    intro eo es em er ep a5 dp5 w5 pl5 cy
    conv=>whnf
    refine ⟨⟨0,none,a5,dp5,w5,pl5,p,eo,es,em,er,ep,rfl,rfl,oM,cy,fun k u hk _=>absurd hk oM⟩,?_⟩;intro vs σ hI
    obtain ⟨i,r,a,dp,w,pl,p,eo,es,em,er,ep,rfl,rfl,hi,ho,hw⟩:=hI;(conv=>whnf);refine ZBC (fun aa=>wN ?_) (fun aa=>?_)
    ·have aa:i<6:=by have aa:(i:Int)<6:=aa;omega
     obtain ⟨u,hu⟩:∃u,relWords[i]?=some u:=⟨_,Ti (by rw [Zz6];exact aa)⟩
     have ae:(relWords.map fun w=>[D.str w])[((i:Nat):Int).toNat]?=some [D.str u]:=by simp [hu]
     refine ⟨_,oM,ae,wN ?_⟩;refine ⟨L,S1,rfl,ho,0,rfl,oM,fun b hb=>?_⟩;intro a2 dp2 w2 pl2 ac
     cases b with
     | true =>
      conv=>whnf
      refine Or.inl ⟨InR.u8 oM oM,wN ?_⟩;refine Or.inl ⟨InR.u8 oM oM,wN ?_⟩;refine Or.inl ⟨InR.i64 oM oM,wN ?_⟩;refine ⟨⟨i+1,some i,_,_,_,_,_,_,_,_,_,_,rfl,rfl,oM,ac,WI.yes hu hb⟩,?_⟩;show (6 - ((i:Int)+1)).toNat<(6 - (i:Int)).toNat;omega
     | false =>
     conv=>whnf
     refine Or.inl ⟨InR.i64 oM oM,wN ?_⟩;refine ⟨⟨i+1,r,_,_,_,_,_,_,_,_,_,_,rfl,rfl,oM,ac,hw.no hu hb⟩,?_⟩;show (6 - ((i:Int)+1)).toNat<(6 - (i:Int)).toNat;omega
    obtain rfl:i=relWords.length:=by have aa:¬(i:Int)<6:=aa;rw [Zz6];omega
    have xv:=hw.fin dM
    cases r with
    | none =>
     rw [xv] at h;(conv=>whnf);refine ⟨L,S1,rfl,ho,150,rfl,oM,?_⟩;exact m129
    | some k =>
    obtain ⟨d,ts,rfl,an,hk⟩:=hw.okS;rw [Zz6] at hk;rw [xv] at h;(conv=>whnf);refine ZBC (fun g=>absurd g (show ¬((3+k:Nat):Int)=0 by omega)) (fun _=>?_);obtain ⟨rfl,hr,d7,hd⟩:=ho;have bw:=hr.tlq an;have q1:=bw.lo;have q2:=bw.hi;have q3:=bw.big;(conv=>whnf);refine Or.inl ⟨InR.i64 oM oM,wN ?_⟩;refine ⟨Tl.2 rfl,(show (0+1) * 64<=2 ^ 47 by omega),(show 0+1<=2 ^ 47 by omega),wN ?_⟩;refine ⟨⟨0,k,none,_,_,_,_,_,_,_,_,_,_,_,rfl,rfl,oM,hk,xv,SOK.mk bw d7 hd,fun _ k u hk _=>absurd hk oM⟩,?_⟩;intro vs σ hI
    obtain ⟨i,k2,r,a,dp,w,pl,p,row,eo,es,em,er,ep,rfl,rfl,hi,cj,aae,ho,hw⟩:=hI;obtain rfl:k=k2:=by rw [xv] at aae;cases aae;rfl
    conv=>whnf
    refine ZBC (fun aa=>wN ?_) (fun aa=>?_)
    ·have aa:i<4:=by have aa:(i:Int)<4:=aa;omega
     obtain ⟨u,hu⟩:∃u,aggWords[i]?=some u:=⟨_,Ti (by rw [ZAQ];exact aa)⟩
     have ae:(aggWords.map fun w=>[D.str w])[((i:Nat):Int).toNat]?=some [D.str u]:=by simp [hu]
     refine ZBC (fun h3=>?_) (fun h3=>wN ?_)
     ·obtain rfl:k=0:=by have h3:3+(k:Int)=3:=h3;omega
      conv=>whnf
      refine ⟨_,oM,ae,wN ?_⟩;refine ⟨L,_,rfl,ho,0,rfl,oM,fun b hb=>?_⟩;intro a2 dp2 w2 pl2 ac
      cases b with
      | true =>
       have hj:ZwG (Xg (.ok d ts)) aggWords=some i:=by
        have hy:=WI.yes (ws:=aggWords) (S:=Xg (.ok d ts)) hu hb;obtain ⟨u2,xw,gd⟩:=hy;exact WI.fin (ws:=aggWords) (r:=some i) ⟨u2,xw,gd⟩ dM
       rw [hj] at h;(conv=>whnf);refine Or.inl ⟨InR.u8 oM oM,wN ?_⟩;refine Or.inl ⟨InR.u8 oM oM,wN ?_⟩;refine ⟨⟨rfl,rfl,sM⟩,L,d,ts.tail,rfl,ac,ZS (show isW ts.tail [u]=true from hb),eh _ _ rfl,fun S3 cg=>?_⟩;have cg:Zv7 (9+(i:Int)) (Xg (Xg (.ok d ts)))=S3:=cg;have h:∀o s x y q a' dp' w' pl',SOK L a' dp' w' (Zv7 (9+(i:Int)) (Xg (Xg (.ok d ts))))->K (.ret (ZwF o s x y q)) ⟨[Ue t L a' en dp' w' pl'],[],0⟩:=h;rw [cg] at h;intro o3 s3 x3 y3 p3 a3 dp3 w3 pl3 ai
       conv=>whnf
       exact h _ _ _ _ _ _ _ _ _ ai
      | false =>
      conv=>whnf
      refine Or.inl ⟨InR.i64 oM oM,wN ?_⟩;refine ⟨⟨i+1,0,none,_,_,_,_,_,_,_,_,_,_,_,rfl,rfl,oM,hk,xv,ac,fun _=>(hw rfl).no hu hb⟩,?_⟩;show (4 - ((i:Int)+1)).toNat<(4 - (i:Int)).toNat;omega
     have h3:¬k=0:=by have h3:¬3+(k:Int)=3:=h3;omega
     refine Or.inl ⟨InR.i64 oM oM,wN ?_⟩;refine ⟨⟨i+1,k,none,_,_,_,_,_,_,_,_,_,_,_,rfl,rfl,oM,hk,xv,ho,fun g=>absurd g h3⟩,?_⟩;show (4 - ((i:Int)+1)).toNat<(4 - (i:Int)).toNat;omega
    obtain rfl:i=aggWords.length:=by have aa:¬(i:Int)<4:=aa;rw [ZAQ];omega
    have hre:Zz3 (.ok d ts) (some k) (ZwG (Xg (.ok d ts)) aggWords)=ZM Ya (Xg (.ok d ts)):=by
     cases k with
     | zero=>rw [(hw rfl).fin dM];rfl
     | succ k=>rfl
    rw [hre] at h;(conv=>whnf);refine ⟨L,_,rfl,ho,0,rfl,oM,(fun d' ts' hq=>Or.inl (j7 _ _ hq)),fun S3 cg=>?_⟩;have cg:ZM (fun d=>dsK (Zv d) 5) (Xg (.ok d ts))=S3:=cg;rw [funext Zb1] at cg;have h:∀o s x y q a' dp' w' pl',SOK L a' dp' w' (ZM (fun d=>Ya d) (Xg (.ok d ts)))->K (.ret (ZwF o s x y q)) ⟨[Ue t L a' en dp' w' pl'],[],0⟩:=h;rw [cg] at h;intro eo3 es3 em3 er3 ep3 a3 dp3 w3 pl3 ai
    conv=>whnf
    refine ⟨Tl.2 rfl,(show (1+1) * 64<=2 ^ 47 by omega),(show 1+1<=2 ^ 47 by omega),wN ?_⟩;exact h _ _ _ _ _ _ _ _ _ ai
  exact h.elim
 exact h.elim
end Go.PM.Lex
end

section
namespace Go.PM.Lex
open Go.Proofs
variable {w0:World} {nG:Nat}
theorem ZpY (n:Nat):PC w0 nG 210 (Jc n):=ZkP (Zy5 n)
theorem ZAR:∀n,PC w0 nG 211 (Zmd n)
 | 0=>Zr3
 | n+1=>(Zk0 (ZpX (ZkY (ZpY n)) (ZpP (ZAR n)))).weaken1 fun args σ K h=>by
  unfold Zmd qSp at h
  unfold Zb3 qSp
  split at h
  ·obtain ⟨L,S,h1,h2,h⟩:=h;refine ⟨L,S,h1,h2,?_⟩;split at h
   ·exact h
   exact h.elim
  exact h.elim
theorem Zyf (n:Nat):PC w0 nG 211 (Zb3 n):=Zk0 (ZpX (ZkY (ZpY n)) (ZpP (ZAR n)))
theorem Zyg (n:Nat):PC w0 nG 149 (Zgo n):=Zr1 (ZpY n) (Zyf n)
theorem Zmh {ts:Ts} (h:Zq ts=true):(hd ts).kind=1:=by
 simp only [Zq,Tk,TG] at h;exact h.1
def Zjl (S:SS):SS:=Zbg [125] (ZM (fun d=>Zem true d) (Wh [123] S))
def ZpZ (S:SS):SS:=Zjl (if YV 0 [58] S=true then ZM (fun _=>Y6) (YW (Xg S)) else S)
theorem Zk5 {d:Nat} {ts:Ts} {f:Un->Ts->R Co} (hf:∀v ts,VH d (f v ts)=.ok d ts):VH d ((Zu d [123] [125] (JD d) ts).bind f)=Zjl (.ok d ts):=by
 have h:=Uf (fun d=>JD d) [123] [125] dM (.ok d ts);rw [Zk] at h;have h2:ZM (fun d=>JD (d+1)) (Wh [123] (.ok d ts))=ZM (fun d=>Zem true d) (Wh [123] (.ok d ts)):=by
  congr 1;funext d;exact Zkf d
 rw [h2] at h;rw [Xe (F:=fun S=>S) (fun e=>rfl) hf];exact h
theorem Zsd (S:SS):ZM (fun d=>ZcV d (JD d)) S=ZpZ (ZM (fun _=>Y6) (YW S)):=by
 cases S with
 | bad e=>rfl
 | ok d ts =>
 rw [Zk,ZcV,<- WZ];refine Xe (F:=fun S=>ZpZ (ZM (fun _=>Y6) S)) (fun e=>rfl) fun v ts=>?_
 try dsimp only
 rw [Zk];refine Xe (F:=ZpZ) (fun e=>rfl) fun v ts=>?_
 unfold ZpZ
 show _=Zjl (if isW ts [[58]]=true then _ else _)
 by_cases h1:isW ts [[58]]=true
 ·rw [Tg h1,Tg h1];show _=Zjl (ZM (fun _=>Y6) (YW (.ok d ts.tail)));rw [<- WZ];refine Xe (F:=fun S=>Zjl (ZM (fun _=>Y6) S)) (fun e=>rfl) fun v ts=>?_
  try dsimp only
  rw [Zk];refine Xe (F:=Zjl) (fun e=>rfl) fun v ts=>?_
  exact Zk5 fun v ts=>rfl
 rw [Tc h1,Tc h1];exact Zk5 fun v ts=>rfl
def Je (n:Nat):Zt:=qSp fun rest S K=>match rest with
 | [.d (.bool b)]=>dLt n S/\∀S',ZM (fun d=>Zem b d) S=S'->∀r0 r1 r2 r3 r4 r5,K (.agg [.d (.sl r0),.d (.sl r1),.d (.sl r2),.d (.sl r3),.d (.sl r4),.d (.sl r5)]) S'
 | _=>False
def Zgq (n:Nat):Zt:=qSp fun rest S K=>match rest with
 | []=>dLt (n+1) S/\∀S',ZM (fun d=>ZcV d (JD d)) S=S'->∀nm ps bs tys r0 r1 r2 r3 r4 r5 p,K (.agg [.d (.str nm),.d (.sl ps),.d (.str bs),.d (.sl tys),.d (.sl r0),.d (.sl r1),.d (.sl r2),.d (.sl r3),.d (.sl r4),.d (.sl r5),.d (.int .i64 p)]) S'
 | _=>False
theorem Zsf {n:Nat} (hu:PC w0 nG 34 (Je n)):PC w0 nG 145 (Zgq n):=by
 refine Zd Zb mixed (tbl:=[(147,VP),(148,VR),(207,ZcP),(79,XS),(208,Jb),(34,Je n),(209,Zar)]) ⟨VE,VG,ZhV,Xx,Jy,hu,Zbi,trivial⟩ Tryz.func145 rfl kR kR ?_;intro args σ K h
 unfold Zgq qSp at h
 split at h
 ·rename_i rest t rows a en dp w pl
  obtain ⟨L,S,rfl,ho,h⟩:=h;split at h
  ·obtain ⟨dc,h⟩:=h
   replace h:=h _ rfl
   rw [Zsd] at h;have gu:=Zr4 ho;refine ⟨Za [],1,false,sM,Ta rfl,wN ?_⟩;refine ⟨L,S,rfl,ho,fun p=>?_⟩;intro a1 dp1 w1 pl1 af
   conv=>whnf
   refine ⟨L,S,rfl,af,fun S1 nm cx=>?_⟩;have dc:=JB dc;have gu:=JB gu;rw [cx] at h dc gu;intro a2 dp2 w2 pl2 ac
   conv=>whnf
   refine ⟨L,S1,rfl,ac,fun S2 ce ps=>?_⟩;have dc:=Yn (P:=fun _=>Y6) dc;have gu:=Yn (P:=fun _=>Y6) gu;rw [ce] at h dc gu;unfold ZpZ at h
   intro a3 dp3 w3 pl3 ai
   conv=>whnf
   refine ⟨L,S2,rfl,ai,0,rfl,oM,fun b hb=>?_⟩;intro a4 dp4 w4 pl4 av
   cases b
   case' true =>
    rw [Tg hb] at h;obtain ⟨d,ts,rfl⟩:∃d ts,S2=.ok d ts:=by cases S2 with | bad e=>cases hb | ok d ts=>exact ⟨d,ts,rfl⟩
    have hb:isW ts [[58]]=true:=hb;obtain ⟨rfl,hr,d7,hd⟩:=av;have bw:=hr.tlq (ZS hb);have q1:=bw.lo;have q2:=bw.hi;have q3:=bw.big;have dc:dLt (n+1) (Xg (.ok d ts)):=fun d' ts' hq=>by cases hq;exact dc _ _ rfl
    have gu:dLt 65 (Xg (.ok d ts)):=fun d' ts' hq=>by cases hq;exact gu _ _ rfl
    conv=>whnf
    refine Or.inl ⟨InR.i64 oM oM,wN ?_⟩;refine ⟨L,_,rfl,SOK.mk bw d7 hd,fun S3 bs cg=>?_⟩;have cg:YW (Xg (.ok d ts))=S3:=cg;have dc:=JB dc;have gu:=JB gu;rw [cg] at h dc gu;intro a5 dp5 w5 pl5 cy
    conv=>whnf
    refine ⟨L,S3,rfl,cy,fun S4 ef tys=>?_⟩;have dc:=Yn (P:=fun _=>Y6) dc;have gu:=Yn (P:=fun _=>Y6) gu;rw [ef] at h dc gu;intro a6 dp6 w6 pl6 jm
   case' false =>
    rw [Tc (by rw [hb];simp)] at h;obtain ⟨S4,ef⟩:∃x,S2=x:=⟨_,rfl⟩
    rw [ef] at h dc gu av;have jm:=av
   all_goals
    unfold Zjl at h
    conv=>whnf
    refine ⟨L,S4,rfl,jm,fun S5 pz=>?_⟩;have dc:=Xd (fr:=[123]) dc;have gu:=Xd (fr:=[123]) gu;rw [pz] at h dc gu;intro a7 dp7 w7 pl7 fk
    conv=>whnf
    refine ⟨L,S5,rfl,fk,⟨dc,fun S6 qr v0 v1 v2 v3 v4 v5=>?_⟩⟩;have gu:=Yn (P:=fun d=>Zem true d) gu;rw [qr] at h gu;intro a8 dp8 w8 pl8 mt
    conv=>whnf
    refine ⟨L,S6,rfl,mt,⟨gu,fun S7 wg=>?_⟩⟩;rw [wg] at h;intro a9 dp9 w9 pl9 iw
    conv=>whnf
    exact h _ _ _ _ _ _ _ _ _ _ _ _ _ _ _ iw
  exact h.elim
 exact h.elim
theorem RQ.sgn {L:List Tok} {a:Int} {ts:Ts} (hr:RQ L a ts):(hd ts).kind=4->(hd ts).text.length<=2:=by
 by_cases h:a<L.length
 ·have h0:=hr.lo;have ah:a.toNat<L.length:=oM;have hq:ts=L[a.toNat].t0::ts.drop 1:=by
   have he:=hr.eq;simp only [tz] at he;rw [<- he,<- List.map_drop,Tw,TS ah,TN]
  rw [hq];exact hr.signs _ (TD ah)
 have ab:=hr.len;rw [show ts=[] from TB oM];intro h;exact absurd h dM
theorem Zsg {L:List Tok} {a:Int} {ts:Ts} (hr:RQ L a ts) {w:Bs} (hw:2<w.length):isW ts [w]=true↔(hd ts).kind=1/\(hd ts).text=w:=by
 rw [Zgi]
 constructor
 ·rintro ⟨h1 | h1,h2⟩
  ·exact ⟨h1,h2⟩
  have:=hr.sgn h1;rw [h2] at this;omega
 rintro ⟨h1,h2⟩;exact ⟨.inl h1,h2⟩
noncomputable def Zgr (n:Nat):Zt:=fun args σ K=>match args,σ with
 | [.ptr 0 0,.agg [.sl 0 e0 r0,.sl 1 e1 r1,.sl 2 e2 r2,.sl 3 e3 r3,.sl 4 e4 r4,.sl 5 e5 r5]],⟨[.cells t [.d (.sl rows),.d (.int .i64 a),.d (.int .i64 en),.d (.int .i64 dp),.d (.int .i64 w),.d (.int .i64 pl)]],[5,4,3,2,1,0],6⟩ =>
   ((e0=67/\e1=72/\e2=84)/\e3=45/\e4=41/\e5=43)/\∃L d ts,rows=Zy L/\SOK L a dp w (.ok d ts)/\ts≠[]/\d<n+1/\(Cn.mk r0.length r1.length r2.length r3.length r4.length r5.length).ok /\
    ∀S',Vs d ts ⟨r0.length,r1.length,r2.length,r3.length,r4.length,r5.length⟩=S'->∀q0 q1 q2 q3 q4 q5,((∃d' ts',S'=.ok d' ts')->(⟨q0.length,q1.length,q2.length,q3.length,q4.length,q5.length⟩:Cn)=Zav ts ⟨r0.length,r1.length,r2.length,r3.length,r4.length,r5.length⟩) ->
    ∀a' dp' w' pl',SOK L a' dp' w' S'->K (.ret (.agg [.sl 0 e0 q0,.sl 1 e1 q1,.sl 2 e2 q2,.sl 3 e3 q3,.sl 4 e4 q4,.sl 5 e5 q5])) ⟨[Ue t L a' en dp' w' pl'],[5,4,3,2,1,0],6⟩
 | _,_=>False
theorem Zsi {n:Nat} (hc:PC w0 nG 145 (Zgq n)):PC w0 nG 80 (Zgr n):=by
 refine Ziw Zb mixed (tbl:=[(141,Jx),(81,VO),(142,ZbX),(143,Zgp),(144,Zjk),(145,Zgq n),(146,Zjj),(147,VP),(148,VR),(149,Zgo n)]) ⟨Zbh,VD,ZcN,ZpW,Zsc,hc,Zsa,VE,VG,Zyg n,trivial⟩ Tryz.func80 rfl kR kR ?_;intro args σ K h
 unfold Zgr at h
 split at h
 ·rename_i e0 r0 e1 r1 e2 r2 e3 r3 e4 r4 e5 r5 t rows a en dp w pl
  obtain ⟨⟨⟨rfl,rfl,rfl⟩,rfl,rfl,rfl⟩,L,d,ts,rfl,ho,an,dc,hcn,h⟩:=h
  replace h:=h _ rfl
  obtain ⟨⟨k0,k1,k2⟩,k3,k4,k5⟩:=hcn;simp only at k0 k1 k2 k3 k4 k5;have rx:=ho;obtain ⟨rfl,hr,d7,hd⟩:=ho;have ab:=hr.len;have z1:=hr.lo;have z2:=hr.hi;have z3:=hr.big;have ah:a<L.length:=by
   cases ts with
   | nil=>exact absurd rfl an
   | cons x l=>simp only [Td] at ab;omega
  obtain ⟨x,hx,fy,_,j9⟩:=hr.at0 ah;have il:∀{u:Bs},2<u.length->(isW ts [u]=true↔x.kind=1/\x.text=u):=fun {u} hu=>by have:=Zsg hr hu;rw [fy] at this;exact this
  have hlc:a<((Zy L).length:Int):=by rw [ZG];exact ah
  have qt:∀a1 dp1,RQ L a1 ts->dp1=64 - (d:Int)->SOK L (a1+1) dp1 0 (.ok d ts.tail)/\0<=a1+1/\a1+1<=1048577:=fun a1 dp1 ae h1=>by
   have bw:=ae.tlq an;have q1:=bw.lo;have q2:=bw.hi;have q3:=bw.big;exact ⟨SOK.mk bw h1 hd,oM,oM⟩
  refine ⟨Za [],Wv [],Ys [],Ys [],Ys [],Ys [],1,true,sM,Ta rfl,?_⟩
  by_cases ir:x.kind=1
  rotate_left
  ·have i6:∀{u:Bs},2<u.length->¬isW ts [u]=true:=fun hu g=>ir ((il hu).1 g).1
   have hnn:¬Zq ts=true:=fun g=>ir (by have:=Zmh g;rw [fy] at this;exact this)
   have hS:Vs d ts ⟨r0.length,r1.length,r2.length,r3.length,r4.length,r5.length⟩=.bad 150:=by
    unfold Vs
    rw [Tc (i6 dM),Tc (i6 dM),Tc (i6 dM),Tc (i6 dM),Tc (i6 dM),Tc hnn]
   rw [hS] at h;(conv=>whnf);refine ZBC (fun hc=>wN ?_) (fun hc=>absurd hlc hc);refine ⟨_,oM,hx,wN ?_⟩;refine ZBC (fun dl=>absurd (show x.kind=1 by have dl:(x.kind:Int)=1:=dl;omega) ir) (fun dl=>wN ?_);refine ⟨L,_,rfl,rx,rfl,fun b hb=>?_⟩;obtain rfl:b=false:=by cases b with | false=>rfl | true=>exact absurd hb hnn
   intro a1 dp1 w1 pl1 af
   exact m147
  conv=>whnf
  refine ZBC (fun hc=>wN ?_) (fun hc=>absurd hlc hc);refine ⟨_,oM,hx,wN ?_⟩;refine ZBC (fun dl=>?_) (fun dl=>absurd (show (x.kind:Int)=1 by omega) dl);(conv=>whnf);refine ⟨_,oM,hx,wN ?_⟩
  by_cases t0:x.text=[116,121,112,101]
  ·have hS:Vs d ts ⟨r0.length,r1.length,r2.length,r3.length,r4.length,r5.length⟩=if r0.length=256 then .bad 3 else ZM (fun _=>UQ) (.ok d ts.tail):=by
    unfold Vs
    rw [Tg ((il dM).2 ⟨ir,t0⟩)]
   have hC:Zav ts ⟨r0.length,r1.length,r2.length,r3.length,r4.length,r5.length⟩=⟨r0.length+1,r1.length,r2.length,r3.length,r4.length,r5.length⟩:=by
    unfold Zav
    rw [Tg ((il dM).2 ⟨ir,t0⟩)]
   rw [hS,hC] at h;refine ZBC (fun _=>wN ?_) (fun g=>absurd t0 g);refine ⟨L,_,rfl,rx,fun S2 ce=>?_⟩;intro a1 dp1 w1 pl1 af
   by_cases hl:r0.length=256
   ·exact m31
   rw [Tc hl] at h;obtain rfl:S2=.ok d ts:=by rw [<- ce,Wi,Tc oM]
   obtain ⟨rfl,ae,j8,dg⟩:=af;obtain ⟨fk,p1,p2⟩:=qt _ _ ae j8;(conv=>whnf);refine Or.inl ⟨InR.i64 oM oM,wN ?_⟩;refine ZBC (fun _=>wN ?_) (fun g=>absurd t0 g);refine ⟨L,_,rfl,fk,fun S3 cg k n b fs cs p=>?_⟩;rw [cg] at h;intro a3 dp3 w3 pl3 ai
   conv=>whnf
   (repeat (refine ⟨rfl,?_⟩;conv=>whnf))
   refine ⟨Tl.2 rfl,(show (r0.length+1) * 96<=2 ^ 47 by omega),(show r0.length+1<=2 ^ 47 by omega),wN ?_⟩;exact m64
  by_cases t1:x.text=[100,101,99,108]
  ·have hS:Vs d ts ⟨r0.length,r1.length,r2.length,r3.length,r4.length,r5.length⟩=if r1.length=256 then .bad 3 else ZM (fun _=>ZcT) (.ok d ts.tail):=by
    unfold Vs
    rw [Tc (fun g=>t0 ((il dM).1 g).2),Tg ((il dM).2 ⟨ir,t1⟩)]
   have hC:Zav ts ⟨r0.length,r1.length,r2.length,r3.length,r4.length,r5.length⟩=⟨r0.length,r1.length+1,r2.length,r3.length,r4.length,r5.length⟩:=by
    unfold Zav
    rw [Tc (fun g=>t0 ((il dM).1 g).2),Tg ((il dM).2 ⟨ir,t1⟩)]
   rw [hS,hC] at h;refine ZBC (fun g=>absurd g t0) (fun _=>wN ?_);refine ZBC (fun _=>wN ?_) (fun g=>absurd t1 g);refine ⟨L,_,rfl,rx,fun S2 ce=>?_⟩;intro a1 dp1 w1 pl1 af
   by_cases hl:r1.length=256
   ·exact m31
   rw [Tc hl] at h;obtain rfl:S2=.ok d ts:=by rw [<- ce,Wi,Tc oM]
   obtain ⟨rfl,ae,j8,dg⟩:=af;obtain ⟨fk,p1,p2⟩:=qt _ _ ae j8;(conv=>whnf);refine Or.inl ⟨InR.i64 oM oM,wN ?_⟩;refine ZBC (fun g=>absurd g t0) (fun _=>wN ?_);refine ZBC (fun _=>wN ?_) (fun g=>absurd t1 g);refine ⟨L,_,rfl,fk,fun S3 cg nm fs i o l p=>?_⟩;rw [cg] at h;intro a3 dp3 w3 pl3 ai
   conv=>whnf
   (repeat (refine ⟨rfl,?_⟩;conv=>whnf))
   refine ⟨Tl.2 rfl,(show (r1.length+1) * 56<=2 ^ 47 by omega),(show r1.length+1<=2 ^ 47 by omega),wN ?_⟩;exact m64
  by_cases t2:x.text=[99,111,109,112]
  ·have hS:Vs d ts ⟨r0.length,r1.length,r2.length,r3.length,r4.length,r5.length⟩=if r3.length=64 then .bad 3 else ZM (fun d=>ZcV d (JD d)) (.ok d ts.tail):=by
    unfold Vs
    rw [Tc (fun g=>t0 ((il dM).1 g).2),Tc (fun g=>t1 ((il dM).1 g).2),Tg ((il dM).2 ⟨ir,t2⟩)]
   have hC:Zav ts ⟨r0.length,r1.length,r2.length,r3.length,r4.length,r5.length⟩=⟨r0.length,r1.length,r2.length,r3.length+1,r4.length,r5.length⟩:=by
    unfold Zav
    rw [Tc (fun g=>t0 ((il dM).1 g).2),Tc (fun g=>t1 ((il dM).1 g).2),Tg ((il dM).2 ⟨ir,t2⟩)]
   rw [hS,hC] at h;refine ZBC (fun g=>absurd g t0) (fun _=>wN ?_);refine ZBC (fun g=>absurd g t1) (fun _=>wN ?_);refine ZBC (fun _=>wN ?_) (fun g=>absurd t2 g);refine ⟨L,_,rfl,rx,fun S2 ce=>?_⟩;intro a1 dp1 w1 pl1 af
   by_cases hl:r3.length=64
   ·exact m31
   rw [Tc hl] at h;obtain rfl:S2=.ok d ts:=by rw [<- ce,Wi,Tc oM]
   obtain ⟨rfl,ae,j8,dg⟩:=af;obtain ⟨fk,p1,p2⟩:=qt _ _ ae j8;(conv=>whnf);refine Or.inl ⟨InR.i64 oM oM,wN ?_⟩;refine ZBC (fun g=>absurd g t0) (fun _=>wN ?_);refine ZBC (fun g=>absurd g t1) (fun _=>wN ?_);refine ZBC (fun _=>wN ?_) (fun g=>absurd t2 g);refine ⟨L,_,rfl,fk,⟨fun d' ts' hq=>(by cases hq;exact dc),fun S3 cg nm ps bs tys v0 v1 v2 v3 v4 v5 p=>?_⟩⟩;rw [cg] at h;intro a3 dp3 w3 pl3 ai
   conv=>whnf
   (repeat (refine ⟨rfl,?_⟩;conv=>whnf))
   refine ⟨Tl.2 rfl,(show (r3.length+1) * 232<=2 ^ 47 by omega),(show r3.length+1<=2 ^ 47 by omega),wN ?_⟩;exact m64
  by_cases t3:x.text=[105,110,105,116]
  ·have hS:Vs d ts ⟨r0.length,r1.length,r2.length,r3.length,r4.length,r5.length⟩=if r4.length=256 then .bad 3 else ZM (fun _=>ZcW) (.ok d ts.tail):=by
    unfold Vs
    exact m169
   have hC:Zav ts ⟨r0.length,r1.length,r2.length,r3.length,r4.length,r5.length⟩=⟨r0.length,r1.length,r2.length,r3.length,r4.length+1,r5.length⟩:=by
    unfold Zav
    exact m169
   rw [hS,hC] at h;refine ZBC (fun g=>absurd g t0) (fun _=>wN ?_);refine ZBC (fun g=>absurd g t1) (fun _=>wN ?_);refine ZBC (fun g=>absurd g t2) (fun _=>wN ?_);refine ZBC (fun _=>wN ?_) (fun g=>absurd t3 g);refine ⟨L,_,rfl,rx,fun S2 ce=>?_⟩;intro a1 dp1 w1 pl1 af
   by_cases hl:r4.length=256
   ·exact m31
   rw [Tc hl] at h;obtain rfl:S2=.ok d ts:=by rw [<- ce,Wi,Tc oM]
   obtain ⟨rfl,ae,j8,dg⟩:=af;obtain ⟨fk,p1,p2⟩:=qt _ _ ae j8;(conv=>whnf);refine Or.inl ⟨InR.i64 oM oM,wN ?_⟩;refine ZBC (fun g=>absurd g t0) (fun _=>wN ?_);refine ZBC (fun g=>absurd g t1) (fun _=>wN ?_);refine ZBC (fun g=>absurd g t2) (fun _=>wN ?_);refine ZBC (fun _=>wN ?_) (fun g=>absurd t3 g);refine ⟨L,_,rfl,fk,fun S3 cg nm c tys p=>?_⟩;rw [cg] at h;intro a3 dp3 w3 pl3 ai
   conv=>whnf
   (repeat (refine ⟨rfl,?_⟩;conv=>whnf))
   refine ⟨Tl.2 rfl,(show (r4.length+1) * 64<=2 ^ 47 by omega),(show r4.length+1<=2 ^ 47 by omega),wN ?_⟩;exact m64
  by_cases t4:x.text=[111,118,101,114,114,105,100,101]
  ·have hS:Vs d ts ⟨r0.length,r1.length,r2.length,r3.length,r4.length,r5.length⟩=if r5.length=256 then .bad 3 else ZM (fun _=>Zee) (.ok d ts.tail):=by
    unfold Vs
    exact m144
   have hC:Zav ts ⟨r0.length,r1.length,r2.length,r3.length,r4.length,r5.length⟩=⟨r0.length,r1.length,r2.length,r3.length,r4.length,r5.length+1⟩:=by
    unfold Zav
    exact m144
   rw [hS,hC] at h;refine ZBC (fun g=>absurd g t0) (fun _=>wN ?_);refine ZBC (fun g=>absurd g t1) (fun _=>wN ?_);refine ZBC (fun g=>absurd g t2) (fun _=>wN ?_);refine ZBC (fun g=>absurd g t3) (fun _=>wN ?_);refine ZBC (fun _=>wN ?_) (fun g=>absurd t4 g);refine ⟨L,_,rfl,rx,fun S2 ce=>?_⟩;intro a1 dp1 w1 pl1 af
   by_cases hl:r5.length=256
   ·exact m31
   rw [Tc hl] at h;obtain rfl:S2=.ok d ts:=by rw [<- ce,Wi,Tc oM]
   obtain ⟨rfl,ae,j8,dg⟩:=af;obtain ⟨fk,p1,p2⟩:=qt _ _ ae j8;(conv=>whnf);refine Or.inl ⟨InR.i64 oM oM,wN ?_⟩;refine ZBC (fun g=>absurd g t0) (fun _=>wN ?_);refine ZBC (fun g=>absurd g t1) (fun _=>wN ?_);refine ZBC (fun g=>absurd g t2) (fun _=>wN ?_);refine ZBC (fun g=>absurd g t3) (fun _=>wN ?_);refine ZBC (fun _=>wN ?_) (fun g=>absurd t4 g);refine ⟨L,_,rfl,fk,fun p=>?_⟩;intro a2 dp2 w2 pl2 ac
   conv=>whnf
   refine ⟨L,_,rfl,ac,fun S3 nm cg=>?_⟩;rw [Zr8,cg] at h;intro a3 dp3 w3 pl3 ai
   conv=>whnf
   refine ⟨Tl.2 rfl,(show (r5.length+1) * 24<=2 ^ 47 by omega),(show r5.length+1<=2 ^ 47 by omega),wN ?_⟩;exact m64
  have hS:Vs d ts ⟨r0.length,r1.length,r2.length,r3.length,r4.length,r5.length⟩=if Zq ts=true then (if r2.length=1024 then .bad 3 else ZM (fun d=>ZcU d true) (.ok d ts)) else .bad 150:=by
   unfold Vs
   exact m143
  have hC:Zav ts ⟨r0.length,r1.length,r2.length,r3.length,r4.length,r5.length⟩=⟨r0.length,r1.length,r2.length+1,r3.length,r4.length,r5.length⟩:=by
   unfold Zav
   exact m143
  rw [hS,hC] at h;refine ZBC (fun g=>absurd g t0) (fun _=>wN ?_);refine ZBC (fun g=>absurd g t1) (fun _=>wN ?_);refine ZBC (fun g=>absurd g t2) (fun _=>wN ?_);refine ZBC (fun g=>absurd g t3) (fun _=>wN ?_);refine ZBC (fun g=>absurd g t4) (fun _=>wN ?_);refine ⟨L,_,rfl,rx,rfl,fun b hb=>?_⟩;intro a1 dp1 w1 pl1 af
  have hb:Zq ts=b:=hb
  cases b with
  | false =>
   rw [Tc (by rw [hb];simp)] at h;exact m147
  | true =>
  rw [Tg hb] at h;(conv=>whnf);refine ⟨L,_,rfl,af,fun S2 ce=>?_⟩;intro a2 dp2 w2 pl2 ac
  by_cases hl:r2.length=1024
  ·rw [Tg hl] at h;obtain rfl:S2=.bad 3:=by rw [<- ce,Wi,Tg oM];rfl
   have hw:¬w2=0:=by have:=ac.1;omega
   conv=>whnf
   refine ZBE (fun _=>wN ?_) (fun g=>absurd (by simpa using g) hw);exact h _ _ _ _ _ _ (fun ⟨_,_,g⟩=>by cases g) _ _ _ _ ac
  rw [Tc hl] at h;obtain rfl:S2=.ok d ts:=by rw [<- ce,Wi,Tc oM]
  obtain ⟨rfl,bi,vu,bf⟩:=ac;obtain ⟨fk,p1,p2⟩:=qt _ _ bi vu;(conv=>whnf);refine Or.inl ⟨InR.i64 oM oM,wN ?_⟩;refine ZBC (fun g=>absurd g t0) (fun _=>wN ?_);refine ZBC (fun g=>absurd g t1) (fun _=>wN ?_);refine ZBC (fun g=>absurd g t2) (fun _=>wN ?_);refine ZBC (fun g=>absurd g t3) (fun _=>wN ?_);refine ZBC (fun g=>absurd g t4) (fun _=>wN ?_);refine ⟨L,_,rfl,SOK.mk hr vu bf,⟨fun d' ts' hq=>(by cases hq;exact dc),fun S3 cg s x y q=>?_⟩⟩;rw [cg] at h;intro a3 dp3 w3 pl3 ai
  conv=>whnf
  (repeat (refine ⟨rfl,?_⟩;conv=>whnf))
  refine ⟨Tl.2 rfl,(show (r2.length+1) * 72<=2 ^ 47 by omega),(show r2.length+1<=2 ^ 47 by omega),wN ?_⟩;exact m64
 exact h.elim
theorem Zmi {d d':Nat} {ts ts':Ts} {c:Cn} (an:ts≠[]) (h:Vs d ts c=.ok d' ts'):ts'.length<ts.length:=by
 have n6:ts.tail.length+1=ts.length:=by cases ts with | nil=>exact absurd rfl an | cons t l=>simp
 have key:∀{α:Type} (P:Nat->Ts->R α) (t0:Ts),(∀v t',P d t0=.ok v t'->t'.length<ts.length)->ZM P (.ok d t0)=.ok d' ts'->ts'.length<ts.length:=fun P t0 hp hq=>by
  rw [Zk] at hq
  cases hx:P d t0 with
  | err r e=>rw [hx] at hq;cases hq
  | ok v t'=>rw [hx] at hq;cases hq;exact hp v _ hx
 unfold Vs at h
 split at h
 ·split at h
  ·cases h
  exact key _ _ (fun v t' e=>by have:=Zd0 _ _ _ e;dsimp only at this;omega) h
 split at h
 ·split at h
  ·cases h
  exact key _ _ (fun v t' e=>by have:=Zf8 _ _ _ e;dsimp only at this;omega) h
 split at h
 ·split at h
  ·cases h
  exact key _ _ (fun v t' e=>by have:=Zgb (ZhT d) _ _ _ e;dsimp only at this;omega) h
 split at h
 ·split at h
  ·cases h
  exact key _ _ (fun v t' e=>by have:=Zgc _ _ _ e;dsimp only at this;omega) h
 split at h
 ·split at h
  ·cases h
  exact key _ _ (fun v t' e=>by have:=Zgd _ _ _ e;dsimp only at this;omega) h
 split at h
 ·split at h
  ·cases h
  exact key _ _ (fun v t' e=>by have:=Zga _ _ _ _ _ e;dsimp only at this;omega) h
 cases h
theorem LU.cn {b:Bool} {X:SS} {d:Nat} {ts:Ts} {c:Cn} (h:LU b X (.ok d ts) c):c.ok:=by
 obtain ⟨f,u,_,_,rfl,h⟩:=h;exact h
theorem Zsk {n:Nat} (hi:PC w0 nG 80 (Zgr n)):PC w0 nG 34 (Je (n+1)):=by
 refine Ziw Zb mixed (tbl:=[(80,Zgr n),(79,XS)]) ⟨hi,Xx,trivial⟩ Tryz.func34 rfl kR kR ?_;intro args σ K h
 unfold Je qSp at h
 split at h
 ·rename_i rest t rows a en dp w pl
  obtain ⟨L,S,rfl,ho,h⟩:=h;split at h
  ·rename_i b
   obtain ⟨dc,h⟩:=h
   replace h:=h _ rfl
   have me:=LU.start b S;obtain ⟨X,hX⟩:∃x,ZM (fun d=>Zem b d) S=x:=⟨_,rfl⟩
   rw [hX] at h me
   clear hX
   refine ⟨Za [(2,⟨[],[0,1,4,5],fun vs σ=>∃(r0 r1 r2 r3 r4 r5:List (List D)) (a' dp' w' pl':Int) (S':SS),vs=[] /\
     σ=⟨[Ue t L a' en dp' w' pl',.cells 29 [.sl 0 67 [],.sl 1 72 [],.sl 2 84 [],.sl 3 45 [],.sl 4 41 [],.sl 5 43 []],
      .cells 29 [.sl 6 67 r0,.sl 7 72 r1,.sl 8 84 r2,.sl 9 45 r3,.sl 10 41 r4,.sl 11 43 r5]],[11,10,9,8,7,6,5,4,3,2,1,0],12⟩/\SOK L a' dp' w' S'/\dLt (n+1) S'/\((∃d ts,S'=.ok d ts)->LU b X S' ⟨r0.length,r1.length,r2.length,r3.length,r4.length,r5.length⟩)/\(∀e,S'=.bad e->X=.bad e),
    fun _ σ=>match σ with | ⟨.cells _ [_,.d (.int _ i),_,_,.d (.int _ w),_]::_,_,_⟩=>if w=0 then ((L.length:Int) - i).toNat+1 else 0 | _=>0⟩)],Wv [],Ys [],Ys [],Ys [80],Ys [],1,false,sM,Ta rfl,?_⟩
   conv=>whnf
   refine ⟨⟨[],[],[],[],[],[],a,dp,w,pl,S,rfl,rfl,ho,dc,fun _=>me,fun e he=>by subst he;exact me⟩,?_⟩
   clear me ho dc
   intro vs σ hI
   obtain ⟨r0,r1,r2,r3,r4,r5,a3,dp3,w3,pl3,S3,rfl,rfl,ai,od,me,dk⟩:=hI;(conv=>whnf);refine ZBC (fun hw=>?_) (fun hw=>?_)
   ·obtain ⟨d3,ts3,rfl,bm,oa,my⟩:=ai.wz hw;have me:=me ⟨_,_,rfl⟩;have fe:=bm.len;have pt:=bm.lo;have pu:=bm.hi;have hcn:=me.cn;(conv=>whnf);refine ZBC (fun hc=>?_) (fun hc=>?_)
    ·have hc:a3<L.length:=by have hc:a3<((Zy L).length:Int):=hc;rw [ZG] at hc;exact hc
     have an:ts3≠[]:=by rintro rfl;simp only [Tf] at fe;omega
     have aaf:∀S4,Vs d3 ts3 ⟨r0.length,r1.length,r2.length,r3.length,r4.length,r5.length⟩=S4->∀a4 dp4 w4:Int,SOK L a4 dp4 w4 S4->(if w4=0 then ((L.length:Int) - a4).toNat+1 else 0)<(if w3=0 then ((L.length:Int) - a3).toNat+1 else 0):=fun S4 ef a4 dp4 w4 av=>by
      rw [Tg hw];split
      ·rename_i h0
       obtain ⟨d4,ts4,rfl,l4,_,_⟩:=av.wz h0;have:=Zmi an ef;have:=l4.len;omega
      omega
     cases b with
     | false =>
      have hst:=me.step (by rintro (g | g);exact an g;exact absurd g.1 sM);(conv=>whnf);refine ⟨⟨⟨rfl,rfl,rfl⟩,rfl,rfl,rfl⟩,L,d3,ts3,rfl,ai,an,od _ _ rfl,hcn,fun S4 ef q0 q1 q2 q3 q4 q5 hq=>?_⟩;exact m78
     | true =>
     conv=>whnf
     refine ⟨L,_,rfl,ai,0,rfl,oM,fun b1 aj=>?_⟩;have aj:isW ts3 [[125]]=b1:=aj;intro a5 dp5 w5 pl5 cy
     cases b1 with
     | true =>
      have hX:=me.stop (.inr ⟨rfl,aj⟩);subst hX;(conv=>whnf);exact h _ _ _ _ _ _ _ _ _ _ cy
     | false =>
     have hst:=me.step (by rintro (g | g);exact an g;rw [aj] at g;exact absurd g.2 sM);have hw5:w5=0:=cy.1;have afr:=cy.2.1.len;(conv=>whnf);refine ⟨⟨⟨rfl,rfl,rfl⟩,rfl,rfl,rfl⟩,L,d3,ts3,rfl,cy,an,od _ _ rfl,hcn,fun S4 ef q0 q1 q2 q3 q4 q5 hq=>?_⟩;exact m78
    have hc:¬a3<L.length:=by have hc:¬a3<((Zy L).length:Int):=hc;rw [ZG] at hc;exact hc
    have hn:ts3=[]:=TB oM;have hX:=me.stop (.inl hn);subst hX;exact m190
   obtain ⟨e,rfl,ki,lc⟩:=ai.w1 hw;have hX:=dk e rfl;subst hX;exact m190
  exact h.elim
 exact h.elim
theorem Zmj:PC w0 nG 34 (Je 0):=by
 refine Zd Zb mixed (tbl:=[]) trivial Tryz.func34 rfl kR kR ?_;intro args σ K h
 unfold Je qSp at h
 split at h
 ·rename_i rest t rows a en dp w pl
  obtain ⟨L,S,rfl,ho,h⟩:=h;split at h
  ·obtain ⟨dc,h⟩:=h
   replace h:=h _ rfl
   cases S with
   | ok d ts=>have:=dc _ _ rfl;omega
   | bad e =>
   refine ⟨Za [(2,⟨[],[0,1,4,5],fun vs σ=>vs=[] /\
    σ=⟨[Ue t L a en dp w pl,.cells 29 [.sl 0 67 [],.sl 1 72 [],.sl 2 84 [],.sl 3 45 [],.sl 4 41 [],.sl 5 43 []],
     .cells 29 [.sl 6 67 [],.sl 7 72 [],.sl 8 84 [],.sl 9 45 [],.sl 10 41 [],.sl 11 43 []]],[11,10,9,8,7,6,5,4,3,2,1,0],12⟩,fun _ _=>0⟩)],1,false,sM,Ta rfl,?_⟩
   have hw:¬w=0:=by have:=ho.1;have:=ho.2.1;omega
   conv=>whnf
   refine ⟨⟨rfl,rfl⟩,?_⟩;intro vs σ hI
   obtain ⟨rfl,rfl⟩:=hI;(conv=>whnf);refine ZBC (fun g=>absurd g hw) (fun _=>wN ?_);exact h _ _ _ _ _ _ _ _ _ _ ho
  exact h.elim
 exact h.elim
theorem Ztm:∀n,PC w0 nG 34 (Je n)
 | 0=>Zmj
 | n+1=>Zsk (Zsi (Zsf (Ztm n)))
noncomputable def Zp0:Zt:=fun args σ K=>match args,σ with
 | [.d (.str s)],⟨[],[],0⟩=>s.length<4294967281/\∀e:Nat,VS (Yv 65536 16384 WK s)=e->∀r0 r1 r2 r3 r4 r5 q,K (.ret (.tuple [.agg [.d (.sl r0),.d (.sl r1),.d (.sl r2),.d (.sl r3),.d (.sl r4),.d (.sl r5)],.d (.int .i64 q),.d (.int .i64 e)])) ⟨[],[],0⟩
 | _,_=>False
noncomputable def Zwb:Tbl:=[(33,Zgm),(34,Je 65),(35,Zjf)]
theorem Zz7:PC w0 nG 12 Zp0:=by
 refine Zd Zb mixed (tbl:=Zwb) ⟨ZpO,Ztm 65,ZrX,trivial⟩ Tryz.func12 rfl kR kR ?_;intro args σ K h
 unfold Zp0 at h
 split at h
 ·rename_i s
  obtain ⟨hs,h⟩:=h
  replace h:=h _ rfl
  refine ⟨Za [],0,false,sM,Ta rfl,wN ?_⟩;refine ⟨hs,rfl,rfl,fun hl=>wN ?_,fun hl l q c hc hq=>?_⟩
  ·have he:VS (Yv 65536 16384 WK s)=3:=by unfold Yv;rw [Tg hl];rfl
   rw [he] at h;exact h _ _ _ _ _ _ _
  have ak:=ZiX s ((16384:Nat):Int);have bh:∀y∈(Uh s ((16384:Nat):Int)).1,1<=y.kind/\y.kind<=4:=ZkV _ _ _ _;have yj:∀y∈(Uh s ((16384:Nat):Int)).1,y.kind=1->y.text≠[40]:=ZpK _ _ _ _;have tr:∀y∈(Uh s ((16384:Nat):Int)).1,y.kind=4->y.text.length<=2:=ZpL _ _ _ _
  cases c with
  | succ c =>
   have he:VS (Yv 65536 16384 WK s)=c+1:=by unfold Yv;rw [Tc hl,hc,Tg sM];rfl
   rw [he] at h;(conv=>whnf);exact h _ _ _ _ _ _ _
  | zero =>
  have he:VS (Yv 65536 16384 WK s)=_:=Zv6 (P:=fun d=>Zem false d) hl hc;rw [he] at h;obtain rfl:=hq rfl;have ho:SOK (Uh s ((16384:Nat):Int)).1 0 0 0 (.ok 64 ((Uh s ((16384:Nat):Int)).1.map Tok.t0)):=SOK.mk ⟨⟨oM,oM,TW ak dM,by simp [tz]⟩,bh,yj,tr⟩ oM oM
  clear he hc ak bh yj tr
  generalize (Uh s ((16384:Nat):Int)).1=l at h ho;(conv=>whnf);refine ⟨l,_,rfl,ho,⟨fun d' ts' hq=>(by cases hq;omega),fun S1 cx r0 r1 r2 r3 r4 r5=>?_⟩⟩;rw [cx] at h;intro a1 dp1 w1 pl1 af
  conv=>whnf
  refine ⟨l,_,rfl,af,fun e he p=>?_⟩;rw [he] at h;intro a2 dp2 w2 pl2 ac
  conv=>whnf
  refine ZBE (fun h0=>wN ?_) (fun h0=>?_)
  ·exact h _ _ _ _ _ _ _
  have h0:e=0:=by have h0:(e:Int)=0:=h0;omega
  subst h0;(conv=>whnf);exact h _ _ _ _ _ _ _
 exact h.elim
def Zsl (x:Li):Bool:=ZY x && Zh2 x
theorem Zwc {op:Nat} {rel:Bs} {args:List Ex} {body:List Li} {a:Nat} (h:Zsl (.mk op rel args body a)=true):ZX op rel args.length body.length=true/\(∀x∈args,Zh6 x=true)/\∀x∈body,Zsl x=true:=by
 simp only [Zsl,Tk] at h;obtain ⟨h1,h2⟩:=h;obtain ⟨m1,m2,m3⟩:=Zny h1;obtain ⟨r1,r2⟩:=ZiK h2;exact ⟨m1,fun x hx=>by rw [Zh6,m2 x hx,r1 x hx];rfl,fun x hx=>by rw [Zsl,m3 x hx,r2 x hx];rfl⟩
noncomputable def Zyh (n:Nat):Zt:=Zh5 (.tuple []) fun rest txt=>∃pl x,rest=[Xh XI pl x]/\(Zsl x=true/\wL x<=n/\n<=1073741824)/\txt=liT x
noncomputable def Zmk (n:Nat):Zt:=fun args σ K=>match args,σ with
 | [.ptr 0 0,.d (.sl r),.d (.str bt),.func g [.ptr 0 0] []],⟨[.cells t [p,.sl 0 e rows]],[0],1⟩=>∃l pl xs,rows=Zj l/\r=xs.map (XI pl)/\(p=.ptr 0 0/\t=60/\e=5/\g=109)/\(xs.all Zsl=true/\szS wL xs<=n/\n<=1073741824)/\l.length+(Zh bt (xs.map liT)).length<70368744177664 /\
   K (.ret (.tuple [])) ⟨[.cells t [.ptr 0 0,.sl 0 e (Zj (l++Zh bt (xs.map liT)))]],[0],1⟩
 | _,_=>False
noncomputable def Ztn (n:Nat):Tbl:=[(104,Zf6),(109,Zyh n)]
theorem Zyi {n:Nat} (ht:TO w0 nG (Ztn n)):PC w0 nG 108 (Zmk n):=by
 refine Zd Zb mixed (tbl:=Ztn n) ht Tryz.func108 rfl kR kR ?_;intro args σ K h
 unfold Zmk at h
 split at h
 ·rename_i r bt g t p e rows
  obtain ⟨l,pl,xs,rfl,rfl,⟨rfl,rfl,rfl,rfl⟩,⟨dy,hz,hn⟩,ab,h⟩:=h;have dx:(xs.map (XI pl)).length=xs.length:=Te ..;have hsz:=Zp wL xs;refine ⟨Za [(1,⟨[12],[0,1,2,3,10,11],fun vs σ=>∃i:Nat,vs=[.d (.int .i64 i)]/\σ=⟨[.cells 60 [.ptr 0 0,.sl 0 5 (Zj (l++Zh bt ((xs.take i).map liT)))]],[0],1⟩/\i<=xs.length,mu1 xs.length⟩)],1,true,sM,Ta rfl,wN ?_⟩;refine ⟨⟨0,rfl,(by simp only [T2,TQ,Zh,TT];rfl),oM⟩,?_⟩;intro vs σ hI
  obtain ⟨i,rfl,rfl,hi⟩:=hI;(conv=>whnf);refine ZBC (fun aa=>wN ?_) (fun aa=>?_)
  ·have aa:i<xs.length:=lzI dx aa;have hg:=Zs wL xs i aa;have fq:Zsl xs[i]=true:=Tm.1 dy _ (TD aa);have ao:=Xo bt liT aa;have ak:=WE bt liT xs (i+1);obtain ⟨eA,hA⟩:∃x,xs[i]=x:=⟨_,rfl⟩
   obtain ⟨a1,a2,a3,a4,a5⟩:=eA;rw [hA] at hg fq ao;have ae:(xs.map (XI pl))[((i:Nat):Int).toNat]?=some (XI pl (.mk a1 a2 a3 a4 a5)):=by simp [aa,hA]
   refine ⟨_,oM,ae,wN ?_⟩;refine ZBC (fun h0=>wN ?_) (fun h0=>?_)
   ·have h0:0<i:=by omega
    rw [Tc oM] at ao;rw [ao] at ak;simp only [Tb] at ak;refine wk _ bt ⟨rfl,rfl⟩ (wN ?_);refine wk _ (liT (.mk a1 a2 a3 a4 a5)) ⟨pl,(.mk a1 a2 a3 a4 a5),rfl,⟨fq,oM,oM⟩,rfl⟩ (wN ?_);exact m77
   obtain rfl:i=0:=by omega
   rw [Tg rfl] at ao;rw [ao] at ak;(conv=>whnf);refine ⟨l++Zh bt ((xs.take 0).map liT),liT (.mk a1 a2 a3 a4 a5),rfl,⟨.inr rfl,rfl,rfl⟩,⟨pl,(.mk a1 a2 a3 a4 a5),rfl,⟨fq,oM,oM⟩,rfl⟩,by simp only [T2,TQ,Zh,Tb,Tf];omega,wN ?_⟩;exact m70
  exact m225
 exact h.elim
noncomputable def Zyj (n:Nat):Tbl:=[(52,Zen),(66,Zrr n),(22,Zqn n),(108,spB Zmk n)]
theorem Zyk {n:Nat} (ht:TO w0 nG (Zyj n)):PC w0 nG 109 (Zyh n):=by
 refine Vb Zb mixed (tbl:=Zyj n) ht Tryz.func109 rfl kR kR ?_;intro args σ K h
 unfold Zyh Zh5 at h
 split at h
 ·rename_i rest t p e rows
  obtain ⟨l,txt,rfl,⟨hp,rfl,rfl⟩,⟨pl,⟨op,rel,xs,body,at'⟩,rfl,⟨dy,hz,hn⟩,rfl⟩,ab,h⟩:=h;obtain ⟨m1,m2,m3⟩:=Zwc dy;have rt:szS wE xs+szS wL body+rel.length+1<=n:=by rw [wL,WS] at hz;omega
  refine ⟨Za [],Wv [(13,2)],Ys [],1,true,sM,Ta rfl,?_⟩;have wh:((op=1\/op=2)/\YL rel=true/\body.length=0)\/(3<=op/\op<=8/\rel=[]/\xs.length=2/\body.length=0)\/(op=9/\rel=[]/\xs.length=1/\0<body.length)\/(9<op/\op<=12/\rel=[]/\xs.length=2/\0<body.length):=Znz m1;rcases wh with ⟨im,yj,hb⟩ | ⟨c1,c2,rfl,dt,hb⟩ | ⟨rfl,rfl,fd,hb⟩ | ⟨c1,c2,rfl,dt,hb⟩
  ·rcases im with rfl | rfl
   ·rcases hp with rfl | rfl
    all_goals
     have hx:liT (.mk 1 rel xs body at')=rel++WG [40] [41] xs:=by rw [liT];rfl
     rw [hx] at h ab
     (try simp only [Tb,Td,Tf] at ab)
     conv=>whnf
     refine wk _ rel ⟨[rel],rfl,sM,sM,sM⟩ ?_;(conv=>whnf);refine wk _ (WG [40] [41] xs) ⟨[40],[41],pl,xs,rfl,⟨Tm.2 m2,oM,oM⟩,rfl⟩ ?_;rw [show l++(rel++WG [40] [41] xs)=l++rel++WG [40] [41] xs by simp only [Th]] at h;(conv=>whnf);exact h
   rcases hp with rfl | rfl
   all_goals
    have hx:liT (.mk 2 rel xs body at')=[33]++(rel++WG [40] [41] xs):=by rw [liT];rfl
    rw [hx] at h ab
    (try simp only [Tb,Td,Tf] at ab)
    conv=>whnf
    refine wk _ [33] ⟨[[33]],rfl,sM,sM,sM⟩ ?_;(conv=>whnf);refine wk _ rel ⟨[rel],rfl,sM,sM,sM⟩ ?_;(conv=>whnf);refine wk _ (WG [40] [41] xs) ⟨[40],[41],pl,xs,rfl,⟨Tm.2 m2,oM,oM⟩,rfl⟩ ?_;rw [show l++([33]++(rel++WG [40] [41] xs))=l++[33]++rel++WG [40] [41] xs by simp only [Th]] at h;(conv=>whnf);exact h
  ·obtain ⟨x0,x1,rfl⟩:=Zhp dt;simp only [szS] at rt;have g0:=m2 x0 sM;have g1:=m2 x1 sM;have z0:wE x0<=n:=oM;have z1:wE x1<=n:=oM;obtain ⟨o0,t0,n0,y0,q0⟩:=x0;obtain ⟨o1,t1,n1,y1,q1⟩:=x1;obtain rfl | rfl | rfl | rfl | rfl | rfl:op=3\/op=4\/op=5\/op=6\/op=7\/op=8:=oM
   ·rcases hp with rfl | rfl
    all_goals
     have hx:liT (.mk 3 [] [(.mk o0 t0 n0 y0 q0),(.mk o1 t1 n1 y1 q1)] body at')=exW 0 (.mk o0 t0 n0 y0 q0)++([32,61,32]++exW 0 (.mk o1 t1 n1 y1 q1)):=by rw [liT,Vr,Vr];rfl
     rw [hx] at h ab
     (try simp only [Tb,Td,Tf] at ab)
     conv=>whnf
     refine ⟨_,dM,rfl,wN ?_⟩;refine wk _ (exW 0 (.mk o0 t0 n0 y0 q0)) ⟨pl,(.mk o0 t0 n0 y0 q0),0,rfl,⟨g0,oM,oM,oM,oM⟩,rfl⟩ ?_;(conv=>whnf);refine Or.inl ⟨InR.u8 dM dM,wN ?_⟩;refine ⟨dM,dM,wN ?_⟩;refine wk _ [32,61,32] ⟨[[32,61,32]],rfl,sM,sM,sM⟩ ?_;(conv=>whnf);refine ⟨_,dM,rfl,wN ?_⟩;refine wk _ (exW 0 (.mk o1 t1 n1 y1 q1)) ⟨pl,(.mk o1 t1 n1 y1 q1),0,rfl,⟨g1,oM,oM,oM,oM⟩,rfl⟩ ?_;rw [show l++(exW 0 (.mk o0 t0 n0 y0 q0)++([32,61,32]++exW 0 (.mk o1 t1 n1 y1 q1)))=l++exW 0 (.mk o0 t0 n0 y0 q0)++[32,61,32]++exW 0 (.mk o1 t1 n1 y1 q1) by simp only [Th]] at h;(conv=>whnf);exact h
   ·rcases hp with rfl | rfl
    all_goals
     have hx:liT (.mk 4 [] [(.mk o0 t0 n0 y0 q0),(.mk o1 t1 n1 y1 q1)] body at')=exW 0 (.mk o0 t0 n0 y0 q0)++([32,33,61,32]++exW 0 (.mk o1 t1 n1 y1 q1)):=by rw [liT,Vr,Vr];rfl
     rw [hx] at h ab
     (try simp only [Tb,Td,Tf] at ab)
     conv=>whnf
     refine ⟨_,dM,rfl,wN ?_⟩;refine wk _ (exW 0 (.mk o0 t0 n0 y0 q0)) ⟨pl,(.mk o0 t0 n0 y0 q0),0,rfl,⟨g0,oM,oM,oM,oM⟩,rfl⟩ ?_;(conv=>whnf);refine Or.inl ⟨InR.u8 dM dM,wN ?_⟩;refine ⟨dM,dM,wN ?_⟩;refine wk _ [32,33,61,32] ⟨[[32,33,61,32]],rfl,sM,sM,sM⟩ ?_;(conv=>whnf);refine ⟨_,dM,rfl,wN ?_⟩;refine wk _ (exW 0 (.mk o1 t1 n1 y1 q1)) ⟨pl,(.mk o1 t1 n1 y1 q1),0,rfl,⟨g1,oM,oM,oM,oM⟩,rfl⟩ ?_;rw [show l++(exW 0 (.mk o0 t0 n0 y0 q0)++([32,33,61,32]++exW 0 (.mk o1 t1 n1 y1 q1)))=l++exW 0 (.mk o0 t0 n0 y0 q0)++[32,33,61,32]++exW 0 (.mk o1 t1 n1 y1 q1) by simp only [Th]] at h;(conv=>whnf);exact h
   ·rcases hp with rfl | rfl
    all_goals
     have hx:liT (.mk 5 [] [(.mk o0 t0 n0 y0 q0),(.mk o1 t1 n1 y1 q1)] body at')=exW 0 (.mk o0 t0 n0 y0 q0)++([32,60,32]++exW 0 (.mk o1 t1 n1 y1 q1)):=by rw [liT,Vr,Vr];rfl
     rw [hx] at h ab
     (try simp only [Tb,Td,Tf] at ab)
     conv=>whnf
     refine ⟨_,dM,rfl,wN ?_⟩;refine wk _ (exW 0 (.mk o0 t0 n0 y0 q0)) ⟨pl,(.mk o0 t0 n0 y0 q0),0,rfl,⟨g0,oM,oM,oM,oM⟩,rfl⟩ ?_;(conv=>whnf);refine Or.inl ⟨InR.u8 dM dM,wN ?_⟩;refine ⟨dM,dM,wN ?_⟩;refine wk _ [32,60,32] ⟨[[32,60,32]],rfl,sM,sM,sM⟩ ?_;(conv=>whnf);refine ⟨_,dM,rfl,wN ?_⟩;refine wk _ (exW 0 (.mk o1 t1 n1 y1 q1)) ⟨pl,(.mk o1 t1 n1 y1 q1),0,rfl,⟨g1,oM,oM,oM,oM⟩,rfl⟩ ?_;rw [show l++(exW 0 (.mk o0 t0 n0 y0 q0)++([32,60,32]++exW 0 (.mk o1 t1 n1 y1 q1)))=l++exW 0 (.mk o0 t0 n0 y0 q0)++[32,60,32]++exW 0 (.mk o1 t1 n1 y1 q1) by simp only [Th]] at h;(conv=>whnf);exact h
   ·rcases hp with rfl | rfl
    all_goals
     have hx:liT (.mk 6 [] [(.mk o0 t0 n0 y0 q0),(.mk o1 t1 n1 y1 q1)] body at')=exW 0 (.mk o0 t0 n0 y0 q0)++([32,60,61,32]++exW 0 (.mk o1 t1 n1 y1 q1)):=by rw [liT,Vr,Vr];rfl
     rw [hx] at h ab
     (try simp only [Tb,Td,Tf] at ab)
     conv=>whnf
     refine ⟨_,dM,rfl,wN ?_⟩;refine wk _ (exW 0 (.mk o0 t0 n0 y0 q0)) ⟨pl,(.mk o0 t0 n0 y0 q0),0,rfl,⟨g0,oM,oM,oM,oM⟩,rfl⟩ ?_;(conv=>whnf);refine Or.inl ⟨InR.u8 dM dM,wN ?_⟩;refine ⟨dM,dM,wN ?_⟩;refine wk _ [32,60,61,32] ⟨[[32,60,61,32]],rfl,sM,sM,sM⟩ ?_;(conv=>whnf);refine ⟨_,dM,rfl,wN ?_⟩;refine wk _ (exW 0 (.mk o1 t1 n1 y1 q1)) ⟨pl,(.mk o1 t1 n1 y1 q1),0,rfl,⟨g1,oM,oM,oM,oM⟩,rfl⟩ ?_;rw [show l++(exW 0 (.mk o0 t0 n0 y0 q0)++([32,60,61,32]++exW 0 (.mk o1 t1 n1 y1 q1)))=l++exW 0 (.mk o0 t0 n0 y0 q0)++[32,60,61,32]++exW 0 (.mk o1 t1 n1 y1 q1) by simp only [Th]] at h;(conv=>whnf);exact h
   ·rcases hp with rfl | rfl
    all_goals
     have hx:liT (.mk 7 [] [(.mk o0 t0 n0 y0 q0),(.mk o1 t1 n1 y1 q1)] body at')=exW 0 (.mk o0 t0 n0 y0 q0)++([32,62,32]++exW 0 (.mk o1 t1 n1 y1 q1)):=by rw [liT,Vr,Vr];rfl
     rw [hx] at h ab
     (try simp only [Tb,Td,Tf] at ab)
     conv=>whnf
     refine ⟨_,dM,rfl,wN ?_⟩;refine wk _ (exW 0 (.mk o0 t0 n0 y0 q0)) ⟨pl,(.mk o0 t0 n0 y0 q0),0,rfl,⟨g0,oM,oM,oM,oM⟩,rfl⟩ ?_;(conv=>whnf);refine Or.inl ⟨InR.u8 dM dM,wN ?_⟩;refine ⟨dM,dM,wN ?_⟩;refine wk _ [32,62,32] ⟨[[32,62,32]],rfl,sM,sM,sM⟩ ?_;(conv=>whnf);refine ⟨_,dM,rfl,wN ?_⟩;refine wk _ (exW 0 (.mk o1 t1 n1 y1 q1)) ⟨pl,(.mk o1 t1 n1 y1 q1),0,rfl,⟨g1,oM,oM,oM,oM⟩,rfl⟩ ?_;rw [show l++(exW 0 (.mk o0 t0 n0 y0 q0)++([32,62,32]++exW 0 (.mk o1 t1 n1 y1 q1)))=l++exW 0 (.mk o0 t0 n0 y0 q0)++[32,62,32]++exW 0 (.mk o1 t1 n1 y1 q1) by simp only [Th]] at h;(conv=>whnf);exact h
   rcases hp with rfl | rfl
   all_goals
    have hx:liT (.mk 8 [] [(.mk o0 t0 n0 y0 q0),(.mk o1 t1 n1 y1 q1)] body at')=exW 0 (.mk o0 t0 n0 y0 q0)++([32,62,61,32]++exW 0 (.mk o1 t1 n1 y1 q1)):=by rw [liT,Vr,Vr];rfl
    rw [hx] at h ab
    (try simp only [Tb,Td,Tf] at ab)
    conv=>whnf
    refine ⟨_,dM,rfl,wN ?_⟩;refine wk _ (exW 0 (.mk o0 t0 n0 y0 q0)) ⟨pl,(.mk o0 t0 n0 y0 q0),0,rfl,⟨g0,oM,oM,oM,oM⟩,rfl⟩ ?_;(conv=>whnf);refine Or.inl ⟨InR.u8 dM dM,wN ?_⟩;refine ⟨dM,dM,wN ?_⟩;refine wk _ [32,62,61,32] ⟨[[32,62,61,32]],rfl,sM,sM,sM⟩ ?_;(conv=>whnf);refine ⟨_,dM,rfl,wN ?_⟩;refine wk _ (exW 0 (.mk o1 t1 n1 y1 q1)) ⟨pl,(.mk o1 t1 n1 y1 q1),0,rfl,⟨g1,oM,oM,oM,oM⟩,rfl⟩ ?_;rw [show l++(exW 0 (.mk o0 t0 n0 y0 q0)++([32,62,61,32]++exW 0 (.mk o1 t1 n1 y1 q1)))=l++exW 0 (.mk o0 t0 n0 y0 q0)++[32,62,61,32]++exW 0 (.mk o1 t1 n1 y1 q1) by simp only [Th]] at h;(conv=>whnf);exact h
  ·obtain ⟨x0,rfl⟩:=ZjO fd;simp only [szS] at rt;have g0:=m2 x0 sM;have z0:wE x0<=n:=oM;obtain ⟨o0,t0,n0,y0,q0⟩:=x0;rcases hp with rfl | rfl
   all_goals
    have hx:liT (.mk 9 [] [(.mk o0 t0 n0 y0 q0)] body at')=exW 0 (.mk o0 t0 n0 y0 q0)++(([32,61,32]++[99,111,117,110,116])++([32,58,32,123,32]++(Zh cmm (body.map liT)++([32,125])))):=by rw [liT,U3,Vr];simp [Zhn,Znv,Zhm]
    rw [hx] at h ab
    (try simp only [Tb,Td,Tf] at ab)
    conv=>whnf
    refine ⟨_,dM,rfl,wN ?_⟩;refine wk _ (exW 0 (.mk o0 t0 n0 y0 q0)) ⟨pl,(.mk o0 t0 n0 y0 q0),0,rfl,⟨g0,oM,oM,oM,oM⟩,rfl⟩ ?_;(conv=>whnf);refine Or.inl ⟨InR.u8 dM dM,wN ?_⟩;refine ⟨dM,dM,wN ?_⟩;refine wk _ ([32,61,32]++[99,111,117,110,116]) ⟨[[32,61,32],[99,111,117,110,116]],rfl,sM,sM,sM⟩ ?_;(conv=>whnf);refine ⟨fun r hr=>?_,dM,by rw [Ze];simp,wN ?_⟩
    ·rw [Ze] at hr;simp only [TN,TQ,Tv,Sq,or_false] at hr;rcases hr with rfl;rfl
    refine wk _ [32,58,32,123,32] ⟨[[32,58,32,123,32]],rfl,sM,sM,sM⟩ ?_;(conv=>whnf);refine ⟨oM,l++exW 0 (.mk o0 t0 n0 y0 q0)++([32,61,32]++[99,111,117,110,116])++[32,58,32,123,32],pl,body,rfl,Zr pl body,⟨rfl,rfl,rfl,rfl⟩,⟨Tm.2 m3,oM,oM⟩,(by (try simp only [Tb,Td,Tf]);show _+(Zh cmm (body.map liT)).length<_;omega),?_⟩;(conv=>whnf);refine wk (l++exW 0 (.mk o0 t0 n0 y0 q0)++([32,61,32]++[99,111,117,110,116])++[32,58,32,123,32]++Zh cmm (body.map liT)) [32,125] ⟨[[32,125]],rfl,sM,sM,sM⟩ ?_;rw [show l++(exW 0 (.mk o0 t0 n0 y0 q0)++(([32,61,32]++[99,111,117,110,116])++([32,58,32,123,32]++(Zh cmm (body.map liT)++([32,125])))))=l++exW 0 (.mk o0 t0 n0 y0 q0)++([32,61,32]++[99,111,117,110,116])++[32,58,32,123,32]++Zh cmm (body.map liT)++[32,125] by simp only [Th]] at h;(conv=>whnf);exact h
  obtain ⟨x0,x1,rfl⟩:=Zhp dt;simp only [szS] at rt;have g0:=m2 x0 sM;have g1:=m2 x1 sM;have z0:wE x0<=n:=oM;have z1:wE x1<=n:=oM;obtain ⟨o0,t0,n0,y0,q0⟩:=x0;obtain ⟨o1,t1,n1,y1,q1⟩:=x1;obtain rfl | rfl | rfl:op=10\/op=11\/op=12:=oM
  ·rcases hp with rfl | rfl
   all_goals
    have hx:liT (.mk 10 [] [(.mk o0 t0 n0 y0 q0),(.mk o1 t1 n1 y1 q1)] body at')=exW 0 (.mk o0 t0 n0 y0 q0)++(([32,61,32]++[115,117,109])++([32]++(exW 0 (.mk o1 t1 n1 y1 q1)++([32,58,32,123,32]++(Zh cmm (body.map liT)++([32,125])))))):=by rw [liT,U3,Vr,Vr];simp [Zhn,Znv,Zhm]
    rw [hx] at h ab
    (try simp only [Tb,Td,Tf] at ab)
    conv=>whnf
    refine ⟨_,dM,rfl,wN ?_⟩;refine wk _ (exW 0 (.mk o0 t0 n0 y0 q0)) ⟨pl,(.mk o0 t0 n0 y0 q0),0,rfl,⟨g0,oM,oM,oM,oM⟩,rfl⟩ ?_;(conv=>whnf);refine Or.inl ⟨InR.u8 dM dM,wN ?_⟩;refine ⟨dM,dM,wN ?_⟩;refine wk _ ([32,61,32]++[115,117,109]) ⟨[[32,61,32],[115,117,109]],rfl,sM,sM,sM⟩ ?_;(conv=>whnf);refine ⟨fun r hr=>?_,dM,by rw [Ze];simp,wN ?_⟩
    ·exact m132
    refine ⟨_,dM,rfl,wN ?_⟩;refine wk _ [32] ⟨[[32]],rfl,sM,sM,sM⟩ ?_;(conv=>whnf);refine wk _ (exW 0 (.mk o1 t1 n1 y1 q1)) ⟨pl,(.mk o1 t1 n1 y1 q1),0,rfl,⟨g1,oM,oM,oM,oM⟩,rfl⟩ ?_;(conv=>whnf);refine Or.inl ⟨InR.i64 dM dM,wN ?_⟩;refine wk _ [32,58,32,123,32] ⟨[[32,58,32,123,32]],rfl,sM,sM,sM⟩ ?_;(conv=>whnf);refine ⟨oM,l++exW 0 (.mk o0 t0 n0 y0 q0)++([32,61,32]++[115,117,109])++[32]++exW 0 (.mk o1 t1 n1 y1 q1)++[32,58,32,123,32],pl,body,rfl,Zr pl body,⟨rfl,rfl,rfl,rfl⟩,⟨Tm.2 m3,oM,oM⟩,(by (try simp only [Tb,Td,Tf]);show _+(Zh cmm (body.map liT)).length<_;omega),?_⟩;(conv=>whnf);refine wk (l++exW 0 (.mk o0 t0 n0 y0 q0)++([32,61,32]++[115,117,109])++[32]++exW 0 (.mk o1 t1 n1 y1 q1)++[32,58,32,123,32]++Zh cmm (body.map liT)) [32,125] ⟨[[32,125]],rfl,sM,sM,sM⟩ ?_;rw [show l++(exW 0 (.mk o0 t0 n0 y0 q0)++(([32,61,32]++[115,117,109])++([32]++(exW 0 (.mk o1 t1 n1 y1 q1)++([32,58,32,123,32]++(Zh cmm (body.map liT)++([32,125])))))))=l++exW 0 (.mk o0 t0 n0 y0 q0)++([32,61,32]++[115,117,109])++[32]++exW 0 (.mk o1 t1 n1 y1 q1)++[32,58,32,123,32]++Zh cmm (body.map liT)++[32,125] by simp only [Th]] at h;(conv=>whnf);exact h
  ·rcases hp with rfl | rfl
   all_goals
    have hx:liT (.mk 11 [] [(.mk o0 t0 n0 y0 q0),(.mk o1 t1 n1 y1 q1)] body at')=exW 0 (.mk o0 t0 n0 y0 q0)++(([32,61,32]++[109,105,110])++([32]++(exW 0 (.mk o1 t1 n1 y1 q1)++([32,58,32,123,32]++(Zh cmm (body.map liT)++([32,125])))))):=by rw [liT,U3,Vr,Vr];simp [Zhn,Znv,Zhm]
    rw [hx] at h ab
    (try simp only [Tb,Td,Tf] at ab)
    conv=>whnf
    refine ⟨_,dM,rfl,wN ?_⟩;refine wk _ (exW 0 (.mk o0 t0 n0 y0 q0)) ⟨pl,(.mk o0 t0 n0 y0 q0),0,rfl,⟨g0,oM,oM,oM,oM⟩,rfl⟩ ?_;(conv=>whnf);refine Or.inl ⟨InR.u8 dM dM,wN ?_⟩;refine ⟨dM,dM,wN ?_⟩;refine wk _ ([32,61,32]++[109,105,110]) ⟨[[32,61,32],[109,105,110]],rfl,sM,sM,sM⟩ ?_;(conv=>whnf);refine ⟨fun r hr=>?_,dM,by rw [Ze];simp,wN ?_⟩
    ·exact m132
    refine ⟨_,dM,rfl,wN ?_⟩;refine wk _ [32] ⟨[[32]],rfl,sM,sM,sM⟩ ?_;(conv=>whnf);refine wk _ (exW 0 (.mk o1 t1 n1 y1 q1)) ⟨pl,(.mk o1 t1 n1 y1 q1),0,rfl,⟨g1,oM,oM,oM,oM⟩,rfl⟩ ?_;(conv=>whnf);refine Or.inl ⟨InR.i64 dM dM,wN ?_⟩;refine wk _ [32,58,32,123,32] ⟨[[32,58,32,123,32]],rfl,sM,sM,sM⟩ ?_;(conv=>whnf);refine ⟨oM,l++exW 0 (.mk o0 t0 n0 y0 q0)++([32,61,32]++[109,105,110])++[32]++exW 0 (.mk o1 t1 n1 y1 q1)++[32,58,32,123,32],pl,body,rfl,Zr pl body,⟨rfl,rfl,rfl,rfl⟩,⟨Tm.2 m3,oM,oM⟩,(by (try simp only [Tb,Td,Tf]);show _+(Zh cmm (body.map liT)).length<_;omega),?_⟩;(conv=>whnf);refine wk (l++exW 0 (.mk o0 t0 n0 y0 q0)++([32,61,32]++[109,105,110])++[32]++exW 0 (.mk o1 t1 n1 y1 q1)++[32,58,32,123,32]++Zh cmm (body.map liT)) [32,125] ⟨[[32,125]],rfl,sM,sM,sM⟩ ?_;rw [show l++(exW 0 (.mk o0 t0 n0 y0 q0)++(([32,61,32]++[109,105,110])++([32]++(exW 0 (.mk o1 t1 n1 y1 q1)++([32,58,32,123,32]++(Zh cmm (body.map liT)++([32,125])))))))=l++exW 0 (.mk o0 t0 n0 y0 q0)++([32,61,32]++[109,105,110])++[32]++exW 0 (.mk o1 t1 n1 y1 q1)++[32,58,32,123,32]++Zh cmm (body.map liT)++[32,125] by simp only [Th]] at h;(conv=>whnf);exact h
  rcases hp with rfl | rfl
  all_goals
   have hx:liT (.mk 12 [] [(.mk o0 t0 n0 y0 q0),(.mk o1 t1 n1 y1 q1)] body at')=exW 0 (.mk o0 t0 n0 y0 q0)++(([32,61,32]++[109,97,120])++([32]++(exW 0 (.mk o1 t1 n1 y1 q1)++([32,58,32,123,32]++(Zh cmm (body.map liT)++([32,125])))))):=by rw [liT,U3,Vr,Vr];simp [Zhn,Znv,Zhm]
   rw [hx] at h ab
   (try simp only [Tb,Td,Tf] at ab)
   conv=>whnf
   refine ⟨_,dM,rfl,wN ?_⟩;refine wk _ (exW 0 (.mk o0 t0 n0 y0 q0)) ⟨pl,(.mk o0 t0 n0 y0 q0),0,rfl,⟨g0,oM,oM,oM,oM⟩,rfl⟩ ?_;(conv=>whnf);refine Or.inl ⟨InR.u8 dM dM,wN ?_⟩;refine ⟨dM,dM,wN ?_⟩;refine wk _ ([32,61,32]++[109,97,120]) ⟨[[32,61,32],[109,97,120]],rfl,sM,sM,sM⟩ ?_;(conv=>whnf);refine ⟨fun r hr=>?_,dM,by rw [Ze];simp,wN ?_⟩
   ·exact m132
   refine ⟨_,dM,rfl,wN ?_⟩;refine wk _ [32] ⟨[[32]],rfl,sM,sM,sM⟩ ?_;(conv=>whnf);refine wk _ (exW 0 (.mk o1 t1 n1 y1 q1)) ⟨pl,(.mk o1 t1 n1 y1 q1),0,rfl,⟨g1,oM,oM,oM,oM⟩,rfl⟩ ?_;(conv=>whnf);refine Or.inl ⟨InR.i64 dM dM,wN ?_⟩;refine wk _ [32,58,32,123,32] ⟨[[32,58,32,123,32]],rfl,sM,sM,sM⟩ ?_;(conv=>whnf);refine ⟨oM,l++exW 0 (.mk o0 t0 n0 y0 q0)++([32,61,32]++[109,97,120])++[32]++exW 0 (.mk o1 t1 n1 y1 q1)++[32,58,32,123,32],pl,body,rfl,Zr pl body,⟨rfl,rfl,rfl,rfl⟩,⟨Tm.2 m3,oM,oM⟩,(by (try simp only [Tb,Td,Tf]);show _+(Zh cmm (body.map liT)).length<_;omega),?_⟩;(conv=>whnf);refine wk (l++exW 0 (.mk o0 t0 n0 y0 q0)++([32,61,32]++[109,97,120])++[32]++exW 0 (.mk o1 t1 n1 y1 q1)++[32,58,32,123,32]++Zh cmm (body.map liT)) [32,125] ⟨[[32,125]],rfl,sM,sM,sM⟩ ?_;rw [show l++(exW 0 (.mk o0 t0 n0 y0 q0)++(([32,61,32]++[109,97,120])++([32]++(exW 0 (.mk o1 t1 n1 y1 q1)++([32,58,32,123,32]++(Zh cmm (body.map liT)++([32,125])))))))=l++exW 0 (.mk o0 t0 n0 y0 q0)++([32,61,32]++[109,97,120])++[32]++exW 0 (.mk o1 t1 n1 y1 q1)++[32,58,32,123,32]++Zh cmm (body.map liT)++[32,125] by simp only [Th]] at h;(conv=>whnf);exact h
 exact h.elim
theorem cWA (hN:NumOK w0 nG) (hL:LexC w0 nG) (n:Nat):PC w0 nG 66 (Zrr n):=Zte (cWE hN hL n)
theorem Zp1 {n:Nat} (h:PC w0 nG 109 (Zyh n)):PC w0 nG 108 (Zmk n):=Zyi ⟨Zo3,h,trivial⟩
theorem cWL (hN:NumOK w0 nG) (hL:LexC w0 nG):∀n,PC w0 nG 109 (Zyh n)
 | 0=>Zyk ⟨JY,cWA hN hL 0,cWE hN hL 0,ZK (Zn Tryz.func108 kR rfl),trivial⟩
 | n+1=>Zyk ⟨JY,cWA hN hL (n+1),cWE hN hL (n+1),ZL (sp:=Zmk) (Zp1 (cWL hN hL n)),trivial⟩
def Zyl (r:Ru):Bool:=Y0 r && Zdx r
theorem Zwd {r:Ru} (h:Zyl r=true):(∀x∈r.args,Zh6 x=true)/\∀x∈r.body,Zsl x=true:=by
 simp only [Zyl,Y0,Zdx,Tk] at h;obtain ⟨⟨_,h1,h2⟩,h3,h4⟩:=h;rw [Tm] at h1 h2 h3 h4;exact ⟨fun x hx=>by rw [Zh6,h1 x hx,h3 x hx];rfl,fun x hx=>by rw [Zsl,h2 x hx,h4 x hx];rfl⟩
noncomputable def Zy6 (n:Nat):Zt:=Zh5 (.tuple []) fun rest txt=>∃pl x,rest=[Xh ZW pl x]/\(Zyl x=true/\wRu x<=n/\n<=1073741824)/\txt=ruT x
noncomputable def Zto (n:Nat):Tbl:=[(52,Zen),(66,Zrr n),(108,Zmk n)]
theorem Zz8 {n:Nat} (ht:TO w0 nG (Zto n)):PC w0 nG 57 (Zy6 n):=by
 refine Zd Zb mixed (tbl:=Zto n) ht Tryz.func57 rfl kR kR ?_;intro args σ K h
 unfold Zy6 Zh5 at h
 split at h
 ·rename_i rest t p e rows
  obtain ⟨l,txt,rfl,⟨hp,rfl,rfl⟩,⟨pl,⟨head,xs,body,at'⟩,rfl,⟨dy,hz,hn⟩,rfl⟩,ab,h⟩:=h;obtain ⟨m2,m3⟩:=Zwd dy;simp only at m2 m3;have rt:szS wE xs+szS wL body+head.length+1<=n:=by unfold wRu at hz;simp only at hz;omega
  have cu:(XQ pl body).length=body.length:=by rw [Zr,Te]
  refine ⟨Za [],1,true,sM,Ta rfl,?_⟩;have ov:l.length+head.length+(WG [40] [41] xs).length+10<70368744177664+10:=by
   have e:(ruT ⟨head,xs,body,at'⟩).length>=head.length+(WG [40] [41] xs).length:=by rw [ruT];simp only [Tb];omega
   omega
  rcases hp with rfl | rfl
  all_goals
   conv=>whnf
   refine wk _ head ⟨[head],rfl,sM,sM,sM⟩ ?_;(conv=>whnf);refine wk _ (WG [40] [41] xs) ⟨[40],[41],pl,xs,rfl,⟨Tm.2 m2,oM,oM⟩,rfl⟩ ?_;(conv=>whnf);refine ZBC (fun c=>wN ?_) (fun c=>wN ?_)
   ·have c:0<body.length:=by have c:((XQ pl body).length:Int)>0:=c;omega
    have hx:ruT ⟨head,xs,body,at'⟩=head++(WG [40] [41] xs++([32,58,45,32]++(Zh cmm (body.map liT)++[46]))):=by rw [ruT,Tg c,U3];simp
    rw [hx] at h ab;simp only [Tb,Td,Tf] at ab;refine wk _ [32,58,45,32] ⟨[[32,58,45,32]],rfl,sM,sM,sM⟩ ?_;(conv=>whnf);refine ⟨l++head++WG [40] [41] xs++[32,58,45,32],pl,body,rfl,Zr pl body,⟨rfl,rfl,rfl,rfl⟩,⟨Tm.2 m3,oM,oM⟩,(by (try simp only [Tb,Td,Tf]);show _+(Zh cmm (body.map liT)).length<_;omega),?_⟩;(conv=>whnf);refine wk (l++head++WG [40] [41] xs++[32,58,45,32]++Zh cmm (body.map liT)) [46] ⟨[[46]],rfl,sM,sM,sM⟩ ?_;simp only [<- Th] at h;exact m103
   have c:¬0<body.length:=by have c:¬((XQ pl body).length:Int)>0:=c;omega
   have hx:ruT ⟨head,xs,body,at'⟩=head++(WG [40] [41] xs++[46]):=by rw [ruT,Tc c,T3]
   rw [hx] at h ab;simp only [Tb,Td,Tf] at ab;refine wk _ [46] ⟨[[46]],rfl,sM,sM,sM⟩ ?_;simp only [<- Th] at h;exact m103
 exact h.elim
theorem cWR (hN:NumOK w0 nG) (hL:LexC w0 nG) (n:Nat):PC w0 nG 57 (Zy6 n):=Zz8 ⟨JY,cWA hN hL n,Zp1 (cWL hN hL n),trivial⟩
end Go.PM.Lex
end

section
namespace Go.PM.Lex
open Go.Proofs Go.RowKit
variable {w0:World} {nG:Nat}
noncomputable def Zym:Tbl:=[(52,Zen)]
theorem Zyn {n:Nat}:PC w0 nG 106 (Zf5 (Xh (fun _=>ZJ)) Yl fiT wFi n):=by
 refine Zd Zb mixed (tbl:=Zym) ⟨JY,trivial⟩ Tryz.func106 rfl kR kR ?_;intro args σ K h
 unfold Zf5 at h
 split at h
 ·obtain ⟨l,pl,⟨nm,ty⟩,rfl,rfl,⟨rfl,rfl⟩,⟨dy,hz,hn⟩,ab,h⟩:=h;refine ⟨Za [],2,true,sM,Ta rfl,wN ?_⟩;refine ⟨l,fiT ⟨nm,ty⟩,rfl,⟨.inr rfl,rfl,rfl⟩,⟨[nm,[58,32],ty],rfl,sM,sM,by simp [fiT]⟩,ab,wN ?_⟩;exact h
 exact h.elim
theorem ZBf (n:Nat):PC w0 nG 105 (Zo2 106 (fun _=>ZJ) Yl fiT wFi n):=Zvl ⟨Zo3,Zyn,trivial⟩
noncomputable def Zsm (n:Nat):Zt:=Zh5 (.tuple []) fun rest txt=>∃(fr fin:Bs) (xs:List Fi),rest=[.d (.str fr),.d (.sl (xs.map ZJ)),.d (.str fin)]/\(xs.all Yl=true/\szS wFi xs<=n/\n<=1073741824)/\txt=VB fr xs fin
theorem Zp2 {n:Nat}:PC w0 nG 53 (Zsm n):=by
 refine Zd Zb mixed (tbl:=[(52,Zen),(105,Zo2 106 (fun _=>ZJ) Yl fiT wFi n)]) ⟨JY,ZBf n,trivial⟩ Tryz.func53 rfl kR kR ?_;intro args σ K h
 unfold Zsm Zh5 at h
 split at h
 ·rename_i rest t p e rows
  obtain ⟨l,txt,rfl,⟨hp,rfl,rfl⟩,⟨fr,fin,xs,rfl,⟨dy,hz,hn⟩,rfl⟩,ab,h⟩:=h;have key:l++VB fr xs fin=l++fr++Zh cmm (xs.map fiT)++fin:=by simp only [VB,Th]
  rw [key] at h;have ab:l.length+(fr.length+((Zh cmm (xs.map fiT)).length+fin.length))<70368744177664:=by have:=ab;simp only [VB,Tb] at this;exact this
  refine ⟨Za [],1,true,sM,Ta rfl,?_⟩;rcases hp with rfl | rfl
  all_goals
   conv=>whnf
   refine wk _ fr ⟨[fr],rfl,sM,sM,sM⟩ ?_;(conv=>whnf);refine ⟨l++fr,fun _=>0,xs,rfl,rfl,⟨rfl,rfl,rfl⟩,⟨dy,hz,hn⟩,by rw [Tb];show _+(Zh cmm (xs.map fiT)).length<_;omega,wN ?_⟩;refine wk (l++fr++Zh cmm (xs.map fiT)) fin ⟨[fin],rfl,sM,sM,sM⟩ (wN ?_);exact h
 exact h.elim
theorem Zyq {n:Nat}:PC w0 nG 55 (Zf5 (Xh (fun _=>ZZ)) YO caT wCa n):=by
 refine Zd Zb mixed (tbl:=[(53,Zsm n)]) ⟨Zp2,trivial⟩ Tryz.func55 rfl kR kR ?_;intro args σ K h
 unfold Zf5 at h
 split at h
 ·obtain ⟨l,pl,⟨nm,fs⟩,rfl,rfl,⟨rfl,rfl⟩,⟨dy,hz,hn⟩,ab,h⟩:=h;have hm:fs.all Yl=true:=by simp only [YO,Tk] at dy;exact dy.2
  have hz:nm.length+szS wFi fs<=n:=by unfold wCa at hz;simp only at hz;omega
  refine ⟨Za [],2,true,sM,Ta rfl,wN ?_⟩;refine ⟨by simp only [Td,Tf];omega,wN ?_⟩;refine ⟨l,caT ⟨nm,fs⟩,rfl,⟨.inr rfl,rfl,rfl⟩,⟨nm++[32,123],[125],fs,rfl,⟨hm,oM,hn⟩,rfl⟩,ab,wN ?_⟩;exact h
 exact h.elim
theorem ZAS (n:Nat):PC w0 nG 54 (Zo2 55 (fun _=>ZZ) YO caT wCa n):=Zvm ⟨Zo3,Zyq,trivial⟩
theorem Zaw (sep:Bs):∀l:List Bs,Lib.join l sep=Zh sep l
 | []=>rfl
 | [x]=>by simp [Lib.join,List.intercalate,Zh]
 | x::y::l=>by
  have ih:=Zaw sep (y::l);simp only [Lib.join,List.intercalate] at ih |-;rw [Zh,<- ih]
  ·simp
  intro h;cases h
theorem Zb4 (l:List Bs):(Zh cmm l).length<=szS wBs l:=by
 match l with
 | []=>exact T7 _
 | [x]=>simp only [Zh,szS,wBs];omega
 | x::y::l =>
  have ih:=Zb4 (y::l);rw [Zh]
  ·simp only [Tb,szS,wBs] at ih |-;have:cmm.length=2:=rfl;omega
  intro h;cases h
noncomputable def Zp3 (n:Nat):Zt:=fun args σ K=>match args,σ with
 | [.d (.sl rows),.d (.str sp)],⟨[],[],0⟩=>∃l:List Bs,rows=l.map ZB/\(sp=cmm/\szS wBs l<=n/\n<=1073741824)/\K (.ret (.d (.str (Zh cmm l)))) ⟨[],[],0⟩
 | _,_=>False
theorem Zwe {n:Nat}:PC w0 nG 107 (Zp3 n):=Y5 (Zn Tryz.func107 kR rfl) fun args σ K h e w vs hS ha=>by
 unfold Zp3 at h
 split at h
 ·rename_i rows sp
  obtain ⟨l,rfl,⟨rfl,hz,hn⟩,h⟩:=h;obtain ⟨u,v,rfl,hu,hv⟩:=Zhc ha
  cases hv.dstr
  have gw:=Zb4 l;have ww:=Zp wBs l;generalize bj:l.map ZB=rows at hu;have d8:l=[]->Zh cmm l=[]:=fun e=>by rw [e];rfl
  have empty:∀a c,rows=[]->Calls Tryz.prog 107 #[.slice a 0 c,.string ⟨cmm.toArray⟩] w fun en w'=>en=.returned (.string ⟨(Zh cmm l).toArray⟩)/\Grows w w':=fun a c hr=>by
   have:l=[]:=by rw [hr] at bj;simpa using bj
   rw [d8 this];exact (Tryz.strings_Join_none a c _ w).mono fun en w' ⟨h1,h2⟩=>⟨h1,by rw [h2];exact Grows.refl _⟩
  refine ⟨_,h,.string ⟨(Zh cmm l).toArray⟩,fun _ _=>.mkstr,?_⟩
  cases hu with
  | d _ _ hd =>
  cases hd with
  | slnil=>exact empty _ _ rfl
  | slz a=>exact empty _ _ rfl
  | sl _ b off cap sz u hcap hsz hc ho hu =>
  have ab:rows.length=l.length:=by rw [<- bj,Te]
  by_cases h0:l=[]
  ·have hr:rows=[]:=by rw [<- bj,h0];rfl
   rw [hr];exact empty _ _ hr
  have ay:=SB.2 h0;have jz:sz=1:=by
   have:=hsz (ZB l[0]) (by rw [<- bj];exact List.mem_map_of_mem (TD ay));simpa [ZB] using this.symm
  subst jz;have ba:∀(j:Nat) x,(l.map fun s=>(⟨s.toArray⟩:ByteArray))[j]?=some x->w.cell? ⟨b,off+j,none⟩=some (.string x):=fun j x hx=>by
   rw [TL] at hx;obtain ⟨s,hs,rfl⟩:=Option.map_eq_some_iff.1 hx;have hj:=(Tj.1 hs).1;have h1:=hc j 0 oM oM;have h2:=hu j 0 (.str s) (by rw [<- bj,TL,hs];rfl);generalize huu:u j 0=uu at h1 h2
   cases h2
   simpa using h1
  have aag:(l.map fun s=>(⟨s.toArray⟩:ByteArray)).map (·.data.toList)=l:=by rw [List.map_map];simp [Function.comp_def]
  have hj:=Tryz.strings_Join b off cap (l.map fun s=>(⟨s.toArray⟩:ByteArray)) ⟨cmm.toArray⟩ w ba (by
   have:=hc 0 0 oM oM;exact World.block_lt_of_cell? w _ this) (by rw [Te];omega) (by rw [Te];omega) (by rw [aag,Zaw];show (Zh cmm l).length<=_;omega)
  rw [aag,Zaw,Te,<- ab] at hj;exact hj.mono fun en w' ⟨h1,h2⟩=>⟨h1,ZBJ h2⟩
 exact h.elim
noncomputable def Zwf (n:Nat):Zt:=fun args σ K=>match args,σ with
 | [.d (.sl rows)],⟨[],[],0⟩=>∃l:List Bs,rows=l.map ZB/\(szS wBs l<=n/\n<=1073741824)/\K (.ret (.d (.str (UN l)))) ⟨[],[],0⟩
 | _,_=>False
theorem Ztp {n:Nat}:PC w0 nG 56 (Zwf n):=by
 refine Zd Zb mixed (tbl:=[(107,Zp3 n)]) ⟨Zwe,trivial⟩ Tryz.func56 rfl kR kR ?_;intro args σ K h
 unfold Zwf at h
 split at h
 ·obtain ⟨l,rfl,⟨hz,hn⟩,h⟩:=h;have hl:(l.map ZB).length=l.length:=Te ..;have gw:=Zb4 l;refine ⟨Za [],0,false,sM,Ta rfl,wN ?_⟩;refine ZBC (fun c=>wN ?_) (fun c=>wN ?_)
  ·have c:l.length=0:=by have c:((l.map ZB).length:Int)=0:=c;omega
   rw [UN,Tg c] at h;exact h
  have c:¬l.length=0:=by have c:¬((l.map ZB).length:Int)=0:=c;omega
  rw [UN,Tc c] at h;refine ⟨l,rfl,⟨rfl,hz,hn⟩,?_⟩;generalize Zh cmm l=T at h gw |-;(conv=>whnf);refine ⟨by simp only [Td,Tf];omega,wN ?_⟩;refine ⟨by simp only [Tb,Td,Tf];omega,wN ?_⟩;exact h
 exact h.elim
end Go.PM.Lex
end
