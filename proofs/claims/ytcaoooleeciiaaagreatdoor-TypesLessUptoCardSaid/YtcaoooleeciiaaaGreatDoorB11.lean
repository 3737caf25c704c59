/- A part of the proof: plain logic, contracts and laws over the given program. -/
import Derived.Test.YtcaoooleeciiaaaGreatDoorB10
set_option linter.unusedVariables false
set_option linter.unusedSimpArgs false
set_option linter.all false
set_option maxRecDepth 100000
set_option maxHeartbeats 16000000
noncomputable section
section
namespace Go.PM.Lex
open Go.Proofs
variable {w0:World} {nG:Nat}
abbrev ZIU (pl:Pl) (r:Ru) (more:Bool):List PV:=[.ptr 1 0,.d (.str r.head),.d (.sl (Zs pl r.args)),.d (.sl (XL pl r.body)),.d (.int .i64 (pl r.at')),.mp 2,.d (.bool more)]
abbrev ZcS (pl:Pl) (p:Pr) (r:Ru) (vs:Vs) (more:Bool):List Box:=.cells 111 (ZIU pl r more)::.cells 95 (Zk3 pl p 3)::.dmap (mvM mvI vs)::Zk4 p
structure OKP (p:Pr):Prop where
 bp:BP p
 ends:ZF1 p
def Zce (body:List PV->Pl->Pr->Ru->Vs->Bool->(PEnd->Vs->Bool->Prop)->Prop):Zq:=fun args σ K=>match args,σ with
 | .ptr 0 0::rest,⟨bx,[],0⟩=>∃pl p r vs more,bx=ZcS pl p r vs more/\OKP p/\body rest pl p r vs more fun pe vs' more'=>K pe ⟨ZcS pl p r vs' more',[],0⟩
 | _,_=>False
def ZfQ {body:List PV->Pl->Pr->Ru->Vs->Bool->(PEnd->Vs->Bool->Prop)->Prop} (hb:∀rest pl p r vs more (K K':PEnd->Vs->Bool->Prop),(∀pe v m,K pe v m->K' pe v m)->body rest pl p r vs more K->body rest pl p r vs more K'):ZL (Zce body):=fun args σ K K' hK h=>by
 unfold Zce at h |-
 split at h
 ·obtain ⟨pl,p,r,vs,more,h1,h2,h3⟩:=h;exact ⟨pl,p,r,vs,more,h1,h2,hb _ _ _ _ _ _ _ _ (fun pe v m hk=>hK _ _ hk) h3⟩
 exact h.elim
def Zhv {s:Bs} {i:Nat} {v:Int×Int}:∀(l:List Ca) (k:Nat) (m:List (Bs×(Int×Int))),lkM s (YN i k l m)=some v->lkM s m=some v\/∃(j:Nat) (c:Ca),v=((i:Int),((k+j:Nat):Int))/\l[j]?=some c/\c.name=s
 | [],k,m,h=>.inl h
 | c::l,k,m,h=>by
  rcases Zhv l (k+1) _ h with h | ⟨j,c',h1,h2,h3⟩
  ·split at h
   ·rw [Za3] at h;split at h
    ·rename_i e;cases h;exact .inr ⟨0,c,sM,rfl,e.symm⟩
    exact .inl h
   exact .inl h
  exact .inr ⟨j+1,c',by rw [h1];congr 2;omega,by simpa using h2,h3⟩
def Zhw {s:Bs} {v:Int×Int}:∀(l:List Ty) (i:Nat) (m:List (Bs×(Int×Int))),lkM s (Za4 i l m)=some v->lkM s m=some v\/∃(j k:Nat) (t:Ty) (c:Ca),v=(((i+j:Nat):Int),(k:Int))/\l[j]?=some t/\t.cases[k]?=some c/\c.name=s
 | [],i,m,h=>.inl h
 | t::l,i,m,h=>by
  rcases Zhw l (i+1) _ h with h | ⟨j,k,t',c,h1,h2,h3,h4⟩
  ·rcases Zhv _ _ _ h with h | ⟨j,c,h1,h2,h3⟩
   ·exact .inl h
   exact .inr ⟨0,j,t,c,by rw [h1];simp,rfl,h2,h3⟩
  exact .inr ⟨j+1,k,t',c,by rw [h1];congr 2;omega,by simpa using h2,h3,h4⟩
def ZfR {p:Pr} {s:Bs} {v:Int×Int} (h:lkM s (XB p)=some v):∃(j k:Nat) (t:Ty) (c:Ca),v=((j:Int),(k:Int))/\p.types[j]?=some t/\t.cases[k]?=some c/\ZdL p s=some (t,c):=by
 rcases Zhw _ _ _ h with h | ⟨j,k,t,c,h1,h2,h3,h4⟩
 ·cases h
 rw [Se] at h1;refine ⟨j,k,t,c,h1,h2,h3,?_⟩;subst h1;simp only [ZdL,h,Tn,h2,h3]
def Zhx {p:Pr} {s:Bs} (h:lkM s (XB p)=none):ZdL p s=none:=by simp only [ZdL,h]
def Zuf:Zq:=Zce fun rest pl p r vs more K=>match rest with
 | [.agg c]=>∃e,c=(Z7 pl e).map .d/\∀n,Zyy p vs e=n->K (.ret (.d (.int .i64 n))) vs more
 | _=>False
def ZF6:OKw w0 nG [(77,UY)] 143 Zuf:=by
 refine pwo Tryz.func143 fun args σ K h=>?_
 unfold Zuf Zce at h
 split at h
 ·obtain ⟨pl,p,r,vs,more,rfl,hp,h⟩:=h;split at h
  ·obtain ⟨⟨op,text,num,eargs,ea⟩,rfl,h⟩:=h;simp only [Zyy] at h;refine pwv [] 7 false ?_;refine ZJU (fun h1=>?_) (fun h1=>wN ?_)
   ·have h1:op=1:=by have h1:(op:Int)=1:=h1;omega
    subst h1;(conv=>whnf);refine ZJ2 (fun v hv=>?_) (fun hv=>wN ?_)
    ·rw [ZX] at hv;obtain ⟨n,hn,rfl⟩:=TF.1 hv;(conv=>whnf);exact h n (by simp [Zd6,hn])
    rw [ZX,Option.map_eq_none_iff] at hv;exact h (-1) (by simp [Zd6,hv])
   have h1:¬op=1:=fun g=>h1 (by simp only [g];rfl)
   refine ZJU (fun h7=>?_) (fun h7=>?_)
   ·have h7:op=7:=by have h7:(op:Int)=7:=h7;omega
    subst h7;(conv=>whnf);refine ZJ2 (fun v hv=>?_) (fun hv=>wN ?_)
    ·rw [ZX] at hv;obtain ⟨n,hn,rfl⟩:=TF.1 hv;obtain ⟨j,k,t,c,rfl,h2,h3,h4⟩:=ZfR hn;have hr:(p.types.map (Zv pl))[(j:Int).toNat]?=some (Zv pl t):=by rw [Tn,Tk,h2];rfl
     obtain ⟨t1,t2,t3,t4,t5,t6⟩:=t;(conv=>whnf)
     (repeat (refine ⟨rfl,?_⟩;conv=>whnf))
     refine ⟨dM,dM,wN ?_⟩;refine ⟨_,oM,hr,wN ?_⟩;refine ⟨pl,p,rfl,hp.bp,hp.ends,fun n hn=>wN ?_⟩
     (repeat (refine ⟨rfl,?_⟩;conv=>whnf))
     exact h n (by simp only [Zd6];rw [Tb dM,Tg trivial,h4];exact hn)
    rw [ZX,Option.map_eq_none_iff] at hv
    (repeat (refine ⟨rfl,?_⟩;conv=>whnf))
    exact h (-1) (by simp [Zd6,Zhx hv])
   have h7:¬op=7:=fun g=>h7 (by simp only [g];rfl)
   repeat' ((conv=>whnf);refine ZJU (fun hc=>?_) (fun hc=>?_))
   all_goals (conv=>whnf)
   all_goals first
    | (exfalso;omega)
    | (refine h _ ?_
       unfold Zd6
       rw [Tb h1,Tb h7]
       first
        | rw [Tg oM]
        | rw [Tb oM,Tg oM]
        | rw [Tb oM,Tb oM])
  exact h.elim
 exact h.elim
def optK.int {k:Bs} {m:List (Bs×Int)} {A:MV->Prop} (h:A (mvI ((lkM k m).getD 0))):optK (lkM k (mvM mvI m)) A (A (mvI 0)):=by
 rw [ZX]
 cases hk:lkM k m with
 | none=>rw [hk] at h;exact h
 | some b=>rw [hk] at h;exact h
abbrev zTy:List PV:=[.d (.int .u8 0),.d (.str []),.d (.str []),.d (.sl []),.d (.sl []),.d (.int .i64 0)]
def Zk7 (p:Pr) (n:Int) (t:Ty):Bool:=decide (t.kind=2) && (decide (0<=n) && decide ((lkM t.name (Za5 p)).getD 0=n))
def Zny:Zq:=Zce fun rest pl p r vs more K=>match rest with
 | [.d (.int .i64 n)]=>(∀t,ZgB p n=some t->K (.ret (.tuple [.agg ((Zv pl t).map .d),.d (.bool true)])) vs more)/\(ZgB p n=none->K (.ret (.tuple [.agg zTy,.d (.bool false)])) vs more)
 | _=>False
def ZF7:PC w0 nG 142 Zny:=by
 refine pwe Tryz.func142 fun args σ K h=>?_
 unfold Zny Zce at h
 split at h
 ·obtain ⟨pl,p,r,vs,more,rfl,hp,h⟩:=h;split at h
  ·rename_i n
   obtain ⟨hs,hn⟩:=h;have aa:=hp.bp.len;have hl:(p.types.map (Zv pl)).length=p.types.length:=Tf ..;refine pwu [(2,⟨[17],[0,1,4,15,16],fun w σ=>∃j:Nat,w=[.d (.int .i64 j)]/\σ=⟨ZcS pl p r vs more++[.cells 42 [.d (.int .u8 0),.d (.str []),.d (.str []),.sl 0 56 [],.sl 1 45 [],.d (.int .i64 0)]],[1,0],2⟩/\j<=p.types.length/\(p.types.drop j).find? (Zk7 p n)=ZgB p n,
    fun w _=>match w with | [.d (.int _ j)]=>((p.types.length:Int) - j).toNat | _=>0⟩)] 7 false ?_
   conv=>whnf
   refine ⟨⟨0,rfl,rfl,oM,rfl⟩,?_⟩
   rintro w σ1 ⟨j,rfl,rfl,hj,ha⟩
   conv=>whnf
   refine ZJU (fun hc=>?_) (fun hc=>?_);rotate_left
   ·conv=>whnf
    rw [TA oM] at ha;exact hn ha.symm
   have ab:j<p.types.length:=oM;rw [Tq ab,List.find?_cons] at ha;have hr:(p.types.map (Zv pl))[(j:Int).toNat]?=some (Zv pl p.types[j]):=by rw [Tn,Tk,Tc ab];rfl
   generalize p.types[j]=t at ha hr;obtain ⟨t1,t2,t3,t4,t5,t6⟩:=t;have hμ:((p.types.length:Int) - ((j:Int)+1)).toNat<((p.types.length:Int) - (j:Int)).toNat:=oM;have yes:Zk7 p n ⟨t1,t2,t3,t4,t5,t6⟩=true->K (.ret (.tuple [.agg ((Zv pl ⟨t1,t2,t3,t4,t5,t6⟩).map .d),.d (.bool true)])) ⟨ZcS pl p r vs more,[],0⟩:=fun g=>by
    rw [g] at ha;exact hs _ ha.symm
   have no:Zk7 p n ⟨t1,t2,t3,t4,t5,t6⟩=false->(p.types.drop (j+1)).find? (Zk7 p n)=ZgB p n:=fun g=>by rw [g] at ha;exact ha
   clear ha hs hn
   conv=>whnf
   refine ⟨_,oM,hr,wN ?_⟩;refine ZJU (fun hk=>?_) (fun hk=>?_);rotate_left
   ·have hk:¬t1=2:=fun g=>hk (by simp only [g];rfl)
    conv=>whnf
    refine Zl ?_;exact ⟨⟨j+1,rfl,rfl,oM,no (by unfold Zk7;rw [decide_eq_false hk];rfl)⟩,hμ⟩
   have hk:t1=2:=by have hk:(t1:Int)=2:=hk;omega
   conv=>whnf
   refine ZJU (fun h0=>?_) (fun h0=>?_);rotate_left
   ·conv=>whnf
    refine Zl ?_;exact ⟨⟨j+1,rfl,rfl,oM,no (by unfold Zk7;rw [decide_eq_false h0,T3,Bool.and_false])⟩,hμ⟩
   conv=>whnf
   refine optK.int (wN ?_);refine ZJU (fun he=>wN ?_) (fun he=>wN ?_)
   ·exact yes (by unfold Zk7;rw [Sj hk,Sj h0,Sj he];rfl)
   refine Zl ?_;exact ⟨⟨j+1,rfl,rfl,oM,no (by unfold Zk7;rw [decide_eq_false he,Bool.and_false,Bool.and_false])⟩,hμ⟩
  exact h.elim
 exact h.elim
def Zpe (p:Pr) (n:Int):Ex->List Int
 | .mk op text _ args _=>ZJ p op text args.length n
def ZdM:Ex->Nat
 | .mk _ _ _ args _=>args.length
def ZfS:Zq:=Zce fun rest pl p r vs more K=>match rest with
 | [.agg c,.d (.int .i64 n)]=>∃e,c=(Z7 pl e).map .d/\ZdM e<=2097152/\∀l b,Zpe p n e=l->decide (l.length=ZdM e)=b->K (.ret (.tuple [.d (.sl (Up l)),.d (.bool b)])) vs more
 | _=>False
def Zug (l:List Int):(Up l).length=l.length:=Tf ..
def Zxj (ht:TO w0 nG [(141,Zb4),(142,Zny)]):PC w0 nG 78 ZfS:=by
 refine pwt ht Tryz.func78 fun args σ K h=>?_
 unfold ZfS Zce at h
 split at h
 ·obtain ⟨pl,p,r,vs,more,rfl,hp,h⟩:=h;split at h
  ·rename_i n
   obtain ⟨⟨op,text,num,eargs,ea⟩,rfl,l5,h⟩:=h;simp only [Zpe,ZdM] at h l5;have am:(Zs pl eargs).length=eargs.length:=by rw [Zd,Tf]
   have fin:∀l:List Int,ZJ p op text eargs.length n=l->K (.ret (.tuple [.d (.sl (Up l)),.d (.bool (decide (((Up l).length:Int)=((Zs pl eargs).length:Int))))])) ⟨ZcS pl p r vs more,[],0⟩:=fun l hl =>
    h l _ hl (by rw [Zug,am];exact decide_eq_decide.2 oM)
   clear h
   refine pwv [] 7 false ?_;refine ZJU (fun h7=>?_) (fun h7=>wN ?_)
   ·have h7:op=7:=by have h7:(op:Int)=7:=h7;omega
    subst h7;(conv=>whnf);refine ZJ2 (fun v hv=>?_) (fun hv=>wN ?_)
    ·rw [ZX] at hv;obtain ⟨m,hn,rfl⟩:=TF.1 hv;obtain ⟨j,k,t,c,rfl,h2,h3,h4⟩:=ZfR hn;have ox:=(hp.bp.ty (T4 h2)).2.2 c (T4 h3);have hr:(p.types.map (Zv pl))[(j:Int).toNat]?=some (Zv pl t):=by rw [Tn,Tk,h2];rfl
     have cu:(t.cases.map Zy)[(k:Int).toNat]?=some (Zy c):=by rw [Tn,Tk,h3];rfl
     obtain ⟨t1,t2,t3,t4,t5,t6⟩:=t;obtain ⟨c1,c2⟩:=c;(conv=>whnf)
     (repeat (refine ⟨rfl,?_⟩;conv=>whnf))
     refine ⟨dM,dM,wN ?_⟩;refine ⟨_,oM,hr,wN ?_⟩;refine ⟨dM,dM,wN ?_⟩;refine ⟨_,oM,cu,wN ?_⟩;refine ⟨pl,p,rfl,hp.bp,c2,rfl,⟨hp.ends,ox⟩,wN ?_⟩
     (repeat (refine ⟨rfl,?_⟩;conv=>whnf))
     exact fin _ (by simp [ZJ,h4])
    rw [ZX,Option.map_eq_none_iff] at hv
    (repeat (refine ⟨rfl,?_⟩;conv=>whnf))
    exact fin [] (by simp [ZJ,Zhx hv])
   have h7:¬op=7:=fun g=>h7 (by simp only [g];rfl)
   refine ZJU (fun h6=>?_) (fun h6=>wN ?_)
   ·have h6:op=6:=by have h6:(op:Int)=6:=h6;omega
    subst h6;(conv=>whnf);refine ⟨pl,p,r,vs,more,rfl,hp,fun t ht=>wN ?_,fun ht=>wN ?_⟩
    ·obtain ⟨t1,t2,t3,t4,t5,t6⟩:=t;have d7:=(hp.bp.ty (List.mem_of_find?_eq_some ht)).1;refine ⟨pl,p,rfl,hp.bp,t4,rfl,⟨hp.ends,d7⟩,wN ?_⟩
     (repeat (refine ⟨rfl,?_⟩;conv=>whnf))
     exact fin _ (by simp [ZJ,ht])
    exact fin [] (by simp [ZJ,ht])
   have h6:¬op=6:=fun g=>h6 (by simp only [g];rfl)
   refine ZJU (fun hc=>?_) (fun hc=>?_)
   ·have hc:op=20:=by have hc:(op:Int)=20:=hc;omega
    subst hc;(conv=>whnf);exact fin [1,1] (by simp [ZJ])
   have h20:¬op=20:=fun g=>hc (by simp only [g];rfl)
   repeat' ((conv=>whnf);refine ZJU (fun hc=>?_) (fun hc=>?_))
   all_goals (conv=>whnf)
   all_goals try (exfalso;omega)
   all_goals try
    first
    | (refine fin [1] ?_;unfold ZJ;rw [Tb h7,Tb h6,Tb h20,Tg oM];done)
    | (refine fin [1,0,0] ?_;unfold ZJ;rw [Tb h7,Tb h6,Tb h20,Tb oM,Tg oM];done)
   all_goals
    refine ⟨rfl,dM,by show (Zs pl eargs).length * 1<=_;omega,by show (Zs pl eargs).length * 8<=_;omega,wN ?_⟩;rw [show List.replicate (Zs pl eargs).length [D.int .i64 0]=Up (List.replicate eargs.length 0) by rw [Up,List.map_replicate,am]];exact fin _ (by unfold ZJ;rw [Tb h7,Tb h6,Tb h20,Tb oM,Tb oM])
  exact h.elim
 exact h.elim
def ZCu (m:Nat):Zq:=Zce fun rest pl p r vs more K=>match rest with
 | [.agg c,.d (.int .i64 n)]=>∃e,c=(Z7 pl e).map .d/\(szE e<=m/\m<=2097152)/\∀v b,gvE p e n (vs,more)=(v,b)->K (.ret (.tuple [])) v b
 | _=>False
def Zb7 (p:Pr) (op:Nat) (text:Bs) (k:Nat) (n:Int):List Int:=if (ZJ p op text k n).length=k then ZJ p op text k n else List.replicate k (-1)
def Zk8 (p:Pr) (op:Nat) (text:Bs) (k:Nat) (n:Int):(Zb7 p op text k n).length=k:=by unfold Zb7;split <;> simp [*]
def ZF8 {m:Nat}:OKw w0 nG [(38,spB ZCu m),(78,ZfS)] 38 (ZCu m):=by
 refine pwo Tryz.func38 fun args σ K h=>?_
 unfold ZCu Zce at h
 split at h
 ·obtain ⟨pl,p,r,vs,more,rfl,hp,h⟩:=h;split at h
  ·rename_i n
   obtain ⟨⟨op,text,num,eargs,ea⟩,rfl,⟨hz,hm⟩,h⟩:=h;simp only [szE,Xw] at hz;have l5:=Zo szE eargs;have am:(Zs pl eargs).length=eargs.length:=by rw [Zd,Tf]
   refine pwu [(8,⟨[63],[0,8,9,61,62],fun w σ=>∃(j:Nat) (v:Vs) (b:Bool),w=[.d (.int .i64 j)]/\σ=⟨ZcS pl p r v b++[.cells 59 ((Z7 pl (.mk op text num eargs ea)).map .d)],[],0⟩/\j<=eargs.length /\
     Zbh p (eargs.drop j) ((Zb7 p op text eargs.length n).drop j) (v,b)=Zbh p eargs (Zb7 p op text eargs.length n) (vs,more),
    fun w _=>match w with | [.d (.int _ j)]=>((eargs.length:Int) - j).toNat | _=>0⟩)] 7 false ?_
   conv=>whnf
   refine ZJU (fun h1=>?_) (fun h1=>wN ?_)
   ·have h1:op=1:=by have h1:(op:Int)=1:=h1;omega
    subst h1;have h:=h (ZCt text n (vs,more)).1 (ZCt text n (vs,more)).2 (by simp [gvE]);have yes:((lkM text vs).isNone=true\/((lkM text vs).getD 0=-1/\n≠-1))->∀b,(more || decide (n≠-1))=b->K (.ret (.tuple [])) ⟨.cells 111 (ZIU pl r b)::.cells 95 (Zk3 pl p 3)::.dmap (Y5 text (mvI n) (mvM mvI vs))::Zk4 p,[],0⟩:=fun g b hb=>by
     simp only [ZCt] at h;rw [Tg g,hb] at h;rw [UX];exact h
    have no:¬((lkM text vs).isNone=true\/((lkM text vs).getD 0=-1/\n≠-1))->K (.ret (.tuple [])) ⟨ZcS pl p r vs more,[],0⟩:=fun g=>by
     simp only [ZCt] at h;rw [Tb g] at h;exact h
    clear h
    conv=>whnf
    refine ZJ2 (fun v hv=>?_) (fun hv=>wN ?_)
    ·rw [ZX] at hv;obtain ⟨old,nc,rfl⟩:=TF.1 hv;rw [nc] at yes no;(conv=>whnf);refine ZJU (fun ho=>wN ?_) (fun ho=>wN ?_)
     ·refine ZJX (fun hn=>wN ?_) (fun hn=>wN ?_)
      ·have yes:=yes (.inr ⟨ho,hn⟩);exact mq125
      exact no (by simp [hn])
     exact no (by simp [show ¬old=-1 from ho])
    rw [ZX,Option.map_eq_none_iff] at hv;have yes:=yes (.inl (by rw [hv];rfl));exact mq125
   have h1:¬op=1:=fun g=>h1 (by simp only [g];rfl)
   have h:=fun v b (g:Zbh p eargs (Zb7 p op text eargs.length n) (vs,more)=(v,b))=>h v b (by simp only [gvE];rw [Tb h1];exact g)
   refine ⟨pl,p,r,vs,more,rfl,hp,.mk op text num eargs ea,rfl,by show eargs.length<=_;omega,fun l b hl hb=>?_⟩;simp only [Zpe,ZdM] at hl hb
   cases b with
   | true =>
    have hL:Zb7 p op text eargs.length n=l:=by unfold Zb7;rw [hl,Tg (SA hb)]
    conv=>whnf
    refine ⟨⟨0,vs,more,rfl,rfl,oM,rfl⟩,?_⟩
    rintro w σ1 ⟨j,v,b,rfl,rfl,hj,ha⟩
    conv=>whnf
    refine ZJU (fun hc=>?_) (fun hc=>?_);rotate_left
    ·conv=>whnf
     rw [TA oM] at ha;exact h v b ha.symm
    have ab:j<eargs.length:=oM;have av:j<(Zb7 p op text eargs.length n).length:=by rw [Zk8];exact ab
    rw [Tq ab,Tq av] at ha;simp only [Zbh] at ha;have hr:(Zs pl eargs)[(j:Int).toNat]?=some (Z7 pl eargs[j]):=by rw [Zd,Tn,Tk,Tc ab];rfl
    have dy:=Zu szE eargs j ab;have cu:(Up l)[(j:Int).toNat]?=some [.int .i64 (Zb7 p op text eargs.length n)[j]]:=by
     rw [Up,Tn,Tk,<- hL,Tc av];rfl
    generalize (Zb7 p op text eargs.length n)[j]=y at ha cu;generalize eargs[j]=x at ha hr dy;obtain ⟨x1,x2,x3,x4,x5⟩:=x;have hμ:((eargs.length:Int) - ((j:Int)+1)).toNat<((eargs.length:Int) - (j:Int)).toNat:=oM;(conv=>whnf);refine ⟨_,oM,hr,wN ?_⟩;refine ⟨_,oM,cu,wN ?_⟩;exact mq87
   | false =>
   have hL:Zb7 p op text eargs.length n=List.replicate eargs.length (-1):=by unfold Zb7;rw [hl,Tb (of_decide_eq_false hb)]
   conv=>whnf
   refine ⟨⟨0,vs,more,rfl,rfl,oM,rfl⟩,?_⟩
   rintro w σ1 ⟨j,v,b,rfl,rfl,hj,ha⟩
   conv=>whnf
   refine ZJU (fun hc=>?_) (fun hc=>?_);rotate_left
   ·conv=>whnf
    rw [TA oM] at ha;exact h v b ha.symm
   have ab:j<eargs.length:=oM;have av:j<(Zb7 p op text eargs.length n).length:=by rw [Zk8];exact ab
   rw [Tq ab,Tq av] at ha;simp only [Zbh] at ha;have hr:(Zs pl eargs)[(j:Int).toNat]?=some (Z7 pl eargs[j]):=by rw [Zd,Tn,Tk,Tc ab];rfl
   have dy:=Zu szE eargs j ab;have hy:(Zb7 p op text eargs.length n)[j]=-1:=by simp only [hL,List.getElem_replicate]
   rw [hy] at ha;generalize eargs[j]=x at ha hr dy;obtain ⟨x1,x2,x3,x4,x5⟩:=x;have hμ:((eargs.length:Int) - ((j:Int)+1)).toNat<((eargs.length:Int) - (j:Int)).toNat:=oM;(conv=>whnf);refine ⟨_,oM,hr,wN ?_⟩;exact mq87
  exact h.elim
 exact h.elim
def ZfT:Zq:=Zce fun rest pl p r vs more K=>match rest with
 | [.agg c]=>∃op rel a b args body at',c=(XD pl (.mk op rel (a::b::args) body at')).map .d/\∀n,Uq p vs (a::b::args)=n->K (.ret (.d (.int .i64 n))) vs more
 | _=>False
def Zxl:OKw w0 nG [(143,Zuf)] 79 ZfT:=by
 refine pwo Tryz.func79 fun args σ K h=>?_
 unfold ZfT Zce at h
 split at h
 ·obtain ⟨pl,p,r,vs,more,rfl,hp,h⟩:=h;split at h
  ·obtain ⟨op,rel,⟨a1,a2,a3,a4,a5⟩,⟨b1,b2,b3,b4,b5⟩,args,body,at',rfl,h⟩:=h;simp only [Uq] at h;refine pwv [] 7 false ?_;refine ⟨Z7 pl (.mk a1 a2 a3 a4 a5),dM,rfl,wN ?_⟩;refine ⟨pl,p,r,vs,more,rfl,hp,.mk a1 a2 a3 a4 a5,rfl,fun n hn=>wN ?_⟩;rw [hn] at h;refine ZJX (fun hc=>wN ?_) (fun hc=>wN ?_)
   ·exact h n (by rw [Tg hc])
   refine ⟨Z7 pl (.mk b1 b2 b3 b4 b5),dM,rfl,wN ?_⟩;refine ⟨pl,p,r,vs,more,rfl,hp,.mk b1 b2 b3 b4 b5,rfl,fun n2 ip=>wN ?_⟩;exact h n2 (by rw [Tb (fun g=>g hc)];exact ip)
  exact h.elim
 exact h.elim
def RtK (pl:Pl) (K:PEnd->Vs->Bool->Prop) (vs:Vs) (more:Bool):Flt->Prop
 | none=>K (.ret (.tuple [])) vs more
 | some (a,e)=>K (.panic (.iface 52 (.agg [.d (.int .i64 (pl a)),.d (.int .i64 e)]))) vs more
def Zja {pl:Pl} {K K':PEnd->Vs->Bool->Prop} (hK:∀pe v m,K pe v m->K' pe v m) {vs:Vs} {more:Bool} {x:Flt} (h:RtK pl K vs more x):RtK pl K' vs more x:=by
 cases x with
 | none=>exact hK _ _ _ h
 | some ae=>exact hK _ _ _ h
def ZCv (m:Nat):Zq:=Zce fun rest pl p r vs more K=>match rest with
 | [.agg c,.d (.int .i64 n)]=>∃e,c=(Z7 pl e).map .d/\(szE e<=m/\m<=2097152)/\∀x,rtE p vs e n=x->RtK pl K vs more x
 | _=>False
def Zyz (m:Nat):Tbl:=[(80,spB ZCv m),(143,Zuf),(78,ZfS),(142,Zny)]
abbrev ZCw (a e:Int):PV:=.iface 52 (.agg [.d (.int .i64 a),.d (.int .i64 e)])
def ZyA {m:Nat} (ht:TO w0 nG (Zyz m)):PC w0 nG 80 (ZCv m):=by
 refine Zsg ZR mixed (tbl:=Zyz m) ht Tryz.func80 rfl kR kR ?_;intro args σ K h
 unfold ZCv Zce at h
 split at h
 ·obtain ⟨pl,p,r,vs,more,rfl,hp,h⟩:=h;split at h
  ·rename_i n
   obtain ⟨⟨op,text,num,eargs,ea⟩,rfl,⟨hz,hm⟩,h⟩:=h;simp only [szE,Xw] at hz;have l5:=Zo szE eargs;have am:(Zs pl eargs).length=eargs.length:=by rw [Zd,Tf]
   obtain ⟨x,hx⟩:∃x,rtE p vs (.mk op text num eargs ea) n=x:=⟨_,rfl⟩
   have h:=h x hx;refine ⟨Zr [(14,⟨[101],[0,7,99,100],fun w σ=>∃(j:Nat) (c1 c2 c3 c4 c5 c6 d1 d2:D),w=[.d (.int .i64 j)]/\σ=⟨ZcS pl p r vs more++[.cells 59 ((Z7 pl (.mk op text num eargs ea)).map .d),.cells 42 [.d c1,.d c2,.d c3,.d c4,.d c5,.d c6],.cells 100 [.d d1,.d d2]],[],0⟩/\j<=eargs.length /\
     (ZJ p op text eargs.length n).length=eargs.length/\Za8 p vs (eargs.drop j) ((ZJ p op text eargs.length n).drop j)=x,
    fun w _=>match w with | [.d (.int _ j)]=>((eargs.length:Int) - j).toNat | _=>0⟩)],Wk [],YG [],YG [],YG [],Zy5 [(4,([0,2,4,6,7,8,10],fun w σ=>∃c1 c2 c3 c4 c5 c6:D,w=[.ptr 0 0,.d (.int .i64 n),.ptr 7 0,.d (.int .i64 (Zd6 p vs op text)),.d (.sl (Up (ZJ p op text eargs.length n))),.d (.bool (decide ((ZJ p op text eargs.length n).length=eargs.length))),.d (.bool (ZgB p n).isSome)] /\
     σ=⟨ZcS pl p r vs more++[.cells 59 ((Z7 pl (.mk op text num eargs ea)).map .d),.cells 42 [.d c1,.d c2,.d c3,.d c4,.d c5,.d c6]],[],0⟩)),
    (5,([0,2,4,6,7,8,10,12],fun w σ=>∃c1 c2 c3 c4 c5 c6 d1 d2:D,w=[.ptr 0 0,.d (.int .i64 n),.ptr 7 0,.d (.int .i64 (Zd6 p vs op text)),.d (.sl (Up (ZJ p op text eargs.length n))),.d (.bool (decide ((ZJ p op text eargs.length n).length=eargs.length))),.d (.bool (ZgB p n).isSome),.d (.bool (lkM text (XB p)).isSome)] /\
     σ=⟨ZcS pl p r vs more++[.cells 59 ((Z7 pl (.mk op text num eargs ea)).map .d),.cells 42 [.d c1,.d c2,.d c3,.d c4,.d c5,.d c6],.cells 100 [.d d1,.d d2]],[],0⟩)),
    (13,([0,4,7],fun w σ=>∃c1 c2 c3 c4 c5 c6 d1 d2:D,w=[.ptr 0 0,.ptr 7 0,.d (.sl (Up (ZJ p op text eargs.length n)))] /\
     σ=⟨ZcS pl p r vs more++[.cells 59 ((Z7 pl (.mk op text num eargs ea)).map .d),.cells 42 [.d c1,.d c2,.d c3,.d c4,.d c5,.d c6],.cells 100 [.d d1,.d d2]],[],0⟩/\(ZJ p op text eargs.length n).length=eargs.length /\
     Za8 p vs eargs (ZJ p op text eargs.length n)=x))],7,false,sM,Td rfl,?_⟩
   conv=>whnf
   refine ⟨pl,p,r,vs,more,rfl,hp,.mk op text num eargs ea,rfl,fun own jw=>?_⟩;simp only [Zyy] at jw;subst jw;(conv=>whnf);refine ⟨pl,p,r,vs,more,rfl,hp,.mk op text num eargs ea,rfl,by show eargs.length<=_;omega,fun l ok hl ba=>?_⟩;simp only [Zpe,ZdM] at hl ba;subst hl ba;(conv=>whnf);refine ⟨?_,?_⟩
   ·refine ⟨pl,p,r,vs,more,rfl,hp,fun t vi=>wN ?_,fun vi=>wN ?_⟩
    ·obtain ⟨t1,t2,t3,t4,t5,t6⟩:=t;exact ⟨_,_,_,_,_,_,by rw [vi];rfl,rfl⟩
    exact ⟨_,_,_,_,_,_,by rw [vi];rfl,rfl⟩
   rintro w σ1 ⟨c1,c2,c3,c4,c5,c6,rfl,rfl⟩
   conv=>whnf
   refine ⟨wN ?_,?_⟩
   ·refine ZJ2 (fun v hv=>?_) (fun hv=>wN ?_)
    ·rw [ZX] at hv;obtain ⟨ij,i9,rfl⟩:=TF.1 hv;obtain ⟨i,k⟩:=ij;(conv=>whnf)
     (repeat (refine ⟨rfl,?_⟩;conv=>whnf))
     exact ⟨_,_,_,_,_,_,_,_,by rw [i9];rfl,rfl⟩
    rw [ZX,Option.map_eq_none_iff] at hv
    (repeat (refine ⟨rfl,?_⟩;conv=>whnf))
    exact ⟨_,_,_,_,_,_,_,_,by rw [hv];rfl,rfl⟩
   rintro w σ1 ⟨c1,c2,c3,c4,c5,c6,d1,d2,rfl,rfl⟩
   conv=>whnf
   refine ⟨?_,?_⟩
   ·have eok : (op = 7 -> (lkM text (XB p)).isSome = true) -> ¬ ((Zd6 p vs op text ≠ -1 /\ n ≠ -1 /\ Zd6 p vs op text ≠ n) \/ ((op = 6 \/ op = 5) /\ (ZgB p n).isSome = false) \/ (op = 1 /\ Zd6 p vs op text = -1)) -> decide ((ZJ p op text eargs.length n).length = eargs.length) = true ->
        (ZJ p op text eargs.length n).length=eargs.length/\Za8 p vs eargs (ZJ p op text eargs.length n)=x:=fun g1 g2 g3=>by
     have g3:=SA g3;refine ⟨g3,?_⟩;rw [<- hx,rtE,Tb (fun g=>by have:=g1 g.1;cases hl:lkM text (XB p) <;> simp_all),Tb (fun g=>g2 (by
      rcases g with g | ⟨g,g'⟩ | g
      ·exact .inl g
      ·exact .inr (.inl ⟨g,by cases hl:ZgB p n <;> simp_all⟩)
      exact .inr (.inr g))),Tb (fun g=>g g3)]
    have e184:op=7->(lkM text (XB p)).isSome=false->K (.panic (ZCw (pl ea) 184)) ⟨ZcS pl p r vs more,[],0⟩:=fun g1 g2=>by
     rw [rtE,Tg ⟨g1,by cases hl:lkM text (XB p) <;> simp_all⟩] at hx;subst hx;exact h
    have e183:(op=7->(lkM text (XB p)).isSome=true)->((Zd6 p vs op text≠-1/\n≠-1/\Zd6 p vs op text≠n)\/((op=6\/op=5)/\(ZgB p n).isSome=false)\/(op=1/\Zd6 p vs op text=-1))->K (.panic (ZCw (pl ea) 183)) ⟨ZcS pl p r vs more,[],0⟩:=fun g1 g2=>by
     rw [rtE,Tb (fun g=>by have:=g1 g.1;cases hl:lkM text (XB p) <;> simp_all),Tg (by
      rcases g2 with g | ⟨g,g'⟩ | g
      ·exact .inl g
      ·exact .inr (.inl ⟨g,by cases hl:ZgB p n <;> simp_all⟩)
      exact .inr (.inr g))] at hx
     subst hx;exact h
    have e182:(op=7->(lkM text (XB p)).isSome=true)->¬((Zd6 p vs op text≠-1/\n≠-1/\Zd6 p vs op text≠n)\/((op=6\/op=5)/\(ZgB p n).isSome=false)\/(op=1/\Zd6 p vs op text=-1))->decide ((ZJ p op text eargs.length n).length=eargs.length)=false->K (.panic (ZCw (pl ea) 182)) ⟨ZcS pl p r vs more,[],0⟩:=fun g1 g2 g3=>by
     have g3:=of_decide_eq_false g3;rw [rtE,Tb (fun g=>by have:=g1 g.1;cases hl:lkM text (XB p) <;> simp_all),Tb (fun g=>g2 (by
      rcases g with g | ⟨g,g'⟩ | g
      ·exact .inl g
      ·exact .inr (.inl ⟨g,by cases hl:ZgB p n <;> simp_all⟩)
      exact .inr (.inr g))),Tg g3] at hx
     subst hx;exact h
    clear h hx
    generalize decide ((ZJ p op text eargs.length n).length=eargs.length)=ok at eok e182 |-;generalize (ZgB p n).isSome=rec at eok e182 e183 |-;generalize (lkM text (XB p)).isSome=br at eok e182 e183 e184 |-;generalize Zd6 p vs op text=own at eok e182 e183 |-;have n2:∀{rec:Bool},¬(own≠-1/\n≠-1/\own≠n)->((op=6\/op=5)->rec=true)->¬(op=1/\own=-1)->¬((own≠-1/\n≠-1/\own≠n)\/((op=6\/op=5)/\rec=false)\/(op=1/\own=-1)):=fun {rec} g1 g2 g3 g=>by
     rcases g with g | ⟨g,g'⟩ | g
     ·exact g1 g
     ·rw [g2 g] at g';cases g'
     exact g3 g
    cases br <;> cases rec <;> cases ok
    all_goals repeat' ((conv=>whnf);first | refine ZJU (fun hc=>?_) (fun hc=>?_) | refine ZJX (fun hc=>?_) (fun hc=>?_))
    all_goals (conv=>whnf)
    all_goals first
     | (exfalso;omega)
     | exact e184 oM rfl
     | exact e183 (fun g=>by first | rfl | (exfalso;omega)) (by first | (left;omega) | (right;left;exact ⟨oM,rfl⟩) | (right;right;omega))
     | exact e182 (fun g=>by first | rfl | (exfalso;omega)) (n2 oM (fun g=>by first | rfl | (exfalso;omega)) oM) rfl
     | exact ⟨c1,c2,c3,c4,c5,c6,d1,d2,rfl,rfl,eok (fun g=>by first | rfl | (exfalso;omega)) (n2 oM (fun g=>by first | rfl | (exfalso;omega)) oM) rfl⟩
   rintro w σ1 ⟨c1,c2,c3,c4,c5,c6,d1,d2,rfl,rfl,aa,ha⟩
   conv=>whnf
   refine ⟨⟨0,c1,c2,c3,c4,c5,c6,d1,d2,rfl,rfl,oM,aa,ha⟩,?_⟩
   rintro w σ1 ⟨j,c1,c2,c3,c4,c5,c6,d1,d2,rfl,rfl,hj,aa,ha⟩
   conv=>whnf
   refine ZJU (fun hc=>?_) (fun hc=>?_);rotate_left
   ·conv=>whnf
    rw [TA oM] at ha;subst ha;exact h
   have ab:j<eargs.length:=oM;have av:j<(ZJ p op text eargs.length n).length:=by rw [aa];exact ab
   rw [Tq ab,Tq av] at ha;simp only [Za8] at ha;have hr:(Zs pl eargs)[(j:Int).toNat]?=some (Z7 pl eargs[j]):=by rw [Zd,Tn,Tk,Tc ab];rfl
   have dy:=Zu szE eargs j ab;have cu:(Up (ZJ p op text eargs.length n))[(j:Int).toNat]?=some [.int .i64 (ZJ p op text eargs.length n)[j]]:=by
    rw [Up,Tn,Tk,Tc av];rfl
   have hμ:((eargs.length:Int) - ((j:Int)+1)).toNat<((eargs.length:Int) - (j:Int)).toNat:=oM;generalize (ZJ p op text eargs.length n)[j]=y at ha cu;generalize eargs[j]=e at ha hr dy;obtain ⟨x1,x2,x3,x4,x5⟩:=e;(conv=>whnf);refine ⟨_,oM,hr,wN ?_⟩;refine ⟨_,oM,cu,wN ?_⟩;refine ⟨oM,pl,p,r,vs,more,rfl,hp,.mk x1 x2 x3 x4 x5,rfl,⟨oM,oM⟩,fun f hf=>?_⟩;rw [hf] at ha
   cases f with
   | none =>
    simp only [RtK];(conv=>whnf)
    (repeat (refine ⟨rfl,?_⟩;conv=>whnf))
    refine Zl ?_;exact ⟨⟨j+1,c1,c2,c3,c4,c5,c6,d1,d2,rfl,rfl,oM,aa,ha⟩,hμ⟩
   | some ae =>
   obtain ⟨a,e⟩:=ae;simp only at ha;subst ha;simp only [RtK] at h |-;exact mq52
  exact h.elim
 exact h.elim
def Zd7 {p:Pr} {s:Bs} {n:Int} (h:lkM s (JJ p)=some n):∃(k:Nat) (d:Re),n=k/\p.rels[k]?=some d/\d.name=s:=by
 exact mq149
def ZcT {p:Pr} {s:Bs} {n:Nat} {k:Nat} {d:Re} (h:lkM s (JJ p)=some (k:Int)) (hd:p.rels[k]?=some d):Xc p s n=if d.fields.length=n then ZZ p d.fields else List.replicate n (-1):=by
 simp only [Xc,h,Tn,hd]
def Zhy {p:Pr} {s:Bs} {n:Nat} (h:lkM s (JJ p)=none):Xc p s n=List.replicate n (-1):=by
 simp only [Xc,h]
def Zk9 (p:Pr) (s:Bs) (n:Nat):(Xc p s n).length=n:=by
 unfold Xc
 split
 ·simp
 split
 ·simp
 split
 ·simp [ZZ, *]
 simp
def Zuh (m:Nat):Zq:=Zce fun rest pl p r vs more K=>match rest with
 | [.d (.str name),.d (.sl rows),.func f [.ptr 0 0] []]=>∃args,rows=Zs pl args/\f=38/\(szS szE args<=m/\m<=2097152)/\∀v b,Zbh p args (Xc p name args.length) (vs,more)=(v,b)->K (.ret (.tuple [])) v b
 | _=>False
def ZGa {m:Nat}:OKw w0 nG [(38,ZCu m),(77,UY)] 37 (Zuh m):=by
 refine pwo Tryz.func37 fun args σ K h=>?_
 unfold Zuh Zce at h
 split at h
 ·obtain ⟨pl,p,r,vs,more,rfl,hp,h⟩:=h;split at h
  ·rename_i name rows f
   obtain ⟨eargs,rfl,rfl,⟨hz,hm⟩,h⟩:=h;have l5:=Zo szE eargs;have am:(Zs pl eargs).length=eargs.length:=by rw [Zd,Tf]
   refine pwu [(3,⟨[46],[0,3,8,9,44,45],fun w σ=>∃(j:Nat) (v:Vs) (b:Bool),w=[.d (.int .i64 j)]/\σ=⟨ZcS pl p r v b,[],0⟩/\j<=eargs.length /\
     Zbh p (eargs.drop j) ((Xc p name eargs.length).drop j) (v,b)=Zbh p eargs (Xc p name eargs.length) (vs,more),
    fun w _=>match w with | [.d (.int _ j)]=>((eargs.length:Int) - j).toNat | _=>0⟩)] 7 false ?_
   have step:∀(j:Nat) (v:Vs) (b:Bool),j<eargs.length->Zbh p (eargs.drop j) ((Xc p name eargs.length).drop j) (v,b)=Zbh p eargs (Xc p name eargs.length) (vs,more)->∃(x:Ex) (y:Int),(Zs pl eargs)[(j:Int).toNat]?=some (Z7 pl x)/\(Xc p name eargs.length)[j]?=some y/\szE x<=m /\
     ∀v' b',gvE p x y (v,b)=(v',b')->Zbh p (eargs.drop (j+1)) ((Xc p name eargs.length).drop (j+1)) (v',b')=Zbh p eargs (Xc p name eargs.length) (vs,more):=fun j v b ab ha=>by
    have av:j<(Xc p name eargs.length).length:=by rw [Zk9];exact ab
    have dy:=Zu szE eargs j ab;rw [Tq ab,Tq av] at ha;simp only [Zbh] at ha;exact ⟨eargs[j],(Xc p name eargs.length)[j],by rw [Zd,Tn,Tk,Tc ab];rfl,Tc av,oM,fun v' b' hg=>by rw [hg] at ha;exact ha⟩
   have fin:∀(j:Nat) (v:Vs) (b:Bool),¬j<eargs.length->Zbh p (eargs.drop j) ((Xc p name eargs.length).drop j) (v,b)=Zbh p eargs (Xc p name eargs.length) (vs,more)->K (.ret (.tuple [])) ⟨ZcS pl p r v b,[],0⟩:=fun j v b hn ha=>by
    rw [TA oM] at ha;exact h v b ha.symm
   conv=>whnf
   refine ZJ2 (fun v hv=>?_) (fun hv=>wN ?_)
   ·rw [ZX] at hv;obtain ⟨i,hi,rfl⟩:=TF.1 hv;obtain ⟨k,d,rfl,h2,h3⟩:=Zd7 hi;have hr:(p.rels.map (ZO pl))[(k:Int).toNat]?=some (ZO pl d):=by rw [Tn,Tk,h2];rfl
    have hT:=ZcT (n:=eargs.length) hi h2;obtain ⟨d1,d2,d3,d4,d5,d6⟩:=d;simp only at hT;(conv=>whnf);refine ⟨_,oM,hr,wN ?_⟩;refine ⟨⟨0,vs,more,rfl,rfl,oM,rfl⟩,?_⟩
    rintro w σ1 ⟨j,v,b,rfl,rfl,hj,ha⟩
    conv=>whnf
    refine ZJU (fun hc=>?_) (fun hc=>?_);rotate_left
    ·conv=>whnf
     exact fin j v b oM ha
    obtain ⟨⟨x1,x2,x3,x4,x5⟩,y,cj,hy,dy,lj⟩:=step j v b oM ha;have hμ:((eargs.length:Int) - ((j:Int)+1)).toNat<((eargs.length:Int) - (j:Int)).toNat:=oM;(conv=>whnf);refine ⟨_,oM,cj,wN ?_⟩;refine ZJU (fun hq=>?_) (fun hq=>?_)
    ·have hq:d2.length=eargs.length:=by have hq:((d2.map Zn).length:Int)=((Zs pl eargs).length:Int):=hq;rw [Tf,am] at hq;omega
     rw [hT,Tg hq,ZZ,Tk] at hy;obtain ⟨⟨f1,f2⟩,hf,hy⟩:=TF.1 hy;have cu:(d2.map Zn)[(j:Int).toNat]?=some (Zn ⟨f1,f2⟩):=by rw [Tn,Tk,hf];rfl
     simp only at hy;(conv=>whnf)
     (repeat (refine ⟨rfl,?_⟩;conv=>whnf))
     refine ⟨_,oM,hr,wN ?_⟩
     (repeat (refine ⟨rfl,?_⟩;conv=>whnf))
     refine ⟨_,oM,cu,wN ?_⟩
     (repeat (refine ⟨rfl,?_⟩;conv=>whnf))
     refine ⟨pl,p,rfl,hp.bp,hp.ends,fun n hn=>?_⟩;rw [hy] at hn;subst hn;(conv=>whnf)
     (repeat (refine ⟨rfl,?_⟩;conv=>whnf))
     exact mq59
    have hq:¬d2.length=eargs.length:=by have hq:¬((d2.map Zn).length:Int)=((Zs pl eargs).length:Int):=hq;rw [Tf,am] at hq;omega
    rw [hT,Tb hq,Sm] at hy;split at hy
    ·cases hy
     conv=>whnf
     exact mq59
    cases hy
   rw [ZX,Option.map_eq_none_iff] at hv;have hT:=Zhy (n:=eargs.length) hv;refine ⟨⟨0,vs,more,rfl,rfl,oM,rfl⟩,?_⟩
   rintro w σ1 ⟨j,v,b,rfl,rfl,hj,ha⟩
   conv=>whnf
   refine ZJU (fun hc=>?_) (fun hc=>?_);rotate_left
   ·conv=>whnf
    exact fin j v b oM ha
   obtain ⟨⟨x1,x2,x3,x4,x5⟩,y,cj,hy,dy,lj⟩:=step j v b oM ha;have hμ:((eargs.length:Int) - ((j:Int)+1)).toNat<((eargs.length:Int) - (j:Int)).toNat:=oM;rw [hT,Sm] at hy;split at hy
   ·cases hy
    conv=>whnf
    refine ⟨_,oM,cj,wN ?_⟩;exact mq59
   cases hy
  exact h.elim
 exact h.elim
def Zhz (m:Nat):Zq:=Zce fun rest pl p r vs more K=>match rest with
 | [.d (.sl rows)]=>∃l,rows=XL pl l/\(szS szL l<=m/\m<=2097152)/\ZdG l=true/\∀v b,Zpd p l (vs,more)=(v,b)->K (.ret (.tuple [])) v b
 | _=>False
def Zui {op:Nat} {rel:Bs} {args:List Ex} {body:List Li} {a:Nat} (h:YT (.mk op rel args body a)=true) (h1:¬op<=2) (h2:op<=8):∃x y,args=[x,y]:=by
 simp only [YT,Xk] at h;rw [Tb oM,Tg oM] at h;simp only [Tm,TV] at h
 match args,h.1.2.1 with
 | [x,y],_=>exact ⟨x,y,rfl⟩
def Zpf {op:Nat} {rel:Bs} {args:List Ex} {body:List Li} {a:Nat} (h:YT (.mk op rel args body a)=true):ZdG body=true:=by
 simp only [YT,Tm] at h;exact h.2.2
def Zuj (m:Nat):Tbl:=[(39,spB Zhz m),(38,ZCu m),(37,Zuh m),(79,ZfT)]
def Zuk {m:Nat} (ht:TO w0 nG (Zuj m)):PC w0 nG 39 (Zhz m):=by
 refine VI ZR mixed (tbl:=Zuj m) ht Tryz.func39 rfl kR kR ?_;intro args σ K h
 unfold Zhz Zce at h
 split at h
 ·obtain ⟨pl,p,r,vs,more,rfl,hp,h⟩:=h;split at h
  ·rename_i rows
   obtain ⟨l,rfl,⟨hz,hm⟩,bv,h⟩:=h;have l5:=Zo szL l;have am:(XL pl l).length=l.length:=by rw [Zp,Tf]
   obtain ⟨F,hF⟩:∃F,Zpd p l (vs,more)=F:=⟨_,rfl⟩
   have h:∀v b,F=(v,b)->K (.ret (.tuple [])) ⟨ZcS pl p r v b,[],0⟩:=fun v b g=>h v b (hF.trans g)
   refine ⟨Zr [(1,⟨[11],[0,9,10],fun w σ=>∃(j:Nat) (v:Vs) (b:Bool),w=[.d (.int .i64 j)]/\σ=⟨ZcS pl p r v b,[],0⟩/\j<=l.length/\Zpd p (l.drop j) (v,b)=F,
    fun w _=>match w with | [.d (.int _ j)]=>((l.length:Int) - j).toNat | _=>0⟩),
    (4,⟨[18],[0,5,9,10,11,16,17],fun w σ=>∃(j i op:Nat) (rel:Bs) (eargs:List Ex) (body:List Li) (at':Nat) (v:Vs) (b:Bool),w=[.ptr 0 0,.ptr 7 0,.d (.sl (XL pl l)),.d (.int .i64 ((XL pl l).length:Nat)),.d (.int .i64 j),.d (.sl (Zs pl eargs)),.d (.int .i64 ((Zs pl eargs).length:Nat)),.d (.int .i64 i)] /\
     σ=⟨ZcS pl p r v b++[.cells 75 ((XD pl (.mk op rel eargs body at')).map .d)],[],0⟩/\l[j]?=some (.mk op rel eargs body at')/\i<=eargs.length/\(szS szE eargs<=m/\szS szL body+1<=m)/\ZdG body=true /\
     Zpd p (l.drop (j+1)) (Zpd p body (Zbh p (eargs.drop i) (List.replicate (eargs.length - i) 0) (v,b)))=F,
    fun w _=>match w with | [_,_,_,_,_,_,.d (.int _ n),.d (.int _ i)]=>(n - i).toNat | _=>0⟩)],Wk [],YG [4],7,false,sM,Td rfl,?_⟩
   conv=>whnf
   refine ⟨⟨0,vs,more,rfl,rfl,oM,hF⟩,?_⟩
   rintro w σ1 ⟨j,v,b,rfl,rfl,hj,ha⟩
   conv=>whnf
   refine ZJU (fun hc=>?_) (fun hc=>?_);rotate_left
   ·conv=>whnf
    rw [TA oM] at ha;exact h v b ha.symm
   have ab:j<l.length:=oM;have hr:(XL pl l)[(j:Int).toNat]?=some (XD pl l[j]):=by rw [Zp,Tn,Tk,Tc ab];rfl
   have dy:=Zu szL l j ab;have iu:YT l[j]=true:=by rw [XM,To] at bv;exact bv _ (TM ab)
   rw [Tq ab] at ha;simp only [Zpd] at ha;have hμ:((l.length:Int) - ((j:Int)+1)).toNat<((l.length:Int) - (j:Int)).toNat:=oM;have jq:l[j]?=some l[j]:=Tc ab;generalize l[j]=x at ha hr dy iu jq;obtain ⟨op,rel,eargs,body,at'⟩:=x;simp only [szL,Xw,X2] at dy;simp only [gvL] at ha;have aj:=Zo szE eargs;have f9:(Zs pl eargs).length=eargs.length:=by rw [Zd,Tf]
   conv=>whnf
   refine ⟨_,oM,hr,wN ?_⟩;refine ZJU (fun h2=>wN ?_) (fun h2=>wN ?_)
   ·have h2:op<=2:=by have h2:(op:Int)<=2:=h2;omega
    rw [Tg h2] at ha;refine ⟨pl,p,r,v,b,rfl,hp,eargs,rfl,rfl,⟨oM,hm⟩,fun v' b' hg=>wN ?_⟩;rw [hg] at ha;refine Zl ?_;exact ⟨⟨j+1,v',b',rfl,rfl,oM,ha⟩,hμ⟩
   have h2:¬op<=2:=by have h2:¬(op:Int)<=2:=h2;omega
   rw [Tb h2] at ha;refine ZJU (fun h8=>?_) (fun h8=>wN ?_)
   ·have h8:op<=8:=by have h8:(op:Int)<=8:=h8;omega
    rw [Tg h8] at ha;obtain ⟨⟨a1,a2,a3,a4,a5⟩,⟨b1,b2,b3,b4,b5⟩,rfl⟩:=Zui iu h2 h8;simp only [szS] at dy;(conv=>whnf);refine ⟨pl,p,r,v,b,rfl,hp,op,rel,.mk a1 a2 a3 a4 a5,.mk b1 b2 b3 b4 b5,[],body,at',rfl,fun n hn=>wN ?_⟩;simp only [hn,Zbh] at ha;refine ⟨Z7 pl (.mk a1 a2 a3 a4 a5),dM,rfl,wN ?_⟩;refine ⟨pl,p,r,v,b,rfl,hp,.mk a1 a2 a3 a4 a5,rfl,⟨oM,hm⟩,fun v1 b1' hg1=>wN ?_⟩;rw [hg1] at ha;refine ⟨Z7 pl (.mk b1 b2 b3 b4 b5),dM,rfl,wN ?_⟩;refine ⟨pl,p,r,v1,b1',rfl,hp,.mk b1 b2 b3 b4 b5,rfl,⟨oM,hm⟩,fun v2 b2' y5=>wN ?_⟩;rw [y5] at ha;refine Zl ?_;exact ⟨⟨j+1,v2,b2',rfl,rfl,oM,ha⟩,hμ⟩
   have h8:¬op<=8:=by have h8:¬(op:Int)<=8:=h8;omega
   rw [Tb h8] at ha;refine ⟨⟨j,0,op,rel,eargs,body,at',v,b,rfl,rfl,jq,oM,⟨oM,oM⟩,Zpf iu,ha⟩,?_⟩
   rintro w σ1 ⟨j',i,op',rel',eargs',body',at'',v2,b2,hw,rfl,lk,hi,⟨wx,co⟩,zh,gz⟩
   have ej:(some (PV.d (.int .i64 (j:Int))):Option PV)=some (.d (.int .i64 (j':Int))):=congrArg (fun l:List PV=>l[4]?) hw;obtain rfl:j=j':=by have ej:=Option.some.inj ej;injection ej with ej;injection ej with _ ej;omega
   rw [jq] at lk;obtain ⟨rfl,rfl,rfl,rfl,rfl⟩:=Li.mk.inj (Option.some.inj lk);have hw:w=[.d (.int .i64 i)]:=congrArg (List.drop 7) hw;subst hw;(conv=>whnf);refine ZJU (fun bw=>?_) (fun bw=>?_)
   ·have av:i<eargs.length:=by have bw:(i:Int)<((Zs pl eargs).length:Int):=bw;omega
    have cu:(Zs pl eargs)[(i:Int).toNat]?=some (Z7 pl eargs[i]):=by rw [Zd,Tn,Tk,Tc av];rfl
    have um:=Zu szE eargs i av;rw [Tq av,show eargs.length - i=(eargs.length - (i+1))+1 by omega,List.replicate_succ] at gz;simp only [Zbh] at gz;generalize eargs[i]=e at gz cu um;obtain ⟨x1,x2,x3,x4,x5⟩:=e;(conv=>whnf);refine ⟨_,oM,cu,wN ?_⟩;refine ⟨pl,p,r,v2,b2,rfl,hp,.mk x1 x2 x3 x4 x5,rfl,⟨oM,hm⟩,fun v' b' hg=>wN ?_⟩;rw [hg] at gz;refine Zl ?_;exact ⟨⟨j,i+1,op,rel,eargs,body,at',v',b',rfl,rfl,jq,oM,⟨wx,co⟩,zh,gz⟩,by show (((Zs pl eargs).length:Int) - ((i:Int)+1)).toNat<(((Zs pl eargs).length:Int) - (i:Int)).toNat;omega⟩
   have hii:i=eargs.length:=by have bw:¬(i:Int)<((Zs pl eargs).length:Int):=bw;omega
   subst hii;rw [SH,Nat.sub_self] at gz;simp only [Zbh,List.replicate_zero] at gz;(conv=>whnf);refine ⟨oM,pl,p,r,v2,b2,rfl,hp,body,rfl,⟨oM,oM⟩,zh,fun v' b' hg=>wN ?_⟩;rw [hg] at gz;refine Zl ?_;exact ⟨⟨j+1,v',b',rfl,rfl,oM,gz⟩,hμ⟩
  exact h.elim
 exact h.elim
def XR (v:Vs) (x:Bs):Bool:=decide ((lkM x v).getD (-1)=-1)
def Zpg (X:List Bs) (v:Vs):Nat:=X.countP (XR v)
def Less (X:List Bs) (s s':VS):Prop:=(∀x,XR s'.1 x=true->XR s.1 x=true)/\(s'.2=true->s.2=true\/∃x∈X,XR s.1 x=true/\XR s'.1 x=false)
def Less.rfl' {X:List Bs} {s:VS}:Less X s s:=⟨fun _ h=>h,fun h=>.inl h⟩
def Less.trans {X:List Bs} {a b c:VS} (h:Less X a b) (k:Less X b c):Less X a c:=by
 refine ⟨fun x hx=>h.1 x (k.1 x hx),fun hc=>?_⟩;rcases k.2 hc with hb | ⟨x,hx,h1,h2⟩
 ·rcases h.2 hb with ha | ⟨x,hx,h1,h2⟩
  ·exact .inl ha
  refine .inr ⟨x,hx,h1,?_⟩
  cases hc':XR c.1 x with
  | false=>rfl
  | true=>rw [k.1 x hc'] at h2;cases h2
 exact .inr ⟨x,hx,h.1 x h1,h2⟩
def Less.sub {X Y:List Bs} {a b:VS} (h:Less X a b) (hs:∀x∈X,x∈Y):Less Y a b :=
 ⟨h.1,fun hb=>(h.2 hb).imp id fun ⟨x,hx,h1⟩=>⟨x,hs x hx,h1⟩⟩
def Zul {t:Bs} {n:Int} {s:VS}:Less [t] s (ZCt t n s):=by
 unfold ZCt
 split
 ·rename_i h
  have hu:XR s.1 t=true:=by
   unfold XR
   rcases h with h | ⟨h1,_⟩
   ·have:lkM t s.1=none:=by simpa using h
    rw [this];rfl
   cases hl:lkM t s.1 with
   | none=>rfl
   | some v=>rw [hl] at h1;simp at h1;simp [h1]
  refine ⟨fun x hx=>?_,fun hm=>?_⟩
  ·by_cases hxt:x=t
   ·subst hxt;exact hu
   unfold XR at hx |-
   simp only [Za3,Tb hxt] at hx;exact hx
  simp only [SB,TV] at hm;rcases hm with hm | hm
  ·exact .inl hm
  refine .inr ⟨t,sM,hu,?_⟩;unfold XR
  simp only [Za3,if_true,SE];simpa using hm
 exact .rfl'
mutual
def Zxm (p:Pr):∀(e:Ex) (n:Int) (s:VS),Less (nvE e) s (gvE p e n s)
 | .mk op text num args a,n,s=>by
  simp only [gvE,nvE];split
  ·exact Zul
  exact Ut p args _ s
def Ut (p:Pr):∀(l:List Ex) (ns:List Int) (s:VS),Less (ZDr l) s (Zbh p l ns s)
 | [],_,s=>.rfl'
 | e::l,[],s=>.rfl'
 | e::l,n::ns,s=>by
  simp only [Zbh,ZDr];exact ((Zxm p e n s).sub fun x hx=>List.mem_append_left _ hx).trans ((Ut p l ns _).sub fun x hx=>List.mem_append_right _ hx)
end
mutual
def Zxn (p:Pr):∀(x:Li) (s:VS),Less (nvL x) s (gvL p x s)
 | .mk op rel args body a,s=>by
  simp only [gvL,nvL];split
  ·exact (Ut p args _ s).sub fun x hx=>List.mem_append_left _ hx
  split
  ·exact (Ut p args _ s).sub fun x hx=>List.mem_append_left _ hx
  exact ((Ut p args _ s).sub fun x hx=>List.mem_append_left _ hx).trans ((ZfU p body _).sub fun x hx=>List.mem_append_right _ hx)
def ZfU (p:Pr):∀(l:List Li) (s:VS),Less (ZF4 l) s (Zpd p l s)
 | [],s=>.rfl'
 | x::l,s=>by
  simp only [Zpd,ZF4];exact ((Zxn p x s).sub fun y hy=>List.mem_append_left _ hy).trans ((ZfU p l _).sub fun y hy=>List.mem_append_right _ hy)
end
def Zum {v v':Vs} (h:∀x,XR v' x=true->XR v x=true):∀X:List Bs,Zpg X v'<=Zpg X v
 | []=>Tw _
 | x::X=>by
  have ih:=Zum h X;unfold Zpg at ih |-
  rw [List.countP_cons,List.countP_cons]
  cases h1:XR v' x with
  | false=>simp;omega
  | true=>rw [h x h1];simpa using ih
def ZyB {v v':Vs} (h:∀x,XR v' x=true->XR v x=true):∀{X:List Bs} {x:Bs},x∈X->XR v x=true->XR v' x=false->Zpg X v'<Zpg X v
 | y::X,x,hx,h1,h2=>by
  rcases Tv.1 hx with rfl | hx
  ·have:=Zum h X;unfold Zpg at this |-
   rw [List.countP_cons,List.countP_cons,h1,h2];simp;omega
  have ih:=ZyB h hx h1 h2;unfold Zpg at ih |-
  rw [List.countP_cons,List.countP_cons]
  cases h3:XR v' y with
  | false=>simp;omega
  | true=>rw [h y h3];simpa using ih
def Zq0 (p:Pr) (r:Ru) (v:Vs):Less (nvR r) (v,false) (Ur p r v):=by
 unfold Ur nvR
 exact ((Ut p r.args _ _).sub fun x hx=>List.mem_append_left _ hx).trans ((ZfU p r.body _).sub fun x hx=>List.mem_append_right _ hx)
def Zla (p:Pr) (r:Ru) (v:Vs):Zpg (nvR r) (Ur p r v).1<=Zpg (nvR r) v/\((Ur p r v).2=true->Zpg (nvR r) (Ur p r v).1<Zpg (nvR r) v):=by
 have h:=Zq0 p r v;refine ⟨Zum h.1 _,fun hb=>?_⟩;rcases h.2 hb with h1 | ⟨x,hx,h1,h2⟩
 ·cases h1
 exact ZyB h.1 hx h1 h2
def Zdv (p:Pr) (r:Ru):∀(n:Nat) (v:Vs),Zpg (nvR r) v<n->∃w,VN p r n v=some w
 | 0,v,h=>oM
 | n+1,v,h=>by
  simp only [VN];split
  ·rename_i hb
   exact Zdv p r n _ (by have:=(Zla p r v).2 hb;omega)
  exact ⟨_,rfl⟩
def Zxo (p:Pr) (r:Ru):VN p r ((nvR r).length+1) []=some (Zaj p r):=by
 obtain ⟨w,hw⟩:=Zdv p r ((nvR r).length+1) [] (Nat.lt_succ_of_le List.countP_le_length);unfold Zaj
 rw [hw];rfl
def ZGb (X:List Bs) (m:List (Bs×MV)):Nat:=X.countP fun x=>match lkM x m with | some (.one (.int _ n))=>decide (n=-1) | _=>true
def Zun (X:List Bs) (v:Vs):ZGb X (mvM mvI v)=Zpg X v:=by
 unfold ZGb Zpg
 congr 1
 funext x
 rw [ZX];unfold XR
 cases lkM x v with
 | none=>rfl
 | some n=>rfl
abbrev ZIV (pl:Pl) (p:Pr) (r:Ru) (v:Vs) (b:Bool):List Box:=Zgz pl p++[.cells 37 ((ZH pl r).map .d),.dmap (mvM mvI v),.cells 111 [.ptr 0 0,.d (.str r.head),.d (.sl (Zs pl r.args)),.d (.sl (XL pl r.body)),.d (.int .i64 (pl r.at')),.mp 6,.d (.bool b)]]
def Zd8 (m:Nat):Zq:=fun args σ K=>match args,σ with
 | [.ptr 0 0,.agg c],⟨bx,[],0⟩=>∃pl p r,c=(ZH pl r).map .d/\bx=Zgz pl p/\OKP p/\(Zdk r<=m/\m<=2097152)/\ZdG r.body=true/\K (.ret (.ptr 7 0)) ⟨ZIV pl p r (Zaj p r) false,[],0⟩
 | _,_=>False
def Zup {m:Nat}:OKw w0 nG [(37,Zuh m),(39,Zhz m)] 18 (Zd8 m):=by
 refine pwo Tryz.func18 fun args σ K h=>?_
 unfold Zd8 at h
 split at h
 ·obtain ⟨pl,p,⟨head,eargs,body,at'⟩,rfl,rfl,hp,⟨hz,hm⟩,bv,h⟩:=h;simp only [Zdk] at hz;refine pwu [(3,⟨[],[3,5],fun w σ=>∃(v:Vs) (b:Bool),w=[]/\σ=⟨ZIV pl p ⟨head,eargs,body,at'⟩ v b,[],0⟩/\(b=true->∃n,VN p ⟨head,eargs,body,at'⟩ n v=some (Zaj p ⟨head,eargs,body,at'⟩))/\(b=false->v=Zaj p ⟨head,eargs,body,at'⟩),
   fun _ σ=>match σ with
    | ⟨_::_::_::_::_::_::.dmap m::.cells _ [_,_,_,_,_,_,.d (.bool b)]::_,_,_⟩=>2 * ZGb (nvR ⟨head,eargs,body,at'⟩) m+(if b=true then 1 else 0)
    | _=>0⟩)] 8 false ?_
  conv=>whnf
  refine ⟨⟨[],true,rfl,rfl,fun _=>⟨_,Zxo _ _⟩,fun h=>by cases h⟩,?_⟩
  rintro w σ1 ⟨v,b,rfl,rfl,h1,h2⟩
  cases b with
  | false =>
   have h2:=h2 rfl;(conv=>whnf);subst h2;exact h
  | true =>
  obtain ⟨n,hn⟩:=h1 rfl
  cases n with
  | zero=>cases hn
  | succ n =>
  simp only [VN] at hn;(conv=>whnf);refine ⟨pl,p,⟨head,eargs,body,at'⟩,v,false,rfl,hp,eargs,rfl,rfl,⟨oM,hm⟩,fun v1 b1 hg1=>wN ?_⟩;refine ⟨pl,p,⟨head,eargs,body,at'⟩,v1,b1,rfl,hp,body,rfl,⟨oM,hm⟩,bv,fun v2 b2 y5=>?_⟩;have hr:Ur p ⟨head,eargs,body,at'⟩ v=(v2,b2):=by unfold Ur;simp only [hg1];exact y5
  have hc:=Zla p ⟨head,eargs,body,at'⟩ v;rw [hr] at hn hc;simp only at hn hc;have hμ:2 * ZGb (nvR ⟨head,eargs,body,at'⟩) (mvM mvI v2)+(if b2=true then 1 else 0)<2 * ZGb (nvR ⟨head,eargs,body,at'⟩) (mvM mvI v)+(if true=true then 1 else 0):=by
   rw [Zun,Zun]
   cases b2 with
   | true=>have:=hc.2 rfl;simp;omega
   | false=>have:=hc.1;simp;omega
  conv=>whnf
  exact ⟨⟨v2,b2,rfl,rfl,fun hb=>by subst hb;exact ⟨n,by simpa using hn⟩,fun hb=>by subst hb;simpa using hn⟩,hμ⟩
 exact h.elim
def Zxp (m:Nat):Zq:=Zce fun rest pl p r vs more K=>match rest with
 | [.d (.str name),.d (.sl rows),.func f [.ptr 0 0] []]=>∃args,rows=Zs pl args/\f=80/\(szS szE args<=m/\m<=2097152)/\∀x,Za8 p vs args (Xc p name args.length)=x->RtK pl K vs more x
 | _=>False
def ZGd {m:Nat}:OKw w0 nG [(80,ZCv m),(77,UY)] 37 (Zxp m):=by
 refine pwo Tryz.func37 fun args σ K h=>?_
 unfold Zxp Zce at h
 split at h
 ·obtain ⟨pl,p,r,vs,more,rfl,hp,h⟩:=h;split at h
  ·rename_i name rows f
   obtain ⟨eargs,rfl,rfl,⟨hz,hm⟩,h⟩:=h;have l5:=Zo szE eargs;obtain ⟨X,hX⟩:∃X,Za8 p vs eargs (Xc p name eargs.length)=X:=⟨_,rfl⟩
   have h:=h X hX;have am:(Zs pl eargs).length=eargs.length:=by rw [Zd,Tf]
   refine pwu [(3,⟨[46],[0,3,8,9,44,45],fun w σ=>∃(j:Nat),w=[.d (.int .i64 j)]/\σ=⟨ZcS pl p r vs more,[],0⟩/\j<=eargs.length /\
     Za8 p vs (eargs.drop j) ((Xc p name eargs.length).drop j)=X,
    fun w _=>match w with | [.d (.int _ j)]=>((eargs.length:Int) - j).toNat | _=>0⟩)] 7 false ?_
   have step:∀(j:Nat),j<eargs.length->Za8 p vs (eargs.drop j) ((Xc p name eargs.length).drop j)=X->∃(x:Ex) (y:Int),(Zs pl eargs)[(j:Int).toNat]?=some (Z7 pl x)/\(Xc p name eargs.length)[j]?=some y/\szE x<=m /\
     (rtE p vs x y=none->Za8 p vs (eargs.drop (j+1)) ((Xc p name eargs.length).drop (j+1))=X)/\∀f,rtE p vs x y=some f->X=some f:=fun j ab ha=>by
    have av:j<(Xc p name eargs.length).length:=by rw [Zk9];exact ab
    have dy:=Zu szE eargs j ab;rw [Tq ab,Tq av] at ha;simp only [Za8] at ha;exact ⟨eargs[j],(Xc p name eargs.length)[j],by rw [Zd,Tn,Tk,Tc ab];rfl,Tc av,oM,fun hg=>by rw [hg] at ha;exact ha,fun f hg=>by rw [hg] at ha;exact ha.symm⟩
   have fin:∀(j:Nat),¬j<eargs.length->Za8 p vs (eargs.drop j) ((Xc p name eargs.length).drop j)=X->K (.ret (.tuple [])) ⟨ZcS pl p r vs more,[],0⟩:=fun j hn ha=>by
    rw [TA oM] at ha;subst ha;exact h
   conv=>whnf
   refine ZJ2 (fun v hv=>?_) (fun hv=>wN ?_)
   ·rw [ZX] at hv;obtain ⟨i,hi,rfl⟩:=TF.1 hv;obtain ⟨k,d,rfl,h2,h3⟩:=Zd7 hi;have hr:(p.rels.map (ZO pl))[(k:Int).toNat]?=some (ZO pl d):=by rw [Tn,Tk,h2];rfl
    have hT:=ZcT (n:=eargs.length) hi h2;obtain ⟨d1,d2,d3,d4,d5,d6⟩:=d;simp only at hT;(conv=>whnf);refine ⟨_,oM,hr,wN ?_⟩;refine ⟨⟨0,rfl,rfl,oM,hX⟩,?_⟩
    rintro w σ1 ⟨j,rfl,rfl,hj,ha⟩
    conv=>whnf
    refine ZJU (fun hc=>?_) (fun hc=>?_);rotate_left
    ·conv=>whnf
     exact fin j oM ha
    obtain ⟨⟨x1,x2,x3,x4,x5⟩,y,cj,hy,dy,lj,dc⟩:=step j oM ha;have hμ:((eargs.length:Int) - ((j:Int)+1)).toNat<((eargs.length:Int) - (j:Int)).toNat:=oM;(conv=>whnf);refine ⟨_,oM,cj,wN ?_⟩;refine ZJU (fun hq=>?_) (fun hq=>?_)
    ·have hq:d2.length=eargs.length:=by have hq:((d2.map Zn).length:Int)=((Zs pl eargs).length:Int):=hq;rw [Tf,am] at hq;omega
     rw [hT,Tg hq,ZZ,Tk] at hy;obtain ⟨⟨f1,f2⟩,hf,hy⟩:=TF.1 hy;have cu:(d2.map Zn)[(j:Int).toNat]?=some (Zn ⟨f1,f2⟩):=by rw [Tn,Tk,hf];rfl
     simp only at hy;(conv=>whnf)
     (repeat (refine ⟨rfl,?_⟩;conv=>whnf))
     refine ⟨_,oM,hr,wN ?_⟩
     (repeat (refine ⟨rfl,?_⟩;conv=>whnf))
     refine ⟨_,oM,cu,wN ?_⟩
     (repeat (refine ⟨rfl,?_⟩;conv=>whnf))
     refine ⟨pl,p,rfl,hp.bp,hp.ends,fun n hn=>?_⟩;rw [hy] at hn;subst hn;(conv=>whnf)
     (repeat (refine ⟨rfl,?_⟩;conv=>whnf))
     exact mq34
    have hq:¬d2.length=eargs.length:=by have hq:¬((d2.map Zn).length:Int)=((Zs pl eargs).length:Int):=hq;rw [Tf,am] at hq;omega
    rw [hT,Tb hq,Sm] at hy;split at hy
    ·cases hy
     conv=>whnf
     exact mq34
    cases hy
   rw [ZX,Option.map_eq_none_iff] at hv;have hT:=Zhy (n:=eargs.length) hv;refine ⟨⟨0,rfl,rfl,oM,hX⟩,?_⟩
   rintro w σ1 ⟨j,rfl,rfl,hj,ha⟩
   conv=>whnf
   refine ZJU (fun hc=>?_) (fun hc=>?_);rotate_left
   ·conv=>whnf
    exact fin j oM ha
   obtain ⟨⟨x1,x2,x3,x4,x5⟩,y,cj,hy,dy,lj,dc⟩:=step j oM ha;have hμ:((eargs.length:Int) - ((j:Int)+1)).toNat<((eargs.length:Int) - (j:Int)).toNat:=oM;rw [hT,Sm] at hy;split at hy
   ·cases hy
    conv=>whnf
    refine ⟨_,oM,cj,wN ?_⟩;exact mq34
   cases hy
  exact h.elim
 exact h.elim
def ZhA (m:Nat):Zq:=Zce fun rest pl p r vs more K=>match rest with
 | [.d (.str name),.d (.sl rows),.d (.int .i64 a),.d (.bool hd)]=>∃args an,rows=Zs pl args/\a=pl an/\(szS szE args<=m/\m<=2097152)/\∀x,Zrk p vs name args an hd=x->RtK pl K vs more x
 | _=>False
def Znz (m:Nat):ZL (ZhA m):=ZfQ fun rest pl p r vs more K K' hK h=>by
 split at h
 ·obtain ⟨e,an,h1,h2,h3,h4⟩:=h;exact ⟨e,an,h1,h2,h3,fun x g=>Zja hK (h4 x g)⟩
 exact h.elim
def ZCy {m:Nat}:OKw w0 nG [(37,Zxp m)] 41 (ZhA m):=by
 refine pwo Tryz.func41 fun args σ K h=>?_
 unfold ZhA Zce at h
 split at h
 ·obtain ⟨pl,p,r,vs,more,rfl,hp,h⟩:=h;split at h
  ·rename_i name rows a hd
   obtain ⟨eargs,an,rfl,rfl,⟨hz,hm⟩,h⟩:=h;have am:(Zs pl eargs).length=eargs.length:=by rw [Zd,Tf]
   simp only [Zrk] at h;refine pwv [] 7 false ?_;refine ZJ2 (fun v hv=>?_) (fun hv=>?_);rotate_left
   ·rw [ZX,Option.map_eq_none_iff] at hv;rw [hv] at h;have h:=h _ rfl;simp only [RtK] at h;exact mq52
   rw [ZX] at hv;obtain ⟨i,hi,rfl⟩:=TF.1 hv;obtain ⟨k,d,rfl,h2,h3⟩:=Zd7 hi;have hr:(p.rels.map (ZO pl))[(k:Int).toNat]?=some (ZO pl d):=by rw [Tn,Tk,h2];rfl
   rw [hi] at h;simp only [Tn,h2] at h;obtain ⟨d1,d2,d3,d4,d5,d6⟩:=d;simp only at h;have hb:(hd && d3)=true->K (.panic (ZCw (pl an) 185)) ⟨ZcS pl p r vs more,[],0⟩:=fun g=>by
    have h:=h _ rfl;rw [Tg g] at h;exact h
   have h:(hd && d3)=false->∀x,(if d2.length≠eargs.length then some (an,182) else Za8 p vs eargs (Xc p name eargs.length))=x->RtK pl (fun pe vs' more'=>K pe ⟨ZcS pl p r vs' more',[],0⟩) vs more x:=fun g x hx=>h x (by rw [Tb (by rw [g];simp)];exact hx)
   have rest:(hd && d3)=false->∀(X:Prop),X->X:=fun _ X hX=>hX
   cases hd with
   | true =>
    conv=>whnf
    refine ⟨_,oM,hr,?_⟩
    cases d3 with
    | true =>
     conv=>whnf
     exact hb rfl
    | false =>
    exact mq33
   | false =>
   exact mq33
  exact h.elim
 exact h.elim
def orF (x:Flt) (y:Flt):Flt:=match x with | some f=>some f | none=>y
def ZfV (m:Nat):Zq:=Zce fun rest pl p r vs more K=>match rest with
 | [.d (.sl rows)]=>∃l,rows=XL pl l/\(szS szL l<=m/\m<=2097152)/\ZdG l=true/\∀x,ZgC p vs l=x->RtK pl K vs more x
 | _=>False
def ZnA (m:Nat):ZL (ZfV m):=ZfQ fun rest pl p r vs more K K' hK h=>by
 split at h
 ·obtain ⟨e,h1,h2,h3,h4⟩:=h;exact ⟨e,h1,h2,h3,fun x g=>Zja hK (h4 x g)⟩
 exact h.elim
def Zuq (m:Nat):Tbl:=[(42,spB ZfV m),(80,ZCv m),(41,ZhA m),(79,ZfT)]
def Zur {m:Nat} (ht:TO w0 nG (Zuq m)):PC w0 nG 42 (ZfV m):=by
 refine VI ZR mixed (tbl:=Zuq m) ht Tryz.func42 rfl kR kR ?_;intro args σ K h
 unfold ZfV Zce at h
 split at h
 ·obtain ⟨pl,p,r,vs,more,rfl,hp,h⟩:=h;split at h
  ·rename_i rows
   obtain ⟨l,rfl,⟨hz,hm⟩,bv,h⟩:=h;have l5:=Zo szL l;have am:(XL pl l).length=l.length:=by rw [Zp,Tf]
   obtain ⟨X,hX⟩:∃X,ZgC p vs l=X:=⟨_,rfl⟩
   have h:=h X hX;refine ⟨Zr [(1,⟨[11],[0,9,10],fun w σ=>∃(j:Nat),w=[.d (.int .i64 j)]/\σ=⟨ZcS pl p r vs more,[],0⟩/\j<=l.length/\ZgC p vs (l.drop j)=X,
    fun w _=>match w with | [.d (.int _ j)]=>((l.length:Int) - j).toNat | _=>0⟩),
    (4,⟨[18],[0,5,9,10,11,16,17],fun w σ=>∃(j i op:Nat) (rel:Bs) (eargs:List Ex) (body:List Li) (at':Nat),w=[.ptr 0 0,.ptr 7 0,.d (.sl (XL pl l)),.d (.int .i64 ((XL pl l).length:Nat)),.d (.int .i64 j),.d (.sl (Zs pl eargs)),.d (.int .i64 ((Zs pl eargs).length:Nat)),.d (.int .i64 i)] /\
     σ=⟨ZcS pl p r vs more++[.cells 75 ((XD pl (.mk op rel eargs body at')).map .d)],[],0⟩/\l[j]?=some (.mk op rel eargs body at')/\i<=eargs.length/\(szS szE eargs<=m/\szS szL body+1<=m)/\ZdG body=true /\
     orF (Za8 p vs (eargs.drop i) (List.replicate (eargs.length - i) 0)) (orF (ZgC p vs body) (ZgC p vs (l.drop (j+1))))=X,
    fun w _=>match w with | [_,_,_,_,_,_,.d (.int _ n),.d (.int _ i)]=>(n - i).toNat | _=>0⟩)],Wk [],YG [4],7,false,sM,Td rfl,?_⟩
   conv=>whnf
   refine ⟨⟨0,rfl,rfl,oM,hX⟩,?_⟩
   rintro w σ1 ⟨j,rfl,rfl,hj,ha⟩
   conv=>whnf
   refine ZJU (fun hc=>?_) (fun hc=>?_);rotate_left
   ·conv=>whnf
    rw [TA oM] at ha;subst ha;exact h
   have ab:j<l.length:=oM;have hr:(XL pl l)[(j:Int).toNat]?=some (XD pl l[j]):=by rw [Zp,Tn,Tk,Tc ab];rfl
   have dy:=Zu szL l j ab;have iu:YT l[j]=true:=by rw [XM,To] at bv;exact bv _ (TM ab)
   rw [Tq ab] at ha;have ha:orF (rtL p vs l[j]) (ZgC p vs (l.drop (j+1)))=X:=by rw [<- ha];simp only [ZgC];rfl
   have hμ:((l.length:Int) - ((j:Int)+1)).toNat<((l.length:Int) - (j:Int)).toNat:=oM;have jq:l[j]?=some l[j]:=Tc ab;generalize l[j]=x at ha hr dy iu jq;obtain ⟨op,rel,eargs,body,at'⟩:=x;simp only [szL,Xw,X2] at dy;simp only [rtL] at ha;have aj:=Zo szE eargs;have f9:(Zs pl eargs).length=eargs.length:=by rw [Zd,Tf]
   conv=>whnf
   refine ⟨_,oM,hr,wN ?_⟩;refine ZJU (fun h2=>wN ?_) (fun h2=>wN ?_)
   ·have h2:op<=2:=by have h2:(op:Int)<=2:=h2;omega
    rw [Tg h2] at ha;refine ⟨pl,p,r,vs,more,rfl,hp,eargs,at',rfl,rfl,⟨oM,hm⟩,fun f hf=>?_⟩;rw [hf] at ha
    cases f with
    | none =>
     simp only [RtK];(conv=>whnf);exact mq85
    | some ae =>
    exact mq170
   have h2:¬op<=2:=by have h2:¬(op:Int)<=2:=h2;omega
   rw [Tb h2] at ha;refine ZJU (fun h8=>?_) (fun h8=>wN ?_)
   ·have h8:op<=8:=by have h8:(op:Int)<=8:=h8;omega
    rw [Tg h8] at ha;obtain ⟨⟨a1,a2,a3,a4,a5⟩,⟨b1,b2,b3,b4,b5⟩,rfl⟩:=Zui iu h2 h8;simp only [szS] at dy;(conv=>whnf);refine ⟨pl,p,r,vs,more,rfl,hp,op,rel,.mk a1 a2 a3 a4 a5,.mk b1 b2 b3 b4 b5,[],body,at',rfl,fun n hn=>wN ?_⟩;simp only [hn,Za8] at ha;refine ⟨Z7 pl (.mk a1 a2 a3 a4 a5),dM,rfl,wN ?_⟩;refine ⟨pl,p,r,vs,more,rfl,hp,.mk a1 a2 a3 a4 a5,rfl,⟨oM,hm⟩,fun f hf=>?_⟩;rw [hf] at ha
    cases f with
    | some ae =>
     exact mq170
    | none =>
    simp only [RtK];(conv=>whnf);refine ⟨Z7 pl (.mk b1 b2 b3 b4 b5),dM,rfl,wN ?_⟩;refine ⟨pl,p,r,vs,more,rfl,hp,.mk b1 b2 b3 b4 b5,rfl,⟨oM,hm⟩,fun f hf=>?_⟩;rw [hf] at ha
    cases f with
    | some ae =>
     exact mq170
    | none =>
    simp only [RtK];simp only at ha;have good:¬(5<=op/\n≠0/\n≠1)->ZgC p vs (l.drop (j+1))=X:=fun g=>by rw [Tb g] at ha;exact ha
    have bad:(5<=op/\n≠0/\n≠1)->K (.panic (ZCw (pl at') 183)) ⟨ZcS pl p r vs more,[],0⟩:=fun g=>by
     rw [Tg g] at ha;simp only [orF] at ha;subst ha;exact h
    conv=>whnf
    refine ZJU (fun h5=>wN ?_) (fun h5=>wN ?_)
    ·have h5:5<=op:=by have h5:(5:Int)<=op:=h5;omega
     refine ZJX (fun dl=>wN ?_) (fun dl=>wN ?_)
     ·refine ZJX (fun fe=>wN ?_) (fun fe=>wN ?_)
      ·conv=>whnf
       exact bad ⟨h5,dl,fe⟩
      conv=>whnf
      refine Zl ?_;exact ⟨⟨j+1,rfl,rfl,oM,good (fun g=>g.2.2 fe)⟩,hμ⟩
     conv=>whnf
     refine Zl ?_;exact ⟨⟨j+1,rfl,rfl,oM,good (fun g=>g.2.1 dl)⟩,hμ⟩
    have h5:¬5<=op:=by have h5:¬(5:Int)<=op:=h5;omega
    refine Zl ?_;exact ⟨⟨j+1,rfl,rfl,oM,good (fun g=>h5 g.1)⟩,hμ⟩
   have h8:¬op<=8:=by have h8:¬(op:Int)<=8:=h8;omega
   rw [Tb h8] at ha;have ha:orF (Za8 p vs eargs (List.replicate eargs.length 0)) (orF (ZgC p vs body) (ZgC p vs (l.drop (j+1))))=X:=by
    rw [<- ha];cases Za8 p vs eargs (List.replicate eargs.length 0) <;> rfl
   refine ⟨⟨j,0,op,rel,eargs,body,at',rfl,rfl,jq,oM,⟨oM,oM⟩,Zpf iu,ha⟩,?_⟩
   clear ha
   rintro w σ1 ⟨j',i,op',rel',eargs',body',at'',hw,rfl,lk,hi,⟨wx,co⟩,zh,ha⟩
   have ej:(some (PV.d (.int .i64 (j:Int))):Option PV)=some (.d (.int .i64 (j':Int))):=congrArg (fun l:List PV=>l[4]?) hw;obtain rfl:j=j':=by have ej:=Option.some.inj ej;injection ej with ej;injection ej with _ ej;omega
   rw [jq] at lk;obtain ⟨rfl,rfl,rfl,rfl,rfl⟩:=Li.mk.inj (Option.some.inj lk);have hw:w=[.d (.int .i64 i)]:=congrArg (List.drop 7) hw;subst hw;(conv=>whnf);refine ZJU (fun bw=>?_) (fun bw=>?_)
   ·have av:i<eargs.length:=by have bw:(i:Int)<((Zs pl eargs).length:Int):=bw;omega
    have cu:(Zs pl eargs)[(i:Int).toNat]?=some (Z7 pl eargs[i]):=by rw [Zd,Tn,Tk,Tc av];rfl
    have um:=Zu szE eargs i av;rw [Tq av,show eargs.length - i=(eargs.length - (i+1))+1 by omega,List.replicate_succ] at ha;simp only [Za8] at ha;generalize eargs[i]=e at ha cu um;obtain ⟨x1,x2,x3,x4,x5⟩:=e;(conv=>whnf);refine ⟨_,oM,cu,wN ?_⟩;refine ⟨pl,p,r,vs,more,rfl,hp,.mk x1 x2 x3 x4 x5,rfl,⟨oM,hm⟩,fun f hf=>?_⟩;rw [hf] at ha
    cases f with
    | none =>
     simp only [RtK];(conv=>whnf);refine Zl ?_;exact ⟨⟨j,i+1,op,rel,eargs,body,at',rfl,rfl,jq,oM,⟨wx,co⟩,zh,ha⟩,by show (((Zs pl eargs).length:Int) - ((i:Int)+1)).toNat<(((Zs pl eargs).length:Int) - (i:Int)).toNat;omega⟩
    | some ae =>
    exact mq170
   have hii:i=eargs.length:=by have bw:¬(i:Int)<((Zs pl eargs).length:Int):=bw;omega
   subst hii;rw [SH,Nat.sub_self] at ha;simp only [Za8,List.replicate_zero,orF] at ha;(conv=>whnf);refine ⟨oM,pl,p,r,vs,more,rfl,hp,body,rfl,⟨oM,oM⟩,zh,fun f hf=>?_⟩;rw [hf] at ha
   cases f with
   | none =>
    simp only [RtK];(conv=>whnf);exact mq85
   | some ae =>
   obtain ⟨a,e⟩:=ae;simp only at ha;subst ha;simp only [RtK] at h |-;exact mq52
  exact h.elim
 exact h.elim
abbrev SM:=List (Bs×List (List D))
def Zxq (k:Bs):List D:=[.str k]
def ZyC (M:SM):Ex×Bs->SM
 | (.mk op text _ _ _,k)=>if op=1 then Y5 text ((lkM text M).getD []++[Zxq k]) M else M
def Vi (M:SM) (l:List (Ex×Bs)):SM:=l.foldl ZyC M
def Zus (M:SM) (n:Nat):Prop:=∀t rows,lkM t M=some rows->rows.length<=n
def Zph {M:SM} {n:Nat} (h:Zus M n) (x:Ex×Bs):Zus (ZyC M x) (n+1):=by
 obtain ⟨⟨op,text,_,_,_⟩,k⟩:=x;simp only [ZyC];split
 ·intro t rows hr
  rw [Za3] at hr;split at hr
  ·cases hr
   rw [Ta]
   cases hl:lkM text M with
   | none=>simp
   | some r=>have:=h _ _ hl;simp;omega
  have:=h _ _ hr;omega
 intro t rows hr;have:=h _ _ hr;omega
def Zb8:∀(l:List (Ex×Bs)) {M:SM} {n:Nat},Zus M n->Zus (Vi M l) (n+l.length)
 | [],M,n,h=>h
 | x::l,M,n,h=>by
  have:=Zb8 l (Zph h x);rw [Te,show n+(l.length+1)=n+1+l.length by omega];exact this
def ZcU {α:Type} {k:Bs} {u v:α}:∀m:List (Bs×α),Y5 k v (Y5 k u m)=Y5 k v m
 | []=>by simp [Y5]
 | (x,y)::l=>by
  simp only [Y5]
  by_cases h:k=x
  ·simp [h,Y5]
  simp only [decide_eq_false h,Y5,ZcU l]
def ZGZ:Zq:=fun args σ K=>match args,σ with
 | [.agg c,.d (.str k),.ptr 0 0],⟨[.cells ty [.mp 1],.smap el M none],[],0⟩=>∃pl e,c=(Z7 pl e).map .d/\(ty=165/\el=9)/\Zus M 1073741824/\K (.ret (.tuple [])) ⟨[.cells ty [.mp 1],.smap el (ZyC M (e,k)) none],[],0⟩
 | _,_=>False
def ZH2:PC w0 nG 82 ZGZ:=by
 refine Zsf ZR mixed (tbl:=[]) trivial Tryz.func82 rfl kR kR ?_;intro args σ K h
 unfold ZGZ at h
 split at h
 ·rename_i k ty el M
  obtain ⟨pl,⟨op,text,num,eargs,ea⟩,rfl,⟨rfl,rfl⟩,hM,h⟩:=h;refine ⟨Zr [],Wk [],YG [],YG [],YG [2],2,false,sM,Td rfl,wN ?_⟩;simp only [ZyC] at h;refine ZJU (fun h1=>wN ?_) (fun h1=>wN ?_)
  ·have h1:op=1:=by have h1:(op:Int)=1:=h1;omega
   rw [Tg h1] at h;refine ⟨1,text,wN ?_⟩;refine ZJ2 (fun rows hr=>wN ?_) (fun hr=>wN ?_)
   ·rw [hr] at h;have aa:=hM _ _ hr;refine ⟨rfl,wN ?_⟩;refine ⟨fun r hr=>by simp at hr;subst hr;rfl,by show (rows.length+1) * 16<=140737488355328;omega,by show rows.length+1<=140737488355328;omega,wN ?_⟩
    (repeat (refine ⟨rfl,?_⟩;conv=>whnf))
    rw [<- ZcU (u:=[])] at h;exact h
   rw [hr] at h;refine ⟨rfl,wN ?_⟩;refine ⟨fun r hr=>by simp at hr;subst hr;rfl,by show 1 * 16<=140737488355328;omega,by show 1<=140737488355328;omega,wN ?_⟩
   (repeat (refine ⟨rfl,?_⟩;conv=>whnf))
   rw [<- ZcU (u:=[])] at h;exact h
  have h1:¬op=1:=fun g=>h1 (by simp only [g];rfl)
  rw [Tb h1] at h;exact h
 exact h.elim
abbrev Zxr (pl:Pl) (r:Ru) (more:Bool) (a b:Nat):List PV:=[.ptr a 0,.d (.str r.head),.d (.sl (Zs pl r.args)),.d (.sl (XL pl r.body)),.d (.int .i64 (pl r.at')),.mp b,.d (.bool more)]
abbrev ZnB (pl:Pl) (p:Pr) (r:Ru) (vs:Vs) (more:Bool) (kind:Bs):List Box:=[.cells 72 [.ptr 2 0],.cells 9 [.d (.str kind)],.cells 111 (Zxr pl r more 3 4),.cells 95 (Zk3 pl p 5),.dmap (mvM mvI vs)]++Zk4 p
def Zut:Zq:=fun args σ K=>match args,σ with
 | [.d (.str k),.ptr 0 0,.ptr 1 0],⟨bx,[],0⟩=>∃pl p r vs more kind,bx=ZnB pl p r vs more kind/\OKP p/\∀x,Wt p k kind=x->K (.ret (.d (.bool x))) ⟨bx,[],0⟩
 | _,_=>False
def ZCA:OKw w0 nG [(86,Zi7)] 85 Zut:=by
 refine pwo Tryz.func85 fun args σ K h=>?_
 unfold Zut at h
 split at h
 ·obtain ⟨pl,p,r,vs,more,kind,rfl,hp,h⟩:=h;refine pwv [] 9 false ?_;refine ⟨pl,p,rfl,hp.bp,fun x hx=>wN ?_⟩
  (repeat (refine ⟨rfl,?_⟩;conv=>whnf))
  exact h x hx
 exact h.elim
def Zuu:Zq:=fun args σ K=>match args,σ with
 | [.d (.sl rows),.func g [] [.ptr 0 0,.ptr 1 0]],⟨bx,[],0⟩=>∃pl p r vs more kind,∃l:List Bs,bx=ZnB pl p r vs more kind/\rows=l.map Zxq/\(g=85/\OKP p/\l.length<=1073741824)/\∀i,Znq (fun k=>Wt p k kind) 0 l=i->K (.ret (.d (.int .i64 i))) ⟨bx,[],0⟩
 | [.sl 0 _ [],.func g [] [.ptr 0 0,.ptr 1 0]],⟨bx,[0],1⟩=>∃pl p r vs more kind,bx=ZnB pl p r vs more kind/\K (.ret (.d (.int .i64 (-1)))) ⟨bx,[],0⟩
 | _,_=>False
def ZCC:OKw w0 nG [(85,Zut)] 144 Zuu:=by
 refine pwo Tryz.func144 fun args σ K h=>?_
 unfold Zuu at h
 split at h
 ·obtain ⟨pl,p,r,vs,more,kind,l,rfl,rfl,⟨rfl,hp,aa⟩,h⟩:=h;have hl:(l.map Zxq).length=l.length:=Tf ..;refine pwu [(2,⟨[8],[0,1,7],fun w σ=>∃j:Nat,w=[.d (.int .i64 j)]/\σ=⟨ZnB pl p r vs more kind,[],0⟩/\j<=l.length/\Znq (fun k=>Wt p k kind) j (l.drop j)=Znq (fun k=>Wt p k kind) 0 l,
   fun w _=>match w with | [.d (.int _ j)]=>((l.length:Int) - j).toNat | _=>0⟩)] 9 false ?_
  conv=>whnf
  refine ⟨⟨0,rfl,rfl,oM,rfl⟩,?_⟩
  rintro w σ1 ⟨j,rfl,rfl,hj,ha⟩
  conv=>whnf
  refine ZJU (fun hc=>?_) (fun hc=>?_);rotate_left
  ·conv=>whnf
   rw [TA oM] at ha;exact h (-1) ha.symm
  have ab:j<l.length:=oM;rw [Tq ab] at ha;have hr:(l.map Zxq)[(j:Int).toNat]?=some (Zxq l[j]):=by rw [Tn,Tk,Tc ab];rfl
  generalize l[j]=x at ha hr;(conv=>whnf);refine ⟨_,oM,hr,wN ?_⟩;refine ⟨pl,p,r,vs,more,kind,rfl,hp,fun b hb=>?_⟩;exact mq37
 ·obtain ⟨pl,p,r,vs,more,kind,rfl,h⟩:=h;refine pwv [(2,⟨[8],[0,1,7],fun w σ=>w=[.d (.int .i64 0)]/\σ=⟨ZnB pl p r vs more kind,[],0⟩,fun _ _=>0⟩)] 9 false ?_;refine ⟨⟨rfl,rfl⟩,?_⟩
  rintro w σ1 ⟨rfl,rfl⟩
  exact mq52
 exact h.elim
def Zuv:Zq:=fun args σ K=>match args,σ with
 | [.d (.sl rows),.func g [] [.ptr 0 0,.ptr 1 0]],⟨bx,[],0⟩=>∃pl p r vs more kind,∃l:List Bs,bx=ZnB pl p r vs more kind/\rows=l.map Zxq/\(g=85/\OKP p/\l.length<=1073741824)/\∀b,(l.any fun k=>Wt p k kind)=b->K (.ret (.d (.bool b))) ⟨bx,[],0⟩
 | [.sl 0 _ [],.func g [] [.ptr 0 0,.ptr 1 0]],⟨bx,[0],1⟩=>∃pl p r vs more kind,bx=ZnB pl p r vs more kind/\K (.ret (.d (.bool false))) ⟨bx,[],0⟩
 | _,_=>False
def ZCE:OKw w0 nG [(144,Zuu)] 84 Zuv:=by
 refine pwo Tryz.func84 fun args σ K h=>?_
 unfold Zuv at h
 split at h
 ·obtain ⟨pl,p,r,vs,more,kind,l,rfl,rfl,hc,h⟩:=h;refine pwv [] 9 false ?_;refine ⟨pl,p,r,vs,more,kind,l,rfl,rfl,hc,fun i hi=>wN ?_⟩;exact h _ (by rw [Bool.eq_iff_iff,decide_eq_true_iff,<- hi];exact (Zi8 l 0).symm)
 ·obtain ⟨pl,p,r,vs,more,kind,rfl,h⟩:=h;refine pwv [] 9 false ?_;refine ⟨pl,p,r,vs,more,kind,rfl,wN ?_⟩;exact h
 exact h.elim
def h2T (p:Pr) (kn:List (Bs×Bs)):Ex×Bs->Flt
 | (.mk op text _ _ a,k)=>if (Xj p k).isSome=true/\(8<=op\/(op=1/\(kn.any fun y=>decide (y.1=text) && Wt p y.2 k)=false)) then some (a,183) else none
def ZH3 (M:SM) (kn:List (Bs×Bs)):Prop:=kn.length<=1073741824/\∀t,(lkM t M).getD []=(kn.filter fun y=>decide (y.1=t)).map fun y=>Zxq y.2
abbrev ZH4 (pl:Pl) (p:Pr) (r:Ru) (vs:Vs) (more:Bool) (M:SM):List Box:=[.cells 72 [.ptr 2 0],.cells 165 [.mp 3],.cells 111 (Zxr pl r more 4 5),.smap 9 M none,.cells 95 (Zk3 pl p 6),.dmap (mvM mvI vs)]++Zk4 p
def FlK (pl:Pl) (K:PEnd->St->Prop) (σ:St):Flt->Prop
 | none=>K (.ret (.tuple [])) σ
 | some (a,e)=>K (.panic (ZCw (pl a) e)) σ
def ZG0:Zq:=fun args σ K=>match args,σ with
 | [.agg c,.d (.str kind),.ptr 0 0,.ptr 1 0],⟨bx,[],0⟩=>∃pl p r vs more M kn e,c=(Z7 pl e).map .d/\bx=ZH4 pl p r vs more M/\OKP p/\ZH3 M kn/\∀x,h2T p kn (e,kind)=x->FlK pl K ⟨bx,[],0⟩ x
 | _,_=>False
def ZyD {p:Pr} {kn:List (Bs×Bs)} {t k:Bs}:((kn.filter fun y=>decide (y.1=t)).map (·.2)).any (fun y=>Wt p y k)=kn.any fun y=>decide (y.1=t) && Wt p y.2 k:=by
 rw [List.any_map,List.any_filter];rfl
def ZH6:OKw w0 nG [(36,Zhq),(84,Zuv)] 83 ZG0:=by
 refine pwo Tryz.func83 fun args σ K h=>?_
 unfold ZG0 at h
 split at h
 ·rename_i kind bx
  obtain ⟨pl,p,r,vs,more,M,kn,⟨op,text,num,eargs,ea⟩,rfl,rfl,hp,⟨ei,bm⟩,h⟩:=h;have good:¬((Xj p kind).isSome=true/\(8<=op\/(op=1/\(kn.any fun y=>decide (y.1=text) && Wt p y.2 kind)=false)))->K (.ret (.tuple [])) ⟨ZH4 pl p r vs more M,[],0⟩:=fun g=>h none (by simp only [h2T];rw [Tb g])
  have bad:((Xj p kind).isSome=true/\(8<=op\/(op=1/\(kn.any fun y=>decide (y.1=text) && Wt p y.2 kind)=false)))->K (.panic (ZCw (pl ea) 183)) ⟨ZH4 pl p r vs more M,[],0⟩:=fun g=>h (some (ea,183)) (by simp only [h2T];rw [Tg g])
  clear h
  refine pwv [] 10 false ?_;refine ⟨pl,p,rfl,hp.bp,fun x hx=>wN ?_⟩
  (repeat (refine ⟨rfl,?_⟩;conv=>whnf))
  refine ZJ2 (fun rows hr=>wN ?_) (fun hr=>wN ?_)
  ·have cj:=bm text;rw [hr] at cj;have cj:rows=((kn.filter fun y=>decide (y.1=text)).map (·.2)).map Zxq:=by rw [TW];exact cj
   refine ⟨pl,p,r,vs,more,kind,_,rfl,cj,⟨rfl,hp,by rw [Tf];have:=List.length_filter_le (fun y:Bs×Bs=>decide (y.1=text)) kn;omega⟩,fun b hb=>?_⟩;rw [ZyD] at hb;rw [hx,hb] at good bad;generalize x.isSome=sub at good bad |-
   cases sub <;> cases b
   all_goals repeat' ((conv=>whnf);first | refine ZJU (fun hc=>?_) (fun hc=>?_) | refine ZJX (fun hc=>?_) (fun hc=>?_))
   all_goals (conv=>whnf)
   all_goals first
    | (exfalso;omega)
    | exact bad ⟨rfl,by first | (left;omega) | (right;exact ⟨oM,rfl⟩)⟩
    | exact good (fun g=>by first | exact Bool.noConfusion g.1 | (rcases g.2 with g | g <;> first | omega | exact Bool.noConfusion g.2))
  have cj:=bm text;rw [hr] at cj;have aq:kn.filter (fun y=>decide (y.1=text))=[]:=by
   cases hf:kn.filter (fun y=>decide (y.1=text)) with
   | nil=>rfl
   | cons y l=>rw [hf] at cj;simp at cj
  have hb:(kn.any fun y=>decide (y.1=text) && Wt p y.2 kind)=false:=by rw [<- ZyD,aq];rfl
  rw [hx,hb] at good bad;obtain ⟨b,ki⟩:∃b:Bool,b=false:=⟨_,rfl⟩
  refine ⟨pl,p,r,vs,more,kind,rfl,?_⟩
  clear ki b
  generalize ew:false=b at good bad;generalize x.isSome=sub at good bad |-
  cases sub <;> cases b <;> first | (cases ew;done) | skip
  all_goals repeat' ((conv=>whnf);first | refine ZJU (fun hc=>?_) (fun hc=>?_) | refine ZJX (fun hc=>?_) (fun hc=>?_))
  all_goals (conv=>whnf)
  all_goals first
   | (exfalso;omega)
   | exact bad ⟨rfl,by first | (left;omega) | (right;exact ⟨oM,rfl⟩)⟩
   | exact good (fun g=>by first | exact Bool.noConfusion g.1 | (rcases g.2 with g | g <;> first | omega | exact Bool.noConfusion g.2))
 exact h.elim
def Zd9 {p:Pr} {vs:Vs}:∀{l:List Ex} {ns:List Int} {j:Nat} {e:Ex} {n:Int},Za8 p vs l ns=none->l[j]?=some e->ns[j]?=some n->rtE p vs e n=none
 | [],_,j,e,n,h,h1,h2=>by simp at h1
 | x::l,[],j,e,n,h,h1,h2=>by simp at h2
 | x::l,y::ns,j,e,n,h,h1,h2=>by
  simp only [Za8] at h
  cases hx:rtE p vs x y with
  | some f=>rw [hx] at h;cases h
  | none =>
  rw [hx] at h
  cases j with
  | zero=>simp at h1 h2;subst h1;subst h2;exact hx
  | succ j=>exact Zd9 h (by simpa using h1) (by simpa using h2)
def Zdw {p:Pr} {vs:Vs} {op:Nat} {text:Bs} {num:Int} {args:List Ex} {a:Nat} {kind:Bs} (h:rtE p vs (.mk op text num args a) (Xr p kind)=none) :
  (op=7->∃(i k:Nat) (t:Ty) (c:Ca),lkM text (XB p)=some ((i:Int),(k:Int))/\p.types[i]?=some t/\t.cases[k]?=some c/\Yv p op text kind=c.fields/\c.fields.length=args.length) /\
  (op=6->∃t,ZgB p (Xr p kind)=some t/\Yv p op text kind=t.fields/\t.fields.length=args.length) /\
  (op≠7->op≠6->Yv p op text kind=[]) /\
  ∀(j:Nat) (e:Ex) (f:Fi),args[j]?=some e->(Yv p op text kind)[j]?=some f->rtE p vs e (Xr p f.typ)=none:=by
 simp only [rtE] at h;split at h
 ·cases h
 rename_i h1
 split at h
 ·cases h
 rename_i h2
 split at h
 ·cases h
 rename_i h3
 have h3:(ZJ p op text args.length (Xr p kind)).length=args.length:=Decidable.of_not_not h3;refine ⟨fun h7=>?_,fun h6=>?_,fun h7 h6=>?_,fun j e f he hf=>?_⟩
 ·cases hl:lkM text (XB p) with
  | none=>exact absurd ⟨h7,by rw [hl];rfl⟩ h1
  | some v =>
  obtain ⟨i,k,t,c,rfl,g2,g3,g4⟩:=ZfR hl;have hp:ZJ p op text args.length (Xr p kind)=ZZ p c.fields:=by simp only [ZJ,Tg h7,g4]
  rw [hp] at h3;refine ⟨i,k,t,c,rfl,g2,g3,?_,by simpa [ZZ] using h3⟩;simp only [Yv,Tg h7,g4]
 ·cases hr:ZgB p (Xr p kind) with
  | none=>exact absurd (.inr (.inl ⟨.inl h6,by rw [hr];rfl⟩)) h2
  | some t =>
  have h7:¬op=7:=oM;have hp:ZJ p op text args.length (Xr p kind)=ZZ p t.fields:=by simp only [ZJ,Tb h7,Tg h6,hr]
  rw [hp] at h3;refine ⟨t,rfl,?_,by simpa [ZZ] using h3⟩;simp only [Yv,Tb h7,Tg h6,hr]
 ·simp only [Yv,Tb h7,Tb h6]
 have hp:(Yv p op text kind).length≠0->ZJ p op text args.length (Xr p kind)=ZZ p (Yv p op text kind):=fun aj=>by
  unfold Yv at aj |-
  unfold ZJ
  by_cases h7:op=7
  ·simp only [Tg h7] at aj |-
   cases hc:ZdL p text with
   | none=>rw [hc] at aj;simp at aj
   | some tc=>rfl
  simp only [Tb h7] at aj |-
  by_cases h6:op=6
  ·simp only [Tg h6] at aj |-
   cases hr:ZgB p (Xr p kind) with
   | none=>rw [hr] at aj;simp at aj
   | some t=>rfl
  simp only [Tb h6] at aj;simp at aj
 have aj:(Yv p op text kind).length≠0:=fun h0=>by
  have:=(Ti.1 hf).1;omega
 rw [hp aj] at h;exact Zd9 h he (by rw [ZZ,Tk,hf];rfl)
mutual
def Zjb (p:Pr):∀(e:Ex) (kind:Bs),(wiE p e kind).length<=szE e
 | .mk op text n args a,kind=>by
  simp only [wiE,Te,szE];have:=Zjc p args (Yv p op text kind);omega
def Zjc (p:Pr):∀(l:List Ex) (fs:List Fi),(Za9 p l fs).length<=Ztc l
 | [],fs=>by simp [Za9]
 | e::l,[]=>by simp [Za9]
 | e::l,f::fs=>by
  simp only [Za9,Ta,Ztc];have:=Zjb p e f.typ;have:=Zjc p l fs;omega
end
def Zea {α:Type} {f:α->Nat} {l:List α} {j:Nat} {x:α} (h:l[j]?=some x):szS f (l.drop j)=1+f x+szS f (l.drop (j+1)):=by
 have hj:=(Ti.1 h).1;rw [Tq hj,szS];rw [Tc hj] at h
 cases h;rfl
def VE {p:Pr} {kn:List (Bs×Bs)}:∀(a b:List (Ex×Bs)),VO p kn (a++b)=orF (VO p kn a) (VO p kn b)
 | [],b=>rfl
 | (.mk op text _ _ at',k)::a,b=>by
  simp only [Tp,VO];split
  ·rfl
  exact VE a b
def Zq1 {p:Pr} {kn:List (Bs×Bs)} (x:Ex×Bs) (l:List (Ex×Bs)):VO p kn (x::l)=orF (h2T p kn x) (VO p kn l):=by
 obtain ⟨⟨op,text,n,args,a⟩,k⟩:=x;simp only [VO,h2T];split <;> rfl
abbrev Zuw (pl:Pl) (p:Pr) (r:Ru) (vs:Vs) (more:Bool) (M:SM):List Box:=[.cells 111 (Zxr pl r more 2 3),.cells 165 [.mp 4],.cells 95 (Zk3 pl p 5),.dmap (mvM mvI vs),.smap 9 M none]++Zk4 p
abbrev Zxs (pl:Pl) (p:Pr) (r:Ru) (vs:Vs) (more:Bool) (M:SM):List Box:=[.cells 111 (Zxr pl r more 3 4),.cells 72 [.ptr 0 0],.cells 165 [.mp 5],.cells 95 (Zk3 pl p 6),.dmap (mvM mvI vs),.smap 9 M none]++Zk4 p
def Zq2 (m:Nat):Zq:=fun args σ K=>match args,σ with
 | [.ptr 0 0,.agg c,.d (.str kind),.func f [] [.ptr 1 0]],⟨bx,[],0⟩=>∃pl p r vs more e M n,c=(Z7 pl e).map .d/\f=82/\bx=Zuw pl p r vs more M/\OKP p/\(szE e<=m/\m<=2097152)/\rtE p vs e (Xr p kind)=none/\(Zus M n/\n+szE e<=1073741824)/\K (.ret (.tuple [])) ⟨Zuw pl p r vs more (Vi M (wiE p e kind)),[],0⟩
 | _,_=>False
def ZyE {m:Nat}:OKw w0 nG [(81,spB Zq2 m),(82,ZGZ),(77,UY),(142,Zny)] 81 (Zq2 m):=by
 refine pwo Tryz.func81 fun args σ K h=>?_
 unfold Zq2 at h
 split at h
 ·rename_i c kind f bx
  obtain ⟨pl,p,r,vs,more,⟨op,text,num,eargs,ea⟩,M,n,rfl,rfl,rfl,hp,⟨hz,hm⟩,vi,⟨hM,hn⟩,h⟩:=h;simp only [wiE] at h;obtain ⟨F,hF⟩:∃F,Vi M ((.mk op text num eargs ea,kind)::Za9 p eargs (Yv p op text kind))=F:=⟨_,rfl⟩
  rw [hF] at h;have hM1:=Zph hM (.mk op text num eargs ea,kind);have hF:Vi (ZyC M (.mk op text num eargs ea,kind)) (Za9 p eargs (Yv p op text kind))=F:=hF;have am:(Zs pl eargs).length=eargs.length:=by rw [Zd,Tf]
  simp only [szE,Xw] at hz hn;have l5:=Zo szE eargs;obtain ⟨r7,r6,r0,rk⟩:=Zdw vi;obtain ⟨fs,ra⟩:∃fs,Yv p op text kind=fs:=⟨_,rfl⟩
  rw [ra] at r7 r6 r0 rk hF
  by_cases h7:op=7
  ·obtain ⟨i0,k0,t,c,hl,h2,h3,g1,g2⟩:=r7 h7;have hr:(p.types.map (Zv pl))[(i0:Int).toNat]?=some (Zv pl t):=by rw [Tn,Tk,h2];rfl
   have cu:(t.cases.map Zy)[(k0:Int).toNat]?=some (Zy c):=by rw [Tn,Tk,h3];rfl
   obtain ⟨t1,t2,t3,t4,t5,t6⟩:=t;obtain ⟨c1,c2⟩:=c;simp only at g1 g2;obtain rfl:fs=c2:=g1;refine pwu [(11,⟨[67],[0,3,5,65,66],fun w σ=>∃(j n1:Nat) (M1:SM),w=[.d (.int .i64 j)]/\σ=⟨Zuw pl p r vs more M1++[.cells 59 ((Z7 pl (.mk op text num eargs ea)).map .d),.cells 100 [.d (.int .i64 i0),.d (.int .i64 k0)]],[],0⟩/\j<=eargs.length/\(Zus M1 n1/\n1+szS szE (eargs.drop j)<=1073741824)/\Vi M1 (Za9 p (eargs.drop j) (fs.drop j))=F,
    fun w _=>match w with | [.d (.int _ j)]=>((eargs.length:Int) - j).toNat | _=>0⟩)] 9 false ?_
   conv=>whnf
   refine ⟨pl,.mk op text num eargs ea,rfl,⟨rfl,rfl⟩,fun t rows hr=>by have:=hM t rows hr;omega,wN ?_⟩;refine ZJU (fun jh=>?_) (fun jh=>absurd (show (op:Int)=7 by omega) jh);(conv=>whnf);refine optK.yes (by rw [ZX,hl];rfl) (wN ?_)
   (repeat (refine ⟨rfl,?_⟩;conv=>whnf))
   refine ⟨dM,dM,wN ?_⟩;refine ⟨_,oM,hr,wN ?_⟩;refine ⟨dM,dM,wN ?_⟩;refine ⟨_,oM,cu,wN ?_⟩;exact mq10
  by_cases h6:op=6
  ·obtain ⟨t0,n4,g1,g2⟩:=r6 h6;refine pwu [(11,⟨[67],[0,3,5,65,66],fun w σ=>∃(j n1:Nat) (M1:SM),w=[.d (.int .i64 j)]/\σ=⟨Zuw pl p r vs more M1++[.cells 59 ((Z7 pl (.mk op text num eargs ea)).map .d),.cells 42 ((Zv pl t0).map .d)],[],0⟩/\j<=eargs.length/\(Zus M1 n1/\n1+szS szE (eargs.drop j)<=1073741824)/\Vi M1 (Za9 p (eargs.drop j) (fs.drop j))=F,
    fun w _=>match w with | [.d (.int _ j)]=>((eargs.length:Int) - j).toNat | _=>0⟩)] 9 false ?_
   conv=>whnf
   refine ⟨pl,.mk op text num eargs ea,rfl,⟨rfl,rfl⟩,fun t rows hr=>by have:=hM t rows hr;omega,wN ?_⟩;refine ZJU (fun jh=>absurd (show op=7 by have jh:(op:Int)=7:=jh;omega) h7) (fun jh=>wN ?_);refine ZJU (fun nq=>?_) (fun nq=>absurd (show (op:Int)=6 by omega) nq);(conv=>whnf);refine ⟨pl,p,rfl,hp.bp,hp.ends,fun n6 hn6=>?_⟩;subst hn6;(conv=>whnf);refine ⟨pl,p,r,vs,more,rfl,hp,fun t6 qu=>?_,fun qu=>by rw [n4] at qu;cases qu⟩;obtain rfl:t0=t6:=Option.some.inj (n4.symm.trans qu);obtain ⟨t1,t2,t3,t4,t5,t6⟩:=t0;simp only at g1 g2;obtain rfl:fs=t4:=g1;(conv=>whnf);exact mq10
  skip
  refine pwu [(11,⟨[67],[0,3,5,65,66],fun w σ=>∃(j n1:Nat) (M1:SM),w=[.d (.int .i64 j)]/\σ=⟨Zuw pl p r vs more M1++[.cells 59 ((Z7 pl (.mk op text num eargs ea)).map .d)],[],0⟩/\j<=eargs.length/\(Zus M1 n1/\n1+szS szE (eargs.drop j)<=1073741824)/\Vi M1 (Za9 p (eargs.drop j) (fs.drop j))=F,
   fun w _=>match w with | [.d (.int _ j)]=>((eargs.length:Int) - j).toNat | _=>0⟩)] 9 false ?_
  conv=>whnf
  refine ⟨pl,.mk op text num eargs ea,rfl,⟨rfl,rfl⟩,fun t rows hr=>by have:=hM t rows hr;omega,wN ?_⟩;refine ZJU (fun jh=>absurd (show op=7 by have jh:(op:Int)=7:=jh;omega) h7) (fun jh=>wN ?_);refine ZJU (fun nq=>absurd (show op=6 by have nq:(op:Int)=6:=nq;omega) h6) (fun nq=>wN ?_);have h0:fs=[]:=r0 h7 h6;subst h0;refine ⟨⟨0,n+1,_,rfl,rfl,oM,⟨hM1,by rw [Si];omega⟩,hF⟩,?_⟩
  rintro w σ1 ⟨j,n1,M1,rfl,rfl,hj,⟨vj,ip⟩,ha⟩
  have ha:M1=F:=by
   exact mq139
  subst ha;exact mq52
 exact h.elim
def Zq3 (m:Nat):Zq:=fun args σ K=>match args,σ with
 | [.ptr 0 0,.agg c,.d (.str kind),.func f [] [.ptr 1 0,.ptr 2 0]],⟨bx,[],0⟩=>∃pl p r vs more e M kn,c=(Z7 pl e).map .d/\f=83/\bx=Zxs pl p r vs more M/\OKP p/\(szE e<=m/\m<=2097152)/\rtE p vs e (Xr p kind)=none/\ZH3 M kn/\∀x,VO p kn (wiE p e kind)=x->FlK pl K ⟨bx,[],0⟩ x
 | _,_=>False
def ZyF {m:Nat}:OKw w0 nG [(81,spB Zq3 m),(83,ZG0),(77,UY),(142,Zny)] 81 (Zq3 m):=by
 refine pwo Tryz.func81 fun args σ K h=>?_
 unfold Zq3 at h
 split at h
 ·rename_i c kind f bx
  obtain ⟨pl,p,r,vs,more,⟨op,text,num,eargs,ea⟩,M,kn,rfl,rfl,rfl,hp,⟨hz,hm⟩,vi,lx,h⟩:=h;simp only [wiE] at h;obtain ⟨X,hX⟩:∃X,VO p kn ((.mk op text num eargs ea,kind)::Za9 p eargs (Yv p op text kind))=X:=⟨_,rfl⟩
  have h:=h X hX;rw [Zq1] at hX;have am:(Zs pl eargs).length=eargs.length:=by rw [Zd,Tf]
  simp only [szE,Xw] at hz;have l5:=Zo szE eargs;obtain ⟨r7,r6,r0,rk⟩:=Zdw vi;obtain ⟨fs,ra⟩:∃fs,Yv p op text kind=fs:=⟨_,rfl⟩
  rw [ra] at r7 r6 r0 rk hX
  by_cases h7:op=7
  ·obtain ⟨i0,k0,t,c,hl,h2,h3,g1,g2⟩:=r7 h7;have hr:(p.types.map (Zv pl))[(i0:Int).toNat]?=some (Zv pl t):=by rw [Tn,Tk,h2];rfl
   have cu:(t.cases.map Zy)[(k0:Int).toNat]?=some (Zy c):=by rw [Tn,Tk,h3];rfl
   obtain ⟨t1,t2,t3,t4,t5,t6⟩:=t;obtain ⟨c1,c2⟩:=c;simp only at g1 g2;obtain rfl:fs=c2:=g1;refine pwu [(11,⟨[67],[0,3,5,65,66],fun w σ=>∃(j:Nat),w=[.d (.int .i64 j)]/\σ=⟨Zxs pl p r vs more M++[.cells 59 ((Z7 pl (.mk op text num eargs ea)).map .d),.cells 100 [.d (.int .i64 i0),.d (.int .i64 k0)]],[],0⟩/\j<=eargs.length/\VO p kn (Za9 p (eargs.drop j) (fs.drop j))=X,
    fun w _=>match w with | [.d (.int _ j)]=>((eargs.length:Int) - j).toNat | _=>0⟩)] 10 false ?_
   conv=>whnf
   refine ⟨pl,p,r,vs,more,M,kn,.mk op text num eargs ea,rfl,rfl,hp,lx,fun y hy=>?_⟩;rw [hy] at hX
   cases y with
   | some ae =>
    exact mq178
   | none =>
   simp only [FlK,orF] at hX |-;(conv=>whnf);refine ZJU (fun jh=>?_) (fun jh=>absurd (show (op:Int)=7 by omega) jh);(conv=>whnf);refine optK.yes (by rw [ZX,hl];rfl) (wN ?_)
   (repeat (refine ⟨rfl,?_⟩;conv=>whnf))
   refine ⟨dM,dM,wN ?_⟩;refine ⟨_,oM,hr,wN ?_⟩;refine ⟨dM,dM,wN ?_⟩;refine ⟨_,oM,cu,wN ?_⟩;exact mq12
  by_cases h6:op=6
  ·obtain ⟨t0,n4,g1,g2⟩:=r6 h6;refine pwu [(11,⟨[67],[0,3,5,65,66],fun w σ=>∃(j:Nat),w=[.d (.int .i64 j)]/\σ=⟨Zxs pl p r vs more M++[.cells 59 ((Z7 pl (.mk op text num eargs ea)).map .d),.cells 42 ((Zv pl t0).map .d)],[],0⟩/\j<=eargs.length/\VO p kn (Za9 p (eargs.drop j) (fs.drop j))=X,
    fun w _=>match w with | [.d (.int _ j)]=>((eargs.length:Int) - j).toNat | _=>0⟩)] 10 false ?_
   conv=>whnf
   refine ⟨pl,p,r,vs,more,M,kn,.mk op text num eargs ea,rfl,rfl,hp,lx,fun y hy=>?_⟩;rw [hy] at hX
   cases y with
   | some ae =>
    exact mq178
   | none =>
   simp only [FlK,orF] at hX |-;(conv=>whnf);refine ZJU (fun jh=>absurd (show op=7 by have jh:(op:Int)=7:=jh;omega) h7) (fun jh=>wN ?_);refine ZJU (fun nq=>?_) (fun nq=>absurd (show (op:Int)=6 by omega) nq);(conv=>whnf);refine ⟨pl,p,rfl,hp.bp,hp.ends,fun n6 hn6=>?_⟩;subst hn6;(conv=>whnf);refine ⟨pl,p,r,vs,more,rfl,hp,fun t6 qu=>?_,fun qu=>by rw [n4] at qu;cases qu⟩;obtain rfl:t0=t6:=Option.some.inj (n4.symm.trans qu);obtain ⟨t1,t2,t3,t4,t5,t6⟩:=t0;simp only at g1 g2;obtain rfl:fs=t4:=g1;(conv=>whnf);exact mq12
  skip
  refine pwu [(11,⟨[67],[0,3,5,65,66],fun w σ=>∃(j:Nat),w=[.d (.int .i64 j)]/\σ=⟨Zxs pl p r vs more M++[.cells 59 ((Z7 pl (.mk op text num eargs ea)).map .d)],[],0⟩/\j<=eargs.length/\VO p kn (Za9 p (eargs.drop j) (fs.drop j))=X,
   fun w _=>match w with | [.d (.int _ j)]=>((eargs.length:Int) - j).toNat | _=>0⟩)] 10 false ?_
  conv=>whnf
  refine ⟨pl,p,r,vs,more,M,kn,.mk op text num eargs ea,rfl,rfl,hp,lx,fun y hy=>?_⟩;rw [hy] at hX
  cases y with
  | some ae =>
   exact mq178
  | none =>
  simp only [FlK,orF] at hX |-;(conv=>whnf);refine ZJU (fun jh=>absurd (show op=7 by have jh:(op:Int)=7:=jh;omega) h7) (fun jh=>wN ?_);refine ZJU (fun nq=>absurd (show op=6 by have nq:(op:Int)=6:=nq;omega) h6) (fun nq=>wN ?_);have h0:fs=[]:=r0 h7 h6;subst h0;refine ⟨⟨0,rfl,rfl,oM,hX⟩,?_⟩
  rintro w σ1 ⟨j,rfl,rfl,hj,ha⟩
  have ha:none=X:=by
   exact mq139
  subst ha;exact mq52
 exact h.elim
def knF (x:Ex×Bs):Option (Bs×Bs):=match x with
 | (.mk op text _ _ _,k)=>if op=1 then some (text,k) else none
def Zb9 (p:Pr) (l:List Li):ZfO p l=(l.flatMap (Us p)).filterMap knF:=rfl
def Zpi (M:SM) (kn:List (Bs×Bs)):Prop:=∀t,(lkM t M).getD []=(kn.filter fun y=>decide (y.1=t)).map fun y=>Zxq y.2
def Zxt {M:SM} {kn:List (Bs×Bs)} (h:Zpi M kn) (x:Ex×Bs):Zpi (ZyC M x) (kn++(knF x).toList):=by
 obtain ⟨⟨op,text,_,_,_⟩,k⟩:=x;simp only [ZyC,knF];split
 ·intro t
  rw [Za3,List.filter_append,Su]
  by_cases ht:t=text
  ·subst ht;simp [h t]
  have kz:¬text=t:=fun e=>ht e.symm
  simp [ht,kz,h t]
 intro t;simpa using h t
def Zlb:∀(l:List (Ex×Bs)) {M:SM} {kn:List (Bs×Bs)},Zpi M kn->Zpi (Vi M l) (kn++l.filterMap knF)
 | [],M,kn,h=>by simpa [Vi] using h
 | x::l,M,kn,h=>by
  have:=Zlb l (Zxt h x);simp only [List.filterMap_cons]
  cases hx:knF x with
  | none=>rw [hx] at this;simpa [Vi] using this
  | some y=>rw [hx] at this;simpa [Vi] using this
def ZhB (p:Pr):∀(l:List Li),(l.flatMap (Us p)).length<=szS szL l
 | []=>sM
 | .mk op rel args body a::l=>by
  have:=ZhB p l;have h2:=Zjc p args (Zk6 p rel);rw [Xw] at h2;rw [List.flatMap_cons,Ta,szS,szL];simp only [Us];split
  ·omega
  rw [Th];omega
def ZCF (p:Pr) {l:List Li} (h:szS szL l<=1073741824):ZH3 (Vi [] (l.flatMap (Us p))) (ZfO p l):=by
 refine ⟨?_,?_⟩
 ·have h1:=ZhB p l;have h2:=List.length_filterMap_le knF (l.flatMap (Us p));rw [Zb9];omega
 have:=Zlb (l.flatMap (Us p)) (M:=[]) (kn:=[]) (fun t=>rfl);rw [Tu,<- Zb9] at this;exact this
def Zlc {p:Pr} {vs:Vs} {name:Bs} {args:List Ex} {a:Nat} {hd:Bool} (h:Zrk p vs name args a hd=none) :
  ∃(i:Nat) (d:Re),lkM name (JJ p)=some (i:Int)/\p.rels[i]?=some d/\d.fields.length=args.length/\Za8 p vs args (ZZ p d.fields)=none/\Zk6 p name=d.fields:=by
 unfold Zrk at h
 cases hl:lkM name (JJ p) with
 | none=>rw [hl] at h;cases h
 | some n =>
 obtain ⟨i,d,rfl,h2,h3⟩:=Zd7 hl;rw [hl] at h;simp only [Tn,h2] at h;split at h
 ·cases h
 split at h
 ·cases h
 rename_i hn
 have hn:d.fields.length=args.length:=Decidable.of_not_not hn;rw [ZcT hl h2,Tg hn] at h;exact ⟨i,d,rfl,h2,hn,h,by simp only [Zk6,hl,Tn,h2]⟩
def Zpj {p:Pr} {vs:Vs}:∀{l:List Li} {j:Nat} {x:Li},ZgC p vs l=none->l[j]?=some x->rtL p vs x=none
 | [],j,x,h,hx=>by simp at hx
 | y::l,j,x,h,hx=>by
  simp only [ZgC] at h
  cases hy:rtL p vs y with
  | some f=>rw [hy] at h;cases h
  | none =>
  rw [hy] at h
  cases j with
  | zero=>simp at hx;subst hx;exact hy
  | succ j=>exact Zpj h (by simpa using hx)
def ZIW (a b:Zq):Zq:=fun args σ K=>a args σ K\/b args σ K
def Zux {G:GE} {g:FuncId} {a b:Zq} (ha:PCalls G g a) (hb:PCalls G g b):PCalls G g (ZIW a b):=⟨ha.enters,fun args σ K h=>h.elim (ha.calls args σ K) (hb.calls args σ K)⟩
abbrev ZH7 (pl:Pl) (p:Pr) (r:Ru) (vs:Vs) (more:Bool) (M:SM):List Box:=ZcS pl p r vs more++[.cells 72 [.ptr 0 0],.smap 9 M none,.cells 165 [.mp 8]]
def ZfW (m:Nat):Zq:=Zce fun rest pl p r vs more K=>match rest with
 | []=>(Zdk r<=m/\m<=2097152)/\Zrk p vs r.head r.args r.at' true=none/\ZgC p vs r.body=none/\∀x,ZfP p r=x->RtK pl K vs more x
 | _=>False
def Zld (m:Nat):ZL (ZfW m):=ZfQ fun rest pl p r vs more K K' hK h=>by
 split at h
 ·obtain ⟨h1,h2,h3,h4⟩:=h;exact ⟨h1,h2,h3,fun x g=>Zja hK (h4 x g)⟩
 exact h.elim
def Zpk (m:Nat):Tbl:=[(81,ZIW (Zq2 m) (Zq3 m))]
def Zxu {m:Nat} (ht:TO w0 nG (Zpk m)):PC w0 nG 43 (ZfW m):=by
 refine Zsf ZR mixed (tbl:=Zpk m) ht Tryz.func43 rfl kR kR ?_;intro args σ K h
 unfold ZfW Zce at h
 split at h
 ·obtain ⟨pl,p,⟨head,ah,body,rat⟩,vs,more,rfl,hp,h⟩:=h;split at h
  ·obtain ⟨⟨hz,hm⟩,ig,zi,h⟩:=h;simp only [Zdk] at hz ig zi;obtain ⟨hi,hd,du,fc,mb,ir,vd⟩:=Zlc ig;have qg:=Zo szL body;have ko:(XL pl body).length=body.length:=by rw [Zp,Tf]
   have hlh:(Zs pl ah).length=ah.length:=by rw [Zd,Tf]
   have hnh:=Zo szE ah;have lx:=ZCF p (l:=body) oM;obtain ⟨MF,hMF⟩:∃MF,Vi [] (body.flatMap (Us p))=MF:=⟨_,rfl⟩
   rw [hMF] at lx;obtain ⟨X,hX⟩:∃X,ZfP p ⟨head,ah,body,rat⟩=X:=⟨_,rfl⟩
   have h:=h X hX;have hX:VO p (ZfO p body) (Za9 p ah hd.fields)=X:=by rw [<- hX,ZfP,vd]
   generalize ZfO p body=kn at lx hX;refine ⟨Zr [(3,⟨[16],[1,2,14,15],fun w σ=>∃(j n:Nat) (M:SM),w=[.d (.int .i64 j)]/\σ=⟨ZH7 pl p ⟨head,ah,body,rat⟩ vs more M,[],0⟩/\j<=body.length/\(Zus M n/\n+szS szL (body.drop j)<=1073741824)/\Vi M ((body.drop j).flatMap (Us p))=MF,
     fun w _=>match w with | [.d (.int _ j)]=>((body.length:Int) - j).toNat | _=>0⟩),
    (7,⟨[45],[1,2,4,14,15,16,43,44],fun w σ=>∃(j i n:Nat) (M:SM) (rel:Bs) (eargs:List Ex) (lbody:List Li) (at':Nat) (fs:List Fi),w=[.ptr 7 0,.ptr 9 0,.ptr 10 0,.d (.sl (XL pl body)),.d (.int .i64 ((XL pl body).length:Nat)),.d (.int .i64 j),.d (.sl (fs.map Zn)),.d (.int .i64 ((fs.map Zn).length:Nat)),.d (.int .i64 i)] /\
      σ=⟨ZH7 pl p ⟨head,ah,body,rat⟩ vs more M++[.cells 75 ((XD pl (.mk 1 rel eargs lbody at')).map .d)],[],0⟩/\body[j]?=some (.mk 1 rel eargs lbody at')/\fs=Zk6 p rel/\i<=eargs.length /\
      (Zus M n/\n+szS szE (eargs.drop i)+szS szL (body.drop (j+1))<=1073741824)/\Vi (Vi M (Za9 p (eargs.drop i) (fs.drop i))) ((body.drop (j+1)).flatMap (Us p))=MF,
     fun w _=>match w with | [_,_,_,_,_,_,_,.d (.int _ n),.d (.int _ i)]=>(n - i).toNat | _=>0⟩),
    (13,⟨[87],[1,2,85,86],fun w σ=>∃(j:Nat),w=[.d (.int .i64 j)]/\σ=⟨ZH7 pl p ⟨head,ah,body,rat⟩ vs more MF,[],0⟩/\j<=ah.length/\VO p kn (Za9 p (ah.drop j) (hd.fields.drop j))=X,
     fun w _=>match w with | [.d (.int _ j)]=>((ah.length:Int) - j).toNat | _=>0⟩)],Wk [],YG [7],YG [9],YG [],7,false,sM,Td rfl,?_⟩
   conv=>whnf
   refine ⟨⟨0,0,[],rfl,rfl,oM,⟨(fun t rows hr=>by cases hr),by rw [Si];omega⟩,hMF⟩,?_⟩
   rintro w σ1 ⟨j,n,M,rfl,rfl,hj,⟨hM,hn⟩,ha⟩
   conv=>whnf
   refine ZJU (fun hc=>?_) (fun hc=>?_);rotate_left
   ·have hc:¬(j:Int)<((XL pl body).length:Int):=hc;rw [TA oM] at ha;have ha:M=MF:=ha;subst ha;have hr:(p.rels.map (ZO pl))[(hi:Int).toNat]?=some (ZO pl hd):=by rw [Tn,Tk,fc];rfl
    obtain ⟨d1,d2,d3,d4,d5,d6⟩:=hd;simp only at mb ir hX;(conv=>whnf);refine optK.yes (by rw [ZX,du];rfl) (wN ?_)
    (repeat (refine ⟨rfl,?_⟩;conv=>whnf))
    refine ⟨_,oM,hr,wN ?_⟩;refine ⟨⟨0,rfl,rfl,oM,hX⟩,?_⟩
    rintro w σ1 ⟨i,rfl,rfl,af,ha⟩
    conv=>whnf
    refine ZJU (fun bw=>?_) (fun bw=>?_);rotate_left
    ·have bw:¬(i:Int)<((d2.map Zn).length:Int):=bw;rw [Tf] at bw;rw [TA oM] at ha;have ha:none=X:=ha;subst ha;exact mq52
    have ab:i<d2.length:=by have bw:(i:Int)<((d2.map Zn).length:Int):=bw;rw [Tf] at bw;omega
    have av:i<ah.length:=oM;rw [Tq ab,Tq av] at ha;simp only [Za9] at ha;have hk:=Zd9 ir (Tc av) (by rw [ZZ,Tk,Tc ab];rfl);have pa:(d2.map Zn)[(i:Int).toNat]?=some (Zn d2[i]):=by rw [Tn,Tk,Tc ab];rfl
    have np:(Zs pl ah)[(i:Int).toNat]?=some (Z7 pl ah[i]):=by rw [Zd,Tn,Tk,Tc av];rfl
    have dy:=Zu szE ah i av;have hμ:((ah.length:Int) - ((i:Int)+1)).toNat<((ah.length:Int) - (i:Int)).toNat:=oM;generalize d2[i]=f0 at ha hk pa;generalize ah[i]=x0 at ha hk np dy;obtain ⟨f1,f2⟩:=f0;obtain ⟨x1,x2,x3,x4,x5⟩:=x0;(conv=>whnf);refine ⟨_,oM,pa,wN ?_⟩;refine ⟨_,oM,np,wN ?_⟩;refine .inr ⟨pl,p,⟨head,ah,body,rat⟩,vs,more,.mk x1 x2 x3 x4 x5,M,kn,rfl,rfl,rfl,hp,⟨oM,hm⟩,hk,lx,fun y hy=>?_⟩;rw [VE,hy] at ha
    cases y with
    | some ae =>
     obtain ⟨a,e⟩:=ae;simp only [orF] at ha;subst ha;simp only [FlK,RtK] at h |-;exact mq52
    | none =>
    simp only [FlK,orF] at ha |-;(conv=>whnf)
    (repeat (refine ⟨rfl,?_⟩;conv=>whnf))
    refine Zl ?_;exact ⟨⟨i+1,rfl,rfl,oM,ha⟩,hμ⟩
   have ab:j<body.length:=by have hc:(j:Int)<((XL pl body).length:Int):=hc;omega
   have hr:(XL pl body)[(j:Int).toNat]?=some (XD pl body[j]):=by rw [Zp,Tn,Tk,Tc ab];rfl
   have dy:=Zu szL body j ab;have ia:=Zea (f:=szL) (Tc ab);have hx:=Zpj zi (Tc ab);rw [Tq ab,List.flatMap_cons,Vi,List.foldl_append] at ha;have hμ:((body.length:Int) - ((j:Int)+1)).toNat<((body.length:Int) - (j:Int)).toNat:=oM;have jq:body[j]?=some body[j]:=Tc ab;generalize body[j]=x at ha hr dy ia hx jq;obtain ⟨op,rel,eargs,lbody,at'⟩:=x;simp only [szL,X2] at dy ia;simp only [Us] at ha;(conv=>whnf);refine ⟨_,oM,hr,wN ?_⟩;refine ZJX (fun ho=>wN ?_) (fun ho=>?_)
   ·have ho:¬op=1:=fun g=>ho (by simp only [g];rfl)
    rw [Tb ho] at ha;refine Zl ?_;exact ⟨⟨j+1,n,M,rfl,rfl,oM,⟨hM,oM⟩,ha⟩,hμ⟩
   have ho:op=1:=by have ho:(op:Int)=1:=ho;omega
   subst ho;rw [Tg rfl] at ha;simp only [rtL] at hx;rw [Tg dM] at hx;obtain ⟨ri,d,q1,q2,q3,q4,q5⟩:=Zlc hx;have hrr:(p.rels.map (ZO pl))[(ri:Int).toNat]?=some (ZO pl d):=by rw [Tn,Tk,q2];rfl
   obtain ⟨d1,d2,d3,d4,d5,d6⟩:=d;simp only at q3 q4 q5;have f9:(Zs pl eargs).length=eargs.length:=by rw [Zd,Tf]
   have aj:=Zo szE eargs;rw [q5] at ha;(conv=>whnf);refine optK.yes (by rw [ZX,q1];rfl) (wN ?_)
   (repeat (refine ⟨rfl,?_⟩;conv=>whnf))
   refine ⟨_,oM,hrr,wN ?_⟩;refine ⟨⟨j,0,n,M,rel,eargs,lbody,at',d2,rfl,rfl,jq,q5.symm,oM,⟨hM,by rw [Si];omega⟩,ha⟩,?_⟩
   clear ha hM hn
   rintro w σ1 ⟨j',i,n2,M2,rel',eargs',lbody',at'',fs',hw,rfl,lk,zj,af,⟨vj,ip⟩,ha⟩
   have ej:(some (PV.d (.int .i64 (j:Int))):Option PV)=some (.d (.int .i64 (j':Int))):=congrArg (fun l:List PV=>l[5]?) hw;obtain rfl:j=j':=by have ej:=Option.some.inj ej;injection ej with ej;injection ej with _ ej;omega
   rw [jq] at lk;obtain ⟨_,rfl,rfl,rfl,rfl⟩:=Li.mk.inj (Option.some.inj lk);obtain rfl:fs'=d2:=zj.trans q5;have hw:w=[.d (.int .i64 i)]:=congrArg (List.drop 8) hw;subst hw;(conv=>whnf);refine ZJU (fun bw=>?_) (fun bw=>?_);rotate_left
   ·have bw:¬(i:Int)<((fs'.map Zn).length:Int):=bw;rw [Tf] at bw;have hii:i=eargs.length:=oM;rw [TA oM] at ha ip;have ha:Vi M2 ((body.drop (j+1)).flatMap (Us p))=MF:=ha;(conv=>whnf);refine Zl ?_;exact ⟨⟨j+1,n2,M2,rfl,rfl,oM,⟨vj,by simp only [szS] at ip;omega⟩,ha⟩,hμ⟩
   have vl:i<fs'.length:=by have bw:(i:Int)<((fs'.map Zn).length:Int):=bw;rw [Tf] at bw;omega
   have av:i<eargs.length:=oM;rw [Tq vl,Tq av] at ha;simp only [Za9] at ha;have hk:=Zd9 q4 (Tc av) (by rw [ZZ,Tk,Tc vl];rfl);have pa:(fs'.map Zn)[(i:Int).toNat]?=some (Zn fs'[i]):=by rw [Tn,Tk,Tc vl];rfl
   have np:(Zs pl eargs)[(i:Int).toNat]?=some (Z7 pl eargs[i]):=by rw [Zd,Tn,Tk,Tc av];rfl
   have um:=Zu szE eargs i av;have hde:=Zea (f:=szE) (Tc av);have hμ2:(((fs'.map Zn).length:Int) - ((i:Int)+1)).toNat<(((fs'.map Zn).length:Int) - (i:Int)).toNat:=by rw [Tf];omega
   generalize fs'[i]=f0 at ha hk pa;generalize eargs[i]=x0 at ha hk np um hde;obtain ⟨f1,f2⟩:=f0;obtain ⟨x1,x2,x3,x4,x5⟩:=x0;(conv=>whnf);refine ⟨_,oM,pa,wN ?_⟩;refine ⟨_,oM,np,wN ?_⟩;refine .inl ⟨pl,p,⟨head,ah,body,rat⟩,vs,more,.mk x1 x2 x3 x4 x5,M2,n2,rfl,rfl,rfl,hp,⟨oM,hm⟩,hk,⟨vj,oM⟩,wN ?_⟩;have hM3:=Zb8 (wiE p (.mk x1 x2 x3 x4 x5) f2) vj;have hwl:=Zjb p (.mk x1 x2 x3 x4 x5) f2;rw [show Vi M2 (wiE p (.mk x1 x2 x3 x4 x5) f2++Za9 p (List.drop (i+1) eargs) (List.drop (i+1) fs'))=Vi (Vi M2 (wiE p (.mk x1 x2 x3 x4 x5) f2)) (Za9 p (List.drop (i+1) eargs) (List.drop (i+1) fs')) from List.foldl_append ..] at ha
   (repeat (refine ⟨rfl,?_⟩;conv=>whnf))
   refine Zl ?_;exact ⟨⟨j,i+1,n2+(wiE p (.mk x1 x2 x3 x4 x5) f2).length,_,rel,eargs,lbody,at',fs',rfl,rfl,jq,zj,oM,⟨hM3,oM⟩,ha⟩,hμ2⟩
  exact h.elim
 exact h.elim
def recOfC:Nat×Nat×Code:=match ZDR (Xm Tryz.f40) with | some x=>x | none=>(0,0,.skip)
def ZCG:List PV->St->(St->Prop)->Prop:=fun args σ K=>args.length<=Tryz.f40.ntmps/\W (ctx ZaM [] (Zr [])) recOfC.2.2 (Zzp ZaM Tryz.f40 σ.bx.length K) (U6 (U6 (Zen 0 args) recOfC.1 (.d .nili)) recOfC.2.1 (.d .nili)) σ
def ZCH:PV->List PV->St->(St->Prop)->Prop:=fun pv args σ K=>args.length<=Tryz.f40.ntmps/\W (ctx ZaM [] (Zr [])) recOfC.2.2 (Zzp ZaM Tryz.f40 σ.bx.length K) (U6 (U6 (Zen 0 args) recOfC.1 pv) recOfC.2.1 pv) σ
def ZCI:PDef (GG w0 nG) 40 ZCG ZCH :=
 ZsD (a:=recOfC.1) (b:=recOfC.2.1) (rest:=recOfC.2.2) ZR mixed Tryz.func40 rfl kR rfl kR (fun args σ K h=>⟨ZvH ZaM [] (Zr []) (fun _=>0) (fun _=>false),σ.bx.length,CxG.of (tbl:=[]) ZR trivial trivial _ _ _,Tw _,h.1,h.2⟩) (fun pv args σ K h=>⟨ZvH ZaM [] (Zr []) (fun _=>0) (fun _=>false),σ.bx.length,CxG.of (tbl:=[]) ZR trivial trivial _ _ _,Tw _,h.1,h.2⟩)
def ZJy (pl:Pl):Flt->PV
 | none=>.agg [.d (.int .i64 0),.d (.int .i64 0)]
 | some (a,e)=>.agg [.d (.int .i64 (pl a)),.d (.int .i64 e)]
def Zeb (m:Nat):Zq:=Zce fun rest pl p r vs more K=>match rest with
 | []=>(Zdk r<=m/\m<=2097152)/\ZdG r.body=true/\∀x,Zaz p r vs=x->K (.ret (ZJy pl x)) vs more
 | _=>False
def Zle (m:Nat):Tbl:=[(41,ZhA m),(42,ZfV m),(43,ZfW m)]
def Zuy {m:Nat} (ht:TO w0 nG (Zle m)):PC w0 nG 19 (Zeb m):=by
 refine Ziw ZR mixed Tryz.func19 rfl kR kR ZCI ?_;intro args σ K h
 unfold Zeb Zce at h
 split at h
 ·obtain ⟨pl,p,⟨head,ah,body,rat⟩,vs,more,rfl,hp,h⟩:=h;split at h
  ·obtain ⟨⟨hz,hm⟩,bv,h⟩:=h;simp only [Zdk] at hz bv;refine ⟨ZvH ZaM (Zle m) (Zr []) (Wk []) (YG []),7,false,CxG.of ZR ht ⟨Znz m,ZnA m,Zld m,trivial⟩ _ _ _,sM,Td rfl,wN ?_⟩;simp only [Zaz] at h;refine ZJU (fun hc=>wN ?_) (fun hc=>wN ?_)
   ·have hc:64<vs.length:=by have hc:(64:Int)<((mvM mvI vs).length:Nat):=hc;rw [Zno] at hc;omega
    rw [Tg hc] at h;exact h _ rfl
   have hc:¬64<vs.length:=by have hc:¬(64:Int)<((mvM mvI vs).length:Nat):=hc;rw [Zno] at hc;omega
   rw [Tb hc] at h
   (repeat (refine ⟨rfl,?_⟩;conv=>whnf))
   refine ⟨pl,p,⟨head,ah,body,rat⟩,vs,more,rfl,hp,ah,rat,rfl,rfl,⟨oM,hm⟩,fun x hx=>?_⟩;rw [hx] at h
   cases x with
   | some ae =>
    obtain ⟨a,e⟩:=ae;have h:=h _ rfl;exact mq108
   | none =>
   simp only [RtK];(conv=>whnf)
   (repeat (refine ⟨rfl,?_⟩;conv=>whnf))
   refine ⟨pl,p,⟨head,ah,body,rat⟩,vs,more,rfl,hp,body,rfl,⟨oM,hm⟩,bv,fun y hy=>?_⟩;rw [hy] at h
   cases y with
   | some ae =>
    obtain ⟨a,e⟩:=ae;have h:=h _ rfl;exact mq108
   | none =>
   simp only [RtK];(conv=>whnf)
   (repeat (refine ⟨rfl,?_⟩;conv=>whnf))
   refine ⟨pl,p,⟨head,ah,body,rat⟩,vs,more,rfl,hp,⟨by simp only [Zdk];omega,hm⟩,hx,hy,fun z hz=>?_⟩;have h:=h z hz
   cases z with
   | some ae =>
    obtain ⟨a,e⟩:=ae;exact mq108
   | none =>
   exact mq108
  exact h.elim
 exact h.elim
def ZH8:Prop:=∀p:Pr,ZfN p=none->ZF1 p
def pig:∀(n:Nat) (f:Nat->Nat),(∀i,i<=n->f i<n)->∃i j,i<j/\j<=n/\f i=f j
 | 0,f,h=>absurd (h 0 (Tw _)) oM
 | n+1,f,h=>by
  by_cases hx:∃i,i<=n/\f i=f (n+1)
  ·obtain ⟨i,h1,h2⟩:=hx;exact ⟨i,n+1,oM,oM,h2⟩
  have aj:∀i,i<=n->f i≠f (n+1):=fun i hi g=>hx ⟨i,hi,g⟩
  have hv:=h (n+1) oM;obtain ⟨i,j,h1,h2,h3⟩:=pig n (fun i=>if f (n+1)<f i then f i - 1 else f i) (fun i hi=>by
   have h1:=h i oM;have h2:=aj i hi;show (if f (n+1)<f i then f i - 1 else f i)<n;split <;> omega)
  refine ⟨i,j,h1,oM,?_⟩;have h4:=aj i oM;have h5:=aj j h2
  change (if f (n+1)<f i then f i - 1 else f i)=(if f (n+1)<f j then f j - 1 else f j) at h3
  split at h3 <;> split at h3 <;> omega
def sN (p:Pr):Nat->Bs->Bs
 | 0,a=>a
 | n+1,a=>sN p n ((Xj p a).getD [])
def Zuz (p:Pr):∀(i k:Nat) (a:Bs),sN p (i+k) a=sN p k (sN p i a)
 | 0,k,a=>by rw [Se];rfl
 | i+1,k,a=>by rw [show i+1+k=(i+k)+1 by omega];exact Zuz p i k _
def Zpl {p:Pr}:∀{n:Nat} {a:Bs},Zai p n a=none->∀i,i<n->(Xj p (sN p i a)).isSome=true
 | 0,_,_,i,hi=>oM
 | n+1,a,h,i,hi=>by
  simp only [Zai] at h;split at h
  ·cases h
  rename_i c hc
  cases i with
  | zero=>simp only [sN,hc];rfl
  | succ i=>simp only [sN,hc];exact Zpl h i oM
def ZuA {p:Pr} {s:Bs}:∀{k n:Nat} {a:Bs},(∀i,i<=k->(Xj p (sN p i a)).isSome=true)->sN p (k+1) a=s->k<n->Zay p s n a=true
 | k,0,_,_,_,h=>oM
 | 0,n+1,a,h,hs,_=>by
  obtain ⟨c,hc⟩:=Sw.1 (h 0 oM);simp only [sN] at hc hs;rw [hc] at hs;simp only [SE] at hs;simp only [Zay,hc];rw [Tg hs]
 | k+1,n+1,a,h,hs,hk=>by
  obtain ⟨c,hc⟩:=Sw.1 (h 0 oM);simp only [sN] at hc;simp only [Zay,hc];split
  ·rfl
  refine ZuA (k:=k) (fun i hi=>?_) ?_ oM
  ·have:=h (i+1) oM;simpa only [sN,hc,SE] using this
  rw [<- hs];simp only [sN,hc];rfl
def ZhC {p:Pr}:∀{l:List Ty},Za7 p l=none->∀t∈l,Zi9 p t=false
 | [],_,_,h=>by cases h
 | x::l,h,t,ht=>by
  simp only [Za7] at h;split at h
  ·cases h
  rename_i hx
  rcases Tv.1 ht with rfl | ht
  ·simpa using hx
  exact ZhC h t ht
def ZCJ {p:Pr} {a b:Bs} (h:Xj p a=some b):∃(k:Nat) (t:Ty),lkM a (ZwY p)=some (k:Int)/\p.types[k]?=some t/\t.name=a/\t.kind=1/\t.base=b:=by
 unfold Xj at h
 split at h
 ·cases h
 rename_i i hi
 obtain ⟨k,t,rfl,ht,hn⟩:=Zt5 hi;split at h
 ·cases h
 rw [Tn,ht] at h;simp only at h;split at h
 ·rename_i hc;cases h;exact ⟨k,t,hi,ht,hn,hc.1,rfl⟩
 cases h
def ZCK {p:Pr} (h:Za7 p p.types=none):ZF1 p:=fun s=>by
 cases he:ZwZ p s with
 | some r=>rfl
 | none =>
 exfalso;have hs:=Zpl he;have zg:∀i,i<=p.types.length->∃(k:Nat) (t:Ty),lkM (sN p i s) (ZwY p)=some (k:Int)/\p.types[k]?=some t/\t.name=sN p i s:=fun i hi=>by
  obtain ⟨b,hb⟩:=Sw.1 (hs i oM);obtain ⟨k,t,h1,h2,h3,_⟩:=ZCJ hb;exact ⟨k,t,h1,h2,h3⟩
 obtain ⟨i,j,h1,h2,h3⟩:=pig p.types.length (fun i=>((lkM (sN p i s) (ZwY p)).getD 0).toNat) (fun i hi=>by
  obtain ⟨k,t,g1,g2,_⟩:=zg i hi;simp only [g1,SE,Tn];exact (Ti.1 g2).1)
 obtain ⟨k1,t1,g1,g2,g3⟩:=zg i oM;obtain ⟨k2,t2,q1,q2,q3⟩:=zg j h2;simp only [g1,q1,SE,Tn] at h3;subst h3;rw [g2] at q2
 cases q2
 have bu:sN p j s=sN p i s:=q3.symm.trans g3;have hr:=ZhC h t1 (T4 g2);have:Zi9 p t1=true:=by
  unfold Zi9
  rw [g3];refine ZuA (k:=j - i - 1) (fun m hm=>?_) ?_ oM
  ·rw [<- Zuz];exact hs _ oM
  rw [<- Zuz,show i+(j - i - 1+1)=j by omega];exact bu
 rw [this] at hr
 cases hr
def Zxv {p:Pr} (h:ZfN p=none):Zb6 p.types Zhu []=none/\ZdJ p p.types=none/\Za7 p p.types=none:=by
 unfold ZfN at h
 split at h
 ·cases h
 rename_i h1
 split at h
 ·cases h
 rename_i h2
 split at h
 ·cases h
 rename_i h3;exact ⟨h1,h2,h3⟩
def ZGg:ZH8:=fun p h=>ZCK (Zxv h).2.2
inductive On (p:Pr):Bs->Bs->Prop
 | refl (a:Bs):On p a a
 | step {a c b:Bs} (h:Xj p a=some c) (k:On p c b):On p a b
def On.trans {p:Pr} {a b c:Bs} (h:On p a b) (k:On p b c):On p a c:=by
 induction h with
 | refl=>exact k
 | step h _ ih=>exact .step h (ih k)
def NZ (x:Flt):Prop:=∀a e,x=some (a,e)->e≠0
def NZ.none:NZ none:=fun a e h=>by cases h
def NZ.mk {a e:Nat} (h:e≠0):NZ (some (a,e)):=fun _ _ g=>by cases g;exact h
mutual
def ZGh (p:Pr) (vs:Vs):∀(e:Ex) (n:Int),NZ (rtE p vs e n)
 | .mk op text num args a,n=>by
  simp only [rtE];split
  ·exact .mk dM
  split
  ·exact .mk dM
  split
  ·exact .mk dM
  exact ZfX p vs args _
def ZfX (p:Pr) (vs:Vs):∀(l:List Ex) (ns:List Int),NZ (Za8 p vs l ns)
 | [],_=>.none
 | e::l,[]=>.none
 | e::l,n::ns=>by
  have h:=ZGh p vs e n;simp only [Za8];split
  ·exact mq130
  exact ZfX p vs l ns
end
def ZuB (p:Pr) (vs:Vs) (name:Bs) (args:List Ex) (a:Nat) (hd:Bool):NZ (Zrk p vs name args a hd):=by
 unfold Zrk
 split
 ·exact .mk dM
 split
 ·exact .none
 split
 ·exact .mk dM
 split
 ·exact .mk dM
 exact ZfX p vs _ _
mutual
def ZGi (p:Pr) (vs:Vs):∀(x:Li),NZ (rtL p vs x)
 | .mk op rel args body a=>by
  simp only [rtL];split
  ·exact ZuB p vs _ _ _ _
  split
  ·have h:=ZfX p vs args [Uq p vs args,Uq p vs args];split
   ·exact mq130
   split
   ·exact .mk dM
   exact .none
  have h:=ZfX p vs args (List.replicate args.length 0);split
  ·exact mq130
  exact ZnC p vs body
def ZnC (p:Pr) (vs:Vs):∀(l:List Li),NZ (ZgC p vs l)
 | []=>.none
 | x::l=>by
  have h:=ZGi p vs x;simp only [ZgC];split
  ·exact mq130
  exact ZnC p vs l
end
def Zpm (p:Pr) (kn:List (Bs×Bs)):∀l,NZ (VO p kn l)
 | []=>.none
 | (.mk op text _ _ a,k)::l=>by
  simp only [VO];split
  ·exact .mk dM
  exact Zpm p kn l
def ZfY (p:Pr) (r:Ru) (vs:Vs):NZ (Zaz p r vs):=by
 unfold Zaz
 split
 ·exact .mk dM
 have h:=ZuB p vs r.head r.args r.at' true;split
 ·exact mq130
 have h:=ZnC p vs r.body;split
 ·exact mq130
 exact Zpm p _ _
def ZuC {p:Pr} (h:(Zds (prU p)).2=0) {r:Ru} (hr:r∈p.rules):ZdG r.body=true:=by
 have hm:ZbN (prU p)=true:=by
  cases hm:ZbN (prU p) with
  | true=>rfl
  | false=>rw [Zds,hm] at h;simp at h
 simp only [prU,ZbN,Tm,To] at hm;have:=hm.2.2.1 r hr;simp only [YQ,Tm] at this;rw [XM];exact this.2.2
def ZfZ (n:Nat):Zq:=fun args σ K=>match args,σ with
 | [.agg c],⟨[],[],0⟩=>∃pl p,c=(Za2 pl p).map .d/\(ZdH n (prU p)/\n<=16777216/\Zd4 p<=2097152) /\
   ((Zds (prU p)).2≠0->K (.ret (.tuple [.d .nilp,.agg [.d (.int .i64 0),.d (.int .i64 (Zds (prU p)).2)]])) ⟨[],[],0⟩) /\
   ((Zds (prU p)).2=0->∀a e,orF (ZfN p) (XC p p.rules)=some (a,e)->K (.ret (.tuple [.d .nilp,.agg [.d (.int .i64 (pl a)),.d (.int .i64 e)]])) ⟨[],[],0⟩) /\
   ((Zds (prU p)).2=0->orF (ZfN p) (XC p p.rules)=none->K (.ret (.tuple [.ptr 5 0,.agg [.d (.int .i64 0),.d (.int .i64 0)]])) ⟨ZH0 pl p,[],0⟩)
 | _,_=>False
def ZuD (n:Nat):Tbl:=[(15,Zt3 WI ZdH Zds n),(16,Zd5),(17,Zxh),(18,Zd8 2097152),(19,Zeb 2097152)]
def ZCL {n:Nat} (ht:TO w0 nG (ZuD n)):PC w0 nG 11 (ZfZ n):=by
 refine VI ZR mixed (tbl:=ZuD n) ht Tryz.func11 rfl kR kR ?_;intro args σ K h
 unfold ZfZ at h
 split at h
 ·obtain ⟨pl,⟨p1,p2,p3⟩,rfl,⟨hc,hn,hz⟩,h1,h2,h3⟩:=h;have hp:BP ⟨p1,p2,p3⟩:=by unfold BP;omega
  have jp:=@ZuC ⟨p1,p2,p3⟩;obtain ⟨tx,k,ho⟩:∃s k,Zds (prU ⟨p1,p2,p3⟩)=(s,k):=⟨_,_,rfl⟩
  rw [ho] at h1 h2 h3 jp;simp only at h1 h2 h3 jp
  by_cases hk:k=0
  ·subst hk;have h2:=h2 rfl;have h3:=h3 rfl;have jp:=@jp rfl
   cases hd:ZfN ⟨p1,p2,p3⟩ with
   | none =>
    rw [hd] at h2 h3;simp only [orF] at h2 h3;have ba:OKP ⟨p1,p2,p3⟩:=⟨hp,ZGg _ hd⟩
    have zk:∀r∈p3,Zdk r<=2097152:=fun r hr=>by have:=Zi6 (f:=Zdk) hr;simp only [Zd4] at hz;omega
    have mb:(p3.map (ZH pl)).length=p3.length:=Tf ..;have ir:p3.length<=2097152:=by have:=Zo Zdk p3;simp only [Zd4] at hz;omega
    cases hX:XC ⟨p1,p2,p3⟩ p3 with
    | none =>
     have h3:=h3 hX;refine ⟨Zr [(9,⟨[37],[3,6,35,36],fun w σ=>∃j:Nat,w=[.d (.int .i64 j)]/\σ=⟨ZH0 pl ⟨p1,p2,p3⟩++[.cells 52 [.d (.int .i64 0),.d (.int .i64 0)]],[],0⟩/\j<=p3.length/\XC ⟨p1,p2,p3⟩ (p3.drop j)=none,
      fun w _=>match w with | [.d (.int _ j)]=>((p3.length:Int) - j).toNat | _=>0⟩)],Wk [],YG [],8,false,sM,Td rfl,?_⟩
     conv=>whnf
     refine ⟨pl,prU ⟨p1,p2,p3⟩,rfl,⟨hc,hn⟩,fun s k he=>?_⟩;rw [ho] at he
     cases he
     conv=>whnf
     refine ⟨pl,⟨p1,p2,p3⟩,rfl,hp,wN ?_⟩;refine ⟨pl,⟨p1,p2,p3⟩,rfl,hp,fun x hx=>?_⟩;rw [hd] at hx;subst hx;(conv=>whnf);refine ⟨⟨0,rfl,rfl,oM,hX⟩,?_⟩
     rintro w σ1 ⟨j,rfl,rfl,hj,ha⟩
     conv=>whnf
     refine ZJU (fun hq=>?_) (fun hq=>?_);rotate_left
     ·have hq:¬(j:Int)<((p3.map (ZH pl)).length:Nat):=hq;rw [TA oM] at ha;have ha:none=none:=ha;(conv=>whnf);exact h3
     have ab:j<p3.length:=by have hq:(j:Int)<((p3.map (ZH pl)).length:Nat):=hq;omega
     have hr:(p3.map (ZH pl))[(j:Int).toNat]?=some (ZH pl p3[j]):=by rw [Tn,Tk,Tc ab];rfl
     have kp:=zk _ (TM ab);have vn:=jp (TM ab);rw [Tq ab] at ha;simp only [XC] at ha;have hμ:((p3.length:Int) - ((j:Int)+1)).toNat<((p3.length:Int) - (j:Int)).toNat:=oM;generalize p3[j]=r at ha hr kp vn;obtain ⟨r1,r2,r3,r4⟩:=r;(conv=>whnf);refine ⟨_,oM,hr,wN ?_⟩;refine ⟨pl,⟨p1,p2,p3⟩,⟨r1,r2,r3,r4⟩,rfl,rfl,ba,⟨kp,dM⟩,vn,wN ?_⟩;refine ⟨pl,⟨p1,p2,p3⟩,⟨r1,r2,r3,r4⟩,Zaj ⟨p1,p2,p3⟩ ⟨r1,r2,r3,r4⟩,false,rfl,ba,⟨kp,dM⟩,vn,fun x hx=>?_⟩;have hnz:=ZfY ⟨p1,p2,p3⟩ ⟨r1,r2,r3,r4⟩ (Zaj ⟨p1,p2,p3⟩ ⟨r1,r2,r3,r4⟩);rw [hx] at ha hnz
     cases x with
     | none =>
      conv=>whnf
      exact mq85
     | some ae =>
     obtain ⟨a2,e2⟩:=ae
     cases ha
    | some ae =>
    obtain ⟨a,e⟩:=ae;have h2:=h2 a e hX;refine ⟨Zr [(9,⟨[37],[3,6,35,36],fun w σ=>∃j:Nat,w=[.d (.int .i64 j)]/\σ=⟨ZH0 pl ⟨p1,p2,p3⟩++[.cells 52 [.d (.int .i64 0),.d (.int .i64 0)]],[],0⟩/\j<=p3.length/\XC ⟨p1,p2,p3⟩ (p3.drop j)=some (a,e),
     fun w _=>match w with | [.d (.int _ j)]=>((p3.length:Int) - j).toNat | _=>0⟩)],Wk [],YG [],0,false,sM,Td rfl,?_⟩
    conv=>whnf
    refine ⟨pl,prU ⟨p1,p2,p3⟩,rfl,⟨hc,hn⟩,fun s k he=>?_⟩;rw [ho] at he
    cases he
    conv=>whnf
    refine ⟨pl,⟨p1,p2,p3⟩,rfl,hp,wN ?_⟩;refine ⟨pl,⟨p1,p2,p3⟩,rfl,hp,fun x hx=>?_⟩;rw [hd] at hx;subst hx;(conv=>whnf);refine ⟨⟨0,rfl,rfl,oM,hX⟩,?_⟩
    rintro w σ1 ⟨j,rfl,rfl,hj,ha⟩
    conv=>whnf
    refine ZJU (fun hq=>?_) (fun hq=>?_);rotate_left
    ·have hq:¬(j:Int)<((p3.map (ZH pl)).length:Nat):=hq;rw [TA oM] at ha;have ha:none=some (a,e):=ha
     cases ha
    have ab:j<p3.length:=by have hq:(j:Int)<((p3.map (ZH pl)).length:Nat):=hq;omega
    have hr:(p3.map (ZH pl))[(j:Int).toNat]?=some (ZH pl p3[j]):=by rw [Tn,Tk,Tc ab];rfl
    have kp:=zk _ (TM ab);have vn:=jp (TM ab);rw [Tq ab] at ha;simp only [XC] at ha;have hμ:((p3.length:Int) - ((j:Int)+1)).toNat<((p3.length:Int) - (j:Int)).toNat:=oM;generalize p3[j]=r at ha hr kp vn;obtain ⟨r1,r2,r3,r4⟩:=r;(conv=>whnf);refine ⟨_,oM,hr,wN ?_⟩;refine ⟨pl,⟨p1,p2,p3⟩,⟨r1,r2,r3,r4⟩,rfl,rfl,ba,⟨kp,dM⟩,vn,wN ?_⟩;refine ⟨pl,⟨p1,p2,p3⟩,⟨r1,r2,r3,r4⟩,Zaj ⟨p1,p2,p3⟩ ⟨r1,r2,r3,r4⟩,false,rfl,ba,⟨kp,dM⟩,vn,fun x hx=>?_⟩;have hnz:=ZfY ⟨p1,p2,p3⟩ ⟨r1,r2,r3,r4⟩ (Zaj ⟨p1,p2,p3⟩ ⟨r1,r2,r3,r4⟩);rw [hx] at ha hnz
    cases x with
    | none =>
     conv=>whnf
     exact mq85
    | some ae =>
    obtain ⟨a2,e2⟩:=ae;have ha:some (a2,e2)=some (a,e):=ha
    cases ha
    conv=>whnf
    refine ZJX (fun _=>wN ?_) (fun g=>absurd (by have g:(e:Int)=0:=g;omega) (hnz _ _ rfl))
    (repeat (refine ⟨rfl,?_⟩;conv=>whnf))
    exact h2
   | some ae =>
   obtain ⟨a,e⟩:=ae;have h2:=h2 a e (by rw [hd];rfl);refine ⟨Zr [],Wk [],YG [],0,false,sM,Td rfl,wN ?_⟩;refine ⟨pl,prU ⟨p1,p2,p3⟩,rfl,⟨hc,hn⟩,fun s k he=>?_⟩;rw [ho] at he
   cases he
   conv=>whnf
   refine ⟨pl,⟨p1,p2,p3⟩,rfl,hp,wN ?_⟩;refine ⟨pl,⟨p1,p2,p3⟩,rfl,hp,fun x hx=>?_⟩;rw [hd] at hx;subst hx;(conv=>whnf);refine ZJX (fun _=>wN ?_) (fun g=>absurd (by have g:(e:Int)=0:=g;omega) (Zue hd))
   (repeat (refine ⟨rfl,?_⟩;conv=>whnf))
   exact h2
  have h1:=h1 hk;refine ⟨Zr [],Wk [],YG [],0,false,sM,Td rfl,wN ?_⟩;refine ⟨pl,prU ⟨p1,p2,p3⟩,rfl,⟨hc,hn⟩,fun s k he=>?_⟩;rw [ho] at he
  cases he
  conv=>whnf
  refine ZJX (fun _=>wN ?_) (fun g=>absurd (by have g:(k:Int)=0:=g;omega) hk);exact h1
 exact h.elim
def Zf0 (n:Nat):Zq:=fun args σ K=>match args,σ with
 | [.agg c],⟨[],[],0⟩=>∃pl p,c=(Za2 pl p).map .d/\(ZdH n (prU p)/\n<=16777216/\Zd4 p<=2097152)/\∀a e,Zvj pl p=(a,e)->K (.ret (.tuple [.d (.int .i64 a),.d (.int .i64 e)])) ⟨[],[],0⟩
 | _,_=>False
def Zf1 (pl:Pl) (p:Pr):Zvj pl p=if (Zds (prU p)).2≠0 then ((0:Int),((Zds (prU p)).2:Int)) else match orF (ZfN p) (XC p p.rules) with | some (a,e)=>(pl a,(e:Int)) | none=>(0,0):=by
 unfold Zvj
 split
 ·rfl
 cases ZfN p with
 | some ae=>rfl
 | none=>rfl
def Zxw {n:Nat}:OKw w0 nG [(11,ZfZ n)] 6 (Zf0 n):=by
 refine pwo Tryz.func6 fun args σ K h=>?_
 unfold Zf0 at h
 split at h
 ·obtain ⟨pl,p,rfl,hc,h⟩:=h;simp only [Zf1] at h;refine pwv [] 0 false ?_;refine ⟨pl,p,rfl,hc,fun g=>?_,fun g a e g2=>?_,fun g g2=>?_⟩
  ·conv=>whnf
   exact h _ _ (by rw [Tg g])
  ·conv=>whnf
   exact h _ _ (by rw [Tb (fun q=>q g),g2])
  conv=>whnf
  exact h _ _ (by rw [Tb (fun q=>q g),g2])
 exact h.elim
end Go.PM.Lex
end

section
namespace Go.PM.Lex
section
variable {ty:List Ty} {re:List Re} {a b:List Ru}
def Zdx (x:Bs):∀(n:Nat) (y:Bs),Za6 ⟨ty,re,a⟩ x n y=Za6 ⟨ty,re,b⟩ x n y
 | 0,y=>rfl
 | n+1,y=>by
  simp only [Za6];rw [show Xj ⟨ty,re,a⟩ y=Xj ⟨ty,re,b⟩ y from rfl];split
  ·rfl
  split
  ·rfl
  exact Zdx x n _
def Zq4 (x y:Bs):Wt ⟨ty,re,a⟩ x y=Wt ⟨ty,re,b⟩ x y:=Zdx _ _ _
def ZhD:∀(n:Nat) (y:Bs),Zai ⟨ty,re,a⟩ n y=Zai ⟨ty,re,b⟩ n y
 | 0,y=>rfl
 | n+1,y=>by
  simp only [Zai];rw [show Xj ⟨ty,re,a⟩ y=Xj ⟨ty,re,b⟩ y from rfl];split
  ·rfl
  exact ZhD n _
def ZcV (x:Bs):Xr ⟨ty,re,a⟩ x=Xr ⟨ty,re,b⟩ x:=by
 unfold Xr ZwZ
 rw [ZhD (a:=a) (b:=b)];rfl
def Zba (l:List Fi):ZZ ⟨ty,re,a⟩ l=ZZ ⟨ty,re,b⟩ l:=by
 unfold ZZ
 exact TX fun f _=>ZcV _
def ZhE (op:Nat) (text:Bs) (k:Nat) (n:Int):ZJ ⟨ty,re,a⟩ op text k n=ZJ ⟨ty,re,b⟩ op text k n:=by
 unfold ZJ
 rw [show ZdL ⟨ty,re,a⟩ text=ZdL ⟨ty,re,b⟩ text from rfl,show ZgB ⟨ty,re,a⟩ n=ZgB ⟨ty,re,b⟩ n from rfl];split
 ·split
  ·exact Zba _
  rfl
 split
 ·split
  ·exact Zba _
  rfl
 rfl
def Zpn (vs:Vs) (op:Nat) (text:Bs):Zd6 ⟨ty,re,a⟩ vs op text=Zd6 ⟨ty,re,b⟩ vs op text:=by
 unfold Zd6
 rw [show ZdL ⟨ty,re,a⟩ text=ZdL ⟨ty,re,b⟩ text from rfl];split
 ·rfl
 split
 ·split
  ·exact ZcV _
  rfl
 rfl
def Zlf (vs:Vs) (e:Ex):Zyy ⟨ty,re,a⟩ vs e=Zyy ⟨ty,re,b⟩ vs e:=by
 obtain ⟨op,text,_,_,_⟩:=e;exact Zpn ..
def ZhF (vs:Vs) (l:List Ex):Uq ⟨ty,re,a⟩ vs l=Uq ⟨ty,re,b⟩ vs l:=by
 unfold Uq
 split
 ·rw [Zlf (a:=a) (b:=b),Zlf (a:=a) (b:=b)]
 rfl
def Zf2 (s:Bs) (n:Nat):Xc ⟨ty,re,a⟩ s n=Xc ⟨ty,re,b⟩ s n:=by
 unfold Xc
 rw [show JJ ⟨ty,re,a⟩=JJ ⟨ty,re,b⟩ from rfl];split
 ·rfl
 rw [show (⟨ty,re,a⟩:Pr).rels=(⟨ty,re,b⟩:Pr).rels from rfl];split
 ·rfl
 split
 ·exact Zba _
 rfl
mutual
def Zxx:∀(e:Ex) (n:Int) (s:VS),gvE ⟨ty,re,a⟩ e n s=gvE ⟨ty,re,b⟩ e n s
 | .mk op text num args at',n,s=>by
  simp only [gvE];rw [ZhE (a:=a) (b:=b),Uu args]
def Uu:∀(l:List Ex) (ns:List Int) (s:VS),Zbh ⟨ty,re,a⟩ l ns s=Zbh ⟨ty,re,b⟩ l ns s
 | [],_,_=>rfl
 | e::l,[],_=>rfl
 | e::l,n::ns,s=>by simp only [Zbh];rw [Zxx e,Uu l]
end
mutual
def Zxy:∀(x:Li) (s:VS),gvL ⟨ty,re,a⟩ x s=gvL ⟨ty,re,b⟩ x s
 | .mk op rel args body at',s=>by
  simp only [gvL];rw [Zf2 (a:=a) (b:=b),ZhF (a:=a) (b:=b),Uu (a:=a) (b:=b),Uu (a:=a) (b:=b),Uu (a:=a) (b:=b),Zf3 body]
def Zf3:∀(l:List Li) (s:VS),Zpd ⟨ty,re,a⟩ l s=Zpd ⟨ty,re,b⟩ l s
 | [],_=>rfl
 | x::l,s=>by simp only [Zpd];rw [Zxy x,Zf3 l]
end
def Zq5 (r:Ru) (v:Vs):Ur ⟨ty,re,a⟩ r v=Ur ⟨ty,re,b⟩ r v:=by
 unfold Ur
 rw [Zf2 (a:=a) (b:=b),Uu (a:=a) (b:=b),Zf3 (a:=a) (b:=b)]
def Zf4 (r:Ru):∀(n:Nat) (v:Vs),VN ⟨ty,re,a⟩ r n v=VN ⟨ty,re,b⟩ r n v
 | 0,_=>rfl
 | n+1,v=>by
  simp only [VN];rw [Zq5 (a:=a) (b:=b),Zf4 r n]
def ZuE (r:Ru):Zaj ⟨ty,re,a⟩ r=Zaj ⟨ty,re,b⟩ r:=by unfold Zaj;rw [Zf4 (a:=a) (b:=b)]
mutual
def Zxz (vs:Vs):∀(e:Ex) (n:Int),rtE ⟨ty,re,a⟩ vs e n=rtE ⟨ty,re,b⟩ vs e n
 | .mk op text num args at',n=>by
  simp only [rtE];rw [Zpn (a:=a) (b:=b),ZhE (a:=a) (b:=b),JL vs args];rfl
def JL (vs:Vs):∀(l:List Ex) (ns:List Int),Za8 ⟨ty,re,a⟩ vs l ns=Za8 ⟨ty,re,b⟩ vs l ns
 | [],_=>rfl
 | e::l,[]=>rfl
 | e::l,n::ns=>by simp only [Za8];rw [Zxz vs e,JL vs l]
end
def Zlg (vs:Vs) (s:Bs) (l:List Ex) (at':Nat) (hd:Bool):Zrk ⟨ty,re,a⟩ vs s l at' hd=Zrk ⟨ty,re,b⟩ vs s l at' hd:=by
 unfold Zrk
 rw [Zf2 (a:=a) (b:=b),JL (a:=a) (b:=b)];rfl
mutual
def ZxA (vs:Vs):∀(x:Li),rtL ⟨ty,re,a⟩ vs x=rtL ⟨ty,re,b⟩ vs x
 | .mk op rel args body at'=>by
  simp only [rtL];rw [Zlg (a:=a) (b:=b),ZhF (a:=a) (b:=b),JL (a:=a) (b:=b),JL (a:=a) (b:=b),Zf5 vs body]
def Zf5 (vs:Vs):∀(l:List Li),ZgC ⟨ty,re,a⟩ vs l=ZgC ⟨ty,re,b⟩ vs l
 | []=>rfl
 | x::l=>by simp only [ZgC];rw [ZxA vs x,Zf5 vs l]
end
def Zlh (op:Nat) (text kind:Bs):Yv ⟨ty,re,a⟩ op text kind=Yv ⟨ty,re,b⟩ op text kind:=by
 unfold Yv
 rw [ZcV (a:=a) (b:=b)];rfl
mutual
def ZxB:∀(e:Ex) (kind:Bs),wiE ⟨ty,re,a⟩ e kind=wiE ⟨ty,re,b⟩ e kind
 | .mk op text num args at',kind=>by
  simp only [wiE];rw [Zlh (a:=a) (b:=b),Zca args]
def Zca:∀(l:List Ex) (fs:List Fi),Za9 ⟨ty,re,a⟩ l fs=Za9 ⟨ty,re,b⟩ l fs
 | [],_=>rfl
 | e::l,[]=>rfl
 | e::l,f::fs=>by simp only [Za9];rw [ZxB e,Zca l]
end
def Zq6 (l:List Li):ZfO ⟨ty,re,a⟩ l=ZfO ⟨ty,re,b⟩ l:=by
 rw [Zb9,Zb9]
 congr 1
 rw [List.flatMap_def,List.flatMap_def]
 congr 1
 refine TX fun x _=>?_
 obtain ⟨op,rel,args,body,at'⟩:=x;simp only [Us];rw [show Zk6 ⟨ty,re,a⟩ rel=Zk6 ⟨ty,re,b⟩ rel from rfl,Zca (a:=a) (b:=b)]
def ZhG (kn:List (Bs×Bs)):∀l,VO ⟨ty,re,a⟩ kn l=VO ⟨ty,re,b⟩ kn l
 | []=>rfl
 | (.mk op text _ _ at',k)::l=>by
  simp only [VO];rw [show Xj ⟨ty,re,a⟩ k=Xj ⟨ty,re,b⟩ k from rfl,ZhG kn l];simp only [Zq4 (a:=a) (b:=b)]
def Zq7 (r:Ru):ZfP ⟨ty,re,a⟩ r=ZfP ⟨ty,re,b⟩ r:=by
 unfold ZfP
 rw [ZhG (a:=a) (b:=b),Zq6 (a:=a) (b:=b),Zca (a:=a) (b:=b)];rfl
def Zq8 (r:Ru) (vs:Vs):Zaz ⟨ty,re,a⟩ r vs=Zaz ⟨ty,re,b⟩ r vs:=by
 unfold Zaz
 rw [Zlg (a:=a) (b:=b),Zf5 (a:=a) (b:=b),Zq7 (a:=a) (b:=b)]
def ZuF (t:Ty):ZgA ⟨ty,re,a⟩ t=ZgA ⟨ty,re,b⟩ t:=rfl
def ZhH:∀l:List Ty,ZdJ ⟨ty,re,a⟩ l=ZdJ ⟨ty,re,b⟩ l
 | []=>rfl
 | t::l=>by simp only [ZdJ];rw [ZhH l,ZuF (a:=a) (b:=b)]
def Zf6 (s:Bs):∀(n:Nat) (x:Bs),Zay ⟨ty,re,a⟩ s n x=Zay ⟨ty,re,b⟩ s n x
 | 0,_=>rfl
 | n+1,x=>by
  simp only [Zay];rw [show Xj ⟨ty,re,a⟩ x=Xj ⟨ty,re,b⟩ x from rfl];split
  ·rfl
  split
  ·rfl
  exact Zf6 s n _
def ZhI:∀l:List Ty,Za7 ⟨ty,re,a⟩ l=Za7 ⟨ty,re,b⟩ l
 | []=>rfl
 | t::l=>by
  simp only [Za7];rw [ZhI l,show Zi9 ⟨ty,re,a⟩ t=Zi9 ⟨ty,re,b⟩ t from Zf6 _ _ _]
def ZhJ:∀(i:Nat) (l:List Re),ZdK ⟨ty,re,a⟩ i l=ZdK ⟨ty,re,b⟩ i l
 | _,[]=>rfl
 | i,d::l=>by
  simp only [ZdK];rw [ZhJ (i+1) l];rfl
def ZxC:ZfN ⟨ty,re,a⟩=ZfN ⟨ty,re,b⟩:=by
 unfold ZfN
 simp only [ZhH (a:=a) (b:=b),ZhI (a:=a) (b:=b),ZhJ (a:=a) (b:=b)]
end
def ZhK {p:Pr}:∀{l:List Ru},XC p l=none↔∀r∈l,Zaz p r (Zaj p r)=none
 | []=>by simp [XC]
 | r::l=>by
  simp only [XC,List.forall_mem_cons,<- ZhK (p:=p) (l:=l)]
  cases Zaz p r (Zaj p r) with
  | none=>simp
  | some f=>simp
def Zq9 {ty:List Ty} {re:List Re} {a l:List Ru} (h:XC ⟨ty,re,a⟩ a=none) (hs:∀r∈l,r∈a):XC ⟨ty,re,l⟩ l=none:=by
 rw [ZhK] at h |-;intro r hr
 rw [ZuE (a:=l) (b:=a),Zq8 (a:=l) (b:=a)];exact h r (hs r hr)
end Go.PM.Lex
end

section
namespace Go.PM.Lex
open Go.Proofs
variable {w0:World} {nG:Nat}
def Zec:Zq:=fun args σ K=>match args,σ with
 | [],⟨[],[],0⟩=>K (.ret (.d (.bool true))) ⟨[],[],0⟩
 | _,_=>False
def ZxD:PC w0 nG 36 Zhq:=ZCr ⟨Zpa,trivial⟩
def ZyG:PC w0 nG 35 Zb3:=Zt7 ⟨Zpa,trivial⟩
def Zdy:PC w0 nG 77 UY:=Zt8 ⟨ZxD,trivial⟩
def ZyH:PC w0 nG 34 ZfM:=Zxa ⟨Zw8 ⟨Zw6 ⟨Zw4 ⟨ZyG,trivial⟩,trivial⟩,trivial⟩,trivial⟩
def ZJz:PC w0 nG 17 Zxh:=ZF2 ⟨Zxg ⟨Zxe ⟨Zxc ⟨ZyH,trivial⟩,trivial⟩,trivial⟩,ZyH,ZyG,ZxD,trivial⟩
def ZCM:PC w0 nG 16 Zd5:=Zud ⟨Znt ⟨Znr,trivial⟩,Znw ⟨Znu,trivial⟩,trivial⟩
def ZGj:PC w0 nG 86 Zi7:=Zt9 ⟨ZxD,trivial⟩
def ZCN:PC w0 nG 141 Zb4:=ZqY ⟨Zdy,trivial⟩
def ZIa:PC w0 nG 143 Zuf:=ZF6 ⟨Zdy,trivial⟩
def ZCO:PC w0 nG 142 Zny:=ZF7
def Zpo:PC w0 nG 78 ZfS:=Zxj ⟨ZCN,ZCO,trivial⟩
def Zpp:PC w0 nG 79 ZfT:=Zxl ⟨ZIa,trivial⟩
def kGv:∀m,PC w0 nG 38 (ZCu m)
 | 0=>ZF8 ⟨ZV (Zg Tryz.func38 kR rfl),Zpo,trivial⟩
 | m+1=>ZF8 ⟨ZW (sp:=ZCu) (kGv m),Zpo,trivial⟩
def kRt:∀m,PC w0 nG 80 (ZCv m)
 | 0=>ZyA ⟨ZV (Zg Tryz.func80 kR rfl),ZIa,Zpo,ZCO,trivial⟩
 | m+1=>ZyA ⟨ZW (sp:=ZCv) (kRt m),ZIa,Zpo,ZCO,trivial⟩
def ZIb (m:Nat):PC w0 nG 37 (Zuh m):=ZGa ⟨kGv m,Zdy,trivial⟩
def ZJA (m:Nat):PC w0 nG 37 (Zxp m):=ZGd ⟨kRt m,Zdy,trivial⟩
def ZGk:∀m,PC w0 nG 39 (Zhz m)
 | 0=>Zuk ⟨ZV (Zg Tryz.func39 kR rfl),kGv 0,ZIb 0,Zpp,trivial⟩
 | m+1=>Zuk ⟨ZW (sp:=Zhz) (ZGk m),kGv _,ZIb _,Zpp,trivial⟩
def ZCP (m:Nat):PC w0 nG 41 (ZhA m):=ZCy ⟨ZJA m,trivial⟩
def ZGl:∀m,PC w0 nG 42 (ZfV m)
 | 0=>Zur ⟨ZV (Zg Tryz.func42 kR rfl),kRt 0,ZCP 0,Zpp,trivial⟩
 | m+1=>Zur ⟨ZW (sp:=ZfV) (ZGl m),kRt _,ZCP _,Zpp,trivial⟩
def kH1:PC w0 nG 82 ZGZ:=ZH2
def kH2:PC w0 nG 83 ZG0:=ZH6 ⟨ZxD,ZCE ⟨ZCC ⟨ZCA ⟨ZGj,trivial⟩,trivial⟩,trivial⟩,trivial⟩
def ZIX:∀m,PC w0 nG 81 (Zq2 m)
 | 0=>ZyE ⟨ZV (Zg Tryz.func81 kR rfl),kH1,Zdy,ZCO,trivial⟩
 | m+1=>ZyE ⟨ZW (sp:=Zq2) (ZIX m),kH1,Zdy,ZCO,trivial⟩
def ZIY:∀m,PC w0 nG 81 (Zq3 m)
 | 0=>ZyF ⟨ZV (Zg Tryz.func81 kR rfl),kH2,Zdy,ZCO,trivial⟩
 | m+1=>ZyF ⟨ZW (sp:=Zq3) (ZIY m),kH2,Zdy,ZCO,trivial⟩
def ZGm (m:Nat):PC w0 nG 43 (ZfW m):=Zxu ⟨Zux (ZIX m) (ZIY m),trivial⟩
def ZCQ (m:Nat):PC w0 nG 19 (Zeb m):=Zuy ⟨ZCP m,ZGl m,ZGm m,trivial⟩
def ZCR (m:Nat):PC w0 nG 18 (Zd8 m):=Zup ⟨ZIb m,ZGk m,trivial⟩
def ZyI {n:Nat} (hp:PC w0 nG 15 (Zt3 WI ZdH Zds n)):PC w0 nG 6 (Zf0 n):=Zxw ⟨ZCL ⟨hp,ZCM,ZJz,ZCR _,ZCQ _,trivial⟩,trivial⟩
def ZnD:Zq:=fun args σ K=>match args,σ with
 | [.d (.int .i64 i),.d (.int .i64 n)],⟨[],[],0⟩=>(0<=n/\n<=4611686018427387904)/\∀r:Nat,((r:Int)<n\/n=0/\r=0)->K (.ret (.d (.int .i64 r))) ⟨[],[],0⟩
 | _,_=>False
def ZxE:PC w0 nG 7 ZnD:=by
 refine pwe Tryz.func7 fun args σ K h=>?_
 unfold ZnD at h
 split at h
 ·rename_i i n
  obtain ⟨⟨h1,h2⟩,h⟩:=h;refine pwv [] 0 false ?_;refine ZJU (fun hc=>wN ?_) (fun hc=>wN ?_)
  ·exact h 0 (Or.inr ⟨oM,rfl⟩)
  refine ⟨oM,wN ?_⟩;have g1:=Int.tmod_lt_of_pos i (show 0<n by omega);have g2:-n<i.tmod n:=by have:=Int.tmod_lt_of_pos (-i) (show 0<n by omega);rw [Int.neg_tmod] at this;omega
  generalize i.tmod n=m at g1 g2;refine ZJU (fun hc=>wN ?_) (fun hc=>wN ?_)
  ·refine Zl ?_;have h:=h (m+n).toNat oM;rw [show ((m+n).toNat:Int)=m+n by omega] at h;exact h
  have h:=h m.toNat oM;rw [show (m.toNat:Int)=m by omega] at h;exact h
 exact h.elim
def ZCS {α:Type} {l:List α} {k i:Nat} (hk:k<l.length) (hi:i<l.length):(l.drop k++l.take k)[i]?=l[(i+k) % l.length]?:=by
 by_cases h:i<l.length - k
 ·rw [TP sO,SN,Nat.mod_eq_of_lt oM]
  congr 1;omega
 rw [TZ sO,TD,S0];rw [show (i+k) % l.length=i - (l.length - k) by rw [Nat.mod_eq_sub_mod oM,Nat.mod_eq_of_lt oM];omega];rw [Tg oM]
def ZxF {α:Type} {l m:List α} {x:α} {i:Nat} (h:l.Sublist (m.take i)) (hx:m[i]?=some x):(l++[x]).Sublist (m.take (i+1))/\l.Sublist (m.take (i+1)):=by
 rw [List.take_succ,hx];exact ⟨h.append (List.Sublist.refl _),h.trans (List.sublist_append_left _ _)⟩
def ZGn (n:Nat) (pl:Pl) (p:Pr):Prop:=∀l:List Ru,(∃k,l.Sublist (p.rules.drop k++p.rules.take k))->(Zvj pl p).2=0->(ZdH n (prU ⟨p.types,p.rels,l⟩)/\n<=16777216/\Zd4 ⟨p.types,p.rels,l⟩<=2097152)/\Zvj pl ⟨p.types,p.rels,l⟩=(0,0)
def Zjd (n:Nat):Zq:=fun args σ K=>match args,σ with
 | [.agg c1,.d (.int .u64 a),.d (.int .i64 b)],⟨[],[],0⟩=>(∃pl p,c1=(Za2 pl p).map .d/\(ZdH n (prU p)/\n<=16777216/\Zd4 p<=2097152)/\ZGn n pl p)/\K (.ret (.d (.bool true))) ⟨[],[],0⟩
 | _,_=>False
def Zli (n:Nat):Tbl:=[(4,Zt4 Za2 Zd4 bd5 6000),(5,Zec),(6,Zf0 n),(7,ZnD)]
def ZGo {p:Pr} {m:Nat} (h:Zd4 p<=m):p.rules.length<=m:=by
 have:=Zo Zdk p.rules;simp only [Zd4] at h;omega
def ZuG {n:Nat} (ht:TO w0 nG (Zli n)):PC w0 nG 3 (Zjd n):=by
 refine VI ZR mixed (tbl:=Zli n) ht Tryz.func3 rfl kR kR ?_;intro args σ K h
 unfold Zjd at h
 split at h
 ·rename_i a b
  obtain ⟨⟨pl,p,rfl,⟨hc,hn,hz⟩,zl⟩,h⟩:=h;have aa:=ZGo hz;have hl:(p.rules.map (ZH pl)).length=p.rules.length:=Tf ..;refine ⟨Zr [(9,⟨[9,11],[1,3,10],fun vs σ=>∃(k i:Nat) (l:List Ru),vs=[.d (.int .u64 a),.ptr 0 0,.d (.int .i64 k),.sl 0 37 (l.map (ZH pl)),.d (.int .i64 i)]/\σ=⟨[.cells 26 ((Za2 pl p).map .d)],[0],1⟩/\i<=p.rules.length/\l.Sublist ((p.rules.drop k++p.rules.take k).take i),
    fun vs _=>match vs with | [_,_,_,_,.d (.int _ j)]=>((p.rules.length:Int) - j).toNat | _=>0⟩)],Wk [],YG [9],0,false,sM,Td rfl,?_⟩
  conv=>whnf
  refine ⟨pl,p,1073741824,rfl,⟨⟨dM,dM⟩,dM,oM,dM⟩,fun r lv bj=>wN ?_⟩;refine ZJU (fun hcr=>wN ?_) (fun hcr=>wN ?_)
  ·exact h
  refine ⟨pl,p,rfl,⟨hc,hn,hz⟩,fun at' e hae=>wN ?_⟩;refine ZJX (fun hce=>wN ?_) (fun hce=>wN ?_)
  ·exact h
  have hce:(Zvj pl p).2=0:=by rw [hae];exact hce
  refine ⟨oM,fun k hk=>wN ?_⟩;refine ⟨⟨k,0,[],rfl,rfl,oM,sM⟩,?_⟩
  rintro vs σ1 ⟨k',i,l,ca,rfl,hi,ay⟩
  have ej:(some (PV.d (.int .i64 (k:Int))):Option PV)=some (.d (.int .i64 (k':Int))):=congrArg (fun l:List PV=>l[2]?) ca;obtain rfl:k=k':=by have ej:=Option.some.inj ej;injection ej with ej;injection ej with _ ej;omega
  have ca:vs=[.sl 0 37 (l.map (ZH pl)),.d (.int .i64 i)]:=congrArg (List.drop 3) ca;subst ca;(conv=>whnf);refine ZJU (fun af=>?_) (fun af=>wN ?_)
  ·have ab:i<p.rules.length:=by have af:(i:Int)<((p.rules.map (ZH pl)).length:Nat):=af;omega
   have z7:k<p.rules.length:=by have hk:(k:Int)<((p.rules.map (ZH pl)).length:Nat)\/_:=hk;omega
   have hr:(p.rules.map (ZH pl))[((((i:Int)+(k:Int)).tmod ((p.rules.map (ZH pl)).length:Nat)).toNat)]?=some (ZH pl (p.rules[(i+k) % p.rules.length]'(Nat.mod_lt _ oM))):=by
    rw [hl,<- Int.natCast_add,<- Int.ofNat_tmod,Tn,Tk,Tc (Nat.mod_lt _ oM)];rfl
   have js:(0:Int)<=((i:Int)+(k:Int)).tmod ((p.rules.map (ZH pl)).length:Nat):=Int.tmod_nonneg _ oM;obtain ⟨lw,em⟩:=ZxF ay ((ZCS z7 ab).trans (Tc (Nat.mod_lt _ oM)));have sq:=em.length_le;simp only [SO,Ta,TD] at sq;have am:(l.map (ZH pl)).length=l.length:=Tf ..;generalize p.rules[(i+k) % p.rules.length]'(Nat.mod_lt _ oM)=r at hr lw;obtain ⟨r1,r2,r3,r4⟩:=r;have hμ:((p.rules.length:Int) - ((i:Int)+1)).toNat<((p.rules.length:Int) - (i:Int)).toNat:=oM;(conv=>whnf);refine ⟨oM,wN ?_⟩;refine ⟨Int.tmod_nonneg _ oM,wN ?_⟩;refine ZJU (fun _=>?_) (fun _=>?_);rotate_left
   ·conv=>whnf
    refine Zl ?_;exact ⟨⟨k,i+1,l,rfl,rfl,oM,em⟩,hμ⟩
   conv=>whnf
   refine Zl ?_;refine ⟨oM,wN ?_⟩;refine ⟨_,js,hr,wN ?_⟩;refine ⟨fun r hr=>by simp at hr;subst hr;rfl,?_,?_,?_⟩
   ·show ((l.map (ZH pl)).length+1) * 72<=2 ^ 47;omega
   ·show (l.map (ZH pl)).length+1<=2 ^ 47;omega
   conv=>whnf
   refine Zl ?_;exact ⟨⟨k,i+1,l++[⟨r1,r2,r3,r4⟩],by rw [Su];rfl,rfl,oM,lw⟩,hμ⟩
  have v7:i=p.rules.length:=by have af:¬(i:Int)<((p.rules.map (ZH pl)).length:Nat):=af;omega
  have ⟨hC,hE⟩:=zl l ⟨k,ay.trans (List.take_sublist _ _)⟩ hce;refine ⟨pl,⟨p.types,p.rels,l⟩,rfl,hC,fun at2 e2 zm=>?_⟩;rw [hE] at zm
  cases zm
  exact mq52
 exact h.elim
end Go.PM.Lex
end
