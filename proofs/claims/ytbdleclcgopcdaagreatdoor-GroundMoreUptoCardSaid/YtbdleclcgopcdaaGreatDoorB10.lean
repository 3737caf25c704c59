/- A part of the proof: plain logic, contracts and laws over the given program. -/
import Derived.Test.YtbdleclcgopcdaaGreatDoorB09
set_option linter.unusedVariables false
set_option linter.unusedSimpArgs false
set_option linter.all false
set_option maxRecDepth 100000
set_option maxHeartbeats 16000000
noncomputable section
section
namespace Go.PM.Lex
open Go.Proofs
variable {w0:World} {nG:Nat}
abbrev ZE4 (pl:Pl) (r:Ru) (more:Bool):List PV:=[.ptr 1 0,.d (.str r.head),.d (.sl (Zf pl r.args)),.d (.sl (Zv pl r.body)),.d (.int .i64 (pl r.at')),.mp 2,.d (.bool more)]
abbrev Zbj (pl:Pl) (p:Pr) (r:Ru) (vs:Vs) (more:Bool):List Box:=.cells 164 (ZE4 pl r more)::.cells 143 (ZiK pl p 3)::.dmap (mvM mvI vs)::ZiL p
structure OKP (p:Pr):Prop where
 bp:BP p
 ends:ZBS p
def ZaE (body:List PV->Pl->Pr->Ru->Vs->Bool->(PEnd->Vs->Bool->Prop)->Prop):Zn:=fun args σ K=>match args,σ with
 | .ptr 0 0::rest,⟨bx,[],0⟩=>∃pl p r vs more,bx=Zbj pl p r vs more/\OKP p/\body rest pl p r vs more fun pe vs' more'=>K pe ⟨Zbj pl p r vs' more',[],0⟩
 | _,_=>False
def ZdQ {body:List PV->Pl->Pr->Ru->Vs->Bool->(PEnd->Vs->Bool->Prop)->Prop} (hb:∀rest pl p r vs more (K K':PEnd->Vs->Bool->Prop),(∀pe v m,K pe v m->K' pe v m)->body rest pl p r vs more K->body rest pl p r vs more K'):Zy (ZaE body):=fun args σ K K' hK h=>by
 unfold ZaE at h |-
 split at h
 ·obtain ⟨pl,p,r,vs,more,h1,h2,h3⟩:=h;exact ⟨pl,p,r,vs,more,h1,h2,hb _ _ _ _ _ _ _ _ (fun pe v m hk=>hK _ _ hk) h3⟩
 exact h.elim
def ZfF {s:Bs} {i:Nat} {v:Int×Int}:∀(l:List Ca) (k:Nat) (m:List (Bs×(Int×Int))),lkM s (Yw i k l m)=some v->lkM s m=some v\/∃(j:Nat) (c:Ca),v=((i:Int),((k+j:Nat):Int))/\l[j]?=some c/\c.name=s
 | [],k,m,h=>.inl h
 | c::l,k,m,h=>by
  rcases ZfF l (k+1) _ h with h | ⟨j,c',h1,h2,h3⟩
  ·split at h
   ·rw [JJ] at h;split at h
    ·rename_i e;cases h;exact .inr ⟨0,c,sM,rfl,e.symm⟩
    exact .inl h
   exact .inl h
  exact .inr ⟨j+1,c',by rw [h1];congr 2;omega,by simpa using h2,h3⟩
def ZfG {s:Bs} {v:Int×Int}:∀(l:List Ty) (i:Nat) (m:List (Bs×(Int×Int))),lkM s (JL i l m)=some v->lkM s m=some v\/∃(j k:Nat) (t:Ty) (c:Ca),v=(((i+j:Nat):Int),(k:Int))/\l[j]?=some t/\t.cases[k]?=some c/\c.name=s
 | [],i,m,h=>.inl h
 | t::l,i,m,h=>by
  rcases ZfG l (i+1) _ h with h | ⟨j,k,t',c,h1,h2,h3,h4⟩
  ·rcases ZfF _ _ _ h with h | ⟨j,c,h1,h2,h3⟩
   ·exact .inl h
   exact .inr ⟨0,j,t,c,by rw [h1];simp,rfl,h2,h3⟩
  exact .inr ⟨j+1,k,t',c,by rw [h1];congr 2;omega,by simpa using h2,h3,h4⟩
def ZdR {p:Pr} {s:Bs} {v:Int×Int} (h:lkM s (Y9 p)=some v):∃(j k:Nat) (t:Ty) (c:Ca),v=((j:Int),(k:Int))/\p.types[j]?=some t/\t.cases[k]?=some c/\ZiP p s=some (t,c):=by
 rcases ZfG _ _ _ h with h | ⟨j,k,t,c,h1,h2,h3,h4⟩
 ·cases h
 rw [T9] at h1;refine ⟨j,k,t,c,h1,h2,h3,?_⟩;subst h1;simp only [ZiP,h,Tj,h2,h3]
def ZfH {p:Pr} {s:Bs} (h:lkM s (Y9 p)=none):ZiP p s=none:=by simp only [ZiP,h]
def Zq2:Zn:=ZaE fun rest pl p r vs more K=>match rest with
 | [.agg c]=>∃e,c=(ZF pl e).map .d/\∀n,ZzS p vs e=n->K (.ret (.d (.int .i64 n))) vs more
 | _=>False
def ZBW:OKw w0 nG [(140,VM)] 208 Zq2:=by
 refine pwo Tryz.func208 fun args σ K h=>?_
 unfold Zq2 ZaE at h
 split at h
 ·obtain ⟨pl,p,r,vs,more,rfl,hp,h⟩:=h;split at h
  ·obtain ⟨⟨op,text,num,eargs,ea⟩,rfl,h⟩:=h;simp only [ZzS] at h;refine pwv [] 7 false ?_;refine ZFU (fun h1=>?_) (fun h1=>wN ?_)
   ·have h1:op=1:=by have h1:(op:Int)=1:=h1;omega
    subst h1;(conv=>whnf);refine ZF3 (fun v hv=>?_) (fun hv=>wN ?_)
    ·rw [ZJ] at hv;obtain ⟨n,hn,rfl⟩:=TE.1 hv;(conv=>whnf);exact h n (by simp [ZeB,hn])
    rw [ZJ,Option.map_eq_none_iff] at hv;exact h (-1) (by simp [ZeB,hv])
   have h1:¬op=1:=fun g=>h1 (by simp only [g];rfl)
   refine ZFU (fun h7=>?_) (fun h7=>?_)
   ·have h7:op=7:=by have h7:(op:Int)=7:=h7;omega
    subst h7;(conv=>whnf);refine ZF3 (fun v hv=>?_) (fun hv=>wN ?_)
    ·rw [ZJ] at hv;obtain ⟨n,hn,rfl⟩:=TE.1 hv;obtain ⟨j,k,t,c,rfl,h2,h3,h4⟩:=ZdR hn;have hr:(p.types.map (Zw pl))[(j:Int).toNat]?=some (Zw pl t):=by rw [Tj,Th,h2];rfl
     obtain ⟨t1,t2,t3,t4,t5,t6⟩:=t;(conv=>whnf)
     (repeat (refine ⟨rfl,?_⟩;conv=>whnf))
     refine ⟨dM,dM,wN ?_⟩;refine ⟨_,oM,hr,wN ?_⟩;refine ⟨pl,p,rfl,hp.bp,hp.ends,fun n hn=>wN ?_⟩
     (repeat (refine ⟨rfl,?_⟩;conv=>whnf))
     exact h n (by simp only [ZeB];rw [Tf dM,Tk trivial,h4];exact hn)
    rw [ZJ,Option.map_eq_none_iff] at hv
    (repeat (refine ⟨rfl,?_⟩;conv=>whnf))
    exact h (-1) (by simp [ZeB,ZfH hv])
   have h7:¬op=7:=fun g=>h7 (by simp only [g];rfl)
   repeat' ((conv=>whnf);refine ZFU (fun hc=>?_) (fun hc=>?_))
   all_goals (conv=>whnf)
   all_goals first
    | (exfalso;omega)
    | (refine h _ ?_
       unfold ZeB
       rw [Tf h1,Tf h7]
       first
        | rw [Tk oM]
        | rw [Tf oM,Tk oM]
        | rw [Tf oM,Tf oM])
  exact h.elim
 exact h.elim
def optK.int {k:Bs} {m:List (Bs×Int)} {A:MV->Prop} (h:A (mvI ((lkM k m).getD 0))):optK (lkM k (mvM mvI m)) A (A (mvI 0)):=by
 rw [ZJ]
 cases hk:lkM k m with
 | none=>rw [hk] at h;exact h
 | some b=>rw [hk] at h;exact h
abbrev zTy:List PV:=[.d (.int .u8 0),.d (.str []),.d (.str []),.d (.sl []),.d (.sl []),.d (.int .i64 0)]
def ZiS (p:Pr) (n:Int) (t:Ty):Bool:=decide (t.kind=2) && (decide (0<=n) && decide ((lkM t.name (JM p)).getD 0=n))
def ZkL:Zn:=ZaE fun rest pl p r vs more K=>match rest with
 | [.d (.int .i64 n)]=>(∀t,Zg0 p n=some t->K (.ret (.tuple [.agg ((Zw pl t).map .d),.d (.bool true)])) vs more)/\(Zg0 p n=none->K (.ret (.tuple [.agg zTy,.d (.bool false)])) vs more)
 | _=>False
def ZBX:PC w0 nG 207 ZkL:=by
 refine pwe Tryz.func207 fun args σ K h=>?_
 unfold ZkL ZaE at h
 split at h
 ·obtain ⟨pl,p,r,vs,more,rfl,hp,h⟩:=h;split at h
  ·rename_i n
   obtain ⟨hs,hn⟩:=h;have hlen:=hp.bp.len;have hl:(p.types.map (Zw pl)).length=p.types.length:=Td ..;refine pwu [(2,⟨[17],[0,1,4,15,16],fun w σ=>∃j:Nat,w=[.d (.int .i64 j)]/\σ=⟨Zbj pl p r vs more++[.cells 148 [.d (.int .u8 0),.d (.str []),.d (.str []),.sl 0 196 [],.sl 1 155 [],.d (.int .i64 0)]],[1,0],2⟩/\j<=p.types.length/\(p.types.drop j).find? (ZiS p n)=Zg0 p n,
    fun w _=>match w with | [.d (.int _ j)]=>((p.types.length:Int) - j).toNat | _=>0⟩)] 7 false ?_
   conv=>whnf
   refine ⟨⟨0,rfl,rfl,oM,rfl⟩,?_⟩
   rintro w σ1 ⟨j,rfl,rfl,hj,ha⟩
   conv=>whnf
   refine ZFU (fun hc=>?_) (fun hc=>?_);rotate_left
   ·conv=>whnf
    rw [Tq oM] at ha;exact hn ha.symm
   have aa:j<p.types.length:=oM;rw [Tm aa,List.find?_cons] at ha;have hr:(p.types.map (Zw pl))[(j:Int).toNat]?=some (Zw pl p.types[j]):=by rw [Tj,Th,Ta aa];rfl
   generalize p.types[j]=t at ha hr;obtain ⟨t1,t2,t3,t4,t5,t6⟩:=t;have hμ:((p.types.length:Int) - ((j:Int)+1)).toNat<((p.types.length:Int) - (j:Int)).toNat:=oM;have yes:ZiS p n ⟨t1,t2,t3,t4,t5,t6⟩=true->K (.ret (.tuple [.agg ((Zw pl ⟨t1,t2,t3,t4,t5,t6⟩).map .d),.d (.bool true)])) ⟨Zbj pl p r vs more,[],0⟩:=fun g=>by
    rw [g] at ha;exact hs _ ha.symm
   have no:ZiS p n ⟨t1,t2,t3,t4,t5,t6⟩=false->(p.types.drop (j+1)).find? (ZiS p n)=Zg0 p n:=fun g=>by rw [g] at ha;exact ha
   clear ha hs hn
   conv=>whnf
   refine ⟨_,oM,hr,wN ?_⟩;refine ZFU (fun hk=>?_) (fun hk=>?_);rotate_left
   ·have hk:¬t1=2:=fun g=>hk (by simp only [g];rfl)
    conv=>whnf
    refine Zl ?_;exact ⟨⟨j+1,rfl,rfl,oM,no (by unfold ZiS;rw [decide_eq_false hk];rfl)⟩,hμ⟩
   have hk:t1=2:=by have hk:(t1:Int)=2:=hk;omega
   conv=>whnf
   refine ZFU (fun h0=>?_) (fun h0=>?_);rotate_left
   ·conv=>whnf
    refine Zl ?_;exact ⟨⟨j+1,rfl,rfl,oM,no (by unfold ZiS;rw [decide_eq_false h0,TV,Bool.and_false])⟩,hμ⟩
   conv=>whnf
   refine optK.int (wN ?_);refine ZFU (fun he=>wN ?_) (fun he=>wN ?_)
   ·exact yes (by unfold ZiS;rw [T3 hk,T3 h0,T3 he];rfl)
   refine Zl ?_;exact ⟨⟨j+1,rfl,rfl,oM,no (by unfold ZiS;rw [decide_eq_false he,Bool.and_false,Bool.and_false])⟩,hμ⟩
  exact h.elim
 exact h.elim
def Zmc (p:Pr) (n:Int):Ex->List Int
 | .mk op text _ args _=>ZK p op text args.length n
def Zb9:Ex->Nat
 | .mk _ _ _ args _=>args.length
def ZdS:Zn:=ZaE fun rest pl p r vs more K=>match rest with
 | [.agg c,.d (.int .i64 n)]=>∃e,c=(ZF pl e).map .d/\Zb9 e<=2097152/\∀l b,Zmc p n e=l->decide (l.length=Zb9 e)=b->K (.ret (.tuple [.d (.sl (Vk l)),.d (.bool b)])) vs more
 | _=>False
def Zq3 (l:List Int):(Vk l).length=l.length:=Td ..
def Zt5 (ht:TO w0 nG [(206,Zar),(207,ZkL)]):PC w0 nG 141 ZdS:=by
 refine pwt ht Tryz.func141 fun args σ K h=>?_
 unfold ZdS ZaE at h
 split at h
 ·obtain ⟨pl,p,r,vs,more,rfl,hp,h⟩:=h;split at h
  ·rename_i n
   obtain ⟨⟨op,text,num,eargs,ea⟩,rfl,lv,h⟩:=h;simp only [Zmc,Zb9] at h lv;have aj:(Zf pl eargs).length=eargs.length:=by rw [Zb,Td]
   have fin:∀l:List Int,ZK p op text eargs.length n=l->K (.ret (.tuple [.d (.sl (Vk l)),.d (.bool (decide (((Vk l).length:Int)=((Zf pl eargs).length:Int))))])) ⟨Zbj pl p r vs more,[],0⟩:=fun l hl =>
    h l _ hl (by rw [Zq3,aj];exact decide_eq_decide.2 oM)
   clear h
   refine pwv [] 7 false ?_;refine ZFU (fun h7=>?_) (fun h7=>wN ?_)
   ·have h7:op=7:=by have h7:(op:Int)=7:=h7;omega
    subst h7;(conv=>whnf);refine ZF3 (fun v hv=>?_) (fun hv=>wN ?_)
    ·rw [ZJ] at hv;obtain ⟨m,hn,rfl⟩:=TE.1 hv;obtain ⟨j,k,t,c,rfl,h2,h3,h4⟩:=ZdR hn;have om:=(hp.bp.ty (TX h2)).2.2 c (TX h3);have hr:(p.types.map (Zw pl))[(j:Int).toNat]?=some (Zw pl t):=by rw [Tj,Th,h2];rfl
     have dy:(t.cases.map ZB)[(k:Int).toNat]?=some (ZB c):=by rw [Tj,Th,h3];rfl
     obtain ⟨t1,t2,t3,t4,t5,t6⟩:=t;obtain ⟨c1,c2⟩:=c;(conv=>whnf)
     (repeat (refine ⟨rfl,?_⟩;conv=>whnf))
     refine ⟨dM,dM,wN ?_⟩;refine ⟨_,oM,hr,wN ?_⟩;refine ⟨dM,dM,wN ?_⟩;refine ⟨_,oM,dy,wN ?_⟩;refine ⟨pl,p,rfl,hp.bp,c2,rfl,⟨hp.ends,om⟩,wN ?_⟩
     (repeat (refine ⟨rfl,?_⟩;conv=>whnf))
     exact fin _ (by simp [ZK,h4])
    rw [ZJ,Option.map_eq_none_iff] at hv
    (repeat (refine ⟨rfl,?_⟩;conv=>whnf))
    exact fin [] (by simp [ZK,ZfH hv])
   have h7:¬op=7:=fun g=>h7 (by simp only [g];rfl)
   refine ZFU (fun h6=>?_) (fun h6=>wN ?_)
   ·have h6:op=6:=by have h6:(op:Int)=6:=h6;omega
    subst h6;(conv=>whnf);refine ⟨pl,p,r,vs,more,rfl,hp,fun t ht=>wN ?_,fun ht=>wN ?_⟩
    ·obtain ⟨t1,t2,t3,t4,t5,t6⟩:=t;have dz:=(hp.bp.ty (List.mem_of_find?_eq_some ht)).1;refine ⟨pl,p,rfl,hp.bp,t4,rfl,⟨hp.ends,dz⟩,wN ?_⟩
     (repeat (refine ⟨rfl,?_⟩;conv=>whnf))
     exact fin _ (by simp [ZK,ht])
    exact fin [] (by simp [ZK,ht])
   have h6:¬op=6:=fun g=>h6 (by simp only [g];rfl)
   refine ZFU (fun hc=>?_) (fun hc=>?_)
   ·have hc:op=20:=by have hc:(op:Int)=20:=hc;omega
    subst hc;(conv=>whnf);exact fin [1,1] (by simp [ZK])
   have h20:¬op=20:=fun g=>hc (by simp only [g];rfl)
   repeat' ((conv=>whnf);refine ZFU (fun hc=>?_) (fun hc=>?_))
   all_goals (conv=>whnf)
   all_goals try (exfalso;omega)
   all_goals try
    first
    | (refine fin [1] ?_;unfold ZK;rw [Tf h7,Tf h6,Tf h20,Tk oM];done)
    | (refine fin [1,0,0] ?_;unfold ZK;rw [Tf h7,Tf h6,Tf h20,Tf oM,Tk oM];done)
   all_goals
    refine ⟨rfl,dM,by show (Zf pl eargs).length * 1<=_;omega,by show (Zf pl eargs).length * 8<=_;omega,wN ?_⟩;rw [show List.replicate (Zf pl eargs).length [D.int .i64 0]=Vk (List.replicate eargs.length 0) by rw [Vk,List.map_replicate,aj]];exact fin _ (by unfold ZK;rw [Tf h7,Tf h6,Tf h20,Tf oM,Tf oM])
  exact h.elim
 exact h.elim
def ZyL (m:Nat):Zn:=ZaE fun rest pl p r vs more K=>match rest with
 | [.agg c,.d (.int .i64 n)]=>∃e,c=(ZF pl e).map .d/\(szE e<=m/\m<=2097152)/\∀v b,gvE p e n (vs,more)=(v,b)->K (.ret (.tuple [])) v b
 | _=>False
def Zau (p:Pr) (op:Nat) (text:Bs) (k:Nat) (n:Int):List Int:=if (ZK p op text k n).length=k then ZK p op text k n else List.replicate k (-1)
def ZiT (p:Pr) (op:Nat) (text:Bs) (k:Nat) (n:Int):(Zau p op text k n).length=k:=by unfold Zau;split <;> simp [*]
def ZBY {m:Nat}:OKw w0 nG [(88,spB ZyL m),(141,ZdS)] 88 (ZyL m):=by
 refine pwo Tryz.func88 fun args σ K h=>?_
 unfold ZyL ZaE at h
 split at h
 ·obtain ⟨pl,p,r,vs,more,rfl,hp,h⟩:=h;split at h
  ·rename_i n
   obtain ⟨⟨op,text,num,eargs,ea⟩,rfl,⟨hz,hm⟩,h⟩:=h;simp only [szE,Xu] at hz;have lv:=Zq szE eargs;have aj:(Zf pl eargs).length=eargs.length:=by rw [Zb,Td]
   refine pwu [(8,⟨[63],[0,8,9,61,62],fun w σ=>∃(j:Nat) (v:Vs) (b:Bool),w=[.d (.int .i64 j)]/\σ=⟨Zbj pl p r v b++[.cells 36 ((ZF pl (.mk op text num eargs ea)).map .d)],[],0⟩/\j<=eargs.length /\
     Zbi p (eargs.drop j) ((Zau p op text eargs.length n).drop j) (v,b)=Zbi p eargs (Zau p op text eargs.length n) (vs,more),
    fun w _=>match w with | [.d (.int _ j)]=>((eargs.length:Int) - j).toNat | _=>0⟩)] 7 false ?_
   conv=>whnf
   refine ZFU (fun h1=>?_) (fun h1=>wN ?_)
   ·have h1:op=1:=by have h1:(op:Int)=1:=h1;omega
    subst h1;have h:=h (ZyK text n (vs,more)).1 (ZyK text n (vs,more)).2 (by simp [gvE]);have yes:((lkM text vs).isNone=true\/((lkM text vs).getD 0=-1/\n≠-1))->∀b,(more || decide (n≠-1))=b->K (.ret (.tuple [])) ⟨.cells 164 (ZE4 pl r b)::.cells 143 (ZiK pl p 3)::.dmap (Z6 text (mvI n) (mvM mvI vs))::ZiL p,[],0⟩:=fun g b hb=>by
     simp only [ZyK] at h;rw [Tk g,hb] at h;rw [XR];exact h
    have no:¬((lkM text vs).isNone=true\/((lkM text vs).getD 0=-1/\n≠-1))->K (.ret (.tuple [])) ⟨Zbj pl p r vs more,[],0⟩:=fun g=>by
     simp only [ZyK] at h;rw [Tf g] at h;exact h
    clear h
    conv=>whnf
    refine ZF3 (fun v hv=>?_) (fun hv=>wN ?_)
    ·rw [ZJ] at hv;obtain ⟨old,mj,rfl⟩:=TE.1 hv;rw [mj] at yes no;(conv=>whnf);refine ZFU (fun ho=>wN ?_) (fun ho=>wN ?_)
     ·refine ZFX (fun hn=>wN ?_) (fun hn=>wN ?_)
      ·have yes:=yes (.inr ⟨ho,hn⟩);exact mq132
      exact no (by simp [hn])
     exact no (by simp [show ¬old=-1 from ho])
    rw [ZJ,Option.map_eq_none_iff] at hv;have yes:=yes (.inl (by rw [hv];rfl));exact mq132
   have h1:¬op=1:=fun g=>h1 (by simp only [g];rfl)
   have h:=fun v b (g:Zbi p eargs (Zau p op text eargs.length n) (vs,more)=(v,b))=>h v b (by simp only [gvE];rw [Tf h1];exact g)
   refine ⟨pl,p,r,vs,more,rfl,hp,.mk op text num eargs ea,rfl,by show eargs.length<=_;omega,fun l b hl hb=>?_⟩;simp only [Zmc,Zb9] at hl hb
   cases b with
   | true =>
    have hL:Zau p op text eargs.length n=l:=by unfold Zau;rw [hl,Tk (Sk hb)]
    conv=>whnf
    refine ⟨⟨0,vs,more,rfl,rfl,oM,rfl⟩,?_⟩
    rintro w σ1 ⟨j,v,b,rfl,rfl,hj,ha⟩
    conv=>whnf
    refine ZFU (fun hc=>?_) (fun hc=>?_);rotate_left
    ·conv=>whnf
     rw [Tq oM] at ha;exact h v b ha.symm
    have aa:j<eargs.length:=oM;have aq:j<(Zau p op text eargs.length n).length:=by rw [ZiT];exact aa
    rw [Tm aa,Tm aq] at ha;simp only [Zbi] at ha;have hr:(Zf pl eargs)[(j:Int).toNat]?=some (ZF pl eargs[j]):=by rw [Zb,Tj,Th,Ta aa];rfl
    have dw:=Zz szE eargs j aa;have dy:(Vk l)[(j:Int).toNat]?=some [.int .i64 (Zau p op text eargs.length n)[j]]:=by
     rw [Vk,Tj,Th,<- hL,Ta aq];rfl
    generalize (Zau p op text eargs.length n)[j]=y at ha dy;generalize eargs[j]=x at ha hr dw;obtain ⟨x1,x2,x3,x4,x5⟩:=x;have hμ:((eargs.length:Int) - ((j:Int)+1)).toNat<((eargs.length:Int) - (j:Int)).toNat:=oM;(conv=>whnf);refine ⟨_,oM,hr,wN ?_⟩;refine ⟨_,oM,dy,wN ?_⟩;exact mq94
   | false =>
   have hL:Zau p op text eargs.length n=List.replicate eargs.length (-1):=by unfold Zau;rw [hl,Tf (of_decide_eq_false hb)]
   conv=>whnf
   refine ⟨⟨0,vs,more,rfl,rfl,oM,rfl⟩,?_⟩
   rintro w σ1 ⟨j,v,b,rfl,rfl,hj,ha⟩
   conv=>whnf
   refine ZFU (fun hc=>?_) (fun hc=>?_);rotate_left
   ·conv=>whnf
    rw [Tq oM] at ha;exact h v b ha.symm
   have aa:j<eargs.length:=oM;have aq:j<(Zau p op text eargs.length n).length:=by rw [ZiT];exact aa
   rw [Tm aa,Tm aq] at ha;simp only [Zbi] at ha;have hr:(Zf pl eargs)[(j:Int).toNat]?=some (ZF pl eargs[j]):=by rw [Zb,Tj,Th,Ta aa];rfl
   have dw:=Zz szE eargs j aa;have hy:(Zau p op text eargs.length n)[j]=-1:=by simp only [hL,List.getElem_replicate]
   rw [hy] at ha;generalize eargs[j]=x at ha hr dw;obtain ⟨x1,x2,x3,x4,x5⟩:=x;have hμ:((eargs.length:Int) - ((j:Int)+1)).toNat<((eargs.length:Int) - (j:Int)).toNat:=oM;(conv=>whnf);refine ⟨_,oM,hr,wN ?_⟩;exact mq94
  exact h.elim
 exact h.elim
def ZdT:Zn:=ZaE fun rest pl p r vs more K=>match rest with
 | [.agg c]=>∃op rel a b args body at',c=(YN pl (.mk op rel (a::b::args) body at')).map .d/\∀n,Jd p vs (a::b::args)=n->K (.ret (.d (.int .i64 n))) vs more
 | _=>False
def Zt7:OKw w0 nG [(208,Zq2)] 142 ZdT:=by
 refine pwo Tryz.func142 fun args σ K h=>?_
 unfold ZdT ZaE at h
 split at h
 ·obtain ⟨pl,p,r,vs,more,rfl,hp,h⟩:=h;split at h
  ·obtain ⟨op,rel,⟨a1,a2,a3,a4,a5⟩,⟨b1,b2,b3,b4,b5⟩,args,body,at',rfl,h⟩:=h;simp only [Jd] at h;refine pwv [] 7 false ?_;refine ⟨ZF pl (.mk a1 a2 a3 a4 a5),dM,rfl,wN ?_⟩;refine ⟨pl,p,r,vs,more,rfl,hp,.mk a1 a2 a3 a4 a5,rfl,fun n hn=>wN ?_⟩;rw [hn] at h;refine ZFX (fun hc=>wN ?_) (fun hc=>wN ?_)
   ·exact h n (by rw [Tk hc])
   refine ⟨ZF pl (.mk b1 b2 b3 b4 b5),dM,rfl,wN ?_⟩;refine ⟨pl,p,r,vs,more,rfl,hp,.mk b1 b2 b3 b4 b5,rfl,fun n2 ip=>wN ?_⟩;exact h n2 (by rw [Tf (fun g=>g hc)];exact ip)
  exact h.elim
 exact h.elim
def RtK (pl:Pl) (K:PEnd->Vs->Bool->Prop) (vs:Vs) (more:Bool):Flt->Prop
 | none=>K (.ret (.tuple [])) vs more
 | some (a,e)=>K (.panic (.iface 75 (.agg [.d (.int .i64 (pl a)),.d (.int .i64 e)]))) vs more
def Zg1 {pl:Pl} {K K':PEnd->Vs->Bool->Prop} (hK:∀pe v m,K pe v m->K' pe v m) {vs:Vs} {more:Bool} {x:Flt} (h:RtK pl K vs more x):RtK pl K' vs more x:=by
 cases x with
 | none=>exact hK _ _ _ h
 | some ae=>exact hK _ _ _ h
def ZyM (m:Nat):Zn:=ZaE fun rest pl p r vs more K=>match rest with
 | [.agg c,.d (.int .i64 n)]=>∃e,c=(ZF pl e).map .d/\(szE e<=m/\m<=2097152)/\∀x,rtE p vs e n=x->RtK pl K vs more x
 | _=>False
def Zve (m:Nat):Tbl:=[(143,spB ZyM m),(208,Zq2),(141,ZdS),(207,ZkL)]
abbrev ZyN (a e:Int):PV:=.iface 75 (.agg [.d (.int .i64 a),.d (.int .i64 e)])
def Zvf {m:Nat} (ht:TO w0 nG (Zve m)):PC w0 nG 143 (ZyM m):=by
 refine Zpu Zx mixed (tbl:=Zve m) ht Tryz.func143 rfl kR kR ?_;intro args σ K h
 unfold ZyM ZaE at h
 split at h
 ·obtain ⟨pl,p,r,vs,more,rfl,hp,h⟩:=h;split at h
  ·rename_i n
   obtain ⟨⟨op,text,num,eargs,ea⟩,rfl,⟨hz,hm⟩,h⟩:=h;simp only [szE,Xu] at hz;have lv:=Zq szE eargs;have aj:(Zf pl eargs).length=eargs.length:=by rw [Zb,Td]
   obtain ⟨x,hx⟩:∃x,rtE p vs (.mk op text num eargs ea) n=x:=⟨_,rfl⟩
   have h:=h x hx;refine ⟨Zj [(14,⟨[101],[0,7,99,100],fun w σ=>∃(j:Nat) (c1 c2 c3 c4 c5 c6 d1 d2:D),w=[.d (.int .i64 j)]/\σ=⟨Zbj pl p r vs more++[.cells 36 ((ZF pl (.mk op text num eargs ea)).map .d),.cells 148 [.d c1,.d c2,.d c3,.d c4,.d c5,.d c6],.cells 156 [.d d1,.d d2]],[],0⟩/\j<=eargs.length /\
     (ZK p op text eargs.length n).length=eargs.length/\ZaC p vs (eargs.drop j) ((ZK p op text eargs.length n).drop j)=x,
    fun w _=>match w with | [.d (.int _ j)]=>((eargs.length:Int) - j).toNat | _=>0⟩)],Xk [],Yh [],Yh [],Yh [],ZvT [(4,([0,2,4,6,7,8,10],fun w σ=>∃c1 c2 c3 c4 c5 c6:D,w=[.ptr 0 0,.d (.int .i64 n),.ptr 7 0,.d (.int .i64 (ZeB p vs op text)),.d (.sl (Vk (ZK p op text eargs.length n))),.d (.bool (decide ((ZK p op text eargs.length n).length=eargs.length))),.d (.bool (Zg0 p n).isSome)] /\
     σ=⟨Zbj pl p r vs more++[.cells 36 ((ZF pl (.mk op text num eargs ea)).map .d),.cells 148 [.d c1,.d c2,.d c3,.d c4,.d c5,.d c6]],[],0⟩)),
    (5,([0,2,4,6,7,8,10,12],fun w σ=>∃c1 c2 c3 c4 c5 c6 d1 d2:D,w=[.ptr 0 0,.d (.int .i64 n),.ptr 7 0,.d (.int .i64 (ZeB p vs op text)),.d (.sl (Vk (ZK p op text eargs.length n))),.d (.bool (decide ((ZK p op text eargs.length n).length=eargs.length))),.d (.bool (Zg0 p n).isSome),.d (.bool (lkM text (Y9 p)).isSome)] /\
     σ=⟨Zbj pl p r vs more++[.cells 36 ((ZF pl (.mk op text num eargs ea)).map .d),.cells 148 [.d c1,.d c2,.d c3,.d c4,.d c5,.d c6],.cells 156 [.d d1,.d d2]],[],0⟩)),
    (13,([0,4,7],fun w σ=>∃c1 c2 c3 c4 c5 c6 d1 d2:D,w=[.ptr 0 0,.ptr 7 0,.d (.sl (Vk (ZK p op text eargs.length n)))] /\
     σ=⟨Zbj pl p r vs more++[.cells 36 ((ZF pl (.mk op text num eargs ea)).map .d),.cells 148 [.d c1,.d c2,.d c3,.d c4,.d c5,.d c6],.cells 156 [.d d1,.d d2]],[],0⟩/\(ZK p op text eargs.length n).length=eargs.length /\
     ZaC p vs eargs (ZK p op text eargs.length n)=x))],7,false,sM,Tc rfl,?_⟩
   conv=>whnf
   refine ⟨pl,p,r,vs,more,rfl,hp,.mk op text num eargs ea,rfl,fun own jn=>?_⟩;simp only [ZzS] at jn;subst jn;(conv=>whnf);refine ⟨pl,p,r,vs,more,rfl,hp,.mk op text num eargs ea,rfl,by show eargs.length<=_;omega,fun l ok hl ao=>?_⟩;simp only [Zmc,Zb9] at hl ao;subst hl ao;(conv=>whnf);refine ⟨?_,?_⟩
   ·refine ⟨pl,p,r,vs,more,rfl,hp,fun t ur=>wN ?_,fun ur=>wN ?_⟩
    ·obtain ⟨t1,t2,t3,t4,t5,t6⟩:=t;exact ⟨_,_,_,_,_,_,by rw [ur];rfl,rfl⟩
    exact ⟨_,_,_,_,_,_,by rw [ur];rfl,rfl⟩
   rintro w σ1 ⟨c1,c2,c3,c4,c5,c6,rfl,rfl⟩
   conv=>whnf
   refine ⟨wN ?_,?_⟩
   ·refine ZF3 (fun v hv=>?_) (fun hv=>wN ?_)
    ·rw [ZJ] at hv;obtain ⟨ij,i5,rfl⟩:=TE.1 hv;obtain ⟨i,k⟩:=ij;(conv=>whnf)
     (repeat (refine ⟨rfl,?_⟩;conv=>whnf))
     exact ⟨_,_,_,_,_,_,_,_,by rw [i5];rfl,rfl⟩
    rw [ZJ,Option.map_eq_none_iff] at hv
    (repeat (refine ⟨rfl,?_⟩;conv=>whnf))
    exact ⟨_,_,_,_,_,_,_,_,by rw [hv];rfl,rfl⟩
   rintro w σ1 ⟨c1,c2,c3,c4,c5,c6,d1,d2,rfl,rfl⟩
   conv=>whnf
   refine ⟨?_,?_⟩
   ·have eok : (op = 7 -> (lkM text (Y9 p)).isSome = true) -> ¬ ((ZeB p vs op text ≠ -1 /\ n ≠ -1 /\ ZeB p vs op text ≠ n) \/ ((op = 6 \/ op = 5) /\ (Zg0 p n).isSome = false) \/ (op = 1 /\ ZeB p vs op text = -1)) -> decide ((ZK p op text eargs.length n).length = eargs.length) = true ->
        (ZK p op text eargs.length n).length=eargs.length/\ZaC p vs eargs (ZK p op text eargs.length n)=x:=fun g1 g2 g3=>by
     have g3:=Sk g3;refine ⟨g3,?_⟩;rw [<- hx,rtE,Tf (fun g=>by have:=g1 g.1;cases hl:lkM text (Y9 p) <;> simp_all),Tf (fun g=>g2 (by
      rcases g with g | ⟨g,g'⟩ | g
      ·exact .inl g
      ·exact .inr (.inl ⟨g,by cases hl:Zg0 p n <;> simp_all⟩)
      exact .inr (.inr g))),Tf (fun g=>g g3)]
    have e184:op=7->(lkM text (Y9 p)).isSome=false->K (.panic (ZyN (pl ea) 184)) ⟨Zbj pl p r vs more,[],0⟩:=fun g1 g2=>by
     rw [rtE,Tk ⟨g1,by cases hl:lkM text (Y9 p) <;> simp_all⟩] at hx;subst hx;exact h
    have e183:(op=7->(lkM text (Y9 p)).isSome=true)->((ZeB p vs op text≠-1/\n≠-1/\ZeB p vs op text≠n)\/((op=6\/op=5)/\(Zg0 p n).isSome=false)\/(op=1/\ZeB p vs op text=-1))->K (.panic (ZyN (pl ea) 183)) ⟨Zbj pl p r vs more,[],0⟩:=fun g1 g2=>by
     rw [rtE,Tf (fun g=>by have:=g1 g.1;cases hl:lkM text (Y9 p) <;> simp_all),Tk (by
      rcases g2 with g | ⟨g,g'⟩ | g
      ·exact .inl g
      ·exact .inr (.inl ⟨g,by cases hl:Zg0 p n <;> simp_all⟩)
      exact .inr (.inr g))] at hx
     subst hx;exact h
    have e182:(op=7->(lkM text (Y9 p)).isSome=true)->¬((ZeB p vs op text≠-1/\n≠-1/\ZeB p vs op text≠n)\/((op=6\/op=5)/\(Zg0 p n).isSome=false)\/(op=1/\ZeB p vs op text=-1))->decide ((ZK p op text eargs.length n).length=eargs.length)=false->K (.panic (ZyN (pl ea) 182)) ⟨Zbj pl p r vs more,[],0⟩:=fun g1 g2 g3=>by
     have g3:=of_decide_eq_false g3;rw [rtE,Tf (fun g=>by have:=g1 g.1;cases hl:lkM text (Y9 p) <;> simp_all),Tf (fun g=>g2 (by
      rcases g with g | ⟨g,g'⟩ | g
      ·exact .inl g
      ·exact .inr (.inl ⟨g,by cases hl:Zg0 p n <;> simp_all⟩)
      exact .inr (.inr g))),Tk g3] at hx
     subst hx;exact h
    clear h hx
    generalize decide ((ZK p op text eargs.length n).length=eargs.length)=ok at eok e182 |-;generalize (Zg0 p n).isSome=rec at eok e182 e183 |-;generalize (lkM text (Y9 p)).isSome=br at eok e182 e183 e184 |-;generalize ZeB p vs op text=own at eok e182 e183 |-;have n2:∀{rec:Bool},¬(own≠-1/\n≠-1/\own≠n)->((op=6\/op=5)->rec=true)->¬(op=1/\own=-1)->¬((own≠-1/\n≠-1/\own≠n)\/((op=6\/op=5)/\rec=false)\/(op=1/\own=-1)):=fun {rec} g1 g2 g3 g=>by
     rcases g with g | ⟨g,g'⟩ | g
     ·exact g1 g
     ·rw [g2 g] at g';cases g'
     exact g3 g
    cases br <;> cases rec <;> cases ok
    all_goals repeat' ((conv=>whnf);first | refine ZFU (fun hc=>?_) (fun hc=>?_) | refine ZFX (fun hc=>?_) (fun hc=>?_))
    all_goals (conv=>whnf)
    all_goals first
     | (exfalso;omega)
     | exact e184 oM rfl
     | exact e183 (fun g=>by first | rfl | (exfalso;omega)) (by first | (left;omega) | (right;left;exact ⟨oM,rfl⟩) | (right;right;omega))
     | exact e182 (fun g=>by first | rfl | (exfalso;omega)) (n2 oM (fun g=>by first | rfl | (exfalso;omega)) oM) rfl
     | exact ⟨c1,c2,c3,c4,c5,c6,d1,d2,rfl,rfl,eok (fun g=>by first | rfl | (exfalso;omega)) (n2 oM (fun g=>by first | rfl | (exfalso;omega)) oM) rfl⟩
   rintro w σ1 ⟨c1,c2,c3,c4,c5,c6,d1,d2,rfl,rfl,hlen,ha⟩
   conv=>whnf
   refine ⟨⟨0,c1,c2,c3,c4,c5,c6,d1,d2,rfl,rfl,oM,hlen,ha⟩,?_⟩
   rintro w σ1 ⟨j,c1,c2,c3,c4,c5,c6,d1,d2,rfl,rfl,hj,hlen,ha⟩
   conv=>whnf
   refine ZFU (fun hc=>?_) (fun hc=>?_);rotate_left
   ·conv=>whnf
    rw [Tq oM] at ha;subst ha;exact h
   have aa:j<eargs.length:=oM;have aq:j<(ZK p op text eargs.length n).length:=by rw [hlen];exact aa
   rw [Tm aa,Tm aq] at ha;simp only [ZaC] at ha;have hr:(Zf pl eargs)[(j:Int).toNat]?=some (ZF pl eargs[j]):=by rw [Zb,Tj,Th,Ta aa];rfl
   have dw:=Zz szE eargs j aa;have dy:(Vk (ZK p op text eargs.length n))[(j:Int).toNat]?=some [.int .i64 (ZK p op text eargs.length n)[j]]:=by
    rw [Vk,Tj,Th,Ta aq];rfl
   have hμ:((eargs.length:Int) - ((j:Int)+1)).toNat<((eargs.length:Int) - (j:Int)).toNat:=oM;generalize (ZK p op text eargs.length n)[j]=y at ha dy;generalize eargs[j]=e at ha hr dw;obtain ⟨x1,x2,x3,x4,x5⟩:=e;(conv=>whnf);refine ⟨_,oM,hr,wN ?_⟩;refine ⟨_,oM,dy,wN ?_⟩;refine ⟨oM,pl,p,r,vs,more,rfl,hp,.mk x1 x2 x3 x4 x5,rfl,⟨oM,oM⟩,fun f hf=>?_⟩;rw [hf] at ha
   cases f with
   | none =>
    simp only [RtK];(conv=>whnf)
    (repeat (refine ⟨rfl,?_⟩;conv=>whnf))
    refine Zl ?_;exact ⟨⟨j+1,c1,c2,c3,c4,c5,c6,d1,d2,rfl,rfl,oM,hlen,ha⟩,hμ⟩
   | some ae =>
   obtain ⟨a,e⟩:=ae;simp only at ha;subst ha;simp only [RtK] at h |-;exact mq48
  exact h.elim
 exact h.elim
def Zcs {p:Pr} {s:Bs} {n:Int} (h:lkM s (JK p)=some n):∃(k:Nat) (d:Re),n=k/\p.rels[k]?=some d/\d.name=s:=by
 exact mq155
def Zbk {p:Pr} {s:Bs} {n:Nat} {k:Nat} {d:Re} (h:lkM s (JK p)=some (k:Int)) (hd:p.rels[k]?=some d):Y5 p s n=if d.fields.length=n then ZX p d.fields else List.replicate n (-1):=by
 simp only [Y5,h,Tj,hd]
def ZfI {p:Pr} {s:Bs} {n:Nat} (h:lkM s (JK p)=none):Y5 p s n=List.replicate n (-1):=by
 simp only [Y5,h]
def ZiU (p:Pr) (s:Bs) (n:Nat):(Y5 p s n).length=n:=by
 unfold Y5
 split
 ·simp
 split
 ·simp
 split
 ·simp [ZX, *]
 simp
def Zq4 (m:Nat):Zn:=ZaE fun rest pl p r vs more K=>match rest with
 | [.d (.str name),.d (.sl rows),.func f [.ptr 0 0] []]=>∃args,rows=Zf pl args/\f=88/\(szS szE args<=m/\m<=2097152)/\∀v b,Zbi p args (Y5 p name args.length) (vs,more)=(v,b)->K (.ret (.tuple [])) v b
 | _=>False
def ZB0 {m:Nat}:OKw w0 nG [(88,ZyL m),(140,VM)] 87 (Zq4 m):=by
 refine pwo Tryz.func87 fun args σ K h=>?_
 unfold Zq4 ZaE at h
 split at h
 ·obtain ⟨pl,p,r,vs,more,rfl,hp,h⟩:=h;split at h
  ·rename_i name rows f
   obtain ⟨eargs,rfl,rfl,⟨hz,hm⟩,h⟩:=h;have lv:=Zq szE eargs;have aj:(Zf pl eargs).length=eargs.length:=by rw [Zb,Td]
   refine pwu [(3,⟨[46],[0,3,8,9,44,45],fun w σ=>∃(j:Nat) (v:Vs) (b:Bool),w=[.d (.int .i64 j)]/\σ=⟨Zbj pl p r v b,[],0⟩/\j<=eargs.length /\
     Zbi p (eargs.drop j) ((Y5 p name eargs.length).drop j) (v,b)=Zbi p eargs (Y5 p name eargs.length) (vs,more),
    fun w _=>match w with | [.d (.int _ j)]=>((eargs.length:Int) - j).toNat | _=>0⟩)] 7 false ?_
   have step:∀(j:Nat) (v:Vs) (b:Bool),j<eargs.length->Zbi p (eargs.drop j) ((Y5 p name eargs.length).drop j) (v,b)=Zbi p eargs (Y5 p name eargs.length) (vs,more)->∃(x:Ex) (y:Int),(Zf pl eargs)[(j:Int).toNat]?=some (ZF pl x)/\(Y5 p name eargs.length)[j]?=some y/\szE x<=m /\
     ∀v' b',gvE p x y (v,b)=(v',b')->Zbi p (eargs.drop (j+1)) ((Y5 p name eargs.length).drop (j+1)) (v',b')=Zbi p eargs (Y5 p name eargs.length) (vs,more):=fun j v b aa ha=>by
    have aq:j<(Y5 p name eargs.length).length:=by rw [ZiU];exact aa
    have dw:=Zz szE eargs j aa;rw [Tm aa,Tm aq] at ha;simp only [Zbi] at ha;exact ⟨eargs[j],(Y5 p name eargs.length)[j],by rw [Zb,Tj,Th,Ta aa];rfl,Ta aq,oM,fun v' b' hg=>by rw [hg] at ha;exact ha⟩
   have fin:∀(j:Nat) (v:Vs) (b:Bool),¬j<eargs.length->Zbi p (eargs.drop j) ((Y5 p name eargs.length).drop j) (v,b)=Zbi p eargs (Y5 p name eargs.length) (vs,more)->K (.ret (.tuple [])) ⟨Zbj pl p r v b,[],0⟩:=fun j v b hn ha=>by
    rw [Tq oM] at ha;exact h v b ha.symm
   conv=>whnf
   refine ZF3 (fun v hv=>?_) (fun hv=>wN ?_)
   ·rw [ZJ] at hv;obtain ⟨i,hi,rfl⟩:=TE.1 hv;obtain ⟨k,d,rfl,h2,h3⟩:=Zcs hi;have hr:(p.rels.map (ZQ pl))[(k:Int).toNat]?=some (ZQ pl d):=by rw [Tj,Th,h2];rfl
    have hT:=Zbk (n:=eargs.length) hi h2;obtain ⟨d1,d2,d3,d4,d5,d6⟩:=d;simp only at hT;(conv=>whnf);refine ⟨_,oM,hr,wN ?_⟩;refine ⟨⟨0,vs,more,rfl,rfl,oM,rfl⟩,?_⟩
    rintro w σ1 ⟨j,v,b,rfl,rfl,hj,ha⟩
    conv=>whnf
    refine ZFU (fun hc=>?_) (fun hc=>?_);rotate_left
    ·conv=>whnf
     exact fin j v b oM ha
    obtain ⟨⟨x1,x2,x3,x4,x5⟩,y,bz,hy,dw,lc⟩:=step j v b oM ha;have hμ:((eargs.length:Int) - ((j:Int)+1)).toNat<((eargs.length:Int) - (j:Int)).toNat:=oM;(conv=>whnf);refine ⟨_,oM,bz,wN ?_⟩;refine ZFU (fun hq=>?_) (fun hq=>?_)
    ·have hq:d2.length=eargs.length:=by have hq:((d2.map Zo).length:Int)=((Zf pl eargs).length:Int):=hq;rw [Td,aj] at hq;omega
     rw [hT,Tk hq,ZX,Th] at hy;obtain ⟨⟨f1,f2⟩,hf,hy⟩:=TE.1 hy;have dy:(d2.map Zo)[(j:Int).toNat]?=some (Zo ⟨f1,f2⟩):=by rw [Tj,Th,hf];rfl
     simp only at hy;(conv=>whnf)
     (repeat (refine ⟨rfl,?_⟩;conv=>whnf))
     refine ⟨_,oM,hr,wN ?_⟩
     (repeat (refine ⟨rfl,?_⟩;conv=>whnf))
     refine ⟨_,oM,dy,wN ?_⟩
     (repeat (refine ⟨rfl,?_⟩;conv=>whnf))
     refine ⟨pl,p,rfl,hp.bp,hp.ends,fun n hn=>?_⟩;rw [hy] at hn;subst hn;(conv=>whnf)
     (repeat (refine ⟨rfl,?_⟩;conv=>whnf))
     exact mq64
    have hq:¬d2.length=eargs.length:=by have hq:¬((d2.map Zo).length:Int)=((Zf pl eargs).length:Int):=hq;rw [Td,aj] at hq;omega
    rw [hT,Tf hq,Sf] at hy;split at hy
    ·cases hy
     conv=>whnf
     exact mq64
    cases hy
   rw [ZJ,Option.map_eq_none_iff] at hv;have hT:=ZfI (n:=eargs.length) hv;refine ⟨⟨0,vs,more,rfl,rfl,oM,rfl⟩,?_⟩
   rintro w σ1 ⟨j,v,b,rfl,rfl,hj,ha⟩
   conv=>whnf
   refine ZFU (fun hc=>?_) (fun hc=>?_);rotate_left
   ·conv=>whnf
    exact fin j v b oM ha
   obtain ⟨⟨x1,x2,x3,x4,x5⟩,y,bz,hy,dw,lc⟩:=step j v b oM ha;have hμ:((eargs.length:Int) - ((j:Int)+1)).toNat<((eargs.length:Int) - (j:Int)).toNat:=oM;rw [hT,Sf] at hy;split at hy
   ·cases hy
    conv=>whnf
    refine ⟨_,oM,bz,wN ?_⟩;exact mq64
   cases hy
  exact h.elim
 exact h.elim
def ZfJ (m:Nat):Zn:=ZaE fun rest pl p r vs more K=>match rest with
 | [.d (.sl rows)]=>∃l,rows=Zv pl l/\(szS szL l<=m/\m<=2097152)/\Zb7 l=true/\∀v b,Zq1 p l (vs,more)=(v,b)->K (.ret (.tuple [])) v b
 | _=>False
def Zq5 {op:Nat} {rel:Bs} {args:List Ex} {body:List Li} {a:Nat} (h:YG (.mk op rel args body a)=true) (h1:¬op<=2) (h2:op<=8):∃x y,args=[x,y]:=by
 simp only [YG,YW] at h;rw [Tf oM,Tk oM] at h;simp only [Tn,TP] at h
 match args,h.1.2.1 with
 | [x,y],_=>exact ⟨x,y,rfl⟩
def Zmd {op:Nat} {rel:Bs} {args:List Ex} {body:List Li} {a:Nat} (h:YG (.mk op rel args body a)=true):Zb7 body=true:=by
 simp only [YG,Tn] at h;exact h.2.2
def Zq6 (m:Nat):Tbl:=[(89,spB ZfJ m),(88,ZyL m),(87,Zq4 m),(142,ZdT)]
def Zq7 {m:Nat} (ht:TO w0 nG (Zq6 m)):PC w0 nG 89 (ZfJ m):=by
 refine XN Zx mixed (tbl:=Zq6 m) ht Tryz.func89 rfl kR kR ?_;intro args σ K h
 unfold ZfJ ZaE at h
 split at h
 ·obtain ⟨pl,p,r,vs,more,rfl,hp,h⟩:=h;split at h
  ·rename_i rows
   obtain ⟨l,rfl,⟨hz,hm⟩,bv,h⟩:=h;have lv:=Zq szL l;have aj:(Zv pl l).length=l.length:=by rw [Zi,Td]
   obtain ⟨F,hF⟩:∃F,Zq1 p l (vs,more)=F:=⟨_,rfl⟩
   have h:∀v b,F=(v,b)->K (.ret (.tuple [])) ⟨Zbj pl p r v b,[],0⟩:=fun v b g=>h v b (hF.trans g)
   refine ⟨Zj [(1,⟨[11],[0,9,10],fun w σ=>∃(j:Nat) (v:Vs) (b:Bool),w=[.d (.int .i64 j)]/\σ=⟨Zbj pl p r v b,[],0⟩/\j<=l.length/\Zq1 p (l.drop j) (v,b)=F,
    fun w _=>match w with | [.d (.int _ j)]=>((l.length:Int) - j).toNat | _=>0⟩),
    (4,⟨[18],[0,5,9,10,11,16,17],fun w σ=>∃(j i op:Nat) (rel:Bs) (eargs:List Ex) (body:List Li) (at':Nat) (v:Vs) (b:Bool),w=[.ptr 0 0,.ptr 7 0,.d (.sl (Zv pl l)),.d (.int .i64 ((Zv pl l).length:Nat)),.d (.int .i64 j),.d (.sl (Zf pl eargs)),.d (.int .i64 ((Zf pl eargs).length:Nat)),.d (.int .i64 i)] /\
     σ=⟨Zbj pl p r v b++[.cells 33 ((YN pl (.mk op rel eargs body at')).map .d)],[],0⟩/\l[j]?=some (.mk op rel eargs body at')/\i<=eargs.length/\(szS szE eargs<=m/\szS szL body+1<=m)/\Zb7 body=true /\
     Zq1 p (l.drop (j+1)) (Zq1 p body (Zbi p (eargs.drop i) (List.replicate (eargs.length - i) 0) (v,b)))=F,
    fun w _=>match w with | [_,_,_,_,_,_,.d (.int _ n),.d (.int _ i)]=>(n - i).toNat | _=>0⟩)],Xk [],Yh [4],7,false,sM,Tc rfl,?_⟩
   conv=>whnf
   refine ⟨⟨0,vs,more,rfl,rfl,oM,hF⟩,?_⟩
   rintro w σ1 ⟨j,v,b,rfl,rfl,hj,ha⟩
   conv=>whnf
   refine ZFU (fun hc=>?_) (fun hc=>?_);rotate_left
   ·conv=>whnf
    rw [Tq oM] at ha;exact h v b ha.symm
   have aa:j<l.length:=oM;have hr:(Zv pl l)[(j:Int).toNat]?=some (YN pl l[j]):=by rw [Zi,Tj,Th,Ta aa];rfl
   have dw:=Zz szL l j aa;have ew:YG l[j]=true:=by rw [Xh,Tr] at bv;exact bv _ (TC aa)
   rw [Tm aa] at ha;simp only [Zq1] at ha;have hμ:((l.length:Int) - ((j:Int)+1)).toNat<((l.length:Int) - (j:Int)).toNat:=oM;have ji:l[j]?=some l[j]:=Ta aa;generalize l[j]=x at ha hr dw ew ji;obtain ⟨op,rel,eargs,body,at'⟩:=x;simp only [szL,Xu,Wu] at dw;simp only [gvL] at ha;have ah:=Zq szE eargs;have f7:(Zf pl eargs).length=eargs.length:=by rw [Zb,Td]
   conv=>whnf
   refine ⟨_,oM,hr,wN ?_⟩;refine ZFU (fun h2=>wN ?_) (fun h2=>wN ?_)
   ·have h2:op<=2:=by have h2:(op:Int)<=2:=h2;omega
    rw [Tk h2] at ha;refine ⟨pl,p,r,v,b,rfl,hp,eargs,rfl,rfl,⟨oM,hm⟩,fun v' b' hg=>wN ?_⟩;rw [hg] at ha;refine Zl ?_;exact ⟨⟨j+1,v',b',rfl,rfl,oM,ha⟩,hμ⟩
   have h2:¬op<=2:=by have h2:¬(op:Int)<=2:=h2;omega
   rw [Tf h2] at ha;refine ZFU (fun h8=>?_) (fun h8=>wN ?_)
   ·have h8:op<=8:=by have h8:(op:Int)<=8:=h8;omega
    rw [Tk h8] at ha;obtain ⟨⟨a1,a2,a3,a4,a5⟩,⟨b1,b2,b3,b4,b5⟩,rfl⟩:=Zq5 ew h2 h8;simp only [szS] at dw;(conv=>whnf);refine ⟨pl,p,r,v,b,rfl,hp,op,rel,.mk a1 a2 a3 a4 a5,.mk b1 b2 b3 b4 b5,[],body,at',rfl,fun n hn=>wN ?_⟩;simp only [hn,Zbi] at ha;refine ⟨ZF pl (.mk a1 a2 a3 a4 a5),dM,rfl,wN ?_⟩;refine ⟨pl,p,r,v,b,rfl,hp,.mk a1 a2 a3 a4 a5,rfl,⟨oM,hm⟩,fun v1 b1' hg1=>wN ?_⟩;rw [hg1] at ha;refine ⟨ZF pl (.mk b1 b2 b3 b4 b5),dM,rfl,wN ?_⟩;refine ⟨pl,p,r,v1,b1',rfl,hp,.mk b1 b2 b3 b4 b5,rfl,⟨oM,hm⟩,fun v2 b2' yg=>wN ?_⟩;rw [yg] at ha;refine Zl ?_;exact ⟨⟨j+1,v2,b2',rfl,rfl,oM,ha⟩,hμ⟩
   have h8:¬op<=8:=by have h8:¬(op:Int)<=8:=h8;omega
   rw [Tf h8] at ha;refine ⟨⟨j,0,op,rel,eargs,body,at',v,b,rfl,rfl,ji,oM,⟨oM,oM⟩,Zmd ew,ha⟩,?_⟩
   rintro w σ1 ⟨j',i,op',rel',eargs',body',at'',v2,b2,hw,rfl,ld,hi,⟨vh,cd⟩,yo,eu⟩
   have ej:(some (PV.d (.int .i64 (j:Int))):Option PV)=some (.d (.int .i64 (j':Int))):=congrArg (fun l:List PV=>l[4]?) hw;obtain rfl:j=j':=by have ej:=Option.some.inj ej;injection ej with ej;injection ej with _ ej;omega
   rw [ji] at ld;obtain ⟨rfl,rfl,rfl,rfl,rfl⟩:=Li.mk.inj (Option.some.inj ld);have hw:w=[.d (.int .i64 i)]:=congrArg (List.drop 7) hw;subst hw;(conv=>whnf);refine ZFU (fun bl=>?_) (fun bl=>?_)
   ·have aq:i<eargs.length:=by have bl:(i:Int)<((Zf pl eargs).length:Int):=bl;omega
    have dy:(Zf pl eargs)[(i:Int).toNat]?=some (ZF pl eargs[i]):=by rw [Zb,Tj,Th,Ta aq];rfl
    have ud:=Zz szE eargs i aq;rw [Tm aq,show eargs.length - i=(eargs.length - (i+1))+1 by omega,List.replicate_succ] at eu;simp only [Zbi] at eu;generalize eargs[i]=e at eu dy ud;obtain ⟨x1,x2,x3,x4,x5⟩:=e;(conv=>whnf);refine ⟨_,oM,dy,wN ?_⟩;refine ⟨pl,p,r,v2,b2,rfl,hp,.mk x1 x2 x3 x4 x5,rfl,⟨oM,hm⟩,fun v' b' hg=>wN ?_⟩;rw [hg] at eu;refine Zl ?_;exact ⟨⟨j,i+1,op,rel,eargs,body,at',v',b',rfl,rfl,ji,oM,⟨vh,cd⟩,yo,eu⟩,by show (((Zf pl eargs).length:Int) - ((i:Int)+1)).toNat<(((Zf pl eargs).length:Int) - (i:Int)).toNat;omega⟩
   have z8:i=eargs.length:=by have bl:¬(i:Int)<((Zf pl eargs).length:Int):=bl;omega
   subst z8;rw [SP,Nat.sub_self] at eu;simp only [Zbi,List.replicate_zero] at eu;(conv=>whnf);refine ⟨oM,pl,p,r,v2,b2,rfl,hp,body,rfl,⟨oM,oM⟩,yo,fun v' b' hg=>wN ?_⟩;rw [hg] at eu;refine Zl ?_;exact ⟨⟨j+1,v',b',rfl,rfl,oM,eu⟩,hμ⟩
  exact h.elim
 exact h.elim
def Xj (v:Vs) (x:Bs):Bool:=decide ((lkM x v).getD (-1)=-1)
def Zme (X:List Bs) (v:Vs):Nat:=X.countP (Xj v)
def Less (X:List Bs) (s s':VS):Prop:=(∀x,Xj s'.1 x=true->Xj s.1 x=true)/\(s'.2=true->s.2=true\/∃x∈X,Xj s.1 x=true/\Xj s'.1 x=false)
def Less.rfl' {X:List Bs} {s:VS}:Less X s s:=⟨fun _ h=>h,fun h=>.inl h⟩
def Less.trans {X:List Bs} {a b c:VS} (h:Less X a b) (k:Less X b c):Less X a c:=by
 refine ⟨fun x hx=>h.1 x (k.1 x hx),fun hc=>?_⟩;rcases k.2 hc with hb | ⟨x,hx,h1,h2⟩
 ·rcases h.2 hb with ha | ⟨x,hx,h1,h2⟩
  ·exact .inl ha
  refine .inr ⟨x,hx,h1,?_⟩
  cases hc':Xj c.1 x with
  | false=>rfl
  | true=>rw [k.1 x hc'] at h2;cases h2
 exact .inr ⟨x,hx,h.1 x h1,h2⟩
def Less.sub {X Y:List Bs} {a b:VS} (h:Less X a b) (hs:∀x∈X,x∈Y):Less Y a b :=
 ⟨h.1,fun hb=>(h.2 hb).imp id fun ⟨x,hx,h1⟩=>⟨x,hs x hx,h1⟩⟩
def Zq8 {t:Bs} {n:Int} {s:VS}:Less [t] s (ZyK t n s):=by
 unfold ZyK
 split
 ·rename_i h
  have hu:Xj s.1 t=true:=by
   unfold Xj
   rcases h with h | ⟨h1,_⟩
   ·have:lkM t s.1=none:=by simpa using h
    rw [this];rfl
   cases hl:lkM t s.1 with
   | none=>rfl
   | some v=>rw [hl] at h1;simp at h1;simp [h1]
  refine ⟨fun x hx=>?_,fun hm=>?_⟩
  ·by_cases hxt:x=t
   ·subst hxt;exact hu
   unfold Xj at hx |-
   simp only [JJ,Tf hxt] at hx;exact hx
  simp only [Sx,TP] at hm;rcases hm with hm | hm
  ·exact .inl hm
  refine .inr ⟨t,sM,hu,?_⟩;unfold Xj
  simp only [JJ,if_true,Sp];simpa using hm
 exact .rfl'
mutual
def Zt8 (p:Pr):∀(e:Ex) (n:Int) (s:VS),Less (nvE e) s (gvE p e n s)
 | .mk op text num args a,n,s=>by
  simp only [gvE,nvE];split
  ·exact Zq8
  exact Vl p args _ s
def Vl (p:Pr):∀(l:List Ex) (ns:List Int) (s:VS),Less (Zjw l) s (Zbi p l ns s)
 | [],_,s=>.rfl'
 | e::l,[],s=>.rfl'
 | e::l,n::ns,s=>by
  simp only [Zbi,Zjw];exact ((Zt8 p e n s).sub fun x hx=>List.mem_append_left _ hx).trans ((Vl p l ns _).sub fun x hx=>List.mem_append_right _ hx)
end
mutual
def Zt9 (p:Pr):∀(x:Li) (s:VS),Less (nvL x) s (gvL p x s)
 | .mk op rel args body a,s=>by
  simp only [gvL,nvL];split
  ·exact (Vl p args _ s).sub fun x hx=>List.mem_append_left _ hx
  split
  ·exact (Vl p args _ s).sub fun x hx=>List.mem_append_left _ hx
  exact ((Vl p args _ s).sub fun x hx=>List.mem_append_left _ hx).trans ((ZdU p body _).sub fun x hx=>List.mem_append_right _ hx)
def ZdU (p:Pr):∀(l:List Li) (s:VS),Less (Vr l) s (Zq1 p l s)
 | [],s=>.rfl'
 | x::l,s=>by
  simp only [Zq1,Vr];exact ((Zt9 p x s).sub fun y hy=>List.mem_append_left _ hy).trans ((ZdU p l _).sub fun y hy=>List.mem_append_right _ hy)
end
def Zq9 {v v':Vs} (h:∀x,Xj v' x=true->Xj v x=true):∀X:List Bs,Zme X v'<=Zme X v
 | []=>Tu _
 | x::X=>by
  have ih:=Zq9 h X;unfold Zme at ih |-
  rw [List.countP_cons,List.countP_cons]
  cases h1:Xj v' x with
  | false=>simp;omega
  | true=>rw [h x h1];simpa using ih
def Zvg {v v':Vs} (h:∀x,Xj v' x=true->Xj v x=true):∀{X:List Bs} {x:Bs},x∈X->Xj v x=true->Xj v' x=false->Zme X v'<Zme X v
 | y::X,x,hx,h1,h2=>by
  rcases Tt.1 hx with rfl | hx
  ·have:=Zq9 h X;unfold Zme at this |-
   rw [List.countP_cons,List.countP_cons,h1,h2];simp;omega
  have ih:=Zvg h hx h1 h2;unfold Zme at ih |-
  rw [List.countP_cons,List.countP_cons]
  cases h3:Xj v' y with
  | false=>simp;omega
  | true=>rw [h y h3];simpa using ih
def Zoa (p:Pr) (r:Ru) (v:Vs):Less (nvR r) (v,false) (Je p r v):=by
 unfold Je nvR
 exact ((Vl p r.args _ _).sub fun x hx=>List.mem_append_left _ hx).trans ((ZdU p r.body _).sub fun x hx=>List.mem_append_right _ hx)
def ZiV (p:Pr) (r:Ru) (v:Vs):Zme (nvR r) (Je p r v).1<=Zme (nvR r) v/\((Je p r v).2=true->Zme (nvR r) (Je p r v).1<Zme (nvR r) v):=by
 have h:=Zoa p r v;refine ⟨Zq9 h.1 _,fun hb=>?_⟩;rcases h.2 hb with h1 | ⟨x,hx,h1,h2⟩
 ·cases h1
 exact Zvg h.1 hx h1 h2
def ZbX (p:Pr) (r:Ru):∀(n:Nat) (v:Vs),Zme (nvR r) v<n->∃w,JN p r n v=some w
 | 0,v,h=>oM
 | n+1,v,h=>by
  simp only [JN];split
  ·rename_i hb
   exact ZbX p r n _ (by have:=(ZiV p r v).2 hb;omega)
  exact ⟨_,rfl⟩
def Zua (p:Pr) (r:Ru):JN p r ((nvR r).length+1) []=some (ZeC p r):=by
 obtain ⟨w,hw⟩:=ZbX p r ((nvR r).length+1) [] (Nat.lt_succ_of_le List.countP_le_length);unfold ZeC
 rw [hw];rfl
def ZB1 (X:List Bs) (m:List (Bs×MV)):Nat:=X.countP fun x=>match lkM x m with | some (.one (.int _ n))=>decide (n=-1) | _=>true
def Zra (X:List Bs) (v:Vs):ZB1 X (mvM mvI v)=Zme X v:=by
 unfold ZB1 Zme
 congr 1
 funext x
 rw [ZJ];unfold Xj
 cases lkM x v with
 | none=>rfl
 | some n=>rfl
abbrev ZE5 (pl:Pl) (p:Pr) (r:Ru) (v:Vs) (b:Bool):List Box:=ZeA pl p++[.cells 55 ((ZW pl r).map .d),.dmap (mvM mvI v),.cells 164 [.ptr 0 0,.d (.str r.head),.d (.sl (Zf pl r.args)),.d (.sl (Zv pl r.body)),.d (.int .i64 (pl r.at')),.mp 6,.d (.bool b)]]
def Zct (m:Nat):Zn:=fun args σ K=>match args,σ with
 | [.ptr 0 0,.agg c],⟨bx,[],0⟩=>∃pl p r,c=(ZW pl r).map .d/\bx=ZeA pl p/\OKP p/\(ZhE r<=m/\m<=2097152)/\Zb7 r.body=true/\K (.ret (.ptr 7 0)) ⟨ZE5 pl p r (ZeC p r) false,[],0⟩
 | _,_=>False
def Zrc {m:Nat}:OKw w0 nG [(87,Zq4 m),(89,ZfJ m)] 51 (Zct m):=by
 refine pwo Tryz.func51 fun args σ K h=>?_
 unfold Zct at h
 split at h
 ·obtain ⟨pl,p,⟨head,eargs,body,at'⟩,rfl,rfl,hp,⟨hz,hm⟩,bv,h⟩:=h;simp only [ZhE] at hz;refine pwu [(3,⟨[],[3,5],fun w σ=>∃(v:Vs) (b:Bool),w=[]/\σ=⟨ZE5 pl p ⟨head,eargs,body,at'⟩ v b,[],0⟩/\(b=true->∃n,JN p ⟨head,eargs,body,at'⟩ n v=some (ZeC p ⟨head,eargs,body,at'⟩))/\(b=false->v=ZeC p ⟨head,eargs,body,at'⟩),
   fun _ σ=>match σ with
    | ⟨_::_::_::_::_::_::.dmap m::.cells _ [_,_,_,_,_,_,.d (.bool b)]::_,_,_⟩=>2 * ZB1 (nvR ⟨head,eargs,body,at'⟩) m+(if b=true then 1 else 0)
    | _=>0⟩)] 8 false ?_
  conv=>whnf
  refine ⟨⟨[],true,rfl,rfl,fun _=>⟨_,Zua _ _⟩,fun h=>by cases h⟩,?_⟩
  rintro w σ1 ⟨v,b,rfl,rfl,h1,h2⟩
  cases b with
  | false =>
   have h2:=h2 rfl;(conv=>whnf);subst h2;exact h
  | true =>
  obtain ⟨n,hn⟩:=h1 rfl
  cases n with
  | zero=>cases hn
  | succ n =>
  simp only [JN] at hn;(conv=>whnf);refine ⟨pl,p,⟨head,eargs,body,at'⟩,v,false,rfl,hp,eargs,rfl,rfl,⟨oM,hm⟩,fun v1 b1 hg1=>wN ?_⟩;refine ⟨pl,p,⟨head,eargs,body,at'⟩,v1,b1,rfl,hp,body,rfl,⟨oM,hm⟩,bv,fun v2 b2 yg=>?_⟩;have hr:Je p ⟨head,eargs,body,at'⟩ v=(v2,b2):=by unfold Je;simp only [hg1];exact yg
  have hc:=ZiV p ⟨head,eargs,body,at'⟩ v;rw [hr] at hn hc;simp only at hn hc;have hμ:2 * ZB1 (nvR ⟨head,eargs,body,at'⟩) (mvM mvI v2)+(if b2=true then 1 else 0)<2 * ZB1 (nvR ⟨head,eargs,body,at'⟩) (mvM mvI v)+(if true=true then 1 else 0):=by
   rw [Zra,Zra]
   cases b2 with
   | true=>have:=hc.2 rfl;simp;omega
   | false=>have:=hc.1;simp;omega
  conv=>whnf
  exact ⟨⟨v2,b2,rfl,rfl,fun hb=>by subst hb;exact ⟨n,by simpa using hn⟩,fun hb=>by subst hb;simpa using hn⟩,hμ⟩
 exact h.elim
def Zub (m:Nat):Zn:=ZaE fun rest pl p r vs more K=>match rest with
 | [.d (.str name),.d (.sl rows),.func f [.ptr 0 0] []]=>∃args,rows=Zf pl args/\f=143/\(szS szE args<=m/\m<=2097152)/\∀x,ZaC p vs args (Y5 p name args.length)=x->RtK pl K vs more x
 | _=>False
def ZB3 {m:Nat}:OKw w0 nG [(143,ZyM m),(140,VM)] 87 (Zub m):=by
 refine pwo Tryz.func87 fun args σ K h=>?_
 unfold Zub ZaE at h
 split at h
 ·obtain ⟨pl,p,r,vs,more,rfl,hp,h⟩:=h;split at h
  ·rename_i name rows f
   obtain ⟨eargs,rfl,rfl,⟨hz,hm⟩,h⟩:=h;have lv:=Zq szE eargs;obtain ⟨X,hX⟩:∃X,ZaC p vs eargs (Y5 p name eargs.length)=X:=⟨_,rfl⟩
   have h:=h X hX;have aj:(Zf pl eargs).length=eargs.length:=by rw [Zb,Td]
   refine pwu [(3,⟨[46],[0,3,8,9,44,45],fun w σ=>∃(j:Nat),w=[.d (.int .i64 j)]/\σ=⟨Zbj pl p r vs more,[],0⟩/\j<=eargs.length /\
     ZaC p vs (eargs.drop j) ((Y5 p name eargs.length).drop j)=X,
    fun w _=>match w with | [.d (.int _ j)]=>((eargs.length:Int) - j).toNat | _=>0⟩)] 7 false ?_
   have step:∀(j:Nat),j<eargs.length->ZaC p vs (eargs.drop j) ((Y5 p name eargs.length).drop j)=X->∃(x:Ex) (y:Int),(Zf pl eargs)[(j:Int).toNat]?=some (ZF pl x)/\(Y5 p name eargs.length)[j]?=some y/\szE x<=m /\
     (rtE p vs x y=none->ZaC p vs (eargs.drop (j+1)) ((Y5 p name eargs.length).drop (j+1))=X)/\∀f,rtE p vs x y=some f->X=some f:=fun j aa ha=>by
    have aq:j<(Y5 p name eargs.length).length:=by rw [ZiU];exact aa
    have dw:=Zz szE eargs j aa;rw [Tm aa,Tm aq] at ha;simp only [ZaC] at ha;exact ⟨eargs[j],(Y5 p name eargs.length)[j],by rw [Zb,Tj,Th,Ta aa];rfl,Ta aq,oM,fun hg=>by rw [hg] at ha;exact ha,fun f hg=>by rw [hg] at ha;exact ha.symm⟩
   have fin:∀(j:Nat),¬j<eargs.length->ZaC p vs (eargs.drop j) ((Y5 p name eargs.length).drop j)=X->K (.ret (.tuple [])) ⟨Zbj pl p r vs more,[],0⟩:=fun j hn ha=>by
    rw [Tq oM] at ha;subst ha;exact h
   conv=>whnf
   refine ZF3 (fun v hv=>?_) (fun hv=>wN ?_)
   ·rw [ZJ] at hv;obtain ⟨i,hi,rfl⟩:=TE.1 hv;obtain ⟨k,d,rfl,h2,h3⟩:=Zcs hi;have hr:(p.rels.map (ZQ pl))[(k:Int).toNat]?=some (ZQ pl d):=by rw [Tj,Th,h2];rfl
    have hT:=Zbk (n:=eargs.length) hi h2;obtain ⟨d1,d2,d3,d4,d5,d6⟩:=d;simp only at hT;(conv=>whnf);refine ⟨_,oM,hr,wN ?_⟩;refine ⟨⟨0,rfl,rfl,oM,hX⟩,?_⟩
    rintro w σ1 ⟨j,rfl,rfl,hj,ha⟩
    conv=>whnf
    refine ZFU (fun hc=>?_) (fun hc=>?_);rotate_left
    ·conv=>whnf
     exact fin j oM ha
    obtain ⟨⟨x1,x2,x3,x4,x5⟩,y,bz,hy,dw,lc,cy⟩:=step j oM ha;have hμ:((eargs.length:Int) - ((j:Int)+1)).toNat<((eargs.length:Int) - (j:Int)).toNat:=oM;(conv=>whnf);refine ⟨_,oM,bz,wN ?_⟩;refine ZFU (fun hq=>?_) (fun hq=>?_)
    ·have hq:d2.length=eargs.length:=by have hq:((d2.map Zo).length:Int)=((Zf pl eargs).length:Int):=hq;rw [Td,aj] at hq;omega
     rw [hT,Tk hq,ZX,Th] at hy;obtain ⟨⟨f1,f2⟩,hf,hy⟩:=TE.1 hy;have dy:(d2.map Zo)[(j:Int).toNat]?=some (Zo ⟨f1,f2⟩):=by rw [Tj,Th,hf];rfl
     simp only at hy;(conv=>whnf)
     (repeat (refine ⟨rfl,?_⟩;conv=>whnf))
     refine ⟨_,oM,hr,wN ?_⟩
     (repeat (refine ⟨rfl,?_⟩;conv=>whnf))
     refine ⟨_,oM,dy,wN ?_⟩
     (repeat (refine ⟨rfl,?_⟩;conv=>whnf))
     refine ⟨pl,p,rfl,hp.bp,hp.ends,fun n hn=>?_⟩;rw [hy] at hn;subst hn;(conv=>whnf)
     (repeat (refine ⟨rfl,?_⟩;conv=>whnf))
     exact mq33
    have hq:¬d2.length=eargs.length:=by have hq:¬((d2.map Zo).length:Int)=((Zf pl eargs).length:Int):=hq;rw [Td,aj] at hq;omega
    rw [hT,Tf hq,Sf] at hy;split at hy
    ·cases hy
     conv=>whnf
     exact mq33
    cases hy
   rw [ZJ,Option.map_eq_none_iff] at hv;have hT:=ZfI (n:=eargs.length) hv;refine ⟨⟨0,rfl,rfl,oM,hX⟩,?_⟩
   rintro w σ1 ⟨j,rfl,rfl,hj,ha⟩
   conv=>whnf
   refine ZFU (fun hc=>?_) (fun hc=>?_);rotate_left
   ·conv=>whnf
    exact fin j oM ha
   obtain ⟨⟨x1,x2,x3,x4,x5⟩,y,bz,hy,dw,lc,cy⟩:=step j oM ha;have hμ:((eargs.length:Int) - ((j:Int)+1)).toNat<((eargs.length:Int) - (j:Int)).toNat:=oM;rw [hT,Sf] at hy;split at hy
   ·cases hy
    conv=>whnf
    refine ⟨_,oM,bz,wN ?_⟩;exact mq33
   cases hy
  exact h.elim
 exact h.elim
def ZfK (m:Nat):Zn:=ZaE fun rest pl p r vs more K=>match rest with
 | [.d (.str name),.d (.sl rows),.d (.int .i64 a),.d (.bool hd)]=>∃args an,rows=Zf pl args/\a=pl an/\(szS szE args<=m/\m<=2097152)/\∀x,Zt2 p vs name args an hd=x->RtK pl K vs more x
 | _=>False
def ZkM (m:Nat):Zy (ZfK m):=ZdQ fun rest pl p r vs more K K' hK h=>by
 split at h
 ·obtain ⟨e,an,h1,h2,h3,h4⟩:=h;exact ⟨e,an,h1,h2,h3,fun x g=>Zg1 hK (h4 x g)⟩
 exact h.elim
def ZyP {m:Nat}:OKw w0 nG [(87,Zub m)] 91 (ZfK m):=by
 refine pwo Tryz.func91 fun args σ K h=>?_
 unfold ZfK ZaE at h
 split at h
 ·obtain ⟨pl,p,r,vs,more,rfl,hp,h⟩:=h;split at h
  ·rename_i name rows a hd
   obtain ⟨eargs,an,rfl,rfl,⟨hz,hm⟩,h⟩:=h;have aj:(Zf pl eargs).length=eargs.length:=by rw [Zb,Td]
   simp only [Zt2] at h;refine pwv [] 7 false ?_;refine ZF3 (fun v hv=>?_) (fun hv=>?_);rotate_left
   ·rw [ZJ,Option.map_eq_none_iff] at hv;rw [hv] at h;have h:=h _ rfl;simp only [RtK] at h;exact mq48
   rw [ZJ] at hv;obtain ⟨i,hi,rfl⟩:=TE.1 hv;obtain ⟨k,d,rfl,h2,h3⟩:=Zcs hi;have hr:(p.rels.map (ZQ pl))[(k:Int).toNat]?=some (ZQ pl d):=by rw [Tj,Th,h2];rfl
   rw [hi] at h;simp only [Tj,h2] at h;obtain ⟨d1,d2,d3,d4,d5,d6⟩:=d;simp only at h;have hb:(hd && d3)=true->K (.panic (ZyN (pl an) 185)) ⟨Zbj pl p r vs more,[],0⟩:=fun g=>by
    have h:=h _ rfl;rw [Tk g] at h;exact h
   have h:(hd && d3)=false->∀x,(if d2.length≠eargs.length then some (an,182) else ZaC p vs eargs (Y5 p name eargs.length))=x->RtK pl (fun pe vs' more'=>K pe ⟨Zbj pl p r vs' more',[],0⟩) vs more x:=fun g x hx=>h x (by rw [Tf (by rw [g];simp)];exact hx)
   have rest:(hd && d3)=false->∀(X:Prop),X->X:=fun _ X hX=>hX
   cases hd with
   | true =>
    conv=>whnf
    refine ⟨_,oM,hr,?_⟩
    cases d3 with
    | true =>
     conv=>whnf
     exact hb rfl
    | false =>
    exact mq32
   | false =>
   exact mq32
  exact h.elim
 exact h.elim
def orF (x:Flt) (y:Flt):Flt:=match x with | some f=>some f | none=>y
def ZdV (m:Nat):Zn:=ZaE fun rest pl p r vs more K=>match rest with
 | [.d (.sl rows)]=>∃l,rows=Zv pl l/\(szS szL l<=m/\m<=2097152)/\Zb7 l=true/\∀x,ZhF p vs l=x->RtK pl K vs more x
 | _=>False
def ZkN (m:Nat):Zy (ZdV m):=ZdQ fun rest pl p r vs more K K' hK h=>by
 split at h
 ·obtain ⟨e,h1,h2,h3,h4⟩:=h;exact ⟨e,h1,h2,h3,fun x g=>Zg1 hK (h4 x g)⟩
 exact h.elim
def Zrd (m:Nat):Tbl:=[(92,spB ZdV m),(143,ZyM m),(91,ZfK m),(142,ZdT)]
def Zre {m:Nat} (ht:TO w0 nG (Zrd m)):PC w0 nG 92 (ZdV m):=by
 refine XN Zx mixed (tbl:=Zrd m) ht Tryz.func92 rfl kR kR ?_;intro args σ K h
 unfold ZdV ZaE at h
 split at h
 ·obtain ⟨pl,p,r,vs,more,rfl,hp,h⟩:=h;split at h
  ·rename_i rows
   obtain ⟨l,rfl,⟨hz,hm⟩,bv,h⟩:=h;have lv:=Zq szL l;have aj:(Zv pl l).length=l.length:=by rw [Zi,Td]
   obtain ⟨X,hX⟩:∃X,ZhF p vs l=X:=⟨_,rfl⟩
   have h:=h X hX;refine ⟨Zj [(1,⟨[11],[0,9,10],fun w σ=>∃(j:Nat),w=[.d (.int .i64 j)]/\σ=⟨Zbj pl p r vs more,[],0⟩/\j<=l.length/\ZhF p vs (l.drop j)=X,
    fun w _=>match w with | [.d (.int _ j)]=>((l.length:Int) - j).toNat | _=>0⟩),
    (4,⟨[18],[0,5,9,10,11,16,17],fun w σ=>∃(j i op:Nat) (rel:Bs) (eargs:List Ex) (body:List Li) (at':Nat),w=[.ptr 0 0,.ptr 7 0,.d (.sl (Zv pl l)),.d (.int .i64 ((Zv pl l).length:Nat)),.d (.int .i64 j),.d (.sl (Zf pl eargs)),.d (.int .i64 ((Zf pl eargs).length:Nat)),.d (.int .i64 i)] /\
     σ=⟨Zbj pl p r vs more++[.cells 33 ((YN pl (.mk op rel eargs body at')).map .d)],[],0⟩/\l[j]?=some (.mk op rel eargs body at')/\i<=eargs.length/\(szS szE eargs<=m/\szS szL body+1<=m)/\Zb7 body=true /\
     orF (ZaC p vs (eargs.drop i) (List.replicate (eargs.length - i) 0)) (orF (ZhF p vs body) (ZhF p vs (l.drop (j+1))))=X,
    fun w _=>match w with | [_,_,_,_,_,_,.d (.int _ n),.d (.int _ i)]=>(n - i).toNat | _=>0⟩)],Xk [],Yh [4],7,false,sM,Tc rfl,?_⟩
   conv=>whnf
   refine ⟨⟨0,rfl,rfl,oM,hX⟩,?_⟩
   rintro w σ1 ⟨j,rfl,rfl,hj,ha⟩
   conv=>whnf
   refine ZFU (fun hc=>?_) (fun hc=>?_);rotate_left
   ·conv=>whnf
    rw [Tq oM] at ha;subst ha;exact h
   have aa:j<l.length:=oM;have hr:(Zv pl l)[(j:Int).toNat]?=some (YN pl l[j]):=by rw [Zi,Tj,Th,Ta aa];rfl
   have dw:=Zz szL l j aa;have ew:YG l[j]=true:=by rw [Xh,Tr] at bv;exact bv _ (TC aa)
   rw [Tm aa] at ha;have ha:orF (rtL p vs l[j]) (ZhF p vs (l.drop (j+1)))=X:=by rw [<- ha];simp only [ZhF];rfl
   have hμ:((l.length:Int) - ((j:Int)+1)).toNat<((l.length:Int) - (j:Int)).toNat:=oM;have ji:l[j]?=some l[j]:=Ta aa;generalize l[j]=x at ha hr dw ew ji;obtain ⟨op,rel,eargs,body,at'⟩:=x;simp only [szL,Xu,Wu] at dw;simp only [rtL] at ha;have ah:=Zq szE eargs;have f7:(Zf pl eargs).length=eargs.length:=by rw [Zb,Td]
   conv=>whnf
   refine ⟨_,oM,hr,wN ?_⟩;refine ZFU (fun h2=>wN ?_) (fun h2=>wN ?_)
   ·have h2:op<=2:=by have h2:(op:Int)<=2:=h2;omega
    rw [Tk h2] at ha;refine ⟨pl,p,r,vs,more,rfl,hp,eargs,at',rfl,rfl,⟨oM,hm⟩,fun f hf=>?_⟩;rw [hf] at ha
    cases f with
    | none =>
     simp only [RtK];(conv=>whnf);exact mq49
    | some ae =>
    exact mq173
   have h2:¬op<=2:=by have h2:¬(op:Int)<=2:=h2;omega
   rw [Tf h2] at ha;refine ZFU (fun h8=>?_) (fun h8=>wN ?_)
   ·have h8:op<=8:=by have h8:(op:Int)<=8:=h8;omega
    rw [Tk h8] at ha;obtain ⟨⟨a1,a2,a3,a4,a5⟩,⟨b1,b2,b3,b4,b5⟩,rfl⟩:=Zq5 ew h2 h8;simp only [szS] at dw;(conv=>whnf);refine ⟨pl,p,r,vs,more,rfl,hp,op,rel,.mk a1 a2 a3 a4 a5,.mk b1 b2 b3 b4 b5,[],body,at',rfl,fun n hn=>wN ?_⟩;simp only [hn,ZaC] at ha;refine ⟨ZF pl (.mk a1 a2 a3 a4 a5),dM,rfl,wN ?_⟩;refine ⟨pl,p,r,vs,more,rfl,hp,.mk a1 a2 a3 a4 a5,rfl,⟨oM,hm⟩,fun f hf=>?_⟩;rw [hf] at ha
    cases f with
    | some ae =>
     exact mq173
    | none =>
    simp only [RtK];(conv=>whnf);refine ⟨ZF pl (.mk b1 b2 b3 b4 b5),dM,rfl,wN ?_⟩;refine ⟨pl,p,r,vs,more,rfl,hp,.mk b1 b2 b3 b4 b5,rfl,⟨oM,hm⟩,fun f hf=>?_⟩;rw [hf] at ha
    cases f with
    | some ae =>
     exact mq173
    | none =>
    simp only [RtK];simp only at ha;have good:¬(5<=op/\n≠0/\n≠1)->ZhF p vs (l.drop (j+1))=X:=fun g=>by rw [Tf g] at ha;exact ha
    have bad:(5<=op/\n≠0/\n≠1)->K (.panic (ZyN (pl at') 183)) ⟨Zbj pl p r vs more,[],0⟩:=fun g=>by
     rw [Tk g] at ha;simp only [orF] at ha;subst ha;exact h
    conv=>whnf
    refine ZFU (fun h5=>wN ?_) (fun h5=>wN ?_)
    ·have h5:5<=op:=by have h5:(5:Int)<=op:=h5;omega
     refine ZFX (fun dq=>wN ?_) (fun dq=>wN ?_)
     ·refine ZFX (fun gc=>wN ?_) (fun gc=>wN ?_)
      ·conv=>whnf
       exact bad ⟨h5,dq,gc⟩
      conv=>whnf
      refine Zl ?_;exact ⟨⟨j+1,rfl,rfl,oM,good (fun g=>g.2.2 gc)⟩,hμ⟩
     conv=>whnf
     refine Zl ?_;exact ⟨⟨j+1,rfl,rfl,oM,good (fun g=>g.2.1 dq)⟩,hμ⟩
    have h5:¬5<=op:=by have h5:¬(5:Int)<=op:=h5;omega
    refine Zl ?_;exact ⟨⟨j+1,rfl,rfl,oM,good (fun g=>h5 g.1)⟩,hμ⟩
   have h8:¬op<=8:=by have h8:¬(op:Int)<=8:=h8;omega
   rw [Tf h8] at ha;have ha:orF (ZaC p vs eargs (List.replicate eargs.length 0)) (orF (ZhF p vs body) (ZhF p vs (l.drop (j+1))))=X:=by
    rw [<- ha];cases ZaC p vs eargs (List.replicate eargs.length 0) <;> rfl
   refine ⟨⟨j,0,op,rel,eargs,body,at',rfl,rfl,ji,oM,⟨oM,oM⟩,Zmd ew,ha⟩,?_⟩
   clear ha
   rintro w σ1 ⟨j',i,op',rel',eargs',body',at'',hw,rfl,ld,hi,⟨vh,cd⟩,yo,ha⟩
   have ej:(some (PV.d (.int .i64 (j:Int))):Option PV)=some (.d (.int .i64 (j':Int))):=congrArg (fun l:List PV=>l[4]?) hw;obtain rfl:j=j':=by have ej:=Option.some.inj ej;injection ej with ej;injection ej with _ ej;omega
   rw [ji] at ld;obtain ⟨rfl,rfl,rfl,rfl,rfl⟩:=Li.mk.inj (Option.some.inj ld);have hw:w=[.d (.int .i64 i)]:=congrArg (List.drop 7) hw;subst hw;(conv=>whnf);refine ZFU (fun bl=>?_) (fun bl=>?_)
   ·have aq:i<eargs.length:=by have bl:(i:Int)<((Zf pl eargs).length:Int):=bl;omega
    have dy:(Zf pl eargs)[(i:Int).toNat]?=some (ZF pl eargs[i]):=by rw [Zb,Tj,Th,Ta aq];rfl
    have ud:=Zz szE eargs i aq;rw [Tm aq,show eargs.length - i=(eargs.length - (i+1))+1 by omega,List.replicate_succ] at ha;simp only [ZaC] at ha;generalize eargs[i]=e at ha dy ud;obtain ⟨x1,x2,x3,x4,x5⟩:=e;(conv=>whnf);refine ⟨_,oM,dy,wN ?_⟩;refine ⟨pl,p,r,vs,more,rfl,hp,.mk x1 x2 x3 x4 x5,rfl,⟨oM,hm⟩,fun f hf=>?_⟩;rw [hf] at ha
    cases f with
    | none =>
     simp only [RtK];(conv=>whnf);refine Zl ?_;exact ⟨⟨j,i+1,op,rel,eargs,body,at',rfl,rfl,ji,oM,⟨vh,cd⟩,yo,ha⟩,by show (((Zf pl eargs).length:Int) - ((i:Int)+1)).toNat<(((Zf pl eargs).length:Int) - (i:Int)).toNat;omega⟩
    | some ae =>
    exact mq173
   have z8:i=eargs.length:=by have bl:¬(i:Int)<((Zf pl eargs).length:Int):=bl;omega
   subst z8;rw [SP,Nat.sub_self] at ha;simp only [ZaC,List.replicate_zero,orF] at ha;(conv=>whnf);refine ⟨oM,pl,p,r,vs,more,rfl,hp,body,rfl,⟨oM,oM⟩,yo,fun f hf=>?_⟩;rw [hf] at ha
   cases f with
   | none =>
    simp only [RtK];(conv=>whnf);exact mq49
   | some ae =>
   obtain ⟨a,e⟩:=ae;simp only at ha;subst ha;simp only [RtK] at h |-;exact mq48
  exact h.elim
 exact h.elim
abbrev SM:=List (Bs×List (List D))
def Zuc (k:Bs):List D:=[.str k]
def Zvh (M:SM):Ex×Bs->SM
 | (.mk op text _ _ _,k)=>if op=1 then Z6 text ((lkM text M).getD []++[Zuc k]) M else M
def Wz (M:SM) (l:List (Ex×Bs)):SM:=l.foldl Zvh M
def Zrf (M:SM) (n:Nat):Prop:=∀t rows,lkM t M=some rows->rows.length<=n
def Zmf {M:SM} {n:Nat} (h:Zrf M n) (x:Ex×Bs):Zrf (Zvh M x) (n+1):=by
 obtain ⟨⟨op,text,_,_,_⟩,k⟩:=x;simp only [Zvh];split
 ·intro t rows hr
  rw [JJ] at hr;split at hr
  ·cases hr
   rw [Tb]
   cases hl:lkM text M with
   | none=>simp
   | some r=>have:=h _ _ hl;simp;omega
  have:=h _ _ hr;omega
 intro t rows hr;have:=h _ _ hr;omega
def Zav:∀(l:List (Ex×Bs)) {M:SM} {n:Nat},Zrf M n->Zrf (Wz M l) (n+l.length)
 | [],M,n,h=>h
 | x::l,M,n,h=>by
  have:=Zav l (Zmf h x);rw [Te,show n+(l.length+1)=n+1+l.length by omega];exact this
def Zbl {α:Type} {k:Bs} {u v:α}:∀m:List (Bs×α),Z6 k v (Z6 k u m)=Z6 k v m
 | []=>by simp [Z6]
 | (x,y)::l=>by
  simp only [Z6]
  by_cases h:k=x
  ·simp [h,Z6]
  simp only [decide_eq_false h,Z6,Zbl l]
def ZC0:Zn:=fun args σ K=>match args,σ with
 | [.agg c,.d (.str k),.ptr 0 0],⟨[.cells ty [.mp 1],.smap el M none],[],0⟩=>∃pl e,c=(ZF pl e).map .d/\(ty=226/\el=9)/\Zrf M 1073741824/\K (.ret (.tuple [])) ⟨[.cells ty [.mp 1],.smap el (Zvh M (e,k)) none],[],0⟩
 | _,_=>False
def ZD7:PC w0 nG 145 ZC0:=by
 refine Zpt Zx mixed (tbl:=[]) trivial Tryz.func145 rfl kR kR ?_;intro args σ K h
 unfold ZC0 at h
 split at h
 ·rename_i k ty el M
  obtain ⟨pl,⟨op,text,num,eargs,ea⟩,rfl,⟨rfl,rfl⟩,hM,h⟩:=h;refine ⟨Zj [],Xk [],Yh [],Yh [],Yh [2],2,false,sM,Tc rfl,wN ?_⟩;simp only [Zvh] at h;refine ZFU (fun h1=>wN ?_) (fun h1=>wN ?_)
  ·have h1:op=1:=by have h1:(op:Int)=1:=h1;omega
   rw [Tk h1] at h;refine ⟨1,text,wN ?_⟩;refine ZF3 (fun rows hr=>wN ?_) (fun hr=>wN ?_)
   ·rw [hr] at h;have hlen:=hM _ _ hr;refine ⟨rfl,wN ?_⟩;refine ⟨fun r hr=>by simp at hr;subst hr;rfl,by show (rows.length+1) * 16<=140737488355328;omega,by show rows.length+1<=140737488355328;omega,wN ?_⟩
    (repeat (refine ⟨rfl,?_⟩;conv=>whnf))
    rw [<- Zbl (u:=[])] at h;exact h
   rw [hr] at h;refine ⟨rfl,wN ?_⟩;refine ⟨fun r hr=>by simp at hr;subst hr;rfl,by show 1 * 16<=140737488355328;omega,by show 1<=140737488355328;omega,wN ?_⟩
   (repeat (refine ⟨rfl,?_⟩;conv=>whnf))
   rw [<- Zbl (u:=[])] at h;exact h
  have h1:¬op=1:=fun g=>h1 (by simp only [g];rfl)
  rw [Tf h1] at h;exact h
 exact h.elim
abbrev Zud (pl:Pl) (r:Ru) (more:Bool) (a b:Nat):List PV:=[.ptr a 0,.d (.str r.head),.d (.sl (Zf pl r.args)),.d (.sl (Zv pl r.body)),.d (.int .i64 (pl r.at')),.mp b,.d (.bool more)]
abbrev ZkO (pl:Pl) (p:Pr) (r:Ru) (vs:Vs) (more:Bool) (kind:Bs):List Box:=[.cells 105 [.ptr 2 0],.cells 9 [.d (.str kind)],.cells 164 (Zud pl r more 3 4),.cells 143 (ZiK pl p 5),.dmap (mvM mvI vs)]++ZiL p
def Zrg:Zn:=fun args σ K=>match args,σ with
 | [.d (.str k),.ptr 0 0,.ptr 1 0],⟨bx,[],0⟩=>∃pl p r vs more kind,bx=ZkO pl p r vs more kind/\OKP p/\∀x,WM p k kind=x->K (.ret (.d (.bool x))) ⟨bx,[],0⟩
 | _,_=>False
def ZyR:OKw w0 nG [(149,ZgW)] 148 Zrg:=by
 refine pwo Tryz.func148 fun args σ K h=>?_
 unfold Zrg at h
 split at h
 ·obtain ⟨pl,p,r,vs,more,kind,rfl,hp,h⟩:=h;refine pwv [] 9 false ?_;refine ⟨pl,p,rfl,hp.bp,fun x hx=>wN ?_⟩
  (repeat (refine ⟨rfl,?_⟩;conv=>whnf))
  exact h x hx
 exact h.elim
def Zrh:Zn:=fun args σ K=>match args,σ with
 | [.d (.sl rows),.func g [] [.ptr 0 0,.ptr 1 0]],⟨bx,[],0⟩=>∃pl p r vs more kind,∃l:List Bs,bx=ZkO pl p r vs more kind/\rows=l.map Zuc/\(g=148/\OKP p/\l.length<=1073741824)/\∀i,ZgX (fun k=>WM p k kind) 0 l=i->K (.ret (.d (.int .i64 i))) ⟨bx,[],0⟩
 | [.sl 0 _ [],.func g [] [.ptr 0 0,.ptr 1 0]],⟨bx,[0],1⟩=>∃pl p r vs more kind,bx=ZkO pl p r vs more kind/\K (.ret (.d (.int .i64 (-1)))) ⟨bx,[],0⟩
 | _,_=>False
def ZyT:OKw w0 nG [(148,Zrg)] 209 Zrh:=by
 refine pwo Tryz.func209 fun args σ K h=>?_
 unfold Zrh at h
 split at h
 ·obtain ⟨pl,p,r,vs,more,kind,l,rfl,rfl,⟨rfl,hp,hlen⟩,h⟩:=h;have hl:(l.map Zuc).length=l.length:=Td ..;refine pwu [(2,⟨[8],[0,1,7],fun w σ=>∃j:Nat,w=[.d (.int .i64 j)]/\σ=⟨ZkO pl p r vs more kind,[],0⟩/\j<=l.length/\ZgX (fun k=>WM p k kind) j (l.drop j)=ZgX (fun k=>WM p k kind) 0 l,
   fun w _=>match w with | [.d (.int _ j)]=>((l.length:Int) - j).toNat | _=>0⟩)] 9 false ?_
  conv=>whnf
  refine ⟨⟨0,rfl,rfl,oM,rfl⟩,?_⟩
  rintro w σ1 ⟨j,rfl,rfl,hj,ha⟩
  conv=>whnf
  refine ZFU (fun hc=>?_) (fun hc=>?_);rotate_left
  ·conv=>whnf
   rw [Tq oM] at ha;exact h (-1) ha.symm
  have aa:j<l.length:=oM;rw [Tm aa] at ha;have hr:(l.map Zuc)[(j:Int).toNat]?=some (Zuc l[j]):=by rw [Tj,Th,Ta aa];rfl
  generalize l[j]=x at ha hr;(conv=>whnf);refine ⟨_,oM,hr,wN ?_⟩;refine ⟨pl,p,r,vs,more,kind,rfl,hp,fun b hb=>?_⟩;exact mq36
 ·obtain ⟨pl,p,r,vs,more,kind,rfl,h⟩:=h;refine pwv [(2,⟨[8],[0,1,7],fun w σ=>w=[.d (.int .i64 0)]/\σ=⟨ZkO pl p r vs more kind,[],0⟩,fun _ _=>0⟩)] 9 false ?_;refine ⟨⟨rfl,rfl⟩,?_⟩
  rintro w σ1 ⟨rfl,rfl⟩
  exact mq48
 exact h.elim
def Zri:Zn:=fun args σ K=>match args,σ with
 | [.d (.sl rows),.func g [] [.ptr 0 0,.ptr 1 0]],⟨bx,[],0⟩=>∃pl p r vs more kind,∃l:List Bs,bx=ZkO pl p r vs more kind/\rows=l.map Zuc/\(g=148/\OKP p/\l.length<=1073741824)/\∀b,(l.any fun k=>WM p k kind)=b->K (.ret (.d (.bool b))) ⟨bx,[],0⟩
 | [.sl 0 _ [],.func g [] [.ptr 0 0,.ptr 1 0]],⟨bx,[0],1⟩=>∃pl p r vs more kind,bx=ZkO pl p r vs more kind/\K (.ret (.d (.bool false))) ⟨bx,[],0⟩
 | _,_=>False
def ZyV:OKw w0 nG [(209,Zrh)] 147 Zri:=by
 refine pwo Tryz.func147 fun args σ K h=>?_
 unfold Zri at h
 split at h
 ·obtain ⟨pl,p,r,vs,more,kind,l,rfl,rfl,hc,h⟩:=h;refine pwv [] 9 false ?_;refine ⟨pl,p,r,vs,more,kind,l,rfl,rfl,hc,fun i hi=>wN ?_⟩;exact h _ (by rw [Bool.eq_iff_iff,decide_eq_true_iff,<- hi];exact (ZdN l 0).symm)
 ·obtain ⟨pl,p,r,vs,more,kind,rfl,h⟩:=h;refine pwv [] 9 false ?_;refine ⟨pl,p,r,vs,more,kind,rfl,wN ?_⟩;exact h
 exact h.elim
def h2T (p:Pr) (kn:List (Bs×Bs)):Ex×Bs->Flt
 | (.mk op text _ _ a,k)=>if (XS p k).isSome=true/\(8<=op\/(op=1/\(kn.any fun y=>decide (y.1=text) && WM p y.2 k)=false)) then some (a,183) else none
def ZD8 (M:SM) (kn:List (Bs×Bs)):Prop:=kn.length<=1073741824/\∀t,(lkM t M).getD []=(kn.filter fun y=>decide (y.1=t)).map fun y=>Zuc y.2
abbrev ZD9 (pl:Pl) (p:Pr) (r:Ru) (vs:Vs) (more:Bool) (M:SM):List Box:=[.cells 105 [.ptr 2 0],.cells 226 [.mp 3],.cells 164 (Zud pl r more 4 5),.smap 9 M none,.cells 143 (ZiK pl p 6),.dmap (mvM mvI vs)]++ZiL p
def FlK (pl:Pl) (K:PEnd->St->Prop) (σ:St):Flt->Prop
 | none=>K (.ret (.tuple [])) σ
 | some (a,e)=>K (.panic (ZyN (pl a) e)) σ
def ZC1:Zn:=fun args σ K=>match args,σ with
 | [.agg c,.d (.str kind),.ptr 0 0,.ptr 1 0],⟨bx,[],0⟩=>∃pl p r vs more M kn e,c=(ZF pl e).map .d/\bx=ZD9 pl p r vs more M/\OKP p/\ZD8 M kn/\∀x,h2T p kn (e,kind)=x->FlK pl K ⟨bx,[],0⟩ x
 | _,_=>False
def Zvi {p:Pr} {kn:List (Bs×Bs)} {t k:Bs}:((kn.filter fun y=>decide (y.1=t)).map (·.2)).any (fun y=>WM p y k)=kn.any fun y=>decide (y.1=t) && WM p y.2 k:=by
 rw [List.any_map,List.any_filter];rfl
def ZEb:OKw w0 nG [(86,ZfA),(147,Zri)] 146 ZC1:=by
 refine pwo Tryz.func146 fun args σ K h=>?_
 unfold ZC1 at h
 split at h
 ·rename_i kind bx
  obtain ⟨pl,p,r,vs,more,M,kn,⟨op,text,num,eargs,ea⟩,rfl,rfl,hp,⟨eh,bj⟩,h⟩:=h;have good:¬((XS p kind).isSome=true/\(8<=op\/(op=1/\(kn.any fun y=>decide (y.1=text) && WM p y.2 kind)=false)))->K (.ret (.tuple [])) ⟨ZD9 pl p r vs more M,[],0⟩:=fun g=>h none (by simp only [h2T];rw [Tf g])
  have bad:((XS p kind).isSome=true/\(8<=op\/(op=1/\(kn.any fun y=>decide (y.1=text) && WM p y.2 kind)=false)))->K (.panic (ZyN (pl ea) 183)) ⟨ZD9 pl p r vs more M,[],0⟩:=fun g=>h (some (ea,183)) (by simp only [h2T];rw [Tk g])
  clear h
  refine pwv [] 10 false ?_;refine ⟨pl,p,rfl,hp.bp,fun x hx=>wN ?_⟩
  (repeat (refine ⟨rfl,?_⟩;conv=>whnf))
  refine ZF3 (fun rows hr=>wN ?_) (fun hr=>wN ?_)
  ·have bz:=bj text;rw [hr] at bz;have bz:rows=((kn.filter fun y=>decide (y.1=text)).map (·.2)).map Zuc:=by rw [SN];exact bz
   refine ⟨pl,p,r,vs,more,kind,_,rfl,bz,⟨rfl,hp,by rw [Td];have:=List.length_filter_le (fun y:Bs×Bs=>decide (y.1=text)) kn;omega⟩,fun b hb=>?_⟩;rw [Zvi] at hb;rw [hx,hb] at good bad;generalize x.isSome=sub at good bad |-
   cases sub <;> cases b
   all_goals repeat' ((conv=>whnf);first | refine ZFU (fun hc=>?_) (fun hc=>?_) | refine ZFX (fun hc=>?_) (fun hc=>?_))
   all_goals (conv=>whnf)
   all_goals first
    | (exfalso;omega)
    | exact bad ⟨rfl,by first | (left;omega) | (right;exact ⟨oM,rfl⟩)⟩
    | exact good (fun g=>by first | exact Bool.noConfusion g.1 | (rcases g.2 with g | g <;> first | omega | exact Bool.noConfusion g.2))
  have bz:=bj text;rw [hr] at bz;have ez:kn.filter (fun y=>decide (y.1=text))=[]:=by
   cases hf:kn.filter (fun y=>decide (y.1=text)) with
   | nil=>rfl
   | cons y l=>rw [hf] at bz;simp at bz
  have hb:(kn.any fun y=>decide (y.1=text) && WM p y.2 kind)=false:=by rw [<- Zvi,ez];rfl
  rw [hx,hb] at good bad;obtain ⟨b,j7⟩:∃b:Bool,b=false:=⟨_,rfl⟩
  refine ⟨pl,p,r,vs,more,kind,rfl,?_⟩
  clear j7 b
  generalize ei:false=b at good bad;generalize x.isSome=sub at good bad |-
  cases sub <;> cases b <;> first | (cases ei;done) | skip
  all_goals repeat' ((conv=>whnf);first | refine ZFU (fun hc=>?_) (fun hc=>?_) | refine ZFX (fun hc=>?_) (fun hc=>?_))
  all_goals (conv=>whnf)
  all_goals first
   | (exfalso;omega)
   | exact bad ⟨rfl,by first | (left;omega) | (right;exact ⟨oM,rfl⟩)⟩
   | exact good (fun g=>by first | exact Bool.noConfusion g.1 | (rcases g.2 with g | g <;> first | omega | exact Bool.noConfusion g.2))
 exact h.elim
def Zcu {p:Pr} {vs:Vs}:∀{l:List Ex} {ns:List Int} {j:Nat} {e:Ex} {n:Int},ZaC p vs l ns=none->l[j]?=some e->ns[j]?=some n->rtE p vs e n=none
 | [],_,j,e,n,h,h1,h2=>by simp at h1
 | x::l,[],j,e,n,h,h1,h2=>by simp at h2
 | x::l,y::ns,j,e,n,h,h1,h2=>by
  simp only [ZaC] at h
  cases hx:rtE p vs x y with
  | some f=>rw [hx] at h;cases h
  | none =>
  rw [hx] at h
  cases j with
  | zero=>simp at h1 h2;subst h1;subst h2;exact hx
  | succ j=>exact Zcu h (by simpa using h1) (by simpa using h2)
def ZbY {p:Pr} {vs:Vs} {op:Nat} {text:Bs} {num:Int} {args:List Ex} {a:Nat} {kind:Bs} (h:rtE p vs (.mk op text num args a) (Xo p kind)=none) :
  (op=7->∃(i k:Nat) (t:Ty) (c:Ca),lkM text (Y9 p)=some ((i:Int),(k:Int))/\p.types[i]?=some t/\t.cases[k]?=some c/\Yz p op text kind=c.fields/\c.fields.length=args.length) /\
  (op=6->∃t,Zg0 p (Xo p kind)=some t/\Yz p op text kind=t.fields/\t.fields.length=args.length) /\
  (op≠7->op≠6->Yz p op text kind=[]) /\
  ∀(j:Nat) (e:Ex) (f:Fi),args[j]?=some e->(Yz p op text kind)[j]?=some f->rtE p vs e (Xo p f.typ)=none:=by
 simp only [rtE] at h;split at h
 ·cases h
 rename_i h1
 split at h
 ·cases h
 rename_i h2
 split at h
 ·cases h
 rename_i h3
 have h3:(ZK p op text args.length (Xo p kind)).length=args.length:=Decidable.of_not_not h3;refine ⟨fun h7=>?_,fun h6=>?_,fun h7 h6=>?_,fun j e f he hf=>?_⟩
 ·cases hl:lkM text (Y9 p) with
  | none=>exact absurd ⟨h7,by rw [hl];rfl⟩ h1
  | some v =>
  obtain ⟨i,k,t,c,rfl,g2,g3,g4⟩:=ZdR hl;have hp:ZK p op text args.length (Xo p kind)=ZX p c.fields:=by simp only [ZK,Tk h7,g4]
  rw [hp] at h3;refine ⟨i,k,t,c,rfl,g2,g3,?_,by simpa [ZX] using h3⟩;simp only [Yz,Tk h7,g4]
 ·cases hr:Zg0 p (Xo p kind) with
  | none=>exact absurd (.inr (.inl ⟨.inl h6,by rw [hr];rfl⟩)) h2
  | some t =>
  have h7:¬op=7:=oM;have hp:ZK p op text args.length (Xo p kind)=ZX p t.fields:=by simp only [ZK,Tf h7,Tk h6,hr]
  rw [hp] at h3;refine ⟨t,rfl,?_,by simpa [ZX] using h3⟩;simp only [Yz,Tf h7,Tk h6,hr]
 ·simp only [Yz,Tf h7,Tf h6]
 have hp:(Yz p op text kind).length≠0->ZK p op text args.length (Xo p kind)=ZX p (Yz p op text kind):=fun ah=>by
  unfold Yz at ah |-
  unfold ZK
  by_cases h7:op=7
  ·simp only [Tk h7] at ah |-
   cases hc:ZiP p text with
   | none=>rw [hc] at ah;simp at ah
   | some tc=>rfl
  simp only [Tf h7] at ah |-
  by_cases h6:op=6
  ·simp only [Tk h6] at ah |-
   cases hr:Zg0 p (Xo p kind) with
   | none=>rw [hr] at ah;simp at ah
   | some t=>rfl
  simp only [Tf h6] at ah;simp at ah
 have ah:(Yz p op text kind).length≠0:=fun h0=>by
  have:=(Ti.1 hf).1;omega
 rw [hp ah] at h;exact Zcu h he (by rw [ZX,Th,hf];rfl)
mutual
def Zg2 (p:Pr):∀(e:Ex) (kind:Bs),(wiE p e kind).length<=szE e
 | .mk op text n args a,kind=>by
  simp only [wiE,Te,szE];have:=Zg3 p args (Yz p op text kind);omega
def Zg3 (p:Pr):∀(l:List Ex) (fs:List Fi),(ZaD p l fs).length<=Zei l
 | [],fs=>by simp [ZaD]
 | e::l,[]=>by simp [ZaD]
 | e::l,f::fs=>by
  simp only [ZaD,Tb,Zei];have:=Zg2 p e f.typ;have:=Zg3 p l fs;omega
end
def Zcv {α:Type} {f:α->Nat} {l:List α} {j:Nat} {x:α} (h:l[j]?=some x):szS f (l.drop j)=1+f x+szS f (l.drop (j+1)):=by
 have hj:=(Ti.1 h).1;rw [Tm hj,szS];rw [Ta hj] at h
 cases h;rfl
def WN {p:Pr} {kn:List (Bs×Bs)}:∀(a b:List (Ex×Bs)),V4 p kn (a++b)=orF (V4 p kn a) (V4 p kn b)
 | [],b=>rfl
 | (.mk op text _ _ at',k)::a,b=>by
  simp only [T5,V4];split
  ·rfl
  exact WN a b
def Zob {p:Pr} {kn:List (Bs×Bs)} (x:Ex×Bs) (l:List (Ex×Bs)):V4 p kn (x::l)=orF (h2T p kn x) (V4 p kn l):=by
 obtain ⟨⟨op,text,n,args,a⟩,k⟩:=x;simp only [V4,h2T];split <;> rfl
abbrev Zrj (pl:Pl) (p:Pr) (r:Ru) (vs:Vs) (more:Bool) (M:SM):List Box:=[.cells 164 (Zud pl r more 2 3),.cells 226 [.mp 4],.cells 143 (ZiK pl p 5),.dmap (mvM mvI vs),.smap 9 M none]++ZiL p
abbrev Zue (pl:Pl) (p:Pr) (r:Ru) (vs:Vs) (more:Bool) (M:SM):List Box:=[.cells 164 (Zud pl r more 3 4),.cells 105 [.ptr 0 0],.cells 226 [.mp 5],.cells 143 (ZiK pl p 6),.dmap (mvM mvI vs),.smap 9 M none]++ZiL p
def Zoc (m:Nat):Zn:=fun args σ K=>match args,σ with
 | [.ptr 0 0,.agg c,.d (.str kind),.func f [] [.ptr 1 0]],⟨bx,[],0⟩=>∃pl p r vs more e M n,c=(ZF pl e).map .d/\f=145/\bx=Zrj pl p r vs more M/\OKP p/\(szE e<=m/\m<=2097152)/\rtE p vs e (Xo p kind)=none/\(Zrf M n/\n+szE e<=1073741824)/\K (.ret (.tuple [])) ⟨Zrj pl p r vs more (Wz M (wiE p e kind)),[],0⟩
 | _,_=>False
def Zvj {m:Nat}:OKw w0 nG [(144,spB Zoc m),(145,ZC0),(140,VM),(207,ZkL)] 144 (Zoc m):=by
 refine pwo Tryz.func144 fun args σ K h=>?_
 unfold Zoc at h
 split at h
 ·rename_i c kind f bx
  obtain ⟨pl,p,r,vs,more,⟨op,text,num,eargs,ea⟩,M,n,rfl,rfl,rfl,hp,⟨hz,hm⟩,ur,⟨hM,hn⟩,h⟩:=h;simp only [wiE] at h;obtain ⟨F,hF⟩:∃F,Wz M ((.mk op text num eargs ea,kind)::ZaD p eargs (Yz p op text kind))=F:=⟨_,rfl⟩
  rw [hF] at h;have hM1:=Zmf hM (.mk op text num eargs ea,kind);have hF:Wz (Zvh M (.mk op text num eargs ea,kind)) (ZaD p eargs (Yz p op text kind))=F:=hF;have aj:(Zf pl eargs).length=eargs.length:=by rw [Zb,Td]
  simp only [szE,Xu] at hz hn;have lv:=Zq szE eargs;obtain ⟨r7,r6,r0,rk⟩:=ZbY ur;obtain ⟨fs,qx⟩:∃fs,Yz p op text kind=fs:=⟨_,rfl⟩
  rw [qx] at r7 r6 r0 rk hF
  by_cases h7:op=7
  ·obtain ⟨i0,k0,t,c,hl,h2,h3,g1,g2⟩:=r7 h7;have hr:(p.types.map (Zw pl))[(i0:Int).toNat]?=some (Zw pl t):=by rw [Tj,Th,h2];rfl
   have dy:(t.cases.map ZB)[(k0:Int).toNat]?=some (ZB c):=by rw [Tj,Th,h3];rfl
   obtain ⟨t1,t2,t3,t4,t5,t6⟩:=t;obtain ⟨c1,c2⟩:=c;simp only at g1 g2;obtain rfl:fs=c2:=g1;refine pwu [(11,⟨[67],[0,3,5,65,66],fun w σ=>∃(j n1:Nat) (M1:SM),w=[.d (.int .i64 j)]/\σ=⟨Zrj pl p r vs more M1++[.cells 36 ((ZF pl (.mk op text num eargs ea)).map .d),.cells 156 [.d (.int .i64 i0),.d (.int .i64 k0)]],[],0⟩/\j<=eargs.length/\(Zrf M1 n1/\n1+szS szE (eargs.drop j)<=1073741824)/\Wz M1 (ZaD p (eargs.drop j) (fs.drop j))=F,
    fun w _=>match w with | [.d (.int _ j)]=>((eargs.length:Int) - j).toNat | _=>0⟩)] 9 false ?_
   conv=>whnf
   refine ⟨pl,.mk op text num eargs ea,rfl,⟨rfl,rfl⟩,fun t rows hr=>by have:=hM t rows hr;omega,wN ?_⟩;refine ZFU (fun jc=>?_) (fun jc=>absurd (show (op:Int)=7 by omega) jc);(conv=>whnf);refine optK.yes (by rw [ZJ,hl];rfl) (wN ?_)
   (repeat (refine ⟨rfl,?_⟩;conv=>whnf))
   refine ⟨dM,dM,wN ?_⟩;refine ⟨_,oM,hr,wN ?_⟩;refine ⟨dM,dM,wN ?_⟩;refine ⟨_,oM,dy,wN ?_⟩;exact mq9
  by_cases h6:op=6
  ·obtain ⟨t0,np,g1,g2⟩:=r6 h6;refine pwu [(11,⟨[67],[0,3,5,65,66],fun w σ=>∃(j n1:Nat) (M1:SM),w=[.d (.int .i64 j)]/\σ=⟨Zrj pl p r vs more M1++[.cells 36 ((ZF pl (.mk op text num eargs ea)).map .d),.cells 148 ((Zw pl t0).map .d)],[],0⟩/\j<=eargs.length/\(Zrf M1 n1/\n1+szS szE (eargs.drop j)<=1073741824)/\Wz M1 (ZaD p (eargs.drop j) (fs.drop j))=F,
    fun w _=>match w with | [.d (.int _ j)]=>((eargs.length:Int) - j).toNat | _=>0⟩)] 9 false ?_
   conv=>whnf
   refine ⟨pl,.mk op text num eargs ea,rfl,⟨rfl,rfl⟩,fun t rows hr=>by have:=hM t rows hr;omega,wN ?_⟩;refine ZFU (fun jc=>absurd (show op=7 by have jc:(op:Int)=7:=jc;omega) h7) (fun jc=>wN ?_);refine ZFU (fun m7=>?_) (fun m7=>absurd (show (op:Int)=6 by omega) m7);(conv=>whnf);refine ⟨pl,p,rfl,hp.bp,hp.ends,fun n6 hn6=>?_⟩;subst hn6;(conv=>whnf);refine ⟨pl,p,r,vs,more,rfl,hp,fun t6 qr=>?_,fun qr=>by rw [np] at qr;cases qr⟩;obtain rfl:t0=t6:=Option.some.inj (np.symm.trans qr);obtain ⟨t1,t2,t3,t4,t5,t6⟩:=t0;simp only at g1 g2;obtain rfl:fs=t4:=g1;(conv=>whnf);exact mq9
  skip
  refine pwu [(11,⟨[67],[0,3,5,65,66],fun w σ=>∃(j n1:Nat) (M1:SM),w=[.d (.int .i64 j)]/\σ=⟨Zrj pl p r vs more M1++[.cells 36 ((ZF pl (.mk op text num eargs ea)).map .d)],[],0⟩/\j<=eargs.length/\(Zrf M1 n1/\n1+szS szE (eargs.drop j)<=1073741824)/\Wz M1 (ZaD p (eargs.drop j) (fs.drop j))=F,
   fun w _=>match w with | [.d (.int _ j)]=>((eargs.length:Int) - j).toNat | _=>0⟩)] 9 false ?_
  conv=>whnf
  refine ⟨pl,.mk op text num eargs ea,rfl,⟨rfl,rfl⟩,fun t rows hr=>by have:=hM t rows hr;omega,wN ?_⟩;refine ZFU (fun jc=>absurd (show op=7 by have jc:(op:Int)=7:=jc;omega) h7) (fun jc=>wN ?_);refine ZFU (fun m7=>absurd (show op=6 by have m7:(op:Int)=6:=m7;omega) h6) (fun m7=>wN ?_);have h0:fs=[]:=r0 h7 h6;subst h0;refine ⟨⟨0,n+1,_,rfl,rfl,oM,⟨hM1,by rw [Sn];omega⟩,hF⟩,?_⟩
  rintro w σ1 ⟨j,n1,M1,rfl,rfl,hj,⟨ut,ip⟩,ha⟩
  have ha:M1=F:=by
   exact mq145
  subst ha;exact mq48
 exact h.elim
def Zod (m:Nat):Zn:=fun args σ K=>match args,σ with
 | [.ptr 0 0,.agg c,.d (.str kind),.func f [] [.ptr 1 0,.ptr 2 0]],⟨bx,[],0⟩=>∃pl p r vs more e M kn,c=(ZF pl e).map .d/\f=146/\bx=Zue pl p r vs more M/\OKP p/\(szE e<=m/\m<=2097152)/\rtE p vs e (Xo p kind)=none/\ZD8 M kn/\∀x,V4 p kn (wiE p e kind)=x->FlK pl K ⟨bx,[],0⟩ x
 | _,_=>False
def Zvk {m:Nat}:OKw w0 nG [(144,spB Zod m),(146,ZC1),(140,VM),(207,ZkL)] 144 (Zod m):=by
 refine pwo Tryz.func144 fun args σ K h=>?_
 unfold Zod at h
 split at h
 ·rename_i c kind f bx
  obtain ⟨pl,p,r,vs,more,⟨op,text,num,eargs,ea⟩,M,kn,rfl,rfl,rfl,hp,⟨hz,hm⟩,ur,lq,h⟩:=h;simp only [wiE] at h;obtain ⟨X,hX⟩:∃X,V4 p kn ((.mk op text num eargs ea,kind)::ZaD p eargs (Yz p op text kind))=X:=⟨_,rfl⟩
  have h:=h X hX;rw [Zob] at hX;have aj:(Zf pl eargs).length=eargs.length:=by rw [Zb,Td]
  simp only [szE,Xu] at hz;have lv:=Zq szE eargs;obtain ⟨r7,r6,r0,rk⟩:=ZbY ur;obtain ⟨fs,qx⟩:∃fs,Yz p op text kind=fs:=⟨_,rfl⟩
  rw [qx] at r7 r6 r0 rk hX
  by_cases h7:op=7
  ·obtain ⟨i0,k0,t,c,hl,h2,h3,g1,g2⟩:=r7 h7;have hr:(p.types.map (Zw pl))[(i0:Int).toNat]?=some (Zw pl t):=by rw [Tj,Th,h2];rfl
   have dy:(t.cases.map ZB)[(k0:Int).toNat]?=some (ZB c):=by rw [Tj,Th,h3];rfl
   obtain ⟨t1,t2,t3,t4,t5,t6⟩:=t;obtain ⟨c1,c2⟩:=c;simp only at g1 g2;obtain rfl:fs=c2:=g1;refine pwu [(11,⟨[67],[0,3,5,65,66],fun w σ=>∃(j:Nat),w=[.d (.int .i64 j)]/\σ=⟨Zue pl p r vs more M++[.cells 36 ((ZF pl (.mk op text num eargs ea)).map .d),.cells 156 [.d (.int .i64 i0),.d (.int .i64 k0)]],[],0⟩/\j<=eargs.length/\V4 p kn (ZaD p (eargs.drop j) (fs.drop j))=X,
    fun w _=>match w with | [.d (.int _ j)]=>((eargs.length:Int) - j).toNat | _=>0⟩)] 10 false ?_
   conv=>whnf
   refine ⟨pl,p,r,vs,more,M,kn,.mk op text num eargs ea,rfl,rfl,hp,lq,fun y hy=>?_⟩;rw [hy] at hX
   cases y with
   | some ae =>
    exact mq181
   | none =>
   simp only [FlK,orF] at hX |-;(conv=>whnf);refine ZFU (fun jc=>?_) (fun jc=>absurd (show (op:Int)=7 by omega) jc);(conv=>whnf);refine optK.yes (by rw [ZJ,hl];rfl) (wN ?_)
   (repeat (refine ⟨rfl,?_⟩;conv=>whnf))
   refine ⟨dM,dM,wN ?_⟩;refine ⟨_,oM,hr,wN ?_⟩;refine ⟨dM,dM,wN ?_⟩;refine ⟨_,oM,dy,wN ?_⟩;exact mq11
  by_cases h6:op=6
  ·obtain ⟨t0,np,g1,g2⟩:=r6 h6;refine pwu [(11,⟨[67],[0,3,5,65,66],fun w σ=>∃(j:Nat),w=[.d (.int .i64 j)]/\σ=⟨Zue pl p r vs more M++[.cells 36 ((ZF pl (.mk op text num eargs ea)).map .d),.cells 148 ((Zw pl t0).map .d)],[],0⟩/\j<=eargs.length/\V4 p kn (ZaD p (eargs.drop j) (fs.drop j))=X,
    fun w _=>match w with | [.d (.int _ j)]=>((eargs.length:Int) - j).toNat | _=>0⟩)] 10 false ?_
   conv=>whnf
   refine ⟨pl,p,r,vs,more,M,kn,.mk op text num eargs ea,rfl,rfl,hp,lq,fun y hy=>?_⟩;rw [hy] at hX
   cases y with
   | some ae =>
    exact mq181
   | none =>
   simp only [FlK,orF] at hX |-;(conv=>whnf);refine ZFU (fun jc=>absurd (show op=7 by have jc:(op:Int)=7:=jc;omega) h7) (fun jc=>wN ?_);refine ZFU (fun m7=>?_) (fun m7=>absurd (show (op:Int)=6 by omega) m7);(conv=>whnf);refine ⟨pl,p,rfl,hp.bp,hp.ends,fun n6 hn6=>?_⟩;subst hn6;(conv=>whnf);refine ⟨pl,p,r,vs,more,rfl,hp,fun t6 qr=>?_,fun qr=>by rw [np] at qr;cases qr⟩;obtain rfl:t0=t6:=Option.some.inj (np.symm.trans qr);obtain ⟨t1,t2,t3,t4,t5,t6⟩:=t0;simp only at g1 g2;obtain rfl:fs=t4:=g1;(conv=>whnf);exact mq11
  skip
  refine pwu [(11,⟨[67],[0,3,5,65,66],fun w σ=>∃(j:Nat),w=[.d (.int .i64 j)]/\σ=⟨Zue pl p r vs more M++[.cells 36 ((ZF pl (.mk op text num eargs ea)).map .d)],[],0⟩/\j<=eargs.length/\V4 p kn (ZaD p (eargs.drop j) (fs.drop j))=X,
   fun w _=>match w with | [.d (.int _ j)]=>((eargs.length:Int) - j).toNat | _=>0⟩)] 10 false ?_
  conv=>whnf
  refine ⟨pl,p,r,vs,more,M,kn,.mk op text num eargs ea,rfl,rfl,hp,lq,fun y hy=>?_⟩;rw [hy] at hX
  cases y with
  | some ae =>
   exact mq181
  | none =>
  simp only [FlK,orF] at hX |-;(conv=>whnf);refine ZFU (fun jc=>absurd (show op=7 by have jc:(op:Int)=7:=jc;omega) h7) (fun jc=>wN ?_);refine ZFU (fun m7=>absurd (show op=6 by have m7:(op:Int)=6:=m7;omega) h6) (fun m7=>wN ?_);have h0:fs=[]:=r0 h7 h6;subst h0;refine ⟨⟨0,rfl,rfl,oM,hX⟩,?_⟩
  rintro w σ1 ⟨j,rfl,rfl,hj,ha⟩
  have ha:none=X:=by
   exact mq145
  subst ha;exact mq48
 exact h.elim
def knF (x:Ex×Bs):Option (Bs×Bs):=match x with
 | (.mk op text _ _ _,k)=>if op=1 then some (text,k) else none
def ZiW (p:Pr) (l:List Li):ZiQ p l=(l.flatMap (VW p)).filterMap knF:=rfl
def Zmg (M:SM) (kn:List (Bs×Bs)):Prop:=∀t,(lkM t M).getD []=(kn.filter fun y=>decide (y.1=t)).map fun y=>Zuc y.2
def Zuf {M:SM} {kn:List (Bs×Bs)} (h:Zmg M kn) (x:Ex×Bs):Zmg (Zvh M x) (kn++(knF x).toList):=by
 obtain ⟨⟨op,text,_,_,_⟩,k⟩:=x;simp only [Zvh,knF];split
 ·intro t
  rw [JJ,List.filter_append,Ss]
  by_cases ht:t=text
  ·subst ht;simp [h t]
  have kp:¬text=t:=fun e=>ht e.symm
  simp [ht,kp,h t]
 intro t;simpa using h t
def ZiX:∀(l:List (Ex×Bs)) {M:SM} {kn:List (Bs×Bs)},Zmg M kn->Zmg (Wz M l) (kn++l.filterMap knF)
 | [],M,kn,h=>by simpa [Wz] using h
 | x::l,M,kn,h=>by
  have:=ZiX l (Zuf h x);simp only [List.filterMap_cons]
  cases hx:knF x with
  | none=>rw [hx] at this;simpa [Wz] using this
  | some y=>rw [hx] at this;simpa [Wz] using this
def ZfL (p:Pr):∀(l:List Li),(l.flatMap (VW p)).length<=szS szL l
 | []=>sM
 | .mk op rel args body a::l=>by
  have:=ZfL p l;have h2:=Zg3 p args (Zn9 p rel);rw [Xu] at h2;rw [List.flatMap_cons,Tb,szS,szL];simp only [VW];split
  ·omega
  rw [Tg];omega
def ZyW (p:Pr) {l:List Li} (h:szS szL l<=1073741824):ZD8 (Wz [] (l.flatMap (VW p))) (ZiQ p l):=by
 refine ⟨?_,?_⟩
 ·have h1:=ZfL p l;have h2:=List.length_filterMap_le knF (l.flatMap (VW p));rw [ZiW];omega
 have:=ZiX (l.flatMap (VW p)) (M:=[]) (kn:=[]) (fun t=>rfl);rw [Sm,<- ZiW] at this;exact this
def ZiY {p:Pr} {vs:Vs} {name:Bs} {args:List Ex} {a:Nat} {hd:Bool} (h:Zt2 p vs name args a hd=none) :
  ∃(i:Nat) (d:Re),lkM name (JK p)=some (i:Int)/\p.rels[i]?=some d/\d.fields.length=args.length/\ZaC p vs args (ZX p d.fields)=none/\Zn9 p name=d.fields:=by
 unfold Zt2 at h
 cases hl:lkM name (JK p) with
 | none=>rw [hl] at h;cases h
 | some n =>
 obtain ⟨i,d,rfl,h2,h3⟩:=Zcs hl;rw [hl] at h;simp only [Tj,h2] at h;split at h
 ·cases h
 split at h
 ·cases h
 rename_i hn
 have hn:d.fields.length=args.length:=Decidable.of_not_not hn;rw [Zbk hl h2,Tk hn] at h;exact ⟨i,d,rfl,h2,hn,h,by simp only [Zn9,hl,Tj,h2]⟩
def Zmh {p:Pr} {vs:Vs}:∀{l:List Li} {j:Nat} {x:Li},ZhF p vs l=none->l[j]?=some x->rtL p vs x=none
 | [],j,x,h,hx=>by simp at hx
 | y::l,j,x,h,hx=>by
  simp only [ZhF] at h
  cases hy:rtL p vs y with
  | some f=>rw [hy] at h;cases h
  | none =>
  rw [hy] at h
  cases j with
  | zero=>simp at hx;subst hx;exact hy
  | succ j=>exact Zmh h (by simpa using hx)
def ZE6 (a b:Zn):Zn:=fun args σ K=>a args σ K\/b args σ K
def Zrk {G:GE} {g:FuncId} {a b:Zn} (ha:PCalls G g a) (hb:PCalls G g b):PCalls G g (ZE6 a b):=⟨ha.enters,fun args σ K h=>h.elim (ha.calls args σ K) (hb.calls args σ K)⟩
abbrev ZEc (pl:Pl) (p:Pr) (r:Ru) (vs:Vs) (more:Bool) (M:SM):List Box:=Zbj pl p r vs more++[.cells 105 [.ptr 0 0],.smap 9 M none,.cells 226 [.mp 8]]
def ZdW (m:Nat):Zn:=ZaE fun rest pl p r vs more K=>match rest with
 | []=>(ZhE r<=m/\m<=2097152)/\Zt2 p vs r.head r.args r.at' true=none/\ZhF p vs r.body=none/\∀x,Zmb p r=x->RtK pl K vs more x
 | _=>False
def ZiZ (m:Nat):Zy (ZdW m):=ZdQ fun rest pl p r vs more K K' hK h=>by
 split at h
 ·obtain ⟨h1,h2,h3,h4⟩:=h;exact ⟨h1,h2,h3,fun x g=>Zg1 hK (h4 x g)⟩
 exact h.elim
def Zmi (m:Nat):Tbl:=[(144,ZE6 (Zoc m) (Zod m))]
def Zug {m:Nat} (ht:TO w0 nG (Zmi m)):PC w0 nG 93 (ZdW m):=by
 refine Zpt Zx mixed (tbl:=Zmi m) ht Tryz.func93 rfl kR kR ?_;intro args σ K h
 unfold ZdW ZaE at h
 split at h
 ·obtain ⟨pl,p,⟨head,ac,body,rat⟩,vs,more,rfl,hp,h⟩:=h;split at h
  ·obtain ⟨⟨hz,hm⟩,lk,yq,h⟩:=h;simp only [ZhE] at hz lk yq;obtain ⟨hi,hd,dv,gy,ib,jv,yc⟩:=ZiY lk;have pz:=Zq szL body;have kc:(Zv pl body).length=body.length:=by rw [Zi,Td]
   have hlh:(Zf pl ac).length=ac.length:=by rw [Zb,Td]
   have hnh:=Zq szE ac;have lq:=ZyW p (l:=body) oM;obtain ⟨MF,hMF⟩:∃MF,Wz [] (body.flatMap (VW p))=MF:=⟨_,rfl⟩
   rw [hMF] at lq;obtain ⟨X,hX⟩:∃X,Zmb p ⟨head,ac,body,rat⟩=X:=⟨_,rfl⟩
   have h:=h X hX;have hX:V4 p (ZiQ p body) (ZaD p ac hd.fields)=X:=by rw [<- hX,Zmb,yc]
   generalize ZiQ p body=kn at lq hX;refine ⟨Zj [(3,⟨[16],[1,2,14,15],fun w σ=>∃(j n:Nat) (M:SM),w=[.d (.int .i64 j)]/\σ=⟨ZEc pl p ⟨head,ac,body,rat⟩ vs more M,[],0⟩/\j<=body.length/\(Zrf M n/\n+szS szL (body.drop j)<=1073741824)/\Wz M ((body.drop j).flatMap (VW p))=MF,
     fun w _=>match w with | [.d (.int _ j)]=>((body.length:Int) - j).toNat | _=>0⟩),
    (7,⟨[45],[1,2,4,14,15,16,43,44],fun w σ=>∃(j i n:Nat) (M:SM) (rel:Bs) (eargs:List Ex) (lbody:List Li) (at':Nat) (fs:List Fi),w=[.ptr 7 0,.ptr 9 0,.ptr 10 0,.d (.sl (Zv pl body)),.d (.int .i64 ((Zv pl body).length:Nat)),.d (.int .i64 j),.d (.sl (fs.map Zo)),.d (.int .i64 ((fs.map Zo).length:Nat)),.d (.int .i64 i)] /\
      σ=⟨ZEc pl p ⟨head,ac,body,rat⟩ vs more M++[.cells 33 ((YN pl (.mk 1 rel eargs lbody at')).map .d)],[],0⟩/\body[j]?=some (.mk 1 rel eargs lbody at')/\fs=Zn9 p rel/\i<=eargs.length /\
      (Zrf M n/\n+szS szE (eargs.drop i)+szS szL (body.drop (j+1))<=1073741824)/\Wz (Wz M (ZaD p (eargs.drop i) (fs.drop i))) ((body.drop (j+1)).flatMap (VW p))=MF,
     fun w _=>match w with | [_,_,_,_,_,_,_,.d (.int _ n),.d (.int _ i)]=>(n - i).toNat | _=>0⟩),
    (13,⟨[87],[1,2,85,86],fun w σ=>∃(j:Nat),w=[.d (.int .i64 j)]/\σ=⟨ZEc pl p ⟨head,ac,body,rat⟩ vs more MF,[],0⟩/\j<=ac.length/\V4 p kn (ZaD p (ac.drop j) (hd.fields.drop j))=X,
     fun w _=>match w with | [.d (.int _ j)]=>((ac.length:Int) - j).toNat | _=>0⟩)],Xk [],Yh [7],Yh [9],Yh [],7,false,sM,Tc rfl,?_⟩
   conv=>whnf
   refine ⟨⟨0,0,[],rfl,rfl,oM,⟨(fun t rows hr=>by cases hr),by rw [Sn];omega⟩,hMF⟩,?_⟩
   rintro w σ1 ⟨j,n,M,rfl,rfl,hj,⟨hM,hn⟩,ha⟩
   conv=>whnf
   refine ZFU (fun hc=>?_) (fun hc=>?_);rotate_left
   ·have hc:¬(j:Int)<((Zv pl body).length:Int):=hc;rw [Tq oM] at ha;have ha:M=MF:=ha;subst ha;have hr:(p.rels.map (ZQ pl))[(hi:Int).toNat]?=some (ZQ pl hd):=by rw [Tj,Th,gy];rfl
    obtain ⟨d1,d2,d3,d4,d5,d6⟩:=hd;simp only at ib jv hX;(conv=>whnf);refine optK.yes (by rw [ZJ,dv];rfl) (wN ?_)
    (repeat (refine ⟨rfl,?_⟩;conv=>whnf))
    refine ⟨_,oM,hr,wN ?_⟩;refine ⟨⟨0,rfl,rfl,oM,hX⟩,?_⟩
    rintro w σ1 ⟨i,rfl,rfl,ab,ha⟩
    conv=>whnf
    refine ZFU (fun bl=>?_) (fun bl=>?_);rotate_left
    ·have bl:¬(i:Int)<((d2.map Zo).length:Int):=bl;rw [Td] at bl;rw [Tq oM] at ha;have ha:none=X:=ha;subst ha;exact mq48
    have aa:i<d2.length:=by have bl:(i:Int)<((d2.map Zo).length:Int):=bl;rw [Td] at bl;omega
    have aq:i<ac.length:=oM;rw [Tm aa,Tm aq] at ha;simp only [ZaD] at ha;have hk:=Zcu jv (Ta aq) (by rw [ZX,Th,Ta aa];rfl);have o4:(d2.map Zo)[(i:Int).toNat]?=some (Zo d2[i]):=by rw [Tj,Th,Ta aa];rfl
    have mz:(Zf pl ac)[(i:Int).toNat]?=some (ZF pl ac[i]):=by rw [Zb,Tj,Th,Ta aq];rfl
    have dw:=Zz szE ac i aq;have hμ:((ac.length:Int) - ((i:Int)+1)).toNat<((ac.length:Int) - (i:Int)).toNat:=oM;generalize d2[i]=f0 at ha hk o4;generalize ac[i]=x0 at ha hk mz dw;obtain ⟨f1,f2⟩:=f0;obtain ⟨x1,x2,x3,x4,x5⟩:=x0;(conv=>whnf);refine ⟨_,oM,o4,wN ?_⟩;refine ⟨_,oM,mz,wN ?_⟩;refine .inr ⟨pl,p,⟨head,ac,body,rat⟩,vs,more,.mk x1 x2 x3 x4 x5,M,kn,rfl,rfl,rfl,hp,⟨oM,hm⟩,hk,lq,fun y hy=>?_⟩;rw [WN,hy] at ha
    cases y with
    | some ae =>
     obtain ⟨a,e⟩:=ae;simp only [orF] at ha;subst ha;simp only [FlK,RtK] at h |-;exact mq48
    | none =>
    simp only [FlK,orF] at ha |-;(conv=>whnf)
    (repeat (refine ⟨rfl,?_⟩;conv=>whnf))
    refine Zl ?_;exact ⟨⟨i+1,rfl,rfl,oM,ha⟩,hμ⟩
   have aa:j<body.length:=by have hc:(j:Int)<((Zv pl body).length:Int):=hc;omega
   have hr:(Zv pl body)[(j:Int).toNat]?=some (YN pl body[j]):=by rw [Zi,Tj,Th,Ta aa];rfl
   have dw:=Zz szL body j aa;have iw:=Zcv (f:=szL) (Ta aa);have hx:=Zmh yq (Ta aa);rw [Tm aa,List.flatMap_cons,Wz,Sr] at ha;have hμ:((body.length:Int) - ((j:Int)+1)).toNat<((body.length:Int) - (j:Int)).toNat:=oM;have ji:body[j]?=some body[j]:=Ta aa;generalize body[j]=x at ha hr dw iw hx ji;obtain ⟨op,rel,eargs,lbody,at'⟩:=x;simp only [szL,Wu] at dw iw;simp only [VW] at ha;(conv=>whnf);refine ⟨_,oM,hr,wN ?_⟩;refine ZFX (fun ho=>wN ?_) (fun ho=>?_)
   ·have ho:¬op=1:=fun g=>ho (by simp only [g];rfl)
    rw [Tf ho] at ha;refine Zl ?_;exact ⟨⟨j+1,n,M,rfl,rfl,oM,⟨hM,oM⟩,ha⟩,hμ⟩
   have ho:op=1:=by have ho:(op:Int)=1:=ho;omega
   subst ho;rw [Tk rfl] at ha;simp only [rtL] at hx;rw [Tk dM] at hx;obtain ⟨ri,d,q1,q2,q3,q4,q5⟩:=ZiY hx;have hrr:(p.rels.map (ZQ pl))[(ri:Int).toNat]?=some (ZQ pl d):=by rw [Tj,Th,q2];rfl
   obtain ⟨d1,d2,d3,d4,d5,d6⟩:=d;simp only at q3 q4 q5;have f7:(Zf pl eargs).length=eargs.length:=by rw [Zb,Td]
   have ah:=Zq szE eargs;rw [q5] at ha;(conv=>whnf);refine optK.yes (by rw [ZJ,q1];rfl) (wN ?_)
   (repeat (refine ⟨rfl,?_⟩;conv=>whnf))
   refine ⟨_,oM,hrr,wN ?_⟩;refine ⟨⟨j,0,n,M,rel,eargs,lbody,at',d2,rfl,rfl,ji,q5.symm,oM,⟨hM,by rw [Sn];omega⟩,ha⟩,?_⟩
   clear ha hM hn
   rintro w σ1 ⟨j',i,n2,M2,rel',eargs',lbody',at'',fs',hw,rfl,ld,yu,ab,⟨ut,ip⟩,ha⟩
   have ej:(some (PV.d (.int .i64 (j:Int))):Option PV)=some (.d (.int .i64 (j':Int))):=congrArg (fun l:List PV=>l[5]?) hw;obtain rfl:j=j':=by have ej:=Option.some.inj ej;injection ej with ej;injection ej with _ ej;omega
   rw [ji] at ld;obtain ⟨_,rfl,rfl,rfl,rfl⟩:=Li.mk.inj (Option.some.inj ld);obtain rfl:fs'=d2:=yu.trans q5;have hw:w=[.d (.int .i64 i)]:=congrArg (List.drop 8) hw;subst hw;(conv=>whnf);refine ZFU (fun bl=>?_) (fun bl=>?_);rotate_left
   ·have bl:¬(i:Int)<((fs'.map Zo).length:Int):=bl;rw [Td] at bl;have z8:i=eargs.length:=oM;rw [Tq oM] at ha ip;have ha:Wz M2 ((body.drop (j+1)).flatMap (VW p))=MF:=ha;(conv=>whnf);refine Zl ?_;exact ⟨⟨j+1,n2,M2,rfl,rfl,oM,⟨ut,by simp only [szS] at ip;omega⟩,ha⟩,hμ⟩
   have uv:i<fs'.length:=by have bl:(i:Int)<((fs'.map Zo).length:Int):=bl;rw [Td] at bl;omega
   have aq:i<eargs.length:=oM;rw [Tm uv,Tm aq] at ha;simp only [ZaD] at ha;have hk:=Zcu q4 (Ta aq) (by rw [ZX,Th,Ta uv];rfl);have o4:(fs'.map Zo)[(i:Int).toNat]?=some (Zo fs'[i]):=by rw [Tj,Th,Ta uv];rfl
   have mz:(Zf pl eargs)[(i:Int).toNat]?=some (ZF pl eargs[i]):=by rw [Zb,Tj,Th,Ta aq];rfl
   have ud:=Zz szE eargs i aq;have hde:=Zcv (f:=szE) (Ta aq);have hμ2:(((fs'.map Zo).length:Int) - ((i:Int)+1)).toNat<(((fs'.map Zo).length:Int) - (i:Int)).toNat:=by rw [Td];omega
   generalize fs'[i]=f0 at ha hk o4;generalize eargs[i]=x0 at ha hk mz ud hde;obtain ⟨f1,f2⟩:=f0;obtain ⟨x1,x2,x3,x4,x5⟩:=x0;(conv=>whnf);refine ⟨_,oM,o4,wN ?_⟩;refine ⟨_,oM,mz,wN ?_⟩;refine .inl ⟨pl,p,⟨head,ac,body,rat⟩,vs,more,.mk x1 x2 x3 x4 x5,M2,n2,rfl,rfl,rfl,hp,⟨oM,hm⟩,hk,⟨ut,oM⟩,wN ?_⟩;have hM3:=Zav (wiE p (.mk x1 x2 x3 x4 x5) f2) ut;have hwl:=Zg2 p (.mk x1 x2 x3 x4 x5) f2;rw [show Wz M2 (wiE p (.mk x1 x2 x3 x4 x5) f2++ZaD p (List.drop (i+1) eargs) (List.drop (i+1) fs'))=Wz (Wz M2 (wiE p (.mk x1 x2 x3 x4 x5) f2)) (ZaD p (List.drop (i+1) eargs) (List.drop (i+1) fs')) from Sr ..] at ha
   (repeat (refine ⟨rfl,?_⟩;conv=>whnf))
   refine Zl ?_;exact ⟨⟨j,i+1,n2+(wiE p (.mk x1 x2 x3 x4 x5) f2).length,_,rel,eargs,lbody,at',fs',rfl,rfl,ji,yu,oM,⟨hM3,oM⟩,ha⟩,hμ2⟩
  exact h.elim
 exact h.elim
def recOfC:Nat×Nat×Code:=match ZzM (YP Tryz.f90) with | some x=>x | none=>(0,0,.skip)
def ZyX:List PV->St->(St->Prop)->Prop:=fun args σ K=>args.length<=Tryz.f90.ntmps/\W (ctx Vq [] (Zj [])) recOfC.2.2 (ZsS Vq Tryz.f90 σ.bx.length K) (WY (WY (Zb3 0 args) recOfC.1 (.d .nili)) recOfC.2.1 (.d .nili)) σ
def ZyY:PV->List PV->St->(St->Prop)->Prop:=fun pv args σ K=>args.length<=Tryz.f90.ntmps/\W (ctx Vq [] (Zj [])) recOfC.2.2 (ZsS Vq Tryz.f90 σ.bx.length K) (WY (WY (Zb3 0 args) recOfC.1 pv) recOfC.2.1 pv) σ
def ZyZ:PDef (GG w0 nG) 90 ZyX ZyY :=
 Zkc (a:=recOfC.1) (b:=recOfC.2.1) (rest:=recOfC.2.2) Zx mixed Tryz.func90 rfl kR rfl kR (fun args σ K h=>⟨Zoy Vq [] (Zj []) (fun _=>0) (fun _=>false),σ.bx.length,CxG.of (tbl:=[]) Zx trivial trivial _ _ _,Tu _,h.1,h.2⟩) (fun pv args σ K h=>⟨Zoy Vq [] (Zj []) (fun _=>0) (fun _=>false),σ.bx.length,CxG.of (tbl:=[]) Zx trivial trivial _ _ _,Tu _,h.1,h.2⟩)
def ZFN (pl:Pl):Flt->PV
 | none=>.agg [.d (.int .i64 0),.d (.int .i64 0)]
 | some (a,e)=>.agg [.d (.int .i64 (pl a)),.d (.int .i64 e)]
def Zcw (m:Nat):Zn:=ZaE fun rest pl p r vs more K=>match rest with
 | []=>(ZhE r<=m/\m<=2097152)/\Zb7 r.body=true/\∀x,ZiR p r vs=x->K (.ret (ZFN pl x)) vs more
 | _=>False
def Zi0 (m:Nat):Tbl:=[(91,ZfK m),(92,ZdV m),(93,ZdW m)]
def Zrl {m:Nat} (ht:TO w0 nG (Zi0 m)):PC w0 nG 52 (Zcw m):=by
 refine Zco Zx mixed Tryz.func52 rfl kR kR ZyZ ?_;intro args σ K h
 unfold Zcw ZaE at h
 split at h
 ·obtain ⟨pl,p,⟨head,ac,body,rat⟩,vs,more,rfl,hp,h⟩:=h;split at h
  ·obtain ⟨⟨hz,hm⟩,bv,h⟩:=h;simp only [ZhE] at hz bv;refine ⟨Zoy Vq (Zi0 m) (Zj []) (Xk []) (Yh []),7,false,CxG.of Zx ht ⟨ZkM m,ZkN m,ZiZ m,trivial⟩ _ _ _,sM,Tc rfl,wN ?_⟩;simp only [ZiR] at h;refine ZFU (fun hc=>wN ?_) (fun hc=>wN ?_)
   ·have hc:64<vs.length:=by have hc:(64:Int)<((mvM mvI vs).length:Nat):=hc;rw [ZkB] at hc;omega
    rw [Tk hc] at h;exact h _ rfl
   have hc:¬64<vs.length:=by have hc:¬(64:Int)<((mvM mvI vs).length:Nat):=hc;rw [ZkB] at hc;omega
   rw [Tf hc] at h
   (repeat (refine ⟨rfl,?_⟩;conv=>whnf))
   refine ⟨pl,p,⟨head,ac,body,rat⟩,vs,more,rfl,hp,ac,rat,rfl,rfl,⟨oM,hm⟩,fun x hx=>?_⟩;rw [hx] at h
   cases x with
   | some ae =>
    obtain ⟨a,e⟩:=ae;have h:=h _ rfl;exact mq116
   | none =>
   simp only [RtK];(conv=>whnf)
   (repeat (refine ⟨rfl,?_⟩;conv=>whnf))
   refine ⟨pl,p,⟨head,ac,body,rat⟩,vs,more,rfl,hp,body,rfl,⟨oM,hm⟩,bv,fun y hy=>?_⟩;rw [hy] at h
   cases y with
   | some ae =>
    obtain ⟨a,e⟩:=ae;have h:=h _ rfl;exact mq116
   | none =>
   simp only [RtK];(conv=>whnf)
   (repeat (refine ⟨rfl,?_⟩;conv=>whnf))
   refine ⟨pl,p,⟨head,ac,body,rat⟩,vs,more,rfl,hp,⟨by simp only [ZhE];omega,hm⟩,hx,hy,fun z hz=>?_⟩;have h:=h z hz
   cases z with
   | some ae =>
    obtain ⟨a,e⟩:=ae;exact mq116
   | none =>
   exact mq116
  exact h.elim
 exact h.elim
def ZEd:Prop:=∀p:Pr,ZiO p=none->ZBS p
def pig:∀(n:Nat) (f:Nat->Nat),(∀i,i<=n->f i<n)->∃i j,i<j/\j<=n/\f i=f j
 | 0,f,h=>absurd (h 0 (Tu _)) oM
 | n+1,f,h=>by
  by_cases hx:∃i,i<=n/\f i=f (n+1)
  ·obtain ⟨i,h1,h2⟩:=hx;exact ⟨i,n+1,oM,oM,h2⟩
  have ah:∀i,i<=n->f i≠f (n+1):=fun i hi g=>hx ⟨i,hi,g⟩
  have hv:=h (n+1) oM;obtain ⟨i,j,h1,h2,h3⟩:=pig n (fun i=>if f (n+1)<f i then f i - 1 else f i) (fun i hi=>by
   have h1:=h i oM;have h2:=ah i hi;show (if f (n+1)<f i then f i - 1 else f i)<n;split <;> omega)
  refine ⟨i,j,h1,oM,?_⟩;have h4:=ah i oM;have h5:=ah j h2
  change (if f (n+1)<f i then f i - 1 else f i)=(if f (n+1)<f j then f j - 1 else f j) at h3
  split at h3 <;> split at h3 <;> omega
def sN (p:Pr):Nat->Bs->Bs
 | 0,a=>a
 | n+1,a=>sN p n ((XS p a).getD [])
def Zrm (p:Pr):∀(i k:Nat) (a:Bs),sN p (i+k) a=sN p k (sN p i a)
 | 0,k,a=>by rw [T9];rfl
 | i+1,k,a=>by rw [show i+1+k=(i+k)+1 by omega];exact Zrm p i k _
def Zmj {p:Pr}:∀{n:Nat} {a:Bs},Zbg p n a=none->∀i,i<n->(XS p (sN p i a)).isSome=true
 | 0,_,_,i,hi=>oM
 | n+1,a,h,i,hi=>by
  simp only [Zbg] at h;split at h
  ·cases h
  rename_i c hc
  cases i with
  | zero=>simp only [sN,hc];rfl
  | succ i=>simp only [sN,hc];exact Zmj h i oM
def Zrn {p:Pr} {s:Bs}:∀{k n:Nat} {a:Bs},(∀i,i<=k->(XS p (sN p i a)).isSome=true)->sN p (k+1) a=s->k<n->ZdP p s n a=true
 | k,0,_,_,_,h=>oM
 | 0,n+1,a,h,hs,_=>by
  obtain ⟨c,hc⟩:=Sw.1 (h 0 oM);simp only [sN] at hc hs;rw [hc] at hs;simp only [Sp] at hs;simp only [ZdP,hc];rw [Tk hs]
 | k+1,n+1,a,h,hs,hk=>by
  obtain ⟨c,hc⟩:=Sw.1 (h 0 oM);simp only [sN] at hc;simp only [ZdP,hc];split
  ·rfl
  refine Zrn (k:=k) (fun i hi=>?_) ?_ oM
  ·have:=h (i+1) oM;simpa only [sN,hc,Sp] using this
  rw [<- hs];simp only [sN,hc];rfl
def ZfM {p:Pr}:∀{l:List Ty},Zb8 p l=none->∀t∈l,ZkK p t=false
 | [],_,_,h=>by cases h
 | x::l,h,t,ht=>by
  simp only [Zb8] at h;split at h
  ·cases h
  rename_i hx
  rcases Tt.1 ht with rfl | ht
  ·simpa using hx
  exact ZfM h t ht
def Zy0 {p:Pr} {a b:Bs} (h:XS p a=some b):∃(k:Nat) (t:Ty),lkM a (ZtJ p)=some (k:Int)/\p.types[k]?=some t/\t.name=a/\t.kind=1/\t.base=b:=by
 unfold XS at h
 split at h
 ·cases h
 rename_i i hi
 obtain ⟨k,t,rfl,ht,hn⟩:=ZqS hi;split at h
 ·cases h
 rw [Tj,ht] at h;simp only at h;split at h
 ·rename_i hc;cases h;exact ⟨k,t,hi,ht,hn,hc.1,rfl⟩
 cases h
def Zy1 {p:Pr} (h:Zb8 p p.types=none):ZBS p:=fun s=>by
 cases he:Zvc p s with
 | some r=>rfl
 | none =>
 exfalso;have hs:=Zmj he;have ym:∀i,i<=p.types.length->∃(k:Nat) (t:Ty),lkM (sN p i s) (ZtJ p)=some (k:Int)/\p.types[k]?=some t/\t.name=sN p i s:=fun i hi=>by
  obtain ⟨b,hb⟩:=Sw.1 (hs i oM);obtain ⟨k,t,h1,h2,h3,_⟩:=Zy0 hb;exact ⟨k,t,h1,h2,h3⟩
 obtain ⟨i,j,h1,h2,h3⟩:=pig p.types.length (fun i=>((lkM (sN p i s) (ZtJ p)).getD 0).toNat) (fun i hi=>by
  obtain ⟨k,t,g1,g2,_⟩:=ym i hi;simp only [g1,Sp,Tj];exact (Ti.1 g2).1)
 obtain ⟨k1,t1,g1,g2,g3⟩:=ym i oM;obtain ⟨k2,t2,q1,q2,q3⟩:=ym j h2;simp only [g1,q1,Sp,Tj] at h3;subst h3;rw [g2] at q2
 cases q2
 have bu:sN p j s=sN p i s:=q3.symm.trans g3;have hr:=ZfM h t1 (TX g2);have:ZkK p t1=true:=by
  unfold ZkK
  rw [g3];refine Zrn (k:=j - i - 1) (fun m hm=>?_) ?_ oM
  ·rw [<- Zrm];exact hs _ oM
  rw [<- Zrm,show i+(j - i - 1+1)=j by omega];exact bu
 rw [this] at hr
 cases hr
def Zuh {p:Pr} (h:ZiO p=none):Zat p.types ZfE []=none/\ZgY p p.types=none/\Zb8 p p.types=none:=by
 unfold ZiO at h
 split at h
 ·cases h
 rename_i h1
 split at h
 ·cases h
 rename_i h2
 split at h
 ·cases h
 rename_i h3;exact ⟨h1,h2,h3⟩
def ZB6:ZEd:=fun p h=>Zy1 (Zuh h).2.2
inductive On (p:Pr):Bs->Bs->Prop
 | refl (a:Bs):On p a a
 | step {a c b:Bs} (h:XS p a=some c) (k:On p c b):On p a b
def On.trans {p:Pr} {a b c:Bs} (h:On p a b) (k:On p b c):On p a c:=by
 induction h with
 | refl=>exact k
 | step h _ ih=>exact .step h (ih k)
def NZ (x:Flt):Prop:=∀a e,x=some (a,e)->e≠0
def NZ.none:NZ none:=fun a e h=>by cases h
def NZ.mk {a e:Nat} (h:e≠0):NZ (some (a,e)):=fun _ _ g=>by cases g;exact h
mutual
def ZB7 (p:Pr) (vs:Vs):∀(e:Ex) (n:Int),NZ (rtE p vs e n)
 | .mk op text num args a,n=>by
  simp only [rtE];split
  ·exact .mk dM
  split
  ·exact .mk dM
  split
  ·exact .mk dM
  exact ZdX p vs args _
def ZdX (p:Pr) (vs:Vs):∀(l:List Ex) (ns:List Int),NZ (ZaC p vs l ns)
 | [],_=>.none
 | e::l,[]=>.none
 | e::l,n::ns=>by
  have h:=ZB7 p vs e n;simp only [ZaC];split
  ·exact mq154
  exact ZdX p vs l ns
end
def Zro (p:Pr) (vs:Vs) (name:Bs) (args:List Ex) (a:Nat) (hd:Bool):NZ (Zt2 p vs name args a hd):=by
 unfold Zt2
 split
 ·exact .mk dM
 split
 ·exact .none
 split
 ·exact .mk dM
 split
 ·exact .mk dM
 exact ZdX p vs _ _
mutual
def ZB8 (p:Pr) (vs:Vs):∀(x:Li),NZ (rtL p vs x)
 | .mk op rel args body a=>by
  simp only [rtL];split
  ·exact Zro p vs _ _ _ _
  split
  ·have h:=ZdX p vs args [Jd p vs args,Jd p vs args];split
   ·exact mq154
   split
   ·exact .mk dM
   exact .none
  have h:=ZdX p vs args (List.replicate args.length 0);split
  ·exact mq154
  exact ZkP p vs body
def ZkP (p:Pr) (vs:Vs):∀(l:List Li),NZ (ZhF p vs l)
 | []=>.none
 | x::l=>by
  have h:=ZB8 p vs x;simp only [ZhF];split
  ·exact mq154
  exact ZkP p vs l
end
def Zmk (p:Pr) (kn:List (Bs×Bs)):∀l,NZ (V4 p kn l)
 | []=>.none
 | (.mk op text _ _ a,k)::l=>by
  simp only [V4];split
  ·exact .mk dM
  exact Zmk p kn l
def Zi1 (p:Pr) (r:Ru) (vs:Vs):NZ (ZiR p r vs):=by
 unfold ZiR
 split
 ·exact .mk dM
 have h:=Zro p vs r.head r.args r.at' true;split
 ·exact mq154
 have h:=ZkP p vs r.body;split
 ·exact mq154
 exact Zmk p _ _
def Zrp {p:Pr} (h:(Zfx (prU p)).2=0) {r:Ru} (hr:r∈p.rules):Zb7 r.body=true:=by
 have hm:Zex (prU p)=true:=by
  cases hm:Zex (prU p) with
  | true=>rfl
  | false=>rw [Zfx,hm] at h;simp at h
 simp only [prU,Zex,Tn,Tr] at hm;have:=hm.2.2.1 r hr;simp only [XL,Tn] at this;rw [Xh];exact this.2.2
def ZdY (n:Nat):Zn:=fun args σ K=>match args,σ with
 | [.agg c],⟨[],[],0⟩=>∃pl p,c=(ZqR pl p).map .d/\(Zez n (prU p)/\n<=16777216/\Zn4 p<=2097152) /\
   ((Zfx (prU p)).2≠0->K (.ret (.tuple [.d .nilp,.agg [.d (.int .i64 0),.d (.int .i64 (Zfx (prU p)).2)]])) ⟨[],[],0⟩) /\
   ((Zfx (prU p)).2=0->∀a e,orF (ZiO p) (Jf p p.rules)=some (a,e)->K (.ret (.tuple [.d .nilp,.agg [.d (.int .i64 (pl a)),.d (.int .i64 e)]])) ⟨[],[],0⟩) /\
   ((Zfx (prU p)).2=0->orF (ZiO p) (Jf p p.rules)=none->K (.ret (.tuple [.ptr 5 0,.agg [.d (.int .i64 0),.d (.int .i64 0)]])) ⟨ZD5 pl p,[],0⟩)
 | _,_=>False
def Zrq (n:Nat):Tbl:=[(48,Zn2 XQ Zez Zfx n),(49,Zcr),(50,Zt1),(51,Zct 2097152),(52,Zcw 2097152)]
def Zy2 {n:Nat} (ht:TO w0 nG (Zrq n)):PC w0 nG 31 (ZdY n):=by
 refine XN Zx mixed (tbl:=Zrq n) ht Tryz.func31 rfl kR kR ?_;intro args σ K h
 unfold ZdY at h
 split at h
 ·obtain ⟨pl,⟨p1,p2,p3⟩,rfl,⟨hc,hn,hz⟩,h1,h2,h3⟩:=h;have hp:BP ⟨p1,p2,p3⟩:=by unfold BP;omega
  have jh:=@Zrp ⟨p1,p2,p3⟩;obtain ⟨tx,k,ho⟩:∃s k,Zfx (prU ⟨p1,p2,p3⟩)=(s,k):=⟨_,_,rfl⟩
  rw [ho] at h1 h2 h3 jh;simp only at h1 h2 h3 jh
  by_cases hk:k=0
  ·subst hk;have h2:=h2 rfl;have h3:=h3 rfl;have jh:=@jh rfl
   cases hd:ZiO ⟨p1,p2,p3⟩ with
   | none =>
    rw [hd] at h2 h3;simp only [orF] at h2 h3;have ao:OKP ⟨p1,p2,p3⟩:=⟨hp,ZB6 _ hd⟩
    have qs:∀r∈p3,ZhE r<=2097152:=fun r hr=>by have:=Zbf (f:=ZhE) hr;simp only [Zn4] at hz;omega
    have ib:(p3.map (ZW pl)).length=p3.length:=Td ..;have jv:p3.length<=2097152:=by have:=Zq ZhE p3;simp only [Zn4] at hz;omega
    cases hX:Jf ⟨p1,p2,p3⟩ p3 with
    | none =>
     have h3:=h3 hX;refine ⟨Zj [(9,⟨[37],[3,6,35,36],fun w σ=>∃j:Nat,w=[.d (.int .i64 j)]/\σ=⟨ZD5 pl ⟨p1,p2,p3⟩++[.cells 75 [.d (.int .i64 0),.d (.int .i64 0)]],[],0⟩/\j<=p3.length/\Jf ⟨p1,p2,p3⟩ (p3.drop j)=none,
      fun w _=>match w with | [.d (.int _ j)]=>((p3.length:Int) - j).toNat | _=>0⟩)],Xk [],Yh [],8,false,sM,Tc rfl,?_⟩
     conv=>whnf
     refine ⟨pl,prU ⟨p1,p2,p3⟩,rfl,⟨hc,hn⟩,fun s k he=>?_⟩;rw [ho] at he
     cases he
     conv=>whnf
     refine ⟨pl,⟨p1,p2,p3⟩,rfl,hp,wN ?_⟩;refine ⟨pl,⟨p1,p2,p3⟩,rfl,hp,fun x hx=>?_⟩;rw [hd] at hx;subst hx;(conv=>whnf);refine ⟨⟨0,rfl,rfl,oM,hX⟩,?_⟩
     rintro w σ1 ⟨j,rfl,rfl,hj,ha⟩
     conv=>whnf
     refine ZFU (fun hq=>?_) (fun hq=>?_);rotate_left
     ·have hq:¬(j:Int)<((p3.map (ZW pl)).length:Nat):=hq;rw [Tq oM] at ha;have ha:none=none:=ha;(conv=>whnf);exact h3
     have aa:j<p3.length:=by have hq:(j:Int)<((p3.map (ZW pl)).length:Nat):=hq;omega
     have hr:(p3.map (ZW pl))[(j:Int).toNat]?=some (ZW pl p3[j]):=by rw [Tj,Th,Ta aa];rfl
     have jj:=qs _ (TC aa);have uw:=jh (TC aa);rw [Tm aa] at ha;simp only [Jf] at ha;have hμ:((p3.length:Int) - ((j:Int)+1)).toNat<((p3.length:Int) - (j:Int)).toNat:=oM;generalize p3[j]=r at ha hr jj uw;obtain ⟨r1,r2,r3,r4⟩:=r;(conv=>whnf);refine ⟨_,oM,hr,wN ?_⟩;refine ⟨pl,⟨p1,p2,p3⟩,⟨r1,r2,r3,r4⟩,rfl,rfl,ao,⟨jj,dM⟩,uw,wN ?_⟩;refine ⟨pl,⟨p1,p2,p3⟩,⟨r1,r2,r3,r4⟩,ZeC ⟨p1,p2,p3⟩ ⟨r1,r2,r3,r4⟩,false,rfl,ao,⟨jj,dM⟩,uw,fun x hx=>?_⟩;have hnz:=Zi1 ⟨p1,p2,p3⟩ ⟨r1,r2,r3,r4⟩ (ZeC ⟨p1,p2,p3⟩ ⟨r1,r2,r3,r4⟩);rw [hx] at ha hnz
     cases x with
     | none =>
      conv=>whnf
      exact mq49
     | some ae =>
     obtain ⟨a2,e2⟩:=ae
     cases ha
    | some ae =>
    obtain ⟨a,e⟩:=ae;have h2:=h2 a e hX;refine ⟨Zj [(9,⟨[37],[3,6,35,36],fun w σ=>∃j:Nat,w=[.d (.int .i64 j)]/\σ=⟨ZD5 pl ⟨p1,p2,p3⟩++[.cells 75 [.d (.int .i64 0),.d (.int .i64 0)]],[],0⟩/\j<=p3.length/\Jf ⟨p1,p2,p3⟩ (p3.drop j)=some (a,e),
     fun w _=>match w with | [.d (.int _ j)]=>((p3.length:Int) - j).toNat | _=>0⟩)],Xk [],Yh [],0,false,sM,Tc rfl,?_⟩
    conv=>whnf
    refine ⟨pl,prU ⟨p1,p2,p3⟩,rfl,⟨hc,hn⟩,fun s k he=>?_⟩;rw [ho] at he
    cases he
    conv=>whnf
    refine ⟨pl,⟨p1,p2,p3⟩,rfl,hp,wN ?_⟩;refine ⟨pl,⟨p1,p2,p3⟩,rfl,hp,fun x hx=>?_⟩;rw [hd] at hx;subst hx;(conv=>whnf);refine ⟨⟨0,rfl,rfl,oM,hX⟩,?_⟩
    rintro w σ1 ⟨j,rfl,rfl,hj,ha⟩
    conv=>whnf
    refine ZFU (fun hq=>?_) (fun hq=>?_);rotate_left
    ·have hq:¬(j:Int)<((p3.map (ZW pl)).length:Nat):=hq;rw [Tq oM] at ha;have ha:none=some (a,e):=ha
     cases ha
    have aa:j<p3.length:=by have hq:(j:Int)<((p3.map (ZW pl)).length:Nat):=hq;omega
    have hr:(p3.map (ZW pl))[(j:Int).toNat]?=some (ZW pl p3[j]):=by rw [Tj,Th,Ta aa];rfl
    have jj:=qs _ (TC aa);have uw:=jh (TC aa);rw [Tm aa] at ha;simp only [Jf] at ha;have hμ:((p3.length:Int) - ((j:Int)+1)).toNat<((p3.length:Int) - (j:Int)).toNat:=oM;generalize p3[j]=r at ha hr jj uw;obtain ⟨r1,r2,r3,r4⟩:=r;(conv=>whnf);refine ⟨_,oM,hr,wN ?_⟩;refine ⟨pl,⟨p1,p2,p3⟩,⟨r1,r2,r3,r4⟩,rfl,rfl,ao,⟨jj,dM⟩,uw,wN ?_⟩;refine ⟨pl,⟨p1,p2,p3⟩,⟨r1,r2,r3,r4⟩,ZeC ⟨p1,p2,p3⟩ ⟨r1,r2,r3,r4⟩,false,rfl,ao,⟨jj,dM⟩,uw,fun x hx=>?_⟩;have hnz:=Zi1 ⟨p1,p2,p3⟩ ⟨r1,r2,r3,r4⟩ (ZeC ⟨p1,p2,p3⟩ ⟨r1,r2,r3,r4⟩);rw [hx] at ha hnz
    cases x with
    | none =>
     conv=>whnf
     exact mq49
    | some ae =>
    obtain ⟨a2,e2⟩:=ae;have ha:some (a2,e2)=some (a,e):=ha
    cases ha
    conv=>whnf
    refine ZFX (fun _=>wN ?_) (fun g=>absurd (by have g:(e:Int)=0:=g;omega) (hnz _ _ rfl))
    (repeat (refine ⟨rfl,?_⟩;conv=>whnf))
    exact h2
   | some ae =>
   obtain ⟨a,e⟩:=ae;have h2:=h2 a e (by rw [hd];rfl);refine ⟨Zj [],Xk [],Yh [],0,false,sM,Tc rfl,wN ?_⟩;refine ⟨pl,prU ⟨p1,p2,p3⟩,rfl,⟨hc,hn⟩,fun s k he=>?_⟩;rw [ho] at he
   cases he
   conv=>whnf
   refine ⟨pl,⟨p1,p2,p3⟩,rfl,hp,wN ?_⟩;refine ⟨pl,⟨p1,p2,p3⟩,rfl,hp,fun x hx=>?_⟩;rw [hd] at hx;subst hx;(conv=>whnf);refine ZFX (fun _=>wN ?_) (fun g=>absurd (by have g:(e:Int)=0:=g;omega) (ZyJ hd))
   (repeat (refine ⟨rfl,?_⟩;conv=>whnf))
   exact h2
  have h1:=h1 hk;refine ⟨Zj [],Xk [],Yh [],0,false,sM,Tc rfl,wN ?_⟩;refine ⟨pl,prU ⟨p1,p2,p3⟩,rfl,⟨hc,hn⟩,fun s k he=>?_⟩;rw [ho] at he
  cases he
  conv=>whnf
  refine ZFX (fun _=>wN ?_) (fun g=>absurd (by have g:(k:Int)=0:=g;omega) hk);exact h1
 exact h.elim
def Zg4 (n:Nat):Zn:=fun args σ K=>match args,σ with
 | [.agg c],⟨[],[],0⟩=>∃pl p,c=(ZqR pl p).map .d/\(Zez n (prU p)/\n<=16777216/\Zn4 p<=2097152)/\∀a e,Zt3 pl p=(a,e)->K (.ret (.tuple [.d (.int .i64 a),.d (.int .i64 e)])) ⟨[],[],0⟩
 | _,_=>False
def ZkQ (pl:Pl) (p:Pr):Zt3 pl p=if (Zfx (prU p)).2≠0 then ((0:Int),((Zfx (prU p)).2:Int)) else match orF (ZiO p) (Jf p p.rules) with | some (a,e)=>(pl a,(e:Int)) | none=>(0,0):=by
 unfold Zt3
 split
 ·rfl
 cases ZiO p with
 | some ae=>rfl
 | none=>rfl
def Zui {n:Nat}:OKw w0 nG [(31,ZdY n)] 17 (Zg4 n):=by
 refine pwo Tryz.func17 fun args σ K h=>?_
 unfold Zg4 at h
 split at h
 ·obtain ⟨pl,p,rfl,hc,h⟩:=h;simp only [ZkQ] at h;refine pwv [] 0 false ?_;refine ⟨pl,p,rfl,hc,fun g=>?_,fun g a e g2=>?_,fun g g2=>?_⟩
  ·conv=>whnf
   exact h _ _ (by rw [Tk g])
  ·conv=>whnf
   exact h _ _ (by rw [Tf (fun q=>q g),g2])
  conv=>whnf
  exact h _ _ (by rw [Tf (fun q=>q g),g2])
 exact h.elim
end Go.PM.Lex
end

section
namespace Go.PM.Lex
section
variable {ty:List Ty} {re:List Re} {a b:List Ru}
end
end Go.PM.Lex
end

section
namespace Go.PM.Lex
mutual
def prE:Ex->List Ex
 | .mk op t n args a=>.mk op t n args a::ZkR args
def ZkR:List Ex->List Ex
 | []=>[]
 | e::l=>prE e++ZkR l
end
abbrev Bv:=List (Bs×Bool)
def txX:Ex->Bs | .mk _ t _ _ _=>t
def atX:Ex->Nat | .mk _ _ _ _ a=>a
def ZzT (m:Bv) (x:Ex):Bv:=if opE x=1 then Z6 (txX x) true m else m
def ZkS (m:Bv) (l:List Ex):Bv:=l.foldl ZzT m
def Zca (m:Bv) (x:Ex):Bool:=decide (opE x=2) || (decide (opE x=1) && !((lkM (txX x) m).getD false))
def Zcb (m:Bv) (e:Ex):Option Ex:=(prE e).find? (Zca m)
def Uy (m:Bv) (l:List Ex):Option Ex:=(ZkR l).find? (Zca m)
def Zml:∀l k:List Ex,ZkR (l++k)=ZkR l++ZkR k
 | [],_=>rfl
 | e::l,k=>by simp only [T5,ZkR,Zml l k,To]
def Zi2 {l:List Ex} {j:Nat} (h:j<l.length):ZkR (l.take (j+1))=ZkR (l.take j)++prE l[j]:=by
 rw [List.take_add_one,Ta h,Zml];simp [ZkR]
def Zi3 (m:Bv) (l k:List Ex):ZkS m (l++k)=ZkS (ZkS m l) k:=Sr ..
def ZfN {m:Bv} {l:List Ex} {j:Nat} (h:j<l.length):Uy m (l.drop j)=match Zcb m l[j] with | some x=>some x | none=>Uy m (l.drop (j+1)):=by
 rw [Tm h];simp only [Uy,Zcb,ZkR,List.find?_append]
 cases (prE l[j]).find? (Zca m) <;> rfl
mutual
def Zbm (m:Bv):Ex->Bool
 | .mk op t n args a=>if 8<=op then (Zcb m (.mk op t n args a)).isSome else Vm m args
def Vm (m:Bv):List Ex->Bool
 | []=>false
 | e::l=>Zbm m e || Vm m l
end
def Zoe (m:Bv) (l:List Ex):Vm m l=l.any (Zbm m):=by induction l with | nil=>rfl | cons x l ih=>simp [Vm,ih]
mutual
def Zjx:Ex->Bv->Bv
 | .mk op t _ args _,m=>if op=1 then Z6 t true m else if op=6\/op=7 then Uz args m else m
def Uz:List Ex->Bv->Bv
 | [],m=>m
 | e::l,m=>Uz l (Zjx e m)
end
def Zbn {l:List Ex} {j:Nat} (h:j<l.length) (m:Bv):Uz (l.drop j) m=Uz (l.drop (j+1)) (Zjx l[j] m):=by
 rw [Tm h];rfl
def Z7 (m:Bv) (a b:Ex):Bv:=if (Zcb m b).isNone=true/\Zbm m a=false then Zjx a m else m
def Vn (m:Bv):Li->Bv
 | .mk op _ args _ _=>if op=1 then (if Vm m args=false then Uz args m else m)
  else if op=3 then (match args with | [a,b]=>Z7 (Z7 m a b) b a | _=>m) else m
def ZA (m:Bv) (l:List Li):Bv:=l.foldl Vn m
def opL:Li->Nat | .mk op _ _ _ _=>op
def XT (l:List Li):Prop:=∀x∈l,opL x<=8
def bindsT (l:List Li):Nat->Bv->Option Bv
 | 0,_=>none
 | k+1,m=>if m.length<(ZA m l).length then bindsT l k (ZA m l) else some (ZA m l)
mutual
def ZC2 (m:Bv):Ex->Option Ex
 | .mk op _ _ args _=>if 8<=op then Uy m args else Zg5 m args
def Zg5 (m:Bv):List Ex->Option Ex
 | []=>none
 | e::l=>match ZC2 m e with | some x=>some x | none=>Zg5 m l
end
mutual
def ZC3 (m:Bv):Ex->Option Ex
 | .mk op t n args a=>if op=2 then none else if op=6\/op=7 then Zg6 m args else Zcb m (.mk op t n args a)
def Zg6 (m:Bv):List Ex->Option Ex
 | []=>none
 | e::l=>match ZC3 m e with | some x=>some x | none=>Zg6 m l
end
def ZfO {m:Bv} {l:List Ex} {j:Nat} (h:j<l.length):Zg5 m (l.drop j)=match ZC2 m l[j] with | some x=>some x | none=>Zg5 m (l.drop (j+1)):=by
 rw [Tm h];rfl
def Zbo {m:Bv} {l:List Ex} {j:Nat} (h:j<l.length):Zg6 m (l.drop j)=match ZC3 m l[j] with | some x=>some x | none=>Zg6 m (l.drop (j+1)):=by
 rw [Tm h];rfl
def Zrr (m:Bv):Li->Option Ex
 | .mk op _ args _ _=>if op=1 then Zg5 m args else if op=2 then Zg6 m args else Uy m args
def VX (m:Bv):List Li->Option Ex
 | []=>none
 | x::l=>match Zrr m x with | some y=>some y | none=>VX m l
def ZkT {m:Bv} {l:List Li} {j:Nat} (h:j<l.length):VX m (l.drop j)=match Zrr m l[j] with | some x=>some x | none=>VX m (l.drop (j+1)):=by
 rw [Tm h];rfl
def unB (X:List Bs) (m:Bv):Nat:=X.countP fun t=>(lkM t m).isNone
def Inc (X:List Bs) (m k:Bv):Prop:=(∀t,(lkM t k).isNone=true->(lkM t m).isNone=true)/\m.length<=k.length/\unB X k+k.length<=unB X m+m.length
def Inc.refl (X:List Bs) (m:Bv):Inc X m m:=⟨fun _ h=>h,Tu _,Tu _⟩
def Inc.trans {X:List Bs} {m k l:Bv} (h:Inc X m k) (g:Inc X k l):Inc X m l:=⟨fun t ht=>h.1 t (g.1 t ht),TT h.2.1 g.2.1,TT g.2.2 h.2.2⟩
def Zvl {X:List Bs} {m k:Bv} (h:∀t,(lkM t k).isNone=true->(lkM t m).isNone=true):unB X k<=unB X m:=List.countP_mono_left fun t _ g=>h t g
def Zvm {m k:Bv} (h:∀t,(lkM t k).isNone=true->(lkM t m).isNone=true) {t:Bs} (h2:(lkM t m).isNone=true) (h3:(lkM t k).isNone=false):∀{X:List Bs},t∈X->unB X k<unB X m
 | y::Y,ht=>by
  have le:=Zvl (X:=Y) h;unfold unB at le |-
  simp only [List.countP_cons];rcases Tt.1 ht with rfl | ht
  ·rw [h2,h3];simp;omega
  have ih:=Zvm h h2 h3 ht;unfold unB at ih
  have:(if (lkM y k).isNone=true then 1 else 0)<=(if (lkM y m).isNone=true then 1 else 0):=by
   split
   ·rename_i g;rw [h y g];simp
   exact Sa _
  omega
def Zy3 {X:List Bs} {t:Bs} (ht:t∈X) (m:Bv):Inc X m (Z6 t true m):=by
 have h1:∀(m:Bv) s,lkM s (Z6 t true m)=if s=t then some true else lkM s m:=fun m s=>by
  exact mq66
 have h2:∀m:Bv,(Z6 t true m).length=if (lkM t m).isNone=true then m.length+1 else m.length:=fun m=>by
  induction m with
  | nil=>simp [Z6,lkM]
  | cons x m ih =>
  obtain ⟨y,v⟩:=x;simp only [Z6,lkM]
  by_cases hy:t=y
  ·subst hy;simp
  simp only [hy,decide_false,Te,ih];split <;> omega
 have h0:∀s,(lkM s (Z6 t true m)).isNone=true->(lkM s m).isNone=true:=fun s hs=>by
  rw [h1] at hs;split at hs
  ·cases hs
  exact hs
 refine ⟨h0,?_,?_⟩
 ·rw [h2];split <;> omega
 rw [h2];split
 ·rename_i h
  have:=Zvm h0 h (by rw [h1,Tk rfl];rfl) ht;omega
 have:=Zvl (X:=X) h0;omega
mutual
def Zmm {X:List Bs}:∀(e:Ex) (m:Bv),(∀t∈nvE e,t∈X)->Inc X m (Zjx e m)
 | .mk op t n args a,m,h=>by
  simp only [nvE] at h;simp only [Zjx]
  by_cases h1:op=1
  ·rw [Tk h1] at h |-;exact Zy3 (h t sM) m
  rw [Tf h1] at h |-;split
  ·exact ZdZ args m h
  exact .refl X m
def ZdZ {X:List Bs}:∀(l:List Ex) (m:Bv),(∀t∈Zjw l,t∈X)->Inc X m (Uz l m)
 | [],m,_=>.refl X m
 | e::l,m,h=>by
  simp only [Zjw,TD] at h;exact (Zmm e m fun t g=>h t (.inl g)).trans (ZdZ l _ fun t g=>h t (.inr g))
end
def ZfP {X:List Bs} {a b:Ex} (m:Bv) (h:∀t∈nvE a,t∈X):Inc X m (Z7 m a b):=by
 unfold Z7
 split
 ·exact Zmm a m h
 exact .refl X m
def Zrs {X:List Bs}:∀(x:Li) (m:Bv),(∀t∈nvL x,t∈X)->Inc X m (Vn m x)
 | .mk op rel args body a,m,h=>by
  simp only [nvL,TD] at h;simp only [Vn];split
  ·split
   ·exact ZdZ args m fun t g=>h t (.inl g)
   exact .refl X m
  split
  ·split
   ·rename_i a b
    simp only [Zjw,TD] at h;exact (ZfP m fun t g=>h t (.inl (.inl g))).trans (ZfP _ fun t g=>h t (.inl (.inr (.inl g))))
   exact .refl X m
  exact .refl X m
def UU {X:List Bs}:∀(l:List Li) (m:Bv),(∀t∈Vr l,t∈X)->Inc X m (ZA m l)
 | [],m,_=>.refl X m
 | x::l,m,h=>by
  simp only [Vr,TD] at h;exact (Zrs x m fun t g=>h t (.inl g)).trans (UU l _ fun t g=>h t (.inr g))
def Zuj {X:List Bs} {m k:Bv} (h:Inc X m k) (hl:m.length<k.length):unB X k<unB X m:=by
 have:=h.2.2;omega
def Zd0 {l:List Li} {X:List Bs} (hX:∀t∈Vr l,t∈X):∀(k:Nat) (m:Bv),unB X m<k->∃r,bindsT l k m=some r
 | 0,m,h=>oM
 | k+1,m,h=>by
  simp only [bindsT];split
  ·rename_i g
   have:=Zuj (UU l m hX) g;exact Zd0 hX k _ oM
  exact ⟨_,rfl⟩
def bindsF (l:List Li) (m:Bv):Bv:=(bindsT l ((Vr l).length+1) m).getD []
def Vo (l:List Li) (m:Bv):bindsT l ((Vr l).length+1) m=some (bindsF l m):=by
 obtain ⟨r,h⟩:=Zd0 (l:=l) (X:=Vr l) (fun t h=>h) ((Vr l).length+1) m (by
  have:unB (Vr l) m<=(Vr l).length:=List.countP_le_length;omega)
 rw [bindsF,h];rfl
def ZC4 (r:Ru):Option Ex:=match Uy (bindsF r.body []) r.args with | some x=>some x | none=>VX (bindsF r.body []) r.body
def Zof:List Ru->Option Ex
 | []=>none
 | r::l=>match ZC4 r with | some x=>some x | none=>Zof l
def Zog (pl:Pl) (p:Pr):Int×Int:=if (Zt3 pl p).2≠0 then Zt3 pl p else match Zof p.rules with | some x=>(pl (atX x),190) | none=>(0,0)
def Sub (M N:Bv):Prop:=∀t,lkM t M=some true->lkM t N=some true
def ZB9 (M:Bv):Prop:=∀t v,lkM t M=some v->v=true
def Sub.refl (M:Bv):Sub M M:=fun _ h=>h
def Sub.trans {M N P:Bv} (h:Sub M N) (g:Sub N P):Sub M P:=fun t ht=>g t (h t ht)
def Zi4 (t:Bs) (m:Bv):∀s,lkM s (Z6 t true m)=if s=t then some true else lkM s m:=fun s=>by
 exact mq66
def Zaw (k:Bs):∀v:Bv,(Z6 k true v).map (·.1)=if k∈v.map (·.1) then v.map (·.1) else v.map (·.1)++[k]
 | []=>rfl
 | (x,u)::v=>by
  have ih:=Zaw k v;simp only [Z6]
  by_cases h:k=x
  ·subst h;simp
  rw [decide_eq_false h];simp only [TF,Tt,h,false_or,ih];split <;> rfl
structure Up (M N:Bv):Prop where
 sub:Sub M N
 pre:M.map (·.1) <+: N.map (·.1)
 allT:ZB9 M->ZB9 N
def Up.refl (M:Bv):Up M M:=⟨.refl M,List.prefix_refl _,id⟩
def Up.trans {M N P:Bv} (h:Up M N) (g:Up N P):Up M P:=⟨h.sub.trans g.sub,h.pre.trans g.pre,fun x=>g.allT (h.allT x)⟩
def Zvn (t:Bs) (M:Bv):Up M (Z6 t true M):=by
 refine ⟨fun s hs=>?_,?_,fun h s v hs=>?_⟩
 ·rw [Zi4];split <;> first | rfl | exact hs
 ·rw [Zaw];split
  ·exact List.prefix_refl _
  exact List.prefix_append _ _
 rw [Zi4] at hs;split at hs
 ·cases hs;rfl
 exact h s v hs
def Zy4 {M N:Bv} (h:Sub M N) (t:Bs):Sub (Z6 t true M) (Z6 t true N):=fun s hs=>by
 rw [Zi4] at hs |-;split
 ·rfl
 rename_i g;rw [Tf g] at hs;exact h s hs
def Zuk {M N:Bv} (h:Sub M N) {x:Ex} (hx:Zca M x=false):Zca N x=false:=by
 unfold Zca at hx |-
 simp only [Sb,Bool.and_eq_false_iff,Bool.not_eq_false'] at hx |-;refine ⟨hx.1,hx.2.elim .inl fun g=>.inr ?_⟩
 cases hl:lkM (txX x) M with
 | none=>rw [hl] at g;cases g
 | some b =>
 rw [hl] at g;have:b=true:=g;subst this;rw [h _ hl];rfl
def Zrt {M N:Bv} (h:Sub M N) {e:Ex} (he:Zcb M e=none):Zcb N e=none:=by
 unfold Zcb at he |-
 rw [List.find?_eq_none] at he |-;intro x hx
 have:=he x hx;simp only [Bool.not_eq_true] at this |-;exact Zuk h this
mutual
def Zmn {M N:Bv} (h:Sub M N):∀e:Ex,Zbm M e=false->Zbm N e=false
 | .mk op t n args a,he=>by
  simp only [Zbm] at he |-;split
  ·rename_i g
   rw [Tk g] at he
   cases hq:Zcb M (.mk op t n args a) with
   | none=>rw [Zrt h hq];rfl
   | some x=>rw [hq] at he;cases he
  rename_i g
  rw [Tf g] at he;exact Zd1 h args he
def Zd1 {M N:Bv} (h:Sub M N):∀l:List Ex,Vm M l=false->Vm N l=false
 | [],_=>rfl
 | e::l,he=>by
  simp only [Vm,Sb] at he |-;exact ⟨Zmn h e he.1,Zd1 h l he.2⟩
end
mutual
def Zru:∀(e:Ex) (M:Bv),Up M (Zjx e M)
 | .mk op t n args a,M=>by
  simp only [Zjx];split
  ·exact Zvn t M
  split
  ·exact Zg7 args M
  exact .refl M
def Zg7:∀(l:List Ex) (M:Bv),Up M (Uz l M)
 | [],M=>.refl M
 | e::l,M=>(Zru e M).trans (Zg7 l _)
end
mutual
def Zrv:∀(e:Ex) {M N:Bv},Sub M N->Sub (Zjx e M) (Zjx e N)
 | .mk op t n args a,M,N,h=>by
  simp only [Zjx];split
  ·exact Zy4 h t
  split
  ·exact Zg8 args h
  exact h
def Zg8:∀(l:List Ex) {M N:Bv},Sub M N->Sub (Uz l M) (Uz l N)
 | [],_,_,h=>h
 | e::l,_,_,h=>Zg8 l (Zrv e h)
end
def Zrw (M:Bv) (a b:Ex):Up M (Z7 M a b):=by
 unfold Z7
 split
 ·exact Zru a M
 exact .refl M
def Zmo {M N:Bv} (h:Sub M N) (a b:Ex):Sub (Z7 M a b) (Z7 N a b):=by
 unfold Z7
 split
 ·rename_i g
  obtain ⟨g1,g2⟩:=g;have h1:Zcb M b=none:=by cases hq:Zcb M b with | none=>rfl | some x=>rw [hq] at g1;cases g1
  rw [Tk ⟨by rw [Zrt h h1];rfl,Zmn h a g2⟩];exact Zrv a h
 split
 ·exact h.trans (Zru a N).sub
 exact h
def Zy5 (M:Bv):∀x:Li,Up M (Vn M x)
 | .mk op rel args body a=>by
  simp only [Vn];split
  ·split
   ·exact Zg7 args M
   exact .refl M
  split
  ·split
   ·exact (Zrw M _ _).trans (Zrw _ _ _)
   exact .refl M
  exact .refl M
def Zmp {M N:Bv} (h:Sub M N):∀x:Li,Sub (Vn M x) (Vn N x)
 | .mk op rel args body a=>by
  simp only [Vn];split
  ·split
   ·rename_i g
    rw [Tk (Zd1 h args g)];exact Zg8 args h
   split
   ·exact h.trans (Zg7 args N).sub
   exact h
  split
  ·split
   ·exact Zmo (Zmo h _ _) _ _
   exact h
  exact h
def Zax:∀(l:List Li) (M:Bv),Up M (ZA M l)
 | [],M=>.refl M
 | x::l,M=>(Zy5 M x).trans (Zax l _)
def Zrx (l:List Li) (R:Bv):Prop:=∀x∈l,Sub (Vn R x) R
def ZbZ {R:Bv}:∀{l:List Li} {M:Bv},Zrx l R->Sub M R->Sub (ZA M l) R
 | [],M,_,h=>h
 | x::l,M,hc,h=>ZbZ (l:=l) (fun y hy=>hc y (Tx _ hy)) ((Zmp h x).trans (hc x List.mem_cons_self))
def ZfQ {l:List Li} {R:Bv} (hc:Zrx l R):∀(k:Nat) {M S:Bv},Sub M R->bindsT l k M=some S->Sub S R
 | 0,_,_,_,h=>by cases h
 | k+1,M,S,hs,h=>by
  simp only [bindsT] at h;have h1:=ZbZ hc hs;split at h
  ·exact ZfQ hc k h1 h
  cases h;exact h1
def Zi5 {l:List Li}:∀(k:Nat) {M S:Bv},bindsT l k M=some S->Up M S
 | 0,_,_,h=>by cases h
 | k+1,M,S,h=>by
  simp only [bindsT] at h;have h1:=Zax l M;split at h
  ·exact h1.trans (Zi5 k h)
  cases h;exact h1
def lk_keys {M:Bv} {t:Bs}:(∃v,lkM t M=some v)↔t∈M.map (·.1):=by
 induction M with
 | nil=>simp [lkM]
 | cons x M ih =>
 obtain ⟨y,u⟩:=x;simp only [lkM,TF,Tt,<- ih]
 by_cases h:t=y
 ·rw [T3 h];simp [h]
 rw [decide_eq_false h];simp [h]
def bindsT_closed {l:List Li}:∀(k:Nat) {M S:Bv},ZB9 M->bindsT l k M=some S->Zrx l S
 | 0,_,_,_,h=>by cases h
 | k+1,M,S,ht,h=>by
  simp only [bindsT] at h;have h1:=Zax l M;split at h
  ·exact bindsT_closed k (h1.allT ht) h
  rename_i hlen
  cases h
  have he:M.map (·.1)=(ZA M l).map (·.1):=List.IsPrefix.eq_of_length_le h1.pre (by simp only [Td];omega)
  have yv:Sub (ZA M l) M:=fun t hs=>by
   have:=lk_keys.1 ⟨_,hs⟩;rw [<- he] at this;obtain ⟨v,hv⟩:=lk_keys.2 this;rw [ht t v hv] at hv;exact hv
  intro x hx
  obtain ⟨l1,l2,rfl⟩:=List.append_of_mem hx;have e:ZA M (l1++x::l2)=ZA (Vn (ZA M l1) x) l2:=by unfold ZA;rw [Sr];rfl
  have h2:Sub (ZA M (l1++x::l2)) (ZA M l1):=yv.trans (Zax l1 M).sub;refine (Zmp h2 x).trans ?_;rw [e];exact (Zax l2 _).sub
def Zd2 (l:List Li) (M:Bv):Up M (bindsF l M):=Zi5 _ (Vo l M)
def ZkU {l k:List Li} {M N:Bv} (hl:∀x∈l,x∈k) (hs:Sub M N) (ht:ZB9 N):Sub (bindsF l M) (bindsF k N) :=
 ZfQ (fun x hx=>bindsT_closed _ ht (Vo k N) x (hl x hx)) _ (hs.trans (Zd2 k N).sub) (Vo l M)
def setOf (m:Bv) (l:List Bs):Bv:=l.foldl (fun m t=>Z6 t true m) m
def Zg9:∀(l:List Bs) (m:Bv),Up m (setOf m l)
 | [],m=>.refl m
 | t::l,m=>(Zvn t m).trans (Zg9 l _)
def Zha:∀{l:List Bs} {m:Bv} {t:Bs},t∈l->lkM t (setOf m l)=some true
 | s::l,m,t,h=>by
  rcases Tt.1 h with rfl | h
  ·exact (Zg9 l _).sub _ (by rw [Zi4,Tk rfl])
  exact Zha (m:=Z6 s true m) h
def ZfR (l:List Bs):ZB9 (setOf [] l):=(Zg9 l []).allT fun t v h=>by cases h
def Zry (m:Bv) (l k:List Bs):setOf m (l++k)=setOf (setOf m l) k:=Sr ..
def Zvo (l:List Li) (ahead:List Bs):List Bs:=(bindsF l (setOf [] ahead)).map (·.1)
def mem_bnd {l:List Li} {a:List Bs} {t:Bs}:t∈Zvo l a↔lkM t (bindsF l (setOf [] a))=some true:=by
 unfold Zvo
 rw [<- lk_keys];refine ⟨fun ⟨v,hv⟩=>?_,fun h=>⟨_,h⟩⟩;rw [(Zd2 l _).allT (ZfR a) t v hv] at hv;exact hv
def Zi6 {l:List Li} {a:List Bs} {t:Bs} (h:t∈a):t∈Zvo l a:=mem_bnd.2 ((Zd2 l _).sub t (Zha h))
def Zmq {l k:List Li} {a b:List Bs} (hl:∀x∈l,x∈k) (ha:∀t∈a,t∈b) {t:Bs} (h:t∈Zvo l a):t∈Zvo k b:=by
 refine mem_bnd.2 (ZkU hl (fun s hs=>?_) (ZfR b) t (mem_bnd.1 h));have key:∀(l:List Bs) (m:Bv),lkM s (setOf m l)=some true->lkM s m=some true\/s∈l:=fun l=>by
  induction l with
  | nil=>exact fun m h=>.inl h
  | cons x l ih =>
  intro m h
  rcases ih _ h with g | g
  ·rw [Zi4] at g;split at g
   ·rename_i q;exact .inr (by simp [q])
   exact .inl g
  exact .inr (Tx _ g)
 rcases key a [] hs with g | g
 ·cases g
 exact Zha (ha s g)
end Go.PM.Lex
end
