/- A part of the proof: plain logic, contracts and laws over the given program. -/
import Derived.Test.YtnbhcckbjefnjaaGreatDoorB09
set_option linter.unusedVariables false
set_option linter.unusedSimpArgs false
set_option linter.all false
set_option maxRecDepth 100000
set_option maxHeartbeats 16000000
noncomputable section
section
namespace Go.PM.Lex
open Go.Proofs
variable {w0:World} {nG:Nat}
abbrev ZDJ (pl:Pl) (r:Ru) (more:Bool):List PV:=[.ptr 1 0,.d (.str r.head),.d (.sl (Zm pl r.args)),.d (.sl (Yf pl r.body)),.d (.int .i64 (pl r.at')),.mp 2,.d (.bool more)]
abbrev Zbn (pl:Pl) (p:Pr) (r:Ru) (vs:Vs) (more:Bool):List Box:=.cells 71 (ZDJ pl r more)::.cells 110 (Zip pl p 3)::.dmap (mvM mvI vs)::Ziq p
structure OKP (p:Pr):Prop where
 bp:BP p
 ends:ZAB p
def ZaK (body:List PV->Pl->Pr->Ru->Vs->Bool->(PEnd->Vs->Bool->Prop)->Prop):Zp:=fun args σ K=>match args,σ with
 | .ptr 0 0::rest,⟨bx,[],0⟩=>∃pl p r vs more,bx=Zbn pl p r vs more/\OKP p/\body rest pl p r vs more fun pe vs' more'=>K pe ⟨Zbn pl p r vs' more',[],0⟩
 | _,_=>False
def ZdO {body:List PV->Pl->Pr->Ru->Vs->Bool->(PEnd->Vs->Bool->Prop)->Prop} (hb:∀rest pl p r vs more (K K':PEnd->Vs->Bool->Prop),(∀pe v m,K pe v m->K' pe v m)->body rest pl p r vs more K->body rest pl p r vs more K'):ZG (ZaK body):=fun args σ K K' hK h=>by
 unfold ZaK at h |-
 split at h
 ·obtain ⟨pl,p,r,vs,more,h1,h2,h3⟩:=h;exact ⟨pl,p,r,vs,more,h1,h2,hb _ _ _ _ _ _ _ _ (fun pe v m hk=>hK _ _ hk) h3⟩
 exact h.elim
def ZfA {s:Bs} {i:Nat} {v:Int×Int}:∀(l:List Ca) (k:Nat) (m:List (Bs×(Int×Int))),lkM s (Ys i k l m)=some v->lkM s m=some v\/∃(j:Nat) (c:Ca),v=((i:Int),((k+j:Nat):Int))/\l[j]?=some c/\c.name=s
 | [],k,m,h=>.inl h
 | c::l,k,m,h=>by
  rcases ZfA l (k+1) _ h with h | ⟨j,c',h1,h2,h3⟩
  ·split at h
   ·rw [JQ] at h;split at h
    ·rename_i e;cases h;exact .inr ⟨0,c,sM,rfl,e.symm⟩
    exact .inl h
   exact .inl h
  exact .inr ⟨j+1,c',by rw [h1];congr 2;omega,by simpa using h2,h3⟩
def ZfB {s:Bs} {v:Int×Int}:∀(l:List Ty) (i:Nat) (m:List (Bs×(Int×Int))),lkM s (JR i l m)=some v->lkM s m=some v\/∃(j k:Nat) (t:Ty) (c:Ca),v=(((i+j:Nat):Int),(k:Int))/\l[j]?=some t/\t.cases[k]?=some c/\c.name=s
 | [],i,m,h=>.inl h
 | t::l,i,m,h=>by
  rcases ZfB l (i+1) _ h with h | ⟨j,k,t',c,h1,h2,h3,h4⟩
  ·rcases ZfA _ _ _ h with h | ⟨j,c,h1,h2,h3⟩
   ·exact .inl h
   exact .inr ⟨0,j,t,c,by rw [h1];simp,rfl,h2,h3⟩
  exact .inr ⟨j+1,k,t',c,by rw [h1];congr 2;omega,by simpa using h2,h3,h4⟩
def ZdP {p:Pr} {s:Bs} {v:Int×Int} (h:lkM s (YP p)=some v):∃(j k:Nat) (t:Ty) (c:Ca),v=((j:Int),(k:Int))/\p.types[j]?=some t/\t.cases[k]?=some c/\Zcb p s=some (t,c):=by
 rcases ZfB _ _ _ h with h | ⟨j,k,t,c,h1,h2,h3,h4⟩
 ·cases h
 rw [Sa] at h1;refine ⟨j,k,t,c,h1,h2,h3,?_⟩;subst h1;simp only [Zcb,h,Tl,h2,h3]
def ZfC {p:Pr} {s:Bs} (h:lkM s (YP p)=none):Zcb p s=none:=by simp only [Zcb,h]
def Zqg:Zp:=ZaK fun rest pl p r vs more K=>match rest with
 | [.agg c]=>∃e,c=(ZQ pl e).map .d/\∀n,Zqf p vs e=n->K (.ret (.d (.int .i64 n))) vs more
 | _=>False
def ZAE:OKw w0 nG [(51,VU)] 99 Zqg:=by
 refine pwo Tryz.func99 fun args σ K h=>?_
 unfold Zqg ZaK at h
 split at h
 ·obtain ⟨pl,p,r,vs,more,rfl,hp,h⟩:=h;split at h
  ·obtain ⟨⟨op,text,num,eargs,ea⟩,rfl,h⟩:=h;simp only [Zqf] at h;refine pwv [] 7 false ?_;refine ZEH (fun h1=>?_) (fun h1=>wN ?_)
   ·have h1:op=1:=by have h1:(op:Int)=1:=h1;omega
    subst h1;(conv=>whnf);refine ZEP (fun v hv=>?_) (fun hv=>wN ?_)
    ·rw [ZK] at hv;obtain ⟨n,hn,rfl⟩:=TC.1 hv;(conv=>whnf);exact h n (by simp [Zbm,hn])
    rw [ZK,Option.map_eq_none_iff] at hv;exact h (-1) (by simp [Zbm,hv])
   have h1:¬op=1:=fun g=>h1 (by simp only [g];rfl)
   refine ZEH (fun h7=>?_) (fun h7=>?_)
   ·have h7:op=7:=by have h7:(op:Int)=7:=h7;omega
    subst h7;(conv=>whnf);refine ZEP (fun v hv=>?_) (fun hv=>wN ?_)
    ·rw [ZK] at hv;obtain ⟨n,hn,rfl⟩:=TC.1 hv;obtain ⟨j,k,t,c,rfl,h2,h3,h4⟩:=ZdP hn;have hr:(p.types.map (Zs pl))[(j:Int).toNat]?=some (Zs pl t):=by rw [Tl,Th,h2];rfl
     obtain ⟨t1,t2,t3,t4,t5,t6⟩:=t;(conv=>whnf)
     (repeat (refine ⟨rfl,?_⟩;conv=>whnf))
     refine ⟨dM,dM,wN ?_⟩;refine ⟨_,oM,hr,wN ?_⟩;refine ⟨pl,p,rfl,hp.bp,hp.ends,fun n hn=>wN ?_⟩
     (repeat (refine ⟨rfl,?_⟩;conv=>whnf))
     exact h n (by simp only [Zbm];rw [Tf dM,Tj trivial,h4];exact hn)
    rw [ZK,Option.map_eq_none_iff] at hv
    (repeat (refine ⟨rfl,?_⟩;conv=>whnf))
    exact h (-1) (by simp [Zbm,ZfC hv])
   have h7:¬op=7:=fun g=>h7 (by simp only [g];rfl)
   repeat' ((conv=>whnf);refine ZEH (fun hc=>?_) (fun hc=>?_))
   all_goals (conv=>whnf)
   all_goals first
    | (exfalso;omega)
    | (refine h _ ?_
       unfold Zbm
       rw [Tf h1,Tf h7]
       first
        | rw [Tj oM]
        | rw [Tf oM,Tj oM]
        | rw [Tf oM,Tf oM])
  exact h.elim
 exact h.elim
def optK.int {k:Bs} {m:List (Bs×Int)} {A:MV->Prop} (h:A (mvI ((lkM k m).getD 0))):optK (lkM k (mvM mvI m)) A (A (mvI 0)):=by
 rw [ZK]
 cases hk:lkM k m with
 | none=>rw [hk] at h;exact h
 | some b=>rw [hk] at h;exact h
abbrev zTy:List PV:=[.d (.int .u8 0),.d (.str []),.d (.str []),.d (.sl []),.d (.sl []),.d (.int .i64 0)]
def Zit (p:Pr) (n:Int) (t:Ty):Bool:=decide (t.kind=2) && (decide (0<=n) && decide ((lkM t.name (JS p)).getD 0=n))
def Zkf:Zp:=ZaK fun rest pl p r vs more K=>match rest with
 | [.d (.int .i64 n)]=>(∀t,Zez p n=some t->K (.ret (.tuple [.agg ((Zs pl t).map .d),.d (.bool true)])) vs more)/\(Zez p n=none->K (.ret (.tuple [.agg zTy,.d (.bool false)])) vs more)
 | _=>False
def ZAF:PC w0 nG 98 Zkf:=by
 refine pwe Tryz.func98 fun args σ K h=>?_
 unfold Zkf ZaK at h
 split at h
 ·obtain ⟨pl,p,r,vs,more,rfl,hp,h⟩:=h;split at h
  ·rename_i n
   obtain ⟨hs,hn⟩:=h;have aa:=hp.bp.len;have hl:(p.types.map (Zs pl)).length=p.types.length:=Td ..;refine pwu [(2,⟨[17],[0,1,4,15,16],fun w σ=>∃j:Nat,w=[.d (.int .i64 j)]/\σ=⟨Zbn pl p r vs more++[.cells 46 [.d (.int .u8 0),.d (.str []),.d (.str []),.sl 0 73 [],.sl 1 49 [],.d (.int .i64 0)]],[1,0],2⟩/\j<=p.types.length/\(p.types.drop j).find? (Zit p n)=Zez p n,
    fun w _=>match w with | [.d (.int _ j)]=>((p.types.length:Int) - j).toNat | _=>0⟩)] 7 false ?_
   conv=>whnf
   refine ⟨⟨0,rfl,rfl,oM,rfl⟩,?_⟩
   rintro w σ1 ⟨j,rfl,rfl,hj,ha⟩
   conv=>whnf
   refine ZEH (fun hc=>?_) (fun hc=>?_);rotate_left
   ·conv=>whnf
    rw [Tv oM] at ha;exact hn ha.symm
   have ab:j<p.types.length:=oM;rw [Tn ab,List.find?_cons] at ha;have hr:(p.types.map (Zs pl))[(j:Int).toNat]?=some (Zs pl p.types[j]):=by rw [Tl,Th,Tb ab];rfl
   generalize p.types[j]=t at ha hr;obtain ⟨t1,t2,t3,t4,t5,t6⟩:=t;have hμ:((p.types.length:Int) - ((j:Int)+1)).toNat<((p.types.length:Int) - (j:Int)).toNat:=oM;have yes:Zit p n ⟨t1,t2,t3,t4,t5,t6⟩=true->K (.ret (.tuple [.agg ((Zs pl ⟨t1,t2,t3,t4,t5,t6⟩).map .d),.d (.bool true)])) ⟨Zbn pl p r vs more,[],0⟩:=fun g=>by
    rw [g] at ha;exact hs _ ha.symm
   have no:Zit p n ⟨t1,t2,t3,t4,t5,t6⟩=false->(p.types.drop (j+1)).find? (Zit p n)=Zez p n:=fun g=>by rw [g] at ha;exact ha
   clear ha hs hn
   conv=>whnf
   refine ⟨_,oM,hr,wN ?_⟩;refine ZEH (fun hk=>?_) (fun hk=>?_);rotate_left
   ·have hk:¬t1=2:=fun g=>hk (by simp only [g];rfl)
    conv=>whnf
    refine Zi ?_;exact ⟨⟨j+1,rfl,rfl,oM,no (by unfold Zit;rw [decide_eq_false hk];rfl)⟩,hμ⟩
   have hk:t1=2:=by have hk:(t1:Int)=2:=hk;omega
   conv=>whnf
   refine ZEH (fun h0=>?_) (fun h0=>?_);rotate_left
   ·conv=>whnf
    refine Zi ?_;exact ⟨⟨j+1,rfl,rfl,oM,no (by unfold Zit;rw [decide_eq_false h0,TU,Bool.and_false])⟩,hμ⟩
   conv=>whnf
   refine optK.int (wN ?_);refine ZEH (fun he=>wN ?_) (fun he=>wN ?_)
   ·exact yes (by unfold Zit;rw [Sg hk,Sg h0,Sg he];rfl)
   refine Zi ?_;exact ⟨⟨j+1,rfl,rfl,oM,no (by unfold Zit;rw [decide_eq_false he,Bool.and_false,Bool.and_false])⟩,hμ⟩
  exact h.elim
 exact h.elim
def ZlB (p:Pr) (n:Int):Ex->List Int
 | .mk op text _ args _=>Zz p op text args.length n
def Zcc:Ex->Nat
 | .mk _ _ _ args _=>args.length
def ZdQ:Zp:=ZaK fun rest pl p r vs more K=>match rest with
 | [.agg c,.d (.int .i64 n)]=>∃e,c=(ZQ pl e).map .d/\Zcc e<=2097152/\∀l b,ZlB p n e=l->decide (l.length=Zcc e)=b->K (.ret (.tuple [.d (.sl (XW l)),.d (.bool b)])) vs more
 | _=>False
def Zqh (l:List Int):(XW l).length=l.length:=Td ..
def Zs4 (ht:TO w0 nG [(97,Zaz),(98,Zkf)]):PC w0 nG 52 ZdQ:=by
 refine pwt ht Tryz.func52 fun args σ K h=>?_
 unfold ZdQ ZaK at h
 split at h
 ·obtain ⟨pl,p,r,vs,more,rfl,hp,h⟩:=h;split at h
  ·rename_i n
   obtain ⟨⟨op,text,num,eargs,ea⟩,rfl,lr,h⟩:=h;simp only [ZlB,Zcc] at h lr;have ak:(Zm pl eargs).length=eargs.length:=by rw [Zb,Td]
   have fin:∀l:List Int,Zz p op text eargs.length n=l->K (.ret (.tuple [.d (.sl (XW l)),.d (.bool (decide (((XW l).length:Int)=((Zm pl eargs).length:Int))))])) ⟨Zbn pl p r vs more,[],0⟩:=fun l hl =>
    h l _ hl (by rw [Zqh,ak];exact decide_eq_decide.2 oM)
   clear h
   refine pwv [] 7 false ?_;refine ZEH (fun h7=>?_) (fun h7=>wN ?_)
   ·have h7:op=7:=by have h7:(op:Int)=7:=h7;omega
    subst h7;(conv=>whnf);refine ZEP (fun v hv=>?_) (fun hv=>wN ?_)
    ·rw [ZK] at hv;obtain ⟨m,hn,rfl⟩:=TC.1 hv;obtain ⟨j,k,t,c,rfl,h2,h3,h4⟩:=ZdP hn;have oe:=(hp.bp.ty (TT h2)).2.2 c (TT h3);have hr:(p.types.map (Zs pl))[(j:Int).toNat]?=some (Zs pl t):=by rw [Tl,Th,h2];rfl
     have dc:(t.cases.map Zt)[(k:Int).toNat]?=some (Zt c):=by rw [Tl,Th,h3];rfl
     obtain ⟨t1,t2,t3,t4,t5,t6⟩:=t;obtain ⟨c1,c2⟩:=c;(conv=>whnf)
     (repeat (refine ⟨rfl,?_⟩;conv=>whnf))
     refine ⟨dM,dM,wN ?_⟩;refine ⟨_,oM,hr,wN ?_⟩;refine ⟨dM,dM,wN ?_⟩;refine ⟨_,oM,dc,wN ?_⟩;refine ⟨pl,p,rfl,hp.bp,c2,rfl,⟨hp.ends,oe⟩,wN ?_⟩
     (repeat (refine ⟨rfl,?_⟩;conv=>whnf))
     exact fin _ (by simp [Zz,h4])
    rw [ZK,Option.map_eq_none_iff] at hv
    (repeat (refine ⟨rfl,?_⟩;conv=>whnf))
    exact fin [] (by simp [Zz,ZfC hv])
   have h7:¬op=7:=fun g=>h7 (by simp only [g];rfl)
   refine ZEH (fun h6=>?_) (fun h6=>wN ?_)
   ·have h6:op=6:=by have h6:(op:Int)=6:=h6;omega
    subst h6;(conv=>whnf);refine ⟨pl,p,r,vs,more,rfl,hp,fun t ht=>wN ?_,fun ht=>wN ?_⟩
    ·obtain ⟨t1,t2,t3,t4,t5,t6⟩:=t;have dz:=(hp.bp.ty (List.mem_of_find?_eq_some ht)).1;refine ⟨pl,p,rfl,hp.bp,t4,rfl,⟨hp.ends,dz⟩,wN ?_⟩
     (repeat (refine ⟨rfl,?_⟩;conv=>whnf))
     exact fin _ (by simp [Zz,ht])
    exact fin [] (by simp [Zz,ht])
   have h6:¬op=6:=fun g=>h6 (by simp only [g];rfl)
   refine ZEH (fun hc=>?_) (fun hc=>?_)
   ·have hc:op=20:=by have hc:(op:Int)=20:=hc;omega
    subst hc;(conv=>whnf);exact fin [1,1] (by simp [Zz])
   have h20:¬op=20:=fun g=>hc (by simp only [g];rfl)
   repeat' ((conv=>whnf);refine ZEH (fun hc=>?_) (fun hc=>?_))
   all_goals (conv=>whnf)
   all_goals try (exfalso;omega)
   all_goals try
    first
    | (refine fin [1] ?_;unfold Zz;rw [Tf h7,Tf h6,Tf h20,Tj oM];done)
    | (refine fin [1,0,0] ?_;unfold Zz;rw [Tf h7,Tf h6,Tf h20,Tf oM,Tj oM];done)
   all_goals
    refine ⟨rfl,dM,by show (Zm pl eargs).length * 1<=_;omega,by show (Zm pl eargs).length * 8<=_;omega,wN ?_⟩;rw [show List.replicate (Zm pl eargs).length [D.int .i64 0]=XW (List.replicate eargs.length 0) by rw [XW,List.map_replicate,ak]];exact fin _ (by unfold Zz;rw [Tf h7,Tf h6,Tf h20,Tf oM,Tf oM])
  exact h.elim
 exact h.elim
def ZxI (m:Nat):Zp:=ZaK fun rest pl p r vs more K=>match rest with
 | [.agg c,.d (.int .i64 n)]=>∃e,c=(ZQ pl e).map .d/\(szE e<=m/\m<=2097152)/\∀v b,gvE p e n (vs,more)=(v,b)->K (.ret (.tuple [])) v b
 | _=>False
def ZaD (p:Pr) (op:Nat) (text:Bs) (k:Nat) (n:Int):List Int:=if (Zz p op text k n).length=k then Zz p op text k n else List.replicate k (-1)
def Ziu (p:Pr) (op:Nat) (text:Bs) (k:Nat) (n:Int):(ZaD p op text k n).length=k:=by unfold ZaD;split <;> simp [*]
def ZAG {m:Nat}:OKw w0 nG [(25,spB ZxI m),(52,ZdQ)] 25 (ZxI m):=by
 refine pwo Tryz.func25 fun args σ K h=>?_
 unfold ZxI ZaK at h
 split at h
 ·obtain ⟨pl,p,r,vs,more,rfl,hp,h⟩:=h;split at h
  ·rename_i n
   obtain ⟨⟨op,text,num,eargs,ea⟩,rfl,⟨hz,hm⟩,h⟩:=h;simp only [szE,Y6] at hz;have lr:=Zn szE eargs;have ak:(Zm pl eargs).length=eargs.length:=by rw [Zb,Td]
   refine pwu [(8,⟨[63],[0,8,9,61,62],fun w σ=>∃(j:Nat) (v:Vs) (b:Bool),w=[.d (.int .i64 j)]/\σ=⟨Zbn pl p r v b++[.cells 55 ((ZQ pl (.mk op text num eargs ea)).map .d)],[],0⟩/\j<=eargs.length /\
     gvEs p (eargs.drop j) ((ZaD p op text eargs.length n).drop j) (v,b)=gvEs p eargs (ZaD p op text eargs.length n) (vs,more),
    fun w _=>match w with | [.d (.int _ j)]=>((eargs.length:Int) - j).toNat | _=>0⟩)] 7 false ?_
   conv=>whnf
   refine ZEH (fun h1=>?_) (fun h1=>wN ?_)
   ·have h1:op=1:=by have h1:(op:Int)=1:=h1;omega
    subst h1;have h:=h (ZnK text n (vs,more)).1 (ZnK text n (vs,more)).2 (by simp [gvE]);have yes:((lkM text vs).isNone=true\/((lkM text vs).getD 0=-1/\n≠-1))->∀b,(more || decide (n≠-1))=b->K (.ret (.tuple [])) ⟨.cells 71 (ZDJ pl r b)::.cells 110 (Zip pl p 3)::.dmap (Yv text (mvI n) (mvM mvI vs))::Ziq p,[],0⟩:=fun g b hb=>by
     simp only [ZnK] at h;rw [Tj g,hb] at h;rw [VT];exact h
    have no:¬((lkM text vs).isNone=true\/((lkM text vs).getD 0=-1/\n≠-1))->K (.ret (.tuple [])) ⟨Zbn pl p r vs more,[],0⟩:=fun g=>by
     simp only [ZnK] at h;rw [Tf g] at h;exact h
    clear h
    conv=>whnf
    refine ZEP (fun v hv=>?_) (fun hv=>wN ?_)
    ·rw [ZK] at hv;obtain ⟨old,mj,rfl⟩:=TC.1 hv;rw [mj] at yes no;(conv=>whnf);refine ZEH (fun ho=>wN ?_) (fun ho=>wN ?_)
     ·refine ZEJ (fun hn=>wN ?_) (fun hn=>wN ?_)
      ·have yes:=yes (.inr ⟨ho,hn⟩);exact mq125
      exact no (by simp [hn])
     exact no (by simp [show ¬old=-1 from ho])
    rw [ZK,Option.map_eq_none_iff] at hv;have yes:=yes (.inl (by rw [hv];rfl));exact mq125
   have h1:¬op=1:=fun g=>h1 (by simp only [g];rfl)
   have h:=fun v b (g:gvEs p eargs (ZaD p op text eargs.length n) (vs,more)=(v,b))=>h v b (by simp only [gvE];rw [Tf h1];exact g)
   refine ⟨pl,p,r,vs,more,rfl,hp,.mk op text num eargs ea,rfl,by show eargs.length<=_;omega,fun l b hl hb=>?_⟩;simp only [ZlB,Zcc] at hl hb
   cases b with
   | true =>
    have hL:ZaD p op text eargs.length n=l:=by unfold ZaD;rw [hl,Tj (Su hb)]
    conv=>whnf
    refine ⟨⟨0,vs,more,rfl,rfl,oM,rfl⟩,?_⟩
    rintro w σ1 ⟨j,v,b,rfl,rfl,hj,ha⟩
    conv=>whnf
    refine ZEH (fun hc=>?_) (fun hc=>?_);rotate_left
    ·conv=>whnf
     rw [Tv oM] at ha;exact h v b ha.symm
    have ab:j<eargs.length:=oM;have aq:j<(ZaD p op text eargs.length n).length:=by rw [Ziu];exact ab
    rw [Tn ab,Tn aq] at ha;simp only [gvEs] at ha;have hr:(Zm pl eargs)[(j:Int).toNat]?=some (ZQ pl eargs[j]):=by rw [Zb,Tl,Th,Tb ab];rfl
    have dx:=Zr szE eargs j ab;have dc:(XW l)[(j:Int).toNat]?=some [.int .i64 (ZaD p op text eargs.length n)[j]]:=by
     rw [XW,Tl,Th,<- hL,Tb aq];rfl
    generalize (ZaD p op text eargs.length n)[j]=y at ha dc;generalize eargs[j]=x at ha hr dx;obtain ⟨x1,x2,x3,x4,x5⟩:=x;have hμ:((eargs.length:Int) - ((j:Int)+1)).toNat<((eargs.length:Int) - (j:Int)).toNat:=oM;(conv=>whnf);refine ⟨_,oM,hr,wN ?_⟩;refine ⟨_,oM,dc,wN ?_⟩;exact mq89
   | false =>
   have hL:ZaD p op text eargs.length n=List.replicate eargs.length (-1):=by unfold ZaD;rw [hl,Tf (of_decide_eq_false hb)]
   conv=>whnf
   refine ⟨⟨0,vs,more,rfl,rfl,oM,rfl⟩,?_⟩
   rintro w σ1 ⟨j,v,b,rfl,rfl,hj,ha⟩
   conv=>whnf
   refine ZEH (fun hc=>?_) (fun hc=>?_);rotate_left
   ·conv=>whnf
    rw [Tv oM] at ha;exact h v b ha.symm
   have ab:j<eargs.length:=oM;have aq:j<(ZaD p op text eargs.length n).length:=by rw [Ziu];exact ab
   rw [Tn ab,Tn aq] at ha;simp only [gvEs] at ha;have hr:(Zm pl eargs)[(j:Int).toNat]?=some (ZQ pl eargs[j]):=by rw [Zb,Tl,Th,Tb ab];rfl
   have dx:=Zr szE eargs j ab;have hy:(ZaD p op text eargs.length n)[j]=-1:=by simp only [hL,List.getElem_replicate]
   rw [hy] at ha;generalize eargs[j]=x at ha hr dx;obtain ⟨x1,x2,x3,x4,x5⟩:=x;have hμ:((eargs.length:Int) - ((j:Int)+1)).toNat<((eargs.length:Int) - (j:Int)).toNat:=oM;(conv=>whnf);refine ⟨_,oM,hr,wN ?_⟩;exact mq89
  exact h.elim
 exact h.elim
def ZdR:Zp:=ZaK fun rest pl p r vs more K=>match rest with
 | [.agg c]=>∃op rel a b args body at',c=(Y5 pl (.mk op rel (a::b::args) body at')).map .d/\∀n,Xt p vs (a::b::args)=n->K (.ret (.d (.int .i64 n))) vs more
 | _=>False
def Zs6:OKw w0 nG [(99,Zqg)] 53 ZdR:=by
 refine pwo Tryz.func53 fun args σ K h=>?_
 unfold ZdR ZaK at h
 split at h
 ·obtain ⟨pl,p,r,vs,more,rfl,hp,h⟩:=h;split at h
  ·obtain ⟨op,rel,⟨a1,a2,a3,a4,a5⟩,⟨b1,b2,b3,b4,b5⟩,args,body,at',rfl,h⟩:=h;simp only [Xt] at h;refine pwv [] 7 false ?_;refine ⟨ZQ pl (.mk a1 a2 a3 a4 a5),dM,rfl,wN ?_⟩;refine ⟨pl,p,r,vs,more,rfl,hp,.mk a1 a2 a3 a4 a5,rfl,fun n hn=>wN ?_⟩;rw [hn] at h;refine ZEJ (fun hc=>wN ?_) (fun hc=>wN ?_)
   ·exact h n (by rw [Tj hc])
   refine ⟨ZQ pl (.mk b1 b2 b3 b4 b5),dM,rfl,wN ?_⟩;refine ⟨pl,p,r,vs,more,rfl,hp,.mk b1 b2 b3 b4 b5,rfl,fun n2 ia=>wN ?_⟩;exact h n2 (by rw [Tf (fun g=>g hc)];exact ia)
  exact h.elim
 exact h.elim
def RtK (pl:Pl) (K:PEnd->Vs->Bool->Prop) (vs:Vs) (more:Bool):Flt->Prop
 | none=>K (.ret (.tuple [])) vs more
 | some (a,e)=>K (.panic (.iface 60 (.agg [.d (.int .i64 (pl a)),.d (.int .i64 e)]))) vs more
def ZgS {pl:Pl} {K K':PEnd->Vs->Bool->Prop} (hK:∀pe v m,K pe v m->K' pe v m) {vs:Vs} {more:Bool} {x:Flt} (h:RtK pl K vs more x):RtK pl K' vs more x:=by
 cases x with
 | none=>exact hK _ _ _ h
 | some ae=>exact hK _ _ _ h
def ZxJ (m:Nat):Zp:=ZaK fun rest pl p r vs more K=>match rest with
 | [.agg c,.d (.int .i64 n)]=>∃e,c=(ZQ pl e).map .d/\(szE e<=m/\m<=2097152)/\∀x,rtE p vs e n=x->RtK pl K vs more x
 | _=>False
def Zug (m:Nat):Tbl:=[(90,spB ZxJ m),(99,Zqg),(52,ZdQ),(98,Zkf)]
abbrev ZxK (a e:Int):PV:=.iface 60 (.agg [.d (.int .i64 a),.d (.int .i64 e)])
def Zuh {m:Nat} (ht:TO w0 nG (Zug m)):PC w0 nG 90 (ZxJ m):=by
 refine ZoH ZI mixed (tbl:=Zug m) ht Tryz.func90 rfl kR kR ?_;intro args σ K h
 unfold ZxJ ZaK at h
 split at h
 ·obtain ⟨pl,p,r,vs,more,rfl,hp,h⟩:=h;split at h
  ·rename_i n
   obtain ⟨⟨op,text,num,eargs,ea⟩,rfl,⟨hz,hm⟩,h⟩:=h;simp only [szE,Y6] at hz;have lr:=Zn szE eargs;have ak:(Zm pl eargs).length=eargs.length:=by rw [Zb,Td]
   obtain ⟨x,hx⟩:∃x,rtE p vs (.mk op text num eargs ea) n=x:=⟨_,rfl⟩
   have h:=h x hx;refine ⟨Zo [(14,⟨[101],[0,7,99,100],fun w σ=>∃(j:Nat) (c1 c2 c3 c4 c5 c6 d1 d2:D),w=[.d (.int .i64 j)]/\σ=⟨Zbn pl p r vs more++[.cells 55 ((ZQ pl (.mk op text num eargs ea)).map .d),.cells 46 [.d c1,.d c2,.d c3,.d c4,.d c5,.d c6],.cells 115 [.d d1,.d d2]],[],0⟩/\j<=eargs.length /\
     (Zz p op text eargs.length n).length=eargs.length/\UZ p vs (eargs.drop j) ((Zz p op text eargs.length n).drop j)=x,
    fun w _=>match w with | [.d (.int _ j)]=>((eargs.length:Int) - j).toNat | _=>0⟩)],Xn [],Yd [],Yd [],Yd [],ZuR [(4,([0,2,4,6,7,8,10],fun w σ=>∃c1 c2 c3 c4 c5 c6:D,w=[.ptr 0 0,.d (.int .i64 n),.ptr 7 0,.d (.int .i64 (Zbm p vs op text)),.d (.sl (XW (Zz p op text eargs.length n))),.d (.bool (decide ((Zz p op text eargs.length n).length=eargs.length))),.d (.bool (Zez p n).isSome)] /\
     σ=⟨Zbn pl p r vs more++[.cells 55 ((ZQ pl (.mk op text num eargs ea)).map .d),.cells 46 [.d c1,.d c2,.d c3,.d c4,.d c5,.d c6]],[],0⟩)),
    (5,([0,2,4,6,7,8,10,12],fun w σ=>∃c1 c2 c3 c4 c5 c6 d1 d2:D,w=[.ptr 0 0,.d (.int .i64 n),.ptr 7 0,.d (.int .i64 (Zbm p vs op text)),.d (.sl (XW (Zz p op text eargs.length n))),.d (.bool (decide ((Zz p op text eargs.length n).length=eargs.length))),.d (.bool (Zez p n).isSome),.d (.bool (lkM text (YP p)).isSome)] /\
     σ=⟨Zbn pl p r vs more++[.cells 55 ((ZQ pl (.mk op text num eargs ea)).map .d),.cells 46 [.d c1,.d c2,.d c3,.d c4,.d c5,.d c6],.cells 115 [.d d1,.d d2]],[],0⟩)),
    (13,([0,4,7],fun w σ=>∃c1 c2 c3 c4 c5 c6 d1 d2:D,w=[.ptr 0 0,.ptr 7 0,.d (.sl (XW (Zz p op text eargs.length n)))] /\
     σ=⟨Zbn pl p r vs more++[.cells 55 ((ZQ pl (.mk op text num eargs ea)).map .d),.cells 46 [.d c1,.d c2,.d c3,.d c4,.d c5,.d c6],.cells 115 [.d d1,.d d2]],[],0⟩/\(Zz p op text eargs.length n).length=eargs.length /\
     UZ p vs eargs (Zz p op text eargs.length n)=x))],7,false,sM,Tc rfl,?_⟩
   conv=>whnf
   refine ⟨pl,p,r,vs,more,rfl,hp,.mk op text num eargs ea,rfl,fun own jk=>?_⟩;simp only [Zqf] at jk;subst jk;(conv=>whnf);refine ⟨pl,p,r,vs,more,rfl,hp,.mk op text num eargs ea,rfl,by show eargs.length<=_;omega,fun l ok hl ax=>?_⟩;simp only [ZlB,Zcc] at hl ax;subst hl ax;(conv=>whnf);refine ⟨?_,?_⟩
   ·refine ⟨pl,p,r,vs,more,rfl,hp,fun t um=>wN ?_,fun um=>wN ?_⟩
    ·obtain ⟨t1,t2,t3,t4,t5,t6⟩:=t;exact ⟨_,_,_,_,_,_,by rw [um];rfl,rfl⟩
    exact ⟨_,_,_,_,_,_,by rw [um];rfl,rfl⟩
   rintro w σ1 ⟨c1,c2,c3,c4,c5,c6,rfl,rfl⟩
   conv=>whnf
   refine ⟨wN ?_,?_⟩
   ·refine ZEP (fun v hv=>?_) (fun hv=>wN ?_)
    ·rw [ZK] at hv;obtain ⟨ij,im,rfl⟩:=TC.1 hv;obtain ⟨i,k⟩:=ij;(conv=>whnf)
     (repeat (refine ⟨rfl,?_⟩;conv=>whnf))
     exact ⟨_,_,_,_,_,_,_,_,by rw [im];rfl,rfl⟩
    rw [ZK,Option.map_eq_none_iff] at hv
    (repeat (refine ⟨rfl,?_⟩;conv=>whnf))
    exact ⟨_,_,_,_,_,_,_,_,by rw [hv];rfl,rfl⟩
   rintro w σ1 ⟨c1,c2,c3,c4,c5,c6,d1,d2,rfl,rfl⟩
   conv=>whnf
   refine ⟨?_,?_⟩
   ·have eok : (op = 7 -> (lkM text (YP p)).isSome = true) -> ¬ ((Zbm p vs op text ≠ -1 /\ n ≠ -1 /\ Zbm p vs op text ≠ n) \/ ((op = 6 \/ op = 5) /\ (Zez p n).isSome = false) \/ (op = 1 /\ Zbm p vs op text = -1)) -> decide ((Zz p op text eargs.length n).length = eargs.length) = true ->
        (Zz p op text eargs.length n).length=eargs.length/\UZ p vs eargs (Zz p op text eargs.length n)=x:=fun g1 g2 g3=>by
     have g3:=Su g3;refine ⟨g3,?_⟩;rw [<- hx,rtE,Tf (fun g=>by have:=g1 g.1;cases hl:lkM text (YP p) <;> simp_all),Tf (fun g=>g2 (by
      rcases g with g | ⟨g,g'⟩ | g
      ·exact .inl g
      ·exact .inr (.inl ⟨g,by cases hl:Zez p n <;> simp_all⟩)
      exact .inr (.inr g))),Tf (fun g=>g g3)]
    have e184:op=7->(lkM text (YP p)).isSome=false->K (.panic (ZxK (pl ea) 184)) ⟨Zbn pl p r vs more,[],0⟩:=fun g1 g2=>by
     rw [rtE,Tj ⟨g1,by cases hl:lkM text (YP p) <;> simp_all⟩] at hx;subst hx;exact h
    have e183:(op=7->(lkM text (YP p)).isSome=true)->((Zbm p vs op text≠-1/\n≠-1/\Zbm p vs op text≠n)\/((op=6\/op=5)/\(Zez p n).isSome=false)\/(op=1/\Zbm p vs op text=-1))->K (.panic (ZxK (pl ea) 183)) ⟨Zbn pl p r vs more,[],0⟩:=fun g1 g2=>by
     rw [rtE,Tf (fun g=>by have:=g1 g.1;cases hl:lkM text (YP p) <;> simp_all),Tj (by
      rcases g2 with g | ⟨g,g'⟩ | g
      ·exact .inl g
      ·exact .inr (.inl ⟨g,by cases hl:Zez p n <;> simp_all⟩)
      exact .inr (.inr g))] at hx
     subst hx;exact h
    have e182:(op=7->(lkM text (YP p)).isSome=true)->¬((Zbm p vs op text≠-1/\n≠-1/\Zbm p vs op text≠n)\/((op=6\/op=5)/\(Zez p n).isSome=false)\/(op=1/\Zbm p vs op text=-1))->decide ((Zz p op text eargs.length n).length=eargs.length)=false->K (.panic (ZxK (pl ea) 182)) ⟨Zbn pl p r vs more,[],0⟩:=fun g1 g2 g3=>by
     have g3:=of_decide_eq_false g3;rw [rtE,Tf (fun g=>by have:=g1 g.1;cases hl:lkM text (YP p) <;> simp_all),Tf (fun g=>g2 (by
      rcases g with g | ⟨g,g'⟩ | g
      ·exact .inl g
      ·exact .inr (.inl ⟨g,by cases hl:Zez p n <;> simp_all⟩)
      exact .inr (.inr g))),Tj g3] at hx
     subst hx;exact h
    clear h hx
    generalize decide ((Zz p op text eargs.length n).length=eargs.length)=ok at eok e182 |-;generalize (Zez p n).isSome=rec at eok e182 e183 |-;generalize (lkM text (YP p)).isSome=br at eok e182 e183 e184 |-;generalize Zbm p vs op text=own at eok e182 e183 |-;have n2:∀{rec:Bool},¬(own≠-1/\n≠-1/\own≠n)->((op=6\/op=5)->rec=true)->¬(op=1/\own=-1)->¬((own≠-1/\n≠-1/\own≠n)\/((op=6\/op=5)/\rec=false)\/(op=1/\own=-1)):=fun {rec} g1 g2 g3 g=>by
     rcases g with g | ⟨g,g'⟩ | g
     ·exact g1 g
     ·rw [g2 g] at g';cases g'
     exact g3 g
    cases br <;> cases rec <;> cases ok
    all_goals repeat' ((conv=>whnf);first | refine ZEH (fun hc=>?_) (fun hc=>?_) | refine ZEJ (fun hc=>?_) (fun hc=>?_))
    all_goals (conv=>whnf)
    all_goals first
     | (exfalso;omega)
     | exact e184 oM rfl
     | exact e183 (fun g=>by first | rfl | (exfalso;omega)) (by first | (left;omega) | (right;left;exact ⟨oM,rfl⟩) | (right;right;omega))
     | exact e182 (fun g=>by first | rfl | (exfalso;omega)) (n2 oM (fun g=>by first | rfl | (exfalso;omega)) oM) rfl
     | exact ⟨c1,c2,c3,c4,c5,c6,d1,d2,rfl,rfl,eok (fun g=>by first | rfl | (exfalso;omega)) (n2 oM (fun g=>by first | rfl | (exfalso;omega)) oM) rfl⟩
   rintro w σ1 ⟨c1,c2,c3,c4,c5,c6,d1,d2,rfl,rfl,aa,ha⟩
   conv=>whnf
   refine ⟨⟨0,c1,c2,c3,c4,c5,c6,d1,d2,rfl,rfl,oM,aa,ha⟩,?_⟩
   rintro w σ1 ⟨j,c1,c2,c3,c4,c5,c6,d1,d2,rfl,rfl,hj,aa,ha⟩
   conv=>whnf
   refine ZEH (fun hc=>?_) (fun hc=>?_);rotate_left
   ·conv=>whnf
    rw [Tv oM] at ha;subst ha;exact h
   have ab:j<eargs.length:=oM;have aq:j<(Zz p op text eargs.length n).length:=by rw [aa];exact ab
   rw [Tn ab,Tn aq] at ha;simp only [UZ] at ha;have hr:(Zm pl eargs)[(j:Int).toNat]?=some (ZQ pl eargs[j]):=by rw [Zb,Tl,Th,Tb ab];rfl
   have dx:=Zr szE eargs j ab;have dc:(XW (Zz p op text eargs.length n))[(j:Int).toNat]?=some [.int .i64 (Zz p op text eargs.length n)[j]]:=by
    rw [XW,Tl,Th,Tb aq];rfl
   have hμ:((eargs.length:Int) - ((j:Int)+1)).toNat<((eargs.length:Int) - (j:Int)).toNat:=oM;generalize (Zz p op text eargs.length n)[j]=y at ha dc;generalize eargs[j]=e at ha hr dx;obtain ⟨x1,x2,x3,x4,x5⟩:=e;(conv=>whnf);refine ⟨_,oM,hr,wN ?_⟩;refine ⟨_,oM,dc,wN ?_⟩;refine ⟨oM,pl,p,r,vs,more,rfl,hp,.mk x1 x2 x3 x4 x5,rfl,⟨oM,oM⟩,fun f hf=>?_⟩;rw [hf] at ha
   cases f with
   | none =>
    simp only [RtK];(conv=>whnf)
    (repeat (refine ⟨rfl,?_⟩;conv=>whnf))
    refine Zi ?_;exact ⟨⟨j+1,c1,c2,c3,c4,c5,c6,d1,d2,rfl,rfl,oM,aa,ha⟩,hμ⟩
   | some ae =>
   obtain ⟨a,e⟩:=ae;simp only at ha;subst ha;simp only [RtK] at h |-;exact mq52
  exact h.elim
 exact h.elim
def Zcu {p:Pr} {s:Bs} {n:Int} (h:lkM s (UD p)=some n):∃(k:Nat) (d:Re),n=k/\p.rels[k]?=some d/\d.name=s:=by
 exact mq147
def Zbo {p:Pr} {s:Bs} {n:Nat} {k:Nat} {d:Re} (h:lkM s (UD p)=some (k:Int)) (hd:p.rels[k]?=some d):YM p s n=if d.fields.length=n then ZN p d.fields else List.replicate n (-1):=by
 simp only [YM,h,Tl,hd]
def ZfD {p:Pr} {s:Bs} {n:Nat} (h:lkM s (UD p)=none):YM p s n=List.replicate n (-1):=by
 simp only [YM,h]
def Ziv (p:Pr) (s:Bs) (n:Nat):(YM p s n).length=n:=by
 unfold YM
 split
 ·simp
 split
 ·simp
 split
 ·simp [ZN, *]
 simp
def Zqi (m:Nat):Zp:=ZaK fun rest pl p r vs more K=>match rest with
 | [.d (.str name),.d (.sl rows),.func f [.ptr 0 0] []]=>∃args,rows=Zm pl args/\f=25/\(szS szE args<=m/\m<=2097152)/\∀v b,gvEs p args (YM p name args.length) (vs,more)=(v,b)->K (.ret (.tuple [])) v b
 | _=>False
def ZAI {m:Nat}:OKw w0 nG [(25,ZxI m),(51,VU)] 24 (Zqi m):=by
 refine pwo Tryz.func24 fun args σ K h=>?_
 unfold Zqi ZaK at h
 split at h
 ·obtain ⟨pl,p,r,vs,more,rfl,hp,h⟩:=h;split at h
  ·rename_i name rows f
   obtain ⟨eargs,rfl,rfl,⟨hz,hm⟩,h⟩:=h;have lr:=Zn szE eargs;have ak:(Zm pl eargs).length=eargs.length:=by rw [Zb,Td]
   refine pwu [(3,⟨[46],[0,3,8,9,44,45],fun w σ=>∃(j:Nat) (v:Vs) (b:Bool),w=[.d (.int .i64 j)]/\σ=⟨Zbn pl p r v b,[],0⟩/\j<=eargs.length /\
     gvEs p (eargs.drop j) ((YM p name eargs.length).drop j) (v,b)=gvEs p eargs (YM p name eargs.length) (vs,more),
    fun w _=>match w with | [.d (.int _ j)]=>((eargs.length:Int) - j).toNat | _=>0⟩)] 7 false ?_
   have step:∀(j:Nat) (v:Vs) (b:Bool),j<eargs.length->gvEs p (eargs.drop j) ((YM p name eargs.length).drop j) (v,b)=gvEs p eargs (YM p name eargs.length) (vs,more)->∃(x:Ex) (y:Int),(Zm pl eargs)[(j:Int).toNat]?=some (ZQ pl x)/\(YM p name eargs.length)[j]?=some y/\szE x<=m /\
     ∀v' b',gvE p x y (v,b)=(v',b')->gvEs p (eargs.drop (j+1)) ((YM p name eargs.length).drop (j+1)) (v',b')=gvEs p eargs (YM p name eargs.length) (vs,more):=fun j v b ab ha=>by
    have aq:j<(YM p name eargs.length).length:=by rw [Ziv];exact ab
    have dx:=Zr szE eargs j ab;rw [Tn ab,Tn aq] at ha;simp only [gvEs] at ha;exact ⟨eargs[j],(YM p name eargs.length)[j],by rw [Zb,Tl,Th,Tb ab];rfl,Tb aq,oM,fun v' b' hg=>by rw [hg] at ha;exact ha⟩
   have fin:∀(j:Nat) (v:Vs) (b:Bool),¬j<eargs.length->gvEs p (eargs.drop j) ((YM p name eargs.length).drop j) (v,b)=gvEs p eargs (YM p name eargs.length) (vs,more)->K (.ret (.tuple [])) ⟨Zbn pl p r v b,[],0⟩:=fun j v b hn ha=>by
    rw [Tv oM] at ha;exact h v b ha.symm
   conv=>whnf
   refine ZEP (fun v hv=>?_) (fun hv=>wN ?_)
   ·rw [ZK] at hv;obtain ⟨i,hi,rfl⟩:=TC.1 hv;obtain ⟨k,d,rfl,h2,h3⟩:=Zcu hi;have hr:(p.rels.map (ZF pl))[(k:Int).toNat]?=some (ZF pl d):=by rw [Tl,Th,h2];rfl
    have hT:=Zbo (n:=eargs.length) hi h2;obtain ⟨d1,d2,d3,d4,d5,d6⟩:=d;simp only at hT;(conv=>whnf);refine ⟨_,oM,hr,wN ?_⟩;refine ⟨⟨0,vs,more,rfl,rfl,oM,rfl⟩,?_⟩
    rintro w σ1 ⟨j,v,b,rfl,rfl,hj,ha⟩
    conv=>whnf
    refine ZEH (fun hc=>?_) (fun hc=>?_);rotate_left
    ·conv=>whnf
     exact fin j v b oM ha
    obtain ⟨⟨x1,x2,x3,x4,x5⟩,y,ce,hy,dx,kz⟩:=step j v b oM ha;have hμ:((eargs.length:Int) - ((j:Int)+1)).toNat<((eargs.length:Int) - (j:Int)).toNat:=oM;(conv=>whnf);refine ⟨_,oM,ce,wN ?_⟩;refine ZEH (fun hq=>?_) (fun hq=>?_)
    ·have hq:d2.length=eargs.length:=by have hq:((d2.map Zk).length:Int)=((Zm pl eargs).length:Int):=hq;rw [Td,ak] at hq;omega
     rw [hT,Tj hq,ZN,Th] at hy;obtain ⟨⟨f1,f2⟩,hf,hy⟩:=TC.1 hy;have dc:(d2.map Zk)[(j:Int).toNat]?=some (Zk ⟨f1,f2⟩):=by rw [Tl,Th,hf];rfl
     simp only at hy;(conv=>whnf)
     (repeat (refine ⟨rfl,?_⟩;conv=>whnf))
     refine ⟨_,oM,hr,wN ?_⟩
     (repeat (refine ⟨rfl,?_⟩;conv=>whnf))
     refine ⟨_,oM,dc,wN ?_⟩
     (repeat (refine ⟨rfl,?_⟩;conv=>whnf))
     refine ⟨pl,p,rfl,hp.bp,hp.ends,fun n hn=>?_⟩;rw [hy] at hn;subst hn;(conv=>whnf)
     (repeat (refine ⟨rfl,?_⟩;conv=>whnf))
     exact mq59
    have hq:¬d2.length=eargs.length:=by have hq:¬((d2.map Zk).length:Int)=((Zm pl eargs).length:Int):=hq;rw [Td,ak] at hq;omega
    rw [hT,Tf hq,Se] at hy;split at hy
    ·cases hy
     conv=>whnf
     exact mq59
    cases hy
   rw [ZK,Option.map_eq_none_iff] at hv;have hT:=ZfD (n:=eargs.length) hv;refine ⟨⟨0,vs,more,rfl,rfl,oM,rfl⟩,?_⟩
   rintro w σ1 ⟨j,v,b,rfl,rfl,hj,ha⟩
   conv=>whnf
   refine ZEH (fun hc=>?_) (fun hc=>?_);rotate_left
   ·conv=>whnf
    exact fin j v b oM ha
   obtain ⟨⟨x1,x2,x3,x4,x5⟩,y,ce,hy,dx,kz⟩:=step j v b oM ha;have hμ:((eargs.length:Int) - ((j:Int)+1)).toNat<((eargs.length:Int) - (j:Int)).toNat:=oM;rw [hT,Se] at hy;split at hy
   ·cases hy
    conv=>whnf
    refine ⟨_,oM,ce,wN ?_⟩;exact mq59
   cases hy
  exact h.elim
 exact h.elim
def ZfE (m:Nat):Zp:=ZaK fun rest pl p r vs more K=>match rest with
 | [.d (.sl rows)]=>∃l,rows=Yf pl l/\(szS szL l<=m/\m<=2097152)/\Zb7 l=true/\∀v b,gvLs p l (vs,more)=(v,b)->K (.ret (.tuple [])) v b
 | _=>False
def Zqj {op:Nat} {rel:Bs} {args:List Ex} {body:List Li} {a:Nat} (h:YE (.mk op rel args body a)=true) (h1:¬op<=2) (h2:op<=8):∃x y,args=[x,y]:=by
 simp only [YE,YU] at h;rw [Tf oM,Tj oM] at h;simp only [Tm,TQ] at h
 match args,h.1.2.1 with
 | [x,y],_=>exact ⟨x,y,rfl⟩
def ZlC {op:Nat} {rel:Bs} {args:List Ex} {body:List Li} {a:Nat} (h:YE (.mk op rel args body a)=true):Zb7 body=true:=by
 simp only [YE,Tm] at h;exact h.2.2
def Zqk (m:Nat):Tbl:=[(26,spB ZfE m),(25,ZxI m),(24,Zqi m),(53,ZdR)]
def Zql {m:Nat} (ht:TO w0 nG (Zqk m)):PC w0 nG 26 (ZfE m):=by
 refine Wu ZI mixed (tbl:=Zqk m) ht Tryz.func26 rfl kR kR ?_;intro args σ K h
 unfold ZfE ZaK at h
 split at h
 ·obtain ⟨pl,p,r,vs,more,rfl,hp,h⟩:=h;split at h
  ·rename_i rows
   obtain ⟨l,rfl,⟨hz,hm⟩,bv,h⟩:=h;have lr:=Zn szL l;have ak:(Yf pl l).length=l.length:=by rw [Zl,Td]
   obtain ⟨F,hF⟩:∃F,gvLs p l (vs,more)=F:=⟨_,rfl⟩
   have h:∀v b,F=(v,b)->K (.ret (.tuple [])) ⟨Zbn pl p r v b,[],0⟩:=fun v b g=>h v b (hF.trans g)
   refine ⟨Zo [(1,⟨[11],[0,9,10],fun w σ=>∃(j:Nat) (v:Vs) (b:Bool),w=[.d (.int .i64 j)]/\σ=⟨Zbn pl p r v b,[],0⟩/\j<=l.length/\gvLs p (l.drop j) (v,b)=F,
    fun w _=>match w with | [.d (.int _ j)]=>((l.length:Int) - j).toNat | _=>0⟩),
    (4,⟨[18],[0,5,9,10,11,16,17],fun w σ=>∃(j i op:Nat) (rel:Bs) (eargs:List Ex) (body:List Li) (at':Nat) (v:Vs) (b:Bool),w=[.ptr 0 0,.ptr 7 0,.d (.sl (Yf pl l)),.d (.int .i64 ((Yf pl l).length:Nat)),.d (.int .i64 j),.d (.sl (Zm pl eargs)),.d (.int .i64 ((Zm pl eargs).length:Nat)),.d (.int .i64 i)] /\
     σ=⟨Zbn pl p r v b++[.cells 57 ((Y5 pl (.mk op rel eargs body at')).map .d)],[],0⟩/\l[j]?=some (.mk op rel eargs body at')/\i<=eargs.length/\(szS szE eargs<=m/\szS szL body+1<=m)/\Zb7 body=true /\
     gvLs p (l.drop (j+1)) (gvLs p body (gvEs p (eargs.drop i) (List.replicate (eargs.length - i) 0) (v,b)))=F,
    fun w _=>match w with | [_,_,_,_,_,_,.d (.int _ n),.d (.int _ i)]=>(n - i).toNat | _=>0⟩)],Xn [],Yd [4],7,false,sM,Tc rfl,?_⟩
   conv=>whnf
   refine ⟨⟨0,vs,more,rfl,rfl,oM,hF⟩,?_⟩
   rintro w σ1 ⟨j,v,b,rfl,rfl,hj,ha⟩
   conv=>whnf
   refine ZEH (fun hc=>?_) (fun hc=>?_);rotate_left
   ·conv=>whnf
    rw [Tv oM] at ha;exact h v b ha.symm
   have ab:j<l.length:=oM;have hr:(Yf pl l)[(j:Int).toNat]?=some (Y5 pl l[j]):=by rw [Zl,Tl,Th,Tb ab];rfl
   have dx:=Zr szL l j ab;have ig:YE l[j]=true:=by rw [Xk,Tq] at bv;exact bv _ (TE ab)
   rw [Tn ab] at ha;simp only [gvLs] at ha;have hμ:((l.length:Int) - ((j:Int)+1)).toNat<((l.length:Int) - (j:Int)).toNat:=oM;have jf:l[j]?=some l[j]:=Tb ab;generalize l[j]=x at ha hr dx ig jf;obtain ⟨op,rel,eargs,body,at'⟩:=x;simp only [szL,Y6,Xi] at dx;simp only [gvL] at ha;have ai:=Zn szE eargs;have fu:(Zm pl eargs).length=eargs.length:=by rw [Zb,Td]
   conv=>whnf
   refine ⟨_,oM,hr,wN ?_⟩;refine ZEH (fun h2=>wN ?_) (fun h2=>wN ?_)
   ·have h2:op<=2:=by have h2:(op:Int)<=2:=h2;omega
    rw [Tj h2] at ha;refine ⟨pl,p,r,v,b,rfl,hp,eargs,rfl,rfl,⟨oM,hm⟩,fun v' b' hg=>wN ?_⟩;rw [hg] at ha;refine Zi ?_;exact ⟨⟨j+1,v',b',rfl,rfl,oM,ha⟩,hμ⟩
   have h2:¬op<=2:=by have h2:¬(op:Int)<=2:=h2;omega
   rw [Tf h2] at ha;refine ZEH (fun h8=>?_) (fun h8=>wN ?_)
   ·have h8:op<=8:=by have h8:(op:Int)<=8:=h8;omega
    rw [Tj h8] at ha;obtain ⟨⟨a1,a2,a3,a4,a5⟩,⟨b1,b2,b3,b4,b5⟩,rfl⟩:=Zqj ig h2 h8;simp only [szS] at dx;(conv=>whnf);refine ⟨pl,p,r,v,b,rfl,hp,op,rel,.mk a1 a2 a3 a4 a5,.mk b1 b2 b3 b4 b5,[],body,at',rfl,fun n hn=>wN ?_⟩;simp only [hn,gvEs] at ha;refine ⟨ZQ pl (.mk a1 a2 a3 a4 a5),dM,rfl,wN ?_⟩;refine ⟨pl,p,r,v,b,rfl,hp,.mk a1 a2 a3 a4 a5,rfl,⟨oM,hm⟩,fun v1 b1' hg1=>wN ?_⟩;rw [hg1] at ha;refine ⟨ZQ pl (.mk b1 b2 b3 b4 b5),dM,rfl,wN ?_⟩;refine ⟨pl,p,r,v1,b1',rfl,hp,.mk b1 b2 b3 b4 b5,rfl,⟨oM,hm⟩,fun v2 b2' x9=>wN ?_⟩;rw [x9] at ha;refine Zi ?_;exact ⟨⟨j+1,v2,b2',rfl,rfl,oM,ha⟩,hμ⟩
   have h8:¬op<=8:=by have h8:¬(op:Int)<=8:=h8;omega
   rw [Tf h8] at ha;refine ⟨⟨j,0,op,rel,eargs,body,at',v,b,rfl,rfl,jf,oM,⟨oM,oM⟩,ZlC ig,ha⟩,?_⟩
   rintro w σ1 ⟨j',i,op',rel',eargs',body',at'',v2,b2,hw,rfl,la,hi,⟨wa,cq⟩,ym,gp⟩
   have ej:(some (PV.d (.int .i64 (j:Int))):Option PV)=some (.d (.int .i64 (j':Int))):=congrArg (fun l:List PV=>l[4]?) hw;obtain rfl:j=j':=by have ej:=Option.some.inj ej;injection ej with ej;injection ej with _ ej;omega
   rw [jf] at la;obtain ⟨rfl,rfl,rfl,rfl,rfl⟩:=Li.mk.inj (Option.some.inj la);have hw:w=[.d (.int .i64 i)]:=congrArg (List.drop 7) hw;subst hw;(conv=>whnf);refine ZEH (fun bw=>?_) (fun bw=>?_)
   ·have aq:i<eargs.length:=by have bw:(i:Int)<((Zm pl eargs).length:Int):=bw;omega
    have dc:(Zm pl eargs)[(i:Int).toNat]?=some (ZQ pl eargs[i]):=by rw [Zb,Tl,Th,Tb aq];rfl
    have ua:=Zr szE eargs i aq;rw [Tn aq,show eargs.length - i=(eargs.length - (i+1))+1 by omega,List.replicate_succ] at gp;simp only [gvEs] at gp;generalize eargs[i]=e at gp dc ua;obtain ⟨x1,x2,x3,x4,x5⟩:=e;(conv=>whnf);refine ⟨_,oM,dc,wN ?_⟩;refine ⟨pl,p,r,v2,b2,rfl,hp,.mk x1 x2 x3 x4 x5,rfl,⟨oM,hm⟩,fun v' b' hg=>wN ?_⟩;rw [hg] at gp;refine Zi ?_;exact ⟨⟨j,i+1,op,rel,eargs,body,at',v',b',rfl,rfl,jf,oM,⟨wa,cq⟩,ym,gp⟩,by show (((Zm pl eargs).length:Int) - ((i:Int)+1)).toNat<(((Zm pl eargs).length:Int) - (i:Int)).toNat;omega⟩
   have z8:i=eargs.length:=by have bw:¬(i:Int)<((Zm pl eargs).length:Int):=bw;omega
   subst z8;rw [SL,Nat.sub_self] at gp;simp only [gvEs,List.replicate_zero] at gp;(conv=>whnf);refine ⟨oM,pl,p,r,v2,b2,rfl,hp,body,rfl,⟨oM,oM⟩,ym,fun v' b' hg=>wN ?_⟩;rw [hg] at gp;refine Zi ?_;exact ⟨⟨j+1,v',b',rfl,rfl,oM,gp⟩,hμ⟩
  exact h.elim
 exact h.elim
def Xm (v:Vs) (x:Bs):Bool:=decide ((lkM x v).getD (-1)=-1)
def ZlD (X:List Bs) (v:Vs):Nat:=X.countP (Xm v)
def Less (X:List Bs) (s s':VS):Prop:=(∀x,Xm s'.1 x=true->Xm s.1 x=true)/\(s'.2=true->s.2=true\/∃x∈X,Xm s.1 x=true/\Xm s'.1 x=false)
def Less.rfl' {X:List Bs} {s:VS}:Less X s s:=⟨fun _ h=>h,fun h=>.inl h⟩
def Less.trans {X:List Bs} {a b c:VS} (h:Less X a b) (k:Less X b c):Less X a c:=by
 refine ⟨fun x hx=>h.1 x (k.1 x hx),fun hc=>?_⟩;rcases k.2 hc with hb | ⟨x,hx,h1,h2⟩
 ·rcases h.2 hb with ha | ⟨x,hx,h1,h2⟩
  ·exact .inl ha
  refine .inr ⟨x,hx,h1,?_⟩
  cases hc':Xm c.1 x with
  | false=>rfl
  | true=>rw [k.1 x hc'] at h2;cases h2
 exact .inr ⟨x,hx,h.1 x h1,h2⟩
def Less.sub {X Y:List Bs} {a b:VS} (h:Less X a b) (hs:∀x∈X,x∈Y):Less Y a b :=
 ⟨h.1,fun hb=>(h.2 hb).imp id fun ⟨x,hx,h1⟩=>⟨x,hs x hx,h1⟩⟩
def Zqm {t:Bs} {n:Int} {s:VS}:Less [t] s (ZnK t n s):=by
 unfold ZnK
 split
 ·rename_i h
  have hu:Xm s.1 t=true:=by
   unfold Xm
   rcases h with h | ⟨h1,_⟩
   ·have:lkM t s.1=none:=by simpa using h
    rw [this];rfl
   cases hl:lkM t s.1 with
   | none=>rfl
   | some v=>rw [hl] at h1;simp at h1;simp [h1]
  refine ⟨fun x hx=>?_,fun hm=>?_⟩
  ·by_cases hxt:x=t
   ·subst hxt;exact hu
   unfold Xm at hx |-
   simp only [JQ,Tf hxt] at hx;exact hx
  simp only [Sw,TQ] at hm;rcases hm with hm | hm
  ·exact .inl hm
  refine .inr ⟨t,sM,hu,?_⟩;unfold Xm
  simp only [JQ,if_true,Sl];simpa using hm
 exact .rfl'
mutual
def Zs7 (p:Pr):∀(e:Ex) (n:Int) (s:VS),Less (nvE e) s (gvE p e n s)
 | .mk op text num args a,n,s=>by
  simp only [gvE,nvE];split
  ·exact Zqm
  exact Vu p args _ s
def Vu (p:Pr):∀(l:List Ex) (ns:List Int) (s:VS),Less (Znn l) s (gvEs p l ns s)
 | [],_,s=>.rfl'
 | e::l,[],s=>.rfl'
 | e::l,n::ns,s=>by
  simp only [gvEs,Znn];exact ((Zs7 p e n s).sub fun x hx=>List.mem_append_left _ hx).trans ((Vu p l ns _).sub fun x hx=>List.mem_append_right _ hx)
end
mutual
def Zs8 (p:Pr):∀(x:Li) (s:VS),Less (nvL x) s (gvL p x s)
 | .mk op rel args body a,s=>by
  simp only [gvL,nvL];split
  ·exact (Vu p args _ s).sub fun x hx=>List.mem_append_left _ hx
  split
  ·exact (Vu p args _ s).sub fun x hx=>List.mem_append_left _ hx
  exact ((Vu p args _ s).sub fun x hx=>List.mem_append_left _ hx).trans ((ZdS p body _).sub fun x hx=>List.mem_append_right _ hx)
def ZdS (p:Pr):∀(l:List Li) (s:VS),Less (ZnL l) s (gvLs p l s)
 | [],s=>.rfl'
 | x::l,s=>by
  simp only [gvLs,ZnL];exact ((Zs8 p x s).sub fun y hy=>List.mem_append_left _ hy).trans ((ZdS p l _).sub fun y hy=>List.mem_append_right _ hy)
end
def Zqn {v v':Vs} (h:∀x,Xm v' x=true->Xm v x=true):∀X:List Bs,ZlD X v'<=ZlD X v
 | []=>Tr _
 | x::X=>by
  have ih:=Zqn h X;unfold ZlD at ih |-
  rw [List.countP_cons,List.countP_cons]
  cases h1:Xm v' x with
  | false=>simp;omega
  | true=>rw [h x h1];simpa using ih
def Zui {v v':Vs} (h:∀x,Xm v' x=true->Xm v x=true):∀{X:List Bs} {x:Bs},x∈X->Xm v x=true->Xm v' x=false->ZlD X v'<ZlD X v
 | y::X,x,hx,h1,h2=>by
  rcases Tt.1 hx with rfl | hx
  ·have:=Zqn h X;unfold ZlD at this |-
   rw [List.countP_cons,List.countP_cons,h1,h2];simp;omega
  have ih:=Zui h hx h1 h2;unfold ZlD at ih |-
  rw [List.countP_cons,List.countP_cons]
  cases h3:Xm v' y with
  | false=>simp;omega
  | true=>rw [h y h3];simpa using ih
def Zno (p:Pr) (r:Ru) (v:Vs):Less (nvR r) (v,false) (XR p r v):=by
 unfold XR nvR
 exact ((Vu p r.args _ _).sub fun x hx=>List.mem_append_left _ hx).trans ((ZdS p r.body _).sub fun x hx=>List.mem_append_right _ hx)
def Ziw (p:Pr) (r:Ru) (v:Vs):ZlD (nvR r) (XR p r v).1<=ZlD (nvR r) v/\((XR p r v).2=true->ZlD (nvR r) (XR p r v).1<ZlD (nvR r) v):=by
 have h:=Zno p r v;refine ⟨Zqn h.1 _,fun hb=>?_⟩;rcases h.2 hb with h1 | ⟨x,hx,h1,h2⟩
 ·cases h1
 exact Zui h.1 hx h1 h2
def ZbZ (p:Pr) (r:Ru):∀(n:Nat) (v:Vs),ZlD (nvR r) v<n->∃w,YD p r n v=some w
 | 0,v,h=>oM
 | n+1,v,h=>by
  simp only [YD];split
  ·rename_i hb
   exact ZbZ p r n _ (by have:=(Ziw p r v).2 hb;omega)
  exact ⟨_,rfl⟩
def Zs9 (p:Pr) (r:Ru):YD p r ((nvR r).length+1) []=some (Xq p r):=by
 obtain ⟨w,hw⟩:=ZbZ p r ((nvR r).length+1) [] (Nat.lt_succ_of_le List.countP_le_length);unfold Xq
 rw [hw];rfl
def ZAJ (X:List Bs) (m:List (Bs×MV)):Nat:=X.countP fun x=>match lkM x m with | some (.one (.int _ n))=>decide (n=-1) | _=>true
def Zqo (X:List Bs) (v:Vs):ZAJ X (mvM mvI v)=ZlD X v:=by
 unfold ZAJ ZlD
 congr 1
 funext x
 rw [ZK];unfold Xm
 cases lkM x v with
 | none=>rfl
 | some n=>rfl
abbrev ZDK (pl:Pl) (p:Pr) (r:Ru) (v:Vs) (b:Bool):List Box:=Zex pl p++[.cells 32 ((Zy pl r).map .d),.dmap (mvM mvI v),.cells 71 [.ptr 0 0,.d (.str r.head),.d (.sl (Zm pl r.args)),.d (.sl (Yf pl r.body)),.d (.int .i64 (pl r.at')),.mp 6,.d (.bool b)]]
def ZaE (m:Nat):Zp:=fun args σ K=>match args,σ with
 | [.ptr 0 0,.agg c],⟨bx,[],0⟩=>∃pl p r,c=(Zy pl r).map .d/\bx=Zex pl p/\OKP p/\(JL r<=m/\m<=2097152)/\Zb7 r.body=true/\K (.ret (.ptr 7 0)) ⟨ZDK pl p r (Xq p r) false,[],0⟩
 | _,_=>False
def Zqq {m:Nat}:OKw w0 nG [(24,Zqi m),(26,ZfE m)] 14 (ZaE m):=by
 refine pwo Tryz.func14 fun args σ K h=>?_
 unfold ZaE at h
 split at h
 ·obtain ⟨pl,p,⟨head,eargs,body,at'⟩,rfl,rfl,hp,⟨hz,hm⟩,bv,h⟩:=h;simp only [JL] at hz;refine pwu [(3,⟨[],[3,5],fun w σ=>∃(v:Vs) (b:Bool),w=[]/\σ=⟨ZDK pl p ⟨head,eargs,body,at'⟩ v b,[],0⟩/\(b=true->∃n,YD p ⟨head,eargs,body,at'⟩ n v=some (Xq p ⟨head,eargs,body,at'⟩))/\(b=false->v=Xq p ⟨head,eargs,body,at'⟩),
   fun _ σ=>match σ with
    | ⟨_::_::_::_::_::_::.dmap m::.cells _ [_,_,_,_,_,_,.d (.bool b)]::_,_,_⟩=>2 * ZAJ (nvR ⟨head,eargs,body,at'⟩) m+(if b=true then 1 else 0)
    | _=>0⟩)] 8 false ?_
  conv=>whnf
  refine ⟨⟨[],true,rfl,rfl,fun _=>⟨_,Zs9 _ _⟩,fun h=>by cases h⟩,?_⟩
  rintro w σ1 ⟨v,b,rfl,rfl,h1,h2⟩
  cases b with
  | false =>
   have h2:=h2 rfl;(conv=>whnf);subst h2;exact h
  | true =>
  obtain ⟨n,hn⟩:=h1 rfl
  cases n with
  | zero=>cases hn
  | succ n =>
  simp only [YD] at hn;(conv=>whnf);refine ⟨pl,p,⟨head,eargs,body,at'⟩,v,false,rfl,hp,eargs,rfl,rfl,⟨oM,hm⟩,fun v1 b1 hg1=>wN ?_⟩;refine ⟨pl,p,⟨head,eargs,body,at'⟩,v1,b1,rfl,hp,body,rfl,⟨oM,hm⟩,bv,fun v2 b2 x9=>?_⟩;have hr:XR p ⟨head,eargs,body,at'⟩ v=(v2,b2):=by unfold XR;simp only [hg1];exact x9
  have hc:=Ziw p ⟨head,eargs,body,at'⟩ v;rw [hr] at hn hc;simp only at hn hc;have hμ:2 * ZAJ (nvR ⟨head,eargs,body,at'⟩) (mvM mvI v2)+(if b2=true then 1 else 0)<2 * ZAJ (nvR ⟨head,eargs,body,at'⟩) (mvM mvI v)+(if true=true then 1 else 0):=by
   rw [Zqo,Zqo]
   cases b2 with
   | true=>have:=hc.2 rfl;simp;omega
   | false=>have:=hc.1;simp;omega
  conv=>whnf
  exact ⟨⟨v2,b2,rfl,rfl,fun hb=>by subst hb;exact ⟨n,by simpa using hn⟩,fun hb=>by subst hb;simpa using hn⟩,hμ⟩
 exact h.elim
def Zta (m:Nat):Zp:=ZaK fun rest pl p r vs more K=>match rest with
 | [.d (.str name),.d (.sl rows),.func f [.ptr 0 0] []]=>∃args,rows=Zm pl args/\f=90/\(szS szE args<=m/\m<=2097152)/\∀x,UZ p vs args (YM p name args.length)=x->RtK pl K vs more x
 | _=>False
def ZAL {m:Nat}:OKw w0 nG [(90,ZxJ m),(51,VU)] 24 (Zta m):=by
 refine pwo Tryz.func24 fun args σ K h=>?_
 unfold Zta ZaK at h
 split at h
 ·obtain ⟨pl,p,r,vs,more,rfl,hp,h⟩:=h;split at h
  ·rename_i name rows f
   obtain ⟨eargs,rfl,rfl,⟨hz,hm⟩,h⟩:=h;have lr:=Zn szE eargs;obtain ⟨X,hX⟩:∃X,UZ p vs eargs (YM p name eargs.length)=X:=⟨_,rfl⟩
   have h:=h X hX;have ak:(Zm pl eargs).length=eargs.length:=by rw [Zb,Td]
   refine pwu [(3,⟨[46],[0,3,8,9,44,45],fun w σ=>∃(j:Nat),w=[.d (.int .i64 j)]/\σ=⟨Zbn pl p r vs more,[],0⟩/\j<=eargs.length /\
     UZ p vs (eargs.drop j) ((YM p name eargs.length).drop j)=X,
    fun w _=>match w with | [.d (.int _ j)]=>((eargs.length:Int) - j).toNat | _=>0⟩)] 7 false ?_
   have step:∀(j:Nat),j<eargs.length->UZ p vs (eargs.drop j) ((YM p name eargs.length).drop j)=X->∃(x:Ex) (y:Int),(Zm pl eargs)[(j:Int).toNat]?=some (ZQ pl x)/\(YM p name eargs.length)[j]?=some y/\szE x<=m /\
     (rtE p vs x y=none->UZ p vs (eargs.drop (j+1)) ((YM p name eargs.length).drop (j+1))=X)/\∀f,rtE p vs x y=some f->X=some f:=fun j ab ha=>by
    have aq:j<(YM p name eargs.length).length:=by rw [Ziv];exact ab
    have dx:=Zr szE eargs j ab;rw [Tn ab,Tn aq] at ha;simp only [UZ] at ha;exact ⟨eargs[j],(YM p name eargs.length)[j],by rw [Zb,Tl,Th,Tb ab];rfl,Tb aq,oM,fun hg=>by rw [hg] at ha;exact ha,fun f hg=>by rw [hg] at ha;exact ha.symm⟩
   have fin:∀(j:Nat),¬j<eargs.length->UZ p vs (eargs.drop j) ((YM p name eargs.length).drop j)=X->K (.ret (.tuple [])) ⟨Zbn pl p r vs more,[],0⟩:=fun j hn ha=>by
    rw [Tv oM] at ha;subst ha;exact h
   conv=>whnf
   refine ZEP (fun v hv=>?_) (fun hv=>wN ?_)
   ·rw [ZK] at hv;obtain ⟨i,hi,rfl⟩:=TC.1 hv;obtain ⟨k,d,rfl,h2,h3⟩:=Zcu hi;have hr:(p.rels.map (ZF pl))[(k:Int).toNat]?=some (ZF pl d):=by rw [Tl,Th,h2];rfl
    have hT:=Zbo (n:=eargs.length) hi h2;obtain ⟨d1,d2,d3,d4,d5,d6⟩:=d;simp only at hT;(conv=>whnf);refine ⟨_,oM,hr,wN ?_⟩;refine ⟨⟨0,rfl,rfl,oM,hX⟩,?_⟩
    rintro w σ1 ⟨j,rfl,rfl,hj,ha⟩
    conv=>whnf
    refine ZEH (fun hc=>?_) (fun hc=>?_);rotate_left
    ·conv=>whnf
     exact fin j oM ha
    obtain ⟨⟨x1,x2,x3,x4,x5⟩,y,ce,hy,dx,kz,cy⟩:=step j oM ha;have hμ:((eargs.length:Int) - ((j:Int)+1)).toNat<((eargs.length:Int) - (j:Int)).toNat:=oM;(conv=>whnf);refine ⟨_,oM,ce,wN ?_⟩;refine ZEH (fun hq=>?_) (fun hq=>?_)
    ·have hq:d2.length=eargs.length:=by have hq:((d2.map Zk).length:Int)=((Zm pl eargs).length:Int):=hq;rw [Td,ak] at hq;omega
     rw [hT,Tj hq,ZN,Th] at hy;obtain ⟨⟨f1,f2⟩,hf,hy⟩:=TC.1 hy;have dc:(d2.map Zk)[(j:Int).toNat]?=some (Zk ⟨f1,f2⟩):=by rw [Tl,Th,hf];rfl
     simp only at hy;(conv=>whnf)
     (repeat (refine ⟨rfl,?_⟩;conv=>whnf))
     refine ⟨_,oM,hr,wN ?_⟩
     (repeat (refine ⟨rfl,?_⟩;conv=>whnf))
     refine ⟨_,oM,dc,wN ?_⟩
     (repeat (refine ⟨rfl,?_⟩;conv=>whnf))
     refine ⟨pl,p,rfl,hp.bp,hp.ends,fun n hn=>?_⟩;rw [hy] at hn;subst hn;(conv=>whnf)
     (repeat (refine ⟨rfl,?_⟩;conv=>whnf))
     exact mq34
    have hq:¬d2.length=eargs.length:=by have hq:¬((d2.map Zk).length:Int)=((Zm pl eargs).length:Int):=hq;rw [Td,ak] at hq;omega
    rw [hT,Tf hq,Se] at hy;split at hy
    ·cases hy
     conv=>whnf
     exact mq34
    cases hy
   rw [ZK,Option.map_eq_none_iff] at hv;have hT:=ZfD (n:=eargs.length) hv;refine ⟨⟨0,rfl,rfl,oM,hX⟩,?_⟩
   rintro w σ1 ⟨j,rfl,rfl,hj,ha⟩
   conv=>whnf
   refine ZEH (fun hc=>?_) (fun hc=>?_);rotate_left
   ·conv=>whnf
    exact fin j oM ha
   obtain ⟨⟨x1,x2,x3,x4,x5⟩,y,ce,hy,dx,kz,cy⟩:=step j oM ha;have hμ:((eargs.length:Int) - ((j:Int)+1)).toNat<((eargs.length:Int) - (j:Int)).toNat:=oM;rw [hT,Se] at hy;split at hy
   ·cases hy
    conv=>whnf
    refine ⟨_,oM,ce,wN ?_⟩;exact mq34
   cases hy
  exact h.elim
 exact h.elim
def ZfF (m:Nat):Zp:=ZaK fun rest pl p r vs more K=>match rest with
 | [.d (.str name),.d (.sl rows),.d (.int .i64 a),.d (.bool hd)]=>∃args an,rows=Zm pl args/\a=pl an/\(szS szE args<=m/\m<=2097152)/\∀x,Zke p vs name args an hd=x->RtK pl K vs more x
 | _=>False
def Zkg (m:Nat):ZG (ZfF m):=ZdO fun rest pl p r vs more K K' hK h=>by
 split at h
 ·obtain ⟨e,an,h1,h2,h3,h4⟩:=h;exact ⟨e,an,h1,h2,h3,fun x g=>ZgS hK (h4 x g)⟩
 exact h.elim
def ZxM {m:Nat}:OKw w0 nG [(24,Zta m)] 48 (ZfF m):=by
 refine pwo Tryz.func48 fun args σ K h=>?_
 unfold ZfF ZaK at h
 split at h
 ·obtain ⟨pl,p,r,vs,more,rfl,hp,h⟩:=h;split at h
  ·rename_i name rows a hd
   obtain ⟨eargs,an,rfl,rfl,⟨hz,hm⟩,h⟩:=h;have ak:(Zm pl eargs).length=eargs.length:=by rw [Zb,Td]
   simp only [Zke] at h;refine pwv [] 7 false ?_;refine ZEP (fun v hv=>?_) (fun hv=>?_);rotate_left
   ·rw [ZK,Option.map_eq_none_iff] at hv;rw [hv] at h;have h:=h _ rfl;simp only [RtK] at h;exact mq52
   rw [ZK] at hv;obtain ⟨i,hi,rfl⟩:=TC.1 hv;obtain ⟨k,d,rfl,h2,h3⟩:=Zcu hi;have hr:(p.rels.map (ZF pl))[(k:Int).toNat]?=some (ZF pl d):=by rw [Tl,Th,h2];rfl
   rw [hi] at h;simp only [Tl,h2] at h;obtain ⟨d1,d2,d3,d4,d5,d6⟩:=d;simp only at h;have hb:(hd && d3)=true->K (.panic (ZxK (pl an) 185)) ⟨Zbn pl p r vs more,[],0⟩:=fun g=>by
    have h:=h _ rfl;rw [Tj g] at h;exact h
   have h:(hd && d3)=false->∀x,(if d2.length≠eargs.length then some (an,182) else UZ p vs eargs (YM p name eargs.length))=x->RtK pl (fun pe vs' more'=>K pe ⟨Zbn pl p r vs' more',[],0⟩) vs more x:=fun g x hx=>h x (by rw [Tf (by rw [g];simp)];exact hx)
   have rest:(hd && d3)=false->∀(X:Prop),X->X:=fun _ X hX=>hX
   cases hd with
   | true =>
    conv=>whnf
    refine ⟨_,oM,hr,?_⟩
    cases d3 with
    | true =>
     conv=>whnf
     exact hb rfl
    | false =>
    exact mq33
   | false =>
   exact mq33
  exact h.elim
 exact h.elim
def orF (x:Flt) (y:Flt):Flt:=match x with | some f=>some f | none=>y
def ZdT (m:Nat):Zp:=ZaK fun rest pl p r vs more K=>match rest with
 | [.d (.sl rows)]=>∃l,rows=Yf pl l/\(szS szL l<=m/\m<=2097152)/\Zb7 l=true/\∀x,Zct p vs l=x->RtK pl K vs more x
 | _=>False
def Zkh (m:Nat):ZG (ZdT m):=ZdO fun rest pl p r vs more K K' hK h=>by
 split at h
 ·obtain ⟨e,h1,h2,h3,h4⟩:=h;exact ⟨e,h1,h2,h3,fun x g=>ZgS hK (h4 x g)⟩
 exact h.elim
def Zqr (m:Nat):Tbl:=[(49,spB ZdT m),(90,ZxJ m),(48,ZfF m),(53,ZdR)]
def Zqs {m:Nat} (ht:TO w0 nG (Zqr m)):PC w0 nG 49 (ZdT m):=by
 refine Wu ZI mixed (tbl:=Zqr m) ht Tryz.func49 rfl kR kR ?_;intro args σ K h
 unfold ZdT ZaK at h
 split at h
 ·obtain ⟨pl,p,r,vs,more,rfl,hp,h⟩:=h;split at h
  ·rename_i rows
   obtain ⟨l,rfl,⟨hz,hm⟩,bv,h⟩:=h;have lr:=Zn szL l;have ak:(Yf pl l).length=l.length:=by rw [Zl,Td]
   obtain ⟨X,hX⟩:∃X,Zct p vs l=X:=⟨_,rfl⟩
   have h:=h X hX;refine ⟨Zo [(1,⟨[11],[0,9,10],fun w σ=>∃(j:Nat),w=[.d (.int .i64 j)]/\σ=⟨Zbn pl p r vs more,[],0⟩/\j<=l.length/\Zct p vs (l.drop j)=X,
    fun w _=>match w with | [.d (.int _ j)]=>((l.length:Int) - j).toNat | _=>0⟩),
    (4,⟨[18],[0,5,9,10,11,16,17],fun w σ=>∃(j i op:Nat) (rel:Bs) (eargs:List Ex) (body:List Li) (at':Nat),w=[.ptr 0 0,.ptr 7 0,.d (.sl (Yf pl l)),.d (.int .i64 ((Yf pl l).length:Nat)),.d (.int .i64 j),.d (.sl (Zm pl eargs)),.d (.int .i64 ((Zm pl eargs).length:Nat)),.d (.int .i64 i)] /\
     σ=⟨Zbn pl p r vs more++[.cells 57 ((Y5 pl (.mk op rel eargs body at')).map .d)],[],0⟩/\l[j]?=some (.mk op rel eargs body at')/\i<=eargs.length/\(szS szE eargs<=m/\szS szL body+1<=m)/\Zb7 body=true /\
     orF (UZ p vs (eargs.drop i) (List.replicate (eargs.length - i) 0)) (orF (Zct p vs body) (Zct p vs (l.drop (j+1))))=X,
    fun w _=>match w with | [_,_,_,_,_,_,.d (.int _ n),.d (.int _ i)]=>(n - i).toNat | _=>0⟩)],Xn [],Yd [4],7,false,sM,Tc rfl,?_⟩
   conv=>whnf
   refine ⟨⟨0,rfl,rfl,oM,hX⟩,?_⟩
   rintro w σ1 ⟨j,rfl,rfl,hj,ha⟩
   conv=>whnf
   refine ZEH (fun hc=>?_) (fun hc=>?_);rotate_left
   ·conv=>whnf
    rw [Tv oM] at ha;subst ha;exact h
   have ab:j<l.length:=oM;have hr:(Yf pl l)[(j:Int).toNat]?=some (Y5 pl l[j]):=by rw [Zl,Tl,Th,Tb ab];rfl
   have dx:=Zr szL l j ab;have ig:YE l[j]=true:=by rw [Xk,Tq] at bv;exact bv _ (TE ab)
   rw [Tn ab] at ha;have ha:orF (rtL p vs l[j]) (Zct p vs (l.drop (j+1)))=X:=by rw [<- ha];simp only [Zct];rfl
   have hμ:((l.length:Int) - ((j:Int)+1)).toNat<((l.length:Int) - (j:Int)).toNat:=oM;have jf:l[j]?=some l[j]:=Tb ab;generalize l[j]=x at ha hr dx ig jf;obtain ⟨op,rel,eargs,body,at'⟩:=x;simp only [szL,Y6,Xi] at dx;simp only [rtL] at ha;have ai:=Zn szE eargs;have fu:(Zm pl eargs).length=eargs.length:=by rw [Zb,Td]
   conv=>whnf
   refine ⟨_,oM,hr,wN ?_⟩;refine ZEH (fun h2=>wN ?_) (fun h2=>wN ?_)
   ·have h2:op<=2:=by have h2:(op:Int)<=2:=h2;omega
    rw [Tj h2] at ha;refine ⟨pl,p,r,vs,more,rfl,hp,eargs,at',rfl,rfl,⟨oM,hm⟩,fun f hf=>?_⟩;rw [hf] at ha
    cases f with
    | none =>
     simp only [RtK];(conv=>whnf);exact mq86
    | some ae =>
    exact mq168
   have h2:¬op<=2:=by have h2:¬(op:Int)<=2:=h2;omega
   rw [Tf h2] at ha;refine ZEH (fun h8=>?_) (fun h8=>wN ?_)
   ·have h8:op<=8:=by have h8:(op:Int)<=8:=h8;omega
    rw [Tj h8] at ha;obtain ⟨⟨a1,a2,a3,a4,a5⟩,⟨b1,b2,b3,b4,b5⟩,rfl⟩:=Zqj ig h2 h8;simp only [szS] at dx;(conv=>whnf);refine ⟨pl,p,r,vs,more,rfl,hp,op,rel,.mk a1 a2 a3 a4 a5,.mk b1 b2 b3 b4 b5,[],body,at',rfl,fun n hn=>wN ?_⟩;simp only [hn,UZ] at ha;refine ⟨ZQ pl (.mk a1 a2 a3 a4 a5),dM,rfl,wN ?_⟩;refine ⟨pl,p,r,vs,more,rfl,hp,.mk a1 a2 a3 a4 a5,rfl,⟨oM,hm⟩,fun f hf=>?_⟩;rw [hf] at ha
    cases f with
    | some ae =>
     exact mq168
    | none =>
    simp only [RtK];(conv=>whnf);refine ⟨ZQ pl (.mk b1 b2 b3 b4 b5),dM,rfl,wN ?_⟩;refine ⟨pl,p,r,vs,more,rfl,hp,.mk b1 b2 b3 b4 b5,rfl,⟨oM,hm⟩,fun f hf=>?_⟩;rw [hf] at ha
    cases f with
    | some ae =>
     exact mq168
    | none =>
    simp only [RtK];simp only at ha;have good:¬(5<=op/\n≠0/\n≠1)->Zct p vs (l.drop (j+1))=X:=fun g=>by rw [Tf g] at ha;exact ha
    have bad:(5<=op/\n≠0/\n≠1)->K (.panic (ZxK (pl at') 183)) ⟨Zbn pl p r vs more,[],0⟩:=fun g=>by
     rw [Tj g] at ha;simp only [orF] at ha;subst ha;exact h
    conv=>whnf
    refine ZEH (fun h5=>wN ?_) (fun h5=>wN ?_)
    ·have h5:5<=op:=by have h5:(5:Int)<=op:=h5;omega
     refine ZEJ (fun dk=>wN ?_) (fun dk=>wN ?_)
     ·refine ZEJ (fun ew=>wN ?_) (fun ew=>wN ?_)
      ·conv=>whnf
       exact bad ⟨h5,dk,ew⟩
      conv=>whnf
      refine Zi ?_;exact ⟨⟨j+1,rfl,rfl,oM,good (fun g=>g.2.2 ew)⟩,hμ⟩
     conv=>whnf
     refine Zi ?_;exact ⟨⟨j+1,rfl,rfl,oM,good (fun g=>g.2.1 dk)⟩,hμ⟩
    have h5:¬5<=op:=by have h5:¬(5:Int)<=op:=h5;omega
    refine Zi ?_;exact ⟨⟨j+1,rfl,rfl,oM,good (fun g=>h5 g.1)⟩,hμ⟩
   have h8:¬op<=8:=by have h8:¬(op:Int)<=8:=h8;omega
   rw [Tf h8] at ha;have ha:orF (UZ p vs eargs (List.replicate eargs.length 0)) (orF (Zct p vs body) (Zct p vs (l.drop (j+1))))=X:=by
    rw [<- ha];cases UZ p vs eargs (List.replicate eargs.length 0) <;> rfl
   refine ⟨⟨j,0,op,rel,eargs,body,at',rfl,rfl,jf,oM,⟨oM,oM⟩,ZlC ig,ha⟩,?_⟩
   clear ha
   rintro w σ1 ⟨j',i,op',rel',eargs',body',at'',hw,rfl,la,hi,⟨wa,cq⟩,ym,ha⟩
   have ej:(some (PV.d (.int .i64 (j:Int))):Option PV)=some (.d (.int .i64 (j':Int))):=congrArg (fun l:List PV=>l[4]?) hw;obtain rfl:j=j':=by have ej:=Option.some.inj ej;injection ej with ej;injection ej with _ ej;omega
   rw [jf] at la;obtain ⟨rfl,rfl,rfl,rfl,rfl⟩:=Li.mk.inj (Option.some.inj la);have hw:w=[.d (.int .i64 i)]:=congrArg (List.drop 7) hw;subst hw;(conv=>whnf);refine ZEH (fun bw=>?_) (fun bw=>?_)
   ·have aq:i<eargs.length:=by have bw:(i:Int)<((Zm pl eargs).length:Int):=bw;omega
    have dc:(Zm pl eargs)[(i:Int).toNat]?=some (ZQ pl eargs[i]):=by rw [Zb,Tl,Th,Tb aq];rfl
    have ua:=Zr szE eargs i aq;rw [Tn aq,show eargs.length - i=(eargs.length - (i+1))+1 by omega,List.replicate_succ] at ha;simp only [UZ] at ha;generalize eargs[i]=e at ha dc ua;obtain ⟨x1,x2,x3,x4,x5⟩:=e;(conv=>whnf);refine ⟨_,oM,dc,wN ?_⟩;refine ⟨pl,p,r,vs,more,rfl,hp,.mk x1 x2 x3 x4 x5,rfl,⟨oM,hm⟩,fun f hf=>?_⟩;rw [hf] at ha
    cases f with
    | none =>
     simp only [RtK];(conv=>whnf);refine Zi ?_;exact ⟨⟨j,i+1,op,rel,eargs,body,at',rfl,rfl,jf,oM,⟨wa,cq⟩,ym,ha⟩,by show (((Zm pl eargs).length:Int) - ((i:Int)+1)).toNat<(((Zm pl eargs).length:Int) - (i:Int)).toNat;omega⟩
    | some ae =>
    exact mq168
   have z8:i=eargs.length:=by have bw:¬(i:Int)<((Zm pl eargs).length:Int):=bw;omega
   subst z8;rw [SL,Nat.sub_self] at ha;simp only [UZ,List.replicate_zero,orF] at ha;(conv=>whnf);refine ⟨oM,pl,p,r,vs,more,rfl,hp,body,rfl,⟨oM,oM⟩,ym,fun f hf=>?_⟩;rw [hf] at ha
   cases f with
   | none =>
    simp only [RtK];(conv=>whnf);exact mq86
   | some ae =>
   obtain ⟨a,e⟩:=ae;simp only at ha;subst ha;simp only [RtK] at h |-;exact mq52
  exact h.elim
 exact h.elim
abbrev SM:=List (Bs×List (List D))
def Ztb (k:Bs):List D:=[.str k]
def Zuj (M:SM):Ex×Bs->SM
 | (.mk op text _ _ _,k)=>if op=1 then Yv text ((lkM text M).getD []++[Ztb k]) M else M
def WH (M:SM) (l:List (Ex×Bs)):SM:=l.foldl Zuj M
def Zqt (M:SM) (n:Nat):Prop:=∀t rows,lkM t M=some rows->rows.length<=n
def ZlE {M:SM} {n:Nat} (h:Zqt M n) (x:Ex×Bs):Zqt (Zuj M x) (n+1):=by
 obtain ⟨⟨op,text,_,_,_⟩,k⟩:=x;simp only [Zuj];split
 ·intro t rows hr
  rw [JQ] at hr;split at hr
  ·cases hr
   rw [Ta]
   cases hl:lkM text M with
   | none=>simp
   | some r=>have:=h _ _ hl;simp;omega
  have:=h _ _ hr;omega
 intro t rows hr;have:=h _ _ hr;omega
def ZaF:∀(l:List (Ex×Bs)) {M:SM} {n:Nat},Zqt M n->Zqt (WH M l) (n+l.length)
 | [],M,n,h=>h
 | x::l,M,n,h=>by
  have:=ZaF l (ZlE h x);rw [Te,show n+(l.length+1)=n+1+l.length by omega];exact this
def Zbp {α:Type} {k:Bs} {u v:α}:∀m:List (Bs×α),Yv k v (Yv k u m)=Yv k v m
 | []=>by simp [Yv]
 | (x,y)::l=>by
  simp only [Yv]
  by_cases h:k=x
  ·simp [h,Yv]
  simp only [decide_eq_false h,Yv,Zbp l]
def ZBI:Zp:=fun args σ K=>match args,σ with
 | [.agg c,.d (.str k),.ptr 0 0],⟨[.cells ty [.mp 1],.smap el M none],[],0⟩=>∃pl e,c=(ZQ pl e).map .d/\(ty=176/\el=9)/\Zqt M 1073741824/\K (.ret (.tuple [])) ⟨[.cells ty [.mp 1],.smap el (Zuj M (e,k)) none],[],0⟩
 | _,_=>False
def ZCK:PC w0 nG 92 ZBI:=by
 refine ZoG ZI mixed (tbl:=[]) trivial Tryz.func92 rfl kR kR ?_;intro args σ K h
 unfold ZBI at h
 split at h
 ·rename_i k ty el M
  obtain ⟨pl,⟨op,text,num,eargs,ea⟩,rfl,⟨rfl,rfl⟩,hM,h⟩:=h;refine ⟨Zo [],Xn [],Yd [],Yd [],Yd [2],2,false,sM,Tc rfl,wN ?_⟩;simp only [Zuj] at h;refine ZEH (fun h1=>wN ?_) (fun h1=>wN ?_)
  ·have h1:op=1:=by have h1:(op:Int)=1:=h1;omega
   rw [Tj h1] at h;refine ⟨1,text,wN ?_⟩;refine ZEP (fun rows hr=>wN ?_) (fun hr=>wN ?_)
   ·rw [hr] at h;have aa:=hM _ _ hr;refine ⟨rfl,wN ?_⟩;refine ⟨fun r hr=>by simp at hr;subst hr;rfl,by show (rows.length+1) * 16<=140737488355328;omega,by show rows.length+1<=140737488355328;omega,wN ?_⟩
    (repeat (refine ⟨rfl,?_⟩;conv=>whnf))
    rw [<- Zbp (u:=[])] at h;exact h
   rw [hr] at h;refine ⟨rfl,wN ?_⟩;refine ⟨fun r hr=>by simp at hr;subst hr;rfl,by show 1 * 16<=140737488355328;omega,by show 1<=140737488355328;omega,wN ?_⟩
   (repeat (refine ⟨rfl,?_⟩;conv=>whnf))
   rw [<- Zbp (u:=[])] at h;exact h
  have h1:¬op=1:=fun g=>h1 (by simp only [g];rfl)
  rw [Tf h1] at h;exact h
 exact h.elim
abbrev Ztc (pl:Pl) (r:Ru) (more:Bool) (a b:Nat):List PV:=[.ptr a 0,.d (.str r.head),.d (.sl (Zm pl r.args)),.d (.sl (Yf pl r.body)),.d (.int .i64 (pl r.at')),.mp b,.d (.bool more)]
abbrev Zki (pl:Pl) (p:Pr) (r:Ru) (vs:Vs) (more:Bool) (kind:Bs):List Box:=[.cells 63 [.ptr 2 0],.cells 9 [.d (.str kind)],.cells 71 (Ztc pl r more 3 4),.cells 110 (Zip pl p 5),.dmap (mvM mvI vs)]++Ziq p
def Zqu:Zp:=fun args σ K=>match args,σ with
 | [.d (.str k),.ptr 0 0,.ptr 1 0],⟨bx,[],0⟩=>∃pl p r vs more kind,bx=Zki pl p r vs more kind/\OKP p/\∀x,Xa p k kind=x->K (.ret (.d (.bool x))) ⟨bx,[],0⟩
 | _,_=>False
def ZxO:OKw w0 nG [(96,ZgP)] 95 Zqu:=by
 refine pwo Tryz.func95 fun args σ K h=>?_
 unfold Zqu at h
 split at h
 ·obtain ⟨pl,p,r,vs,more,kind,rfl,hp,h⟩:=h;refine pwv [] 9 false ?_;refine ⟨pl,p,rfl,hp.bp,fun x hx=>wN ?_⟩
  (repeat (refine ⟨rfl,?_⟩;conv=>whnf))
  exact h x hx
 exact h.elim
def Zqv:Zp:=fun args σ K=>match args,σ with
 | [.d (.sl rows),.func g [] [.ptr 0 0,.ptr 1 0]],⟨bx,[],0⟩=>∃pl p r vs more kind,∃l:List Bs,bx=Zki pl p r vs more kind/\rows=l.map Ztb/\(g=95/\OKP p/\l.length<=1073741824)/\∀i,Zj5 (fun k=>Xa p k kind) 0 l=i->K (.ret (.d (.int .i64 i))) ⟨bx,[],0⟩
 | [.sl 0 _ [],.func g [] [.ptr 0 0,.ptr 1 0]],⟨bx,[0],1⟩=>∃pl p r vs more kind,bx=Zki pl p r vs more kind/\K (.ret (.d (.int .i64 (-1)))) ⟨bx,[],0⟩
 | _,_=>False
def ZxQ:OKw w0 nG [(95,Zqu)] 165 Zqv:=by
 refine pwo Tryz.func165 fun args σ K h=>?_
 unfold Zqv at h
 split at h
 ·obtain ⟨pl,p,r,vs,more,kind,l,rfl,rfl,⟨rfl,hp,aa⟩,h⟩:=h;have hl:(l.map Ztb).length=l.length:=Td ..;refine pwu [(2,⟨[8],[0,1,7],fun w σ=>∃j:Nat,w=[.d (.int .i64 j)]/\σ=⟨Zki pl p r vs more kind,[],0⟩/\j<=l.length/\Zj5 (fun k=>Xa p k kind) j (l.drop j)=Zj5 (fun k=>Xa p k kind) 0 l,
   fun w _=>match w with | [.d (.int _ j)]=>((l.length:Int) - j).toNat | _=>0⟩)] 9 false ?_
  conv=>whnf
  refine ⟨⟨0,rfl,rfl,oM,rfl⟩,?_⟩
  rintro w σ1 ⟨j,rfl,rfl,hj,ha⟩
  conv=>whnf
  refine ZEH (fun hc=>?_) (fun hc=>?_);rotate_left
  ·conv=>whnf
   rw [Tv oM] at ha;exact h (-1) ha.symm
  have ab:j<l.length:=oM;rw [Tn ab] at ha;have hr:(l.map Ztb)[(j:Int).toNat]?=some (Ztb l[j]):=by rw [Tl,Th,Tb ab];rfl
  generalize l[j]=x at ha hr;(conv=>whnf);refine ⟨_,oM,hr,wN ?_⟩;refine ⟨pl,p,r,vs,more,kind,rfl,hp,fun b hb=>?_⟩;exact mq37
 ·obtain ⟨pl,p,r,vs,more,kind,rfl,h⟩:=h;refine pwv [(2,⟨[8],[0,1,7],fun w σ=>w=[.d (.int .i64 0)]/\σ=⟨Zki pl p r vs more kind,[],0⟩,fun _ _=>0⟩)] 9 false ?_;refine ⟨⟨rfl,rfl⟩,?_⟩
  rintro w σ1 ⟨rfl,rfl⟩
  exact mq52
 exact h.elim
def Zqw:Zp:=fun args σ K=>match args,σ with
 | [.d (.sl rows),.func g [] [.ptr 0 0,.ptr 1 0]],⟨bx,[],0⟩=>∃pl p r vs more kind,∃l:List Bs,bx=Zki pl p r vs more kind/\rows=l.map Ztb/\(g=95/\OKP p/\l.length<=1073741824)/\∀b,(l.any fun k=>Xa p k kind)=b->K (.ret (.d (.bool b))) ⟨bx,[],0⟩
 | [.sl 0 _ [],.func g [] [.ptr 0 0,.ptr 1 0]],⟨bx,[0],1⟩=>∃pl p r vs more kind,bx=Zki pl p r vs more kind/\K (.ret (.d (.bool false))) ⟨bx,[],0⟩
 | _,_=>False
def ZxS:OKw w0 nG [(165,Zqv)] 94 Zqw:=by
 refine pwo Tryz.func94 fun args σ K h=>?_
 unfold Zqw at h
 split at h
 ·obtain ⟨pl,p,r,vs,more,kind,l,rfl,rfl,hc,h⟩:=h;refine pwv [] 9 false ?_;refine ⟨pl,p,r,vs,more,kind,l,rfl,rfl,hc,fun i hi=>wN ?_⟩;exact h _ (by rw [Bool.eq_iff_iff,decide_eq_true_iff,<- hi];exact (ZgQ l 0).symm)
 ·obtain ⟨pl,p,r,vs,more,kind,rfl,h⟩:=h;refine pwv [] 9 false ?_;refine ⟨pl,p,r,vs,more,kind,rfl,wN ?_⟩;exact h
 exact h.elim
def h2T (p:Pr) (kn:List (Bs×Bs)):Ex×Bs->Flt
 | (.mk op text _ _ a,k)=>if (YT p k).isSome=true/\(8<=op\/(op=1/\(kn.any fun y=>decide (y.1=text) && Xa p y.2 k)=false)) then some (a,183) else none
def ZCL (M:SM) (kn:List (Bs×Bs)):Prop:=kn.length<=1073741824/\∀t,(lkM t M).getD []=(kn.filter fun y=>decide (y.1=t)).map fun y=>Ztb y.2
abbrev ZCM (pl:Pl) (p:Pr) (r:Ru) (vs:Vs) (more:Bool) (M:SM):List Box:=[.cells 63 [.ptr 2 0],.cells 176 [.mp 3],.cells 71 (Ztc pl r more 4 5),.smap 9 M none,.cells 110 (Zip pl p 6),.dmap (mvM mvI vs)]++Ziq p
def FlK (pl:Pl) (K:PEnd->St->Prop) (σ:St):Flt->Prop
 | none=>K (.ret (.tuple [])) σ
 | some (a,e)=>K (.panic (ZxK (pl a) e)) σ
def ZBJ:Zp:=fun args σ K=>match args,σ with
 | [.agg c,.d (.str kind),.ptr 0 0,.ptr 1 0],⟨bx,[],0⟩=>∃pl p r vs more M kn e,c=(ZQ pl e).map .d/\bx=ZCM pl p r vs more M/\OKP p/\ZCL M kn/\∀x,h2T p kn (e,kind)=x->FlK pl K ⟨bx,[],0⟩ x
 | _,_=>False
def Zuk {p:Pr} {kn:List (Bs×Bs)} {t k:Bs}:((kn.filter fun y=>decide (y.1=t)).map (·.2)).any (fun y=>Xa p y k)=kn.any fun y=>decide (y.1=t) && Xa p y.2 k:=by
 rw [List.any_map,List.any_filter];rfl
def ZCO:OKw w0 nG [(46,Zfu),(94,Zqw)] 93 ZBJ:=by
 refine pwo Tryz.func93 fun args σ K h=>?_
 unfold ZBJ at h
 split at h
 ·rename_i kind bx
  obtain ⟨pl,p,r,vs,more,M,kn,⟨op,text,num,eargs,ea⟩,rfl,rfl,hp,⟨ec,bl⟩,h⟩:=h;have good:¬((YT p kind).isSome=true/\(8<=op\/(op=1/\(kn.any fun y=>decide (y.1=text) && Xa p y.2 kind)=false)))->K (.ret (.tuple [])) ⟨ZCM pl p r vs more M,[],0⟩:=fun g=>h none (by simp only [h2T];rw [Tf g])
  have bad:((YT p kind).isSome=true/\(8<=op\/(op=1/\(kn.any fun y=>decide (y.1=text) && Xa p y.2 kind)=false)))->K (.panic (ZxK (pl ea) 183)) ⟨ZCM pl p r vs more M,[],0⟩:=fun g=>h (some (ea,183)) (by simp only [h2T];rw [Tj g])
  clear h
  refine pwv [] 10 false ?_;refine ⟨pl,p,rfl,hp.bp,fun x hx=>wN ?_⟩
  (repeat (refine ⟨rfl,?_⟩;conv=>whnf))
  refine ZEP (fun rows hr=>wN ?_) (fun hr=>wN ?_)
  ·have ce:=bl text;rw [hr] at ce;have ce:rows=((kn.filter fun y=>decide (y.1=text)).map (·.2)).map Ztb:=by rw [SE];exact ce
   refine ⟨pl,p,r,vs,more,kind,_,rfl,ce,⟨rfl,hp,by rw [Td];have:=List.length_filter_le (fun y:Bs×Bs=>decide (y.1=text)) kn;omega⟩,fun b hb=>?_⟩;rw [Zuk] at hb;rw [hx,hb] at good bad;generalize x.isSome=sub at good bad |-
   cases sub <;> cases b
   all_goals repeat' ((conv=>whnf);first | refine ZEH (fun hc=>?_) (fun hc=>?_) | refine ZEJ (fun hc=>?_) (fun hc=>?_))
   all_goals (conv=>whnf)
   all_goals first
    | (exfalso;omega)
    | exact bad ⟨rfl,by first | (left;omega) | (right;exact ⟨oM,rfl⟩)⟩
    | exact good (fun g=>by first | exact Bool.noConfusion g.1 | (rcases g.2 with g | g <;> first | omega | exact Bool.noConfusion g.2))
  have ce:=bl text;rw [hr] at ce;have eo:kn.filter (fun y=>decide (y.1=text))=[]:=by
   cases hf:kn.filter (fun y=>decide (y.1=text)) with
   | nil=>rfl
   | cons y l=>rw [hf] at ce;simp at ce
  have hb:(kn.any fun y=>decide (y.1=text) && Xa p y.2 kind)=false:=by rw [<- Zuk,eo];rfl
  rw [hx,hb] at good bad;obtain ⟨b,jz⟩:∃b:Bool,b=false:=⟨_,rfl⟩
  refine ⟨pl,p,r,vs,more,kind,rfl,?_⟩
  clear jz b
  generalize eh:false=b at good bad;generalize x.isSome=sub at good bad |-
  cases sub <;> cases b <;> first | (cases eh;done) | skip
  all_goals repeat' ((conv=>whnf);first | refine ZEH (fun hc=>?_) (fun hc=>?_) | refine ZEJ (fun hc=>?_) (fun hc=>?_))
  all_goals (conv=>whnf)
  all_goals first
   | (exfalso;omega)
   | exact bad ⟨rfl,by first | (left;omega) | (right;exact ⟨oM,rfl⟩)⟩
   | exact good (fun g=>by first | exact Bool.noConfusion g.1 | (rcases g.2 with g | g <;> first | omega | exact Bool.noConfusion g.2))
 exact h.elim
def Zcv {p:Pr} {vs:Vs}:∀{l:List Ex} {ns:List Int} {j:Nat} {e:Ex} {n:Int},UZ p vs l ns=none->l[j]?=some e->ns[j]?=some n->rtE p vs e n=none
 | [],_,j,e,n,h,h1,h2=>by simp at h1
 | x::l,[],j,e,n,h,h1,h2=>by simp at h2
 | x::l,y::ns,j,e,n,h,h1,h2=>by
  simp only [UZ] at h
  cases hx:rtE p vs x y with
  | some f=>rw [hx] at h;cases h
  | none =>
  rw [hx] at h
  cases j with
  | zero=>simp at h1 h2;subst h1;subst h2;exact hx
  | succ j=>exact Zcv h (by simpa using h1) (by simpa using h2)
def Zb0 {p:Pr} {vs:Vs} {op:Nat} {text:Bs} {num:Int} {args:List Ex} {a:Nat} {kind:Bs} (h:rtE p vs (.mk op text num args a) (Y0 p kind)=none) :
  (op=7->∃(i k:Nat) (t:Ty) (c:Ca),lkM text (YP p)=some ((i:Int),(k:Int))/\p.types[i]?=some t/\t.cases[k]?=some c/\Z4 p op text kind=c.fields/\c.fields.length=args.length) /\
  (op=6->∃t,Zez p (Y0 p kind)=some t/\Z4 p op text kind=t.fields/\t.fields.length=args.length) /\
  (op≠7->op≠6->Z4 p op text kind=[]) /\
  ∀(j:Nat) (e:Ex) (f:Fi),args[j]?=some e->(Z4 p op text kind)[j]?=some f->rtE p vs e (Y0 p f.typ)=none:=by
 simp only [rtE] at h;split at h
 ·cases h
 rename_i h1
 split at h
 ·cases h
 rename_i h2
 split at h
 ·cases h
 rename_i h3
 have h3:(Zz p op text args.length (Y0 p kind)).length=args.length:=Decidable.of_not_not h3;refine ⟨fun h7=>?_,fun h6=>?_,fun h7 h6=>?_,fun j e f he hf=>?_⟩
 ·cases hl:lkM text (YP p) with
  | none=>exact absurd ⟨h7,by rw [hl];rfl⟩ h1
  | some v =>
  obtain ⟨i,k,t,c,rfl,g2,g3,g4⟩:=ZdP hl;have hp:Zz p op text args.length (Y0 p kind)=ZN p c.fields:=by simp only [Zz,Tj h7,g4]
  rw [hp] at h3;refine ⟨i,k,t,c,rfl,g2,g3,?_,by simpa [ZN] using h3⟩;simp only [Z4,Tj h7,g4]
 ·cases hr:Zez p (Y0 p kind) with
  | none=>exact absurd (.inr (.inl ⟨.inl h6,by rw [hr];rfl⟩)) h2
  | some t =>
  have h7:¬op=7:=oM;have hp:Zz p op text args.length (Y0 p kind)=ZN p t.fields:=by simp only [Zz,Tf h7,Tj h6,hr]
  rw [hp] at h3;refine ⟨t,rfl,?_,by simpa [ZN] using h3⟩;simp only [Z4,Tf h7,Tj h6,hr]
 ·simp only [Z4,Tf h7,Tf h6]
 have hp:(Z4 p op text kind).length≠0->Zz p op text args.length (Y0 p kind)=ZN p (Z4 p op text kind):=fun ai=>by
  unfold Z4 at ai |-
  unfold Zz
  by_cases h7:op=7
  ·simp only [Tj h7] at ai |-
   cases hc:Zcb p text with
   | none=>rw [hc] at ai;simp at ai
   | some tc=>rfl
  simp only [Tf h7] at ai |-
  by_cases h6:op=6
  ·simp only [Tj h6] at ai |-
   cases hr:Zez p (Y0 p kind) with
   | none=>rw [hr] at ai;simp at ai
   | some t=>rfl
  simp only [Tf h6] at ai;simp at ai
 have ai:(Z4 p op text kind).length≠0:=fun h0=>by
  have:=(Ti.1 hf).1;omega
 rw [hp ai] at h;exact Zcv h he (by rw [ZN,Th,hf];rfl)
mutual
def ZgT (p:Pr):∀(e:Ex) (kind:Bs),(wiE p e kind).length<=szE e
 | .mk op text n args a,kind=>by
  simp only [wiE,Te,szE];have:=ZgU p args (Z4 p op text kind);omega
def ZgU (p:Pr):∀(l:List Ex) (fs:List Fi),(U0 p l fs).length<=Zlo l
 | [],fs=>by simp [U0]
 | e::l,[]=>by simp [U0]
 | e::l,f::fs=>by
  simp only [U0,Ta,Zlo];have:=ZgT p e f.typ;have:=ZgU p l fs;omega
end
def Zcw {α:Type} {f:α->Nat} {l:List α} {j:Nat} {x:α} (h:l[j]?=some x):szS f (l.drop j)=1+f x+szS f (l.drop (j+1)):=by
 have hj:=(Ti.1 h).1;rw [Tn hj,szS];rw [Tb hj] at h
 cases h;rfl
def WY {p:Pr} {kn:List (Bs×Bs)}:∀(a b:List (Ex×Bs)),Wh p kn (a++b)=orF (Wh p kn a) (Wh p kn b)
 | [],b=>rfl
 | (.mk op text _ _ at',k)::a,b=>by
  simp only [Sf,Wh];split
  ·rfl
  exact WY a b
def Znp {p:Pr} {kn:List (Bs×Bs)} (x:Ex×Bs) (l:List (Ex×Bs)):Wh p kn (x::l)=orF (h2T p kn x) (Wh p kn l):=by
 obtain ⟨⟨op,text,n,args,a⟩,k⟩:=x;simp only [Wh,h2T];split <;> rfl
abbrev Zqx (pl:Pl) (p:Pr) (r:Ru) (vs:Vs) (more:Bool) (M:SM):List Box:=[.cells 71 (Ztc pl r more 2 3),.cells 176 [.mp 4],.cells 110 (Zip pl p 5),.dmap (mvM mvI vs),.smap 9 M none]++Ziq p
abbrev Ztd (pl:Pl) (p:Pr) (r:Ru) (vs:Vs) (more:Bool) (M:SM):List Box:=[.cells 71 (Ztc pl r more 3 4),.cells 63 [.ptr 0 0],.cells 176 [.mp 5],.cells 110 (Zip pl p 6),.dmap (mvM mvI vs),.smap 9 M none]++Ziq p
def Znq (m:Nat):Zp:=fun args σ K=>match args,σ with
 | [.ptr 0 0,.agg c,.d (.str kind),.func f [] [.ptr 1 0]],⟨bx,[],0⟩=>∃pl p r vs more e M n,c=(ZQ pl e).map .d/\f=92/\bx=Zqx pl p r vs more M/\OKP p/\(szE e<=m/\m<=2097152)/\rtE p vs e (Y0 p kind)=none/\(Zqt M n/\n+szE e<=1073741824)/\K (.ret (.tuple [])) ⟨Zqx pl p r vs more (WH M (wiE p e kind)),[],0⟩
 | _,_=>False
def Zul {m:Nat}:OKw w0 nG [(91,spB Znq m),(92,ZBI),(51,VU),(98,Zkf)] 91 (Znq m):=by
 refine pwo Tryz.func91 fun args σ K h=>?_
 unfold Znq at h
 split at h
 ·rename_i c kind f bx
  obtain ⟨pl,p,r,vs,more,⟨op,text,num,eargs,ea⟩,M,n,rfl,rfl,rfl,hp,⟨hz,hm⟩,um,⟨hM,hn⟩,h⟩:=h;simp only [wiE] at h;obtain ⟨F,hF⟩:∃F,WH M ((.mk op text num eargs ea,kind)::U0 p eargs (Z4 p op text kind))=F:=⟨_,rfl⟩
  rw [hF] at h;have hM1:=ZlE hM (.mk op text num eargs ea,kind);have hF:WH (Zuj M (.mk op text num eargs ea,kind)) (U0 p eargs (Z4 p op text kind))=F:=hF;have ak:(Zm pl eargs).length=eargs.length:=by rw [Zb,Td]
  simp only [szE,Y6] at hz hn;have lr:=Zn szE eargs;obtain ⟨r7,r6,r0,rk⟩:=Zb0 um;obtain ⟨fs,qo⟩:∃fs,Z4 p op text kind=fs:=⟨_,rfl⟩
  rw [qo] at r7 r6 r0 rk hF
  by_cases h7:op=7
  ·obtain ⟨i0,k0,t,c,hl,h2,h3,g1,g2⟩:=r7 h7;have hr:(p.types.map (Zs pl))[(i0:Int).toNat]?=some (Zs pl t):=by rw [Tl,Th,h2];rfl
   have dc:(t.cases.map Zt)[(k0:Int).toNat]?=some (Zt c):=by rw [Tl,Th,h3];rfl
   obtain ⟨t1,t2,t3,t4,t5,t6⟩:=t;obtain ⟨c1,c2⟩:=c;simp only at g1 g2;obtain rfl:fs=c2:=g1;refine pwu [(11,⟨[67],[0,3,5,65,66],fun w σ=>∃(j n1:Nat) (M1:SM),w=[.d (.int .i64 j)]/\σ=⟨Zqx pl p r vs more M1++[.cells 55 ((ZQ pl (.mk op text num eargs ea)).map .d),.cells 115 [.d (.int .i64 i0),.d (.int .i64 k0)]],[],0⟩/\j<=eargs.length/\(Zqt M1 n1/\n1+szS szE (eargs.drop j)<=1073741824)/\WH M1 (U0 p (eargs.drop j) (fs.drop j))=F,
    fun w _=>match w with | [.d (.int _ j)]=>((eargs.length:Int) - j).toNat | _=>0⟩)] 9 false ?_
   conv=>whnf
   refine ⟨pl,.mk op text num eargs ea,rfl,⟨rfl,rfl⟩,fun t rows hr=>by have:=hM t rows hr;omega,wN ?_⟩;refine ZEH (fun iw=>?_) (fun iw=>absurd (show (op:Int)=7 by omega) iw);(conv=>whnf);refine optK.yes (by rw [ZK,hl];rfl) (wN ?_)
   (repeat (refine ⟨rfl,?_⟩;conv=>whnf))
   refine ⟨dM,dM,wN ?_⟩;refine ⟨_,oM,hr,wN ?_⟩;refine ⟨dM,dM,wN ?_⟩;refine ⟨_,oM,dc,wN ?_⟩;exact mq10
  by_cases h6:op=6
  ·obtain ⟨t0,ni,g1,g2⟩:=r6 h6;refine pwu [(11,⟨[67],[0,3,5,65,66],fun w σ=>∃(j n1:Nat) (M1:SM),w=[.d (.int .i64 j)]/\σ=⟨Zqx pl p r vs more M1++[.cells 55 ((ZQ pl (.mk op text num eargs ea)).map .d),.cells 46 ((Zs pl t0).map .d)],[],0⟩/\j<=eargs.length/\(Zqt M1 n1/\n1+szS szE (eargs.drop j)<=1073741824)/\WH M1 (U0 p (eargs.drop j) (fs.drop j))=F,
    fun w _=>match w with | [.d (.int _ j)]=>((eargs.length:Int) - j).toNat | _=>0⟩)] 9 false ?_
   conv=>whnf
   refine ⟨pl,.mk op text num eargs ea,rfl,⟨rfl,rfl⟩,fun t rows hr=>by have:=hM t rows hr;omega,wN ?_⟩;refine ZEH (fun iw=>absurd (show op=7 by have iw:(op:Int)=7:=iw;omega) h7) (fun iw=>wN ?_);refine ZEH (fun m7=>?_) (fun m7=>absurd (show (op:Int)=6 by omega) m7);(conv=>whnf);refine ⟨pl,p,rfl,hp.bp,hp.ends,fun n6 hn6=>?_⟩;subst hn6;(conv=>whnf);refine ⟨pl,p,r,vs,more,rfl,hp,fun t6 qj=>?_,fun qj=>by rw [ni] at qj;cases qj⟩;obtain rfl:t0=t6:=Option.some.inj (ni.symm.trans qj);obtain ⟨t1,t2,t3,t4,t5,t6⟩:=t0;simp only at g1 g2;obtain rfl:fs=t4:=g1;(conv=>whnf);exact mq10
  skip
  refine pwu [(11,⟨[67],[0,3,5,65,66],fun w σ=>∃(j n1:Nat) (M1:SM),w=[.d (.int .i64 j)]/\σ=⟨Zqx pl p r vs more M1++[.cells 55 ((ZQ pl (.mk op text num eargs ea)).map .d)],[],0⟩/\j<=eargs.length/\(Zqt M1 n1/\n1+szS szE (eargs.drop j)<=1073741824)/\WH M1 (U0 p (eargs.drop j) (fs.drop j))=F,
   fun w _=>match w with | [.d (.int _ j)]=>((eargs.length:Int) - j).toNat | _=>0⟩)] 9 false ?_
  conv=>whnf
  refine ⟨pl,.mk op text num eargs ea,rfl,⟨rfl,rfl⟩,fun t rows hr=>by have:=hM t rows hr;omega,wN ?_⟩;refine ZEH (fun iw=>absurd (show op=7 by have iw:(op:Int)=7:=iw;omega) h7) (fun iw=>wN ?_);refine ZEH (fun m7=>absurd (show op=6 by have m7:(op:Int)=6:=m7;omega) h6) (fun m7=>wN ?_);have h0:fs=[]:=r0 h7 h6;subst h0;refine ⟨⟨0,n+1,_,rfl,rfl,oM,⟨hM1,by rw [So];omega⟩,hF⟩,?_⟩
  rintro w σ1 ⟨j,n1,M1,rfl,rfl,hj,⟨uo,ia⟩,ha⟩
  have ha:M1=F:=by
   exact mq138
  subst ha;exact mq52
 exact h.elim
def Znr (m:Nat):Zp:=fun args σ K=>match args,σ with
 | [.ptr 0 0,.agg c,.d (.str kind),.func f [] [.ptr 1 0,.ptr 2 0]],⟨bx,[],0⟩=>∃pl p r vs more e M kn,c=(ZQ pl e).map .d/\f=93/\bx=Ztd pl p r vs more M/\OKP p/\(szE e<=m/\m<=2097152)/\rtE p vs e (Y0 p kind)=none/\ZCL M kn/\∀x,Wh p kn (wiE p e kind)=x->FlK pl K ⟨bx,[],0⟩ x
 | _,_=>False
def Zum {m:Nat}:OKw w0 nG [(91,spB Znr m),(93,ZBJ),(51,VU),(98,Zkf)] 91 (Znr m):=by
 refine pwo Tryz.func91 fun args σ K h=>?_
 unfold Znr at h
 split at h
 ·rename_i c kind f bx
  obtain ⟨pl,p,r,vs,more,⟨op,text,num,eargs,ea⟩,M,kn,rfl,rfl,rfl,hp,⟨hz,hm⟩,um,lm,h⟩:=h;simp only [wiE] at h;obtain ⟨X,hX⟩:∃X,Wh p kn ((.mk op text num eargs ea,kind)::U0 p eargs (Z4 p op text kind))=X:=⟨_,rfl⟩
  have h:=h X hX;rw [Znp] at hX;have ak:(Zm pl eargs).length=eargs.length:=by rw [Zb,Td]
  simp only [szE,Y6] at hz;have lr:=Zn szE eargs;obtain ⟨r7,r6,r0,rk⟩:=Zb0 um;obtain ⟨fs,qo⟩:∃fs,Z4 p op text kind=fs:=⟨_,rfl⟩
  rw [qo] at r7 r6 r0 rk hX
  by_cases h7:op=7
  ·obtain ⟨i0,k0,t,c,hl,h2,h3,g1,g2⟩:=r7 h7;have hr:(p.types.map (Zs pl))[(i0:Int).toNat]?=some (Zs pl t):=by rw [Tl,Th,h2];rfl
   have dc:(t.cases.map Zt)[(k0:Int).toNat]?=some (Zt c):=by rw [Tl,Th,h3];rfl
   obtain ⟨t1,t2,t3,t4,t5,t6⟩:=t;obtain ⟨c1,c2⟩:=c;simp only at g1 g2;obtain rfl:fs=c2:=g1;refine pwu [(11,⟨[67],[0,3,5,65,66],fun w σ=>∃(j:Nat),w=[.d (.int .i64 j)]/\σ=⟨Ztd pl p r vs more M++[.cells 55 ((ZQ pl (.mk op text num eargs ea)).map .d),.cells 115 [.d (.int .i64 i0),.d (.int .i64 k0)]],[],0⟩/\j<=eargs.length/\Wh p kn (U0 p (eargs.drop j) (fs.drop j))=X,
    fun w _=>match w with | [.d (.int _ j)]=>((eargs.length:Int) - j).toNat | _=>0⟩)] 10 false ?_
   conv=>whnf
   refine ⟨pl,p,r,vs,more,M,kn,.mk op text num eargs ea,rfl,rfl,hp,lm,fun y hy=>?_⟩;rw [hy] at hX
   cases y with
   | some ae =>
    exact mq176
   | none =>
   simp only [FlK,orF] at hX |-;(conv=>whnf);refine ZEH (fun iw=>?_) (fun iw=>absurd (show (op:Int)=7 by omega) iw);(conv=>whnf);refine optK.yes (by rw [ZK,hl];rfl) (wN ?_)
   (repeat (refine ⟨rfl,?_⟩;conv=>whnf))
   refine ⟨dM,dM,wN ?_⟩;refine ⟨_,oM,hr,wN ?_⟩;refine ⟨dM,dM,wN ?_⟩;refine ⟨_,oM,dc,wN ?_⟩;exact mq12
  by_cases h6:op=6
  ·obtain ⟨t0,ni,g1,g2⟩:=r6 h6;refine pwu [(11,⟨[67],[0,3,5,65,66],fun w σ=>∃(j:Nat),w=[.d (.int .i64 j)]/\σ=⟨Ztd pl p r vs more M++[.cells 55 ((ZQ pl (.mk op text num eargs ea)).map .d),.cells 46 ((Zs pl t0).map .d)],[],0⟩/\j<=eargs.length/\Wh p kn (U0 p (eargs.drop j) (fs.drop j))=X,
    fun w _=>match w with | [.d (.int _ j)]=>((eargs.length:Int) - j).toNat | _=>0⟩)] 10 false ?_
   conv=>whnf
   refine ⟨pl,p,r,vs,more,M,kn,.mk op text num eargs ea,rfl,rfl,hp,lm,fun y hy=>?_⟩;rw [hy] at hX
   cases y with
   | some ae =>
    exact mq176
   | none =>
   simp only [FlK,orF] at hX |-;(conv=>whnf);refine ZEH (fun iw=>absurd (show op=7 by have iw:(op:Int)=7:=iw;omega) h7) (fun iw=>wN ?_);refine ZEH (fun m7=>?_) (fun m7=>absurd (show (op:Int)=6 by omega) m7);(conv=>whnf);refine ⟨pl,p,rfl,hp.bp,hp.ends,fun n6 hn6=>?_⟩;subst hn6;(conv=>whnf);refine ⟨pl,p,r,vs,more,rfl,hp,fun t6 qj=>?_,fun qj=>by rw [ni] at qj;cases qj⟩;obtain rfl:t0=t6:=Option.some.inj (ni.symm.trans qj);obtain ⟨t1,t2,t3,t4,t5,t6⟩:=t0;simp only at g1 g2;obtain rfl:fs=t4:=g1;(conv=>whnf);exact mq12
  skip
  refine pwu [(11,⟨[67],[0,3,5,65,66],fun w σ=>∃(j:Nat),w=[.d (.int .i64 j)]/\σ=⟨Ztd pl p r vs more M++[.cells 55 ((ZQ pl (.mk op text num eargs ea)).map .d)],[],0⟩/\j<=eargs.length/\Wh p kn (U0 p (eargs.drop j) (fs.drop j))=X,
   fun w _=>match w with | [.d (.int _ j)]=>((eargs.length:Int) - j).toNat | _=>0⟩)] 10 false ?_
  conv=>whnf
  refine ⟨pl,p,r,vs,more,M,kn,.mk op text num eargs ea,rfl,rfl,hp,lm,fun y hy=>?_⟩;rw [hy] at hX
  cases y with
  | some ae =>
   exact mq176
  | none =>
  simp only [FlK,orF] at hX |-;(conv=>whnf);refine ZEH (fun iw=>absurd (show op=7 by have iw:(op:Int)=7:=iw;omega) h7) (fun iw=>wN ?_);refine ZEH (fun m7=>absurd (show op=6 by have m7:(op:Int)=6:=m7;omega) h6) (fun m7=>wN ?_);have h0:fs=[]:=r0 h7 h6;subst h0;refine ⟨⟨0,rfl,rfl,oM,hX⟩,?_⟩
  rintro w σ1 ⟨j,rfl,rfl,hj,ha⟩
  have ha:none=X:=by
   exact mq138
  subst ha;exact mq52
 exact h.elim
def knF (x:Ex×Bs):Option (Bs×Bs):=match x with
 | (.mk op text _ _ _,k)=>if op=1 then some (text,k) else none
def Vv (p:Pr) (l:List Li):ZaC p l=(l.flatMap (X1 p)).filterMap knF:=rfl
def ZlF (M:SM) (kn:List (Bs×Bs)):Prop:=∀t,(lkM t M).getD []=(kn.filter fun y=>decide (y.1=t)).map fun y=>Ztb y.2
def Zte {M:SM} {kn:List (Bs×Bs)} (h:ZlF M kn) (x:Ex×Bs):ZlF (Zuj M x) (kn++(knF x).toList):=by
 obtain ⟨⟨op,text,_,_,_⟩,k⟩:=x;simp only [Zuj,knF];split
 ·intro t
  rw [JQ,List.filter_append,Sc]
  by_cases ht:t=text
  ·subst ht;simp [h t]
  have ki:¬text=t:=fun e=>ht e.symm
  simp [ht,ki,h t]
 intro t;simpa using h t
def Zix:∀(l:List (Ex×Bs)) {M:SM} {kn:List (Bs×Bs)},ZlF M kn->ZlF (WH M l) (kn++l.filterMap knF)
 | [],M,kn,h=>by simpa [WH] using h
 | x::l,M,kn,h=>by
  have:=Zix l (Zte h x);simp only [List.filterMap_cons]
  cases hx:knF x with
  | none=>rw [hx] at this;simpa [WH] using this
  | some y=>rw [hx] at this;simpa [WH] using this
def ZfG (p:Pr):∀(l:List Li),(l.flatMap (X1 p)).length<=szS szL l
 | []=>sM
 | .mk op rel args body a::l=>by
  have:=ZfG p l;have h2:=ZgU p args (Zis p rel);rw [Y6] at h2;rw [List.flatMap_cons,Ta,szS,szL];simp only [X1];split
  ·omega
  rw [Tg];omega
def ZxT (p:Pr) {l:List Li} (h:szS szL l<=1073741824):ZCL (WH [] (l.flatMap (X1 p))) (ZaC p l):=by
 refine ⟨?_,?_⟩
 ·have h1:=ZfG p l;have h2:=List.length_filterMap_le knF (l.flatMap (X1 p));rw [Vv];omega
 have:=Zix (l.flatMap (X1 p)) (M:=[]) (kn:=[]) (fun t=>rfl);rw [Sn,<- Vv] at this;exact this
def Ziy {p:Pr} {vs:Vs} {name:Bs} {args:List Ex} {a:Nat} {hd:Bool} (h:Zke p vs name args a hd=none) :
  ∃(i:Nat) (d:Re),lkM name (UD p)=some (i:Int)/\p.rels[i]?=some d/\d.fields.length=args.length/\UZ p vs args (ZN p d.fields)=none/\Zis p name=d.fields:=by
 unfold Zke at h
 cases hl:lkM name (UD p) with
 | none=>rw [hl] at h;cases h
 | some n =>
 obtain ⟨i,d,rfl,h2,h3⟩:=Zcu hl;rw [hl] at h;simp only [Tl,h2] at h;split at h
 ·cases h
 split at h
 ·cases h
 rename_i hn
 have hn:d.fields.length=args.length:=Decidable.of_not_not hn;rw [Zbo hl h2,Tj hn] at h;exact ⟨i,d,rfl,h2,hn,h,by simp only [Zis,hl,Tl,h2]⟩
def ZlG {p:Pr} {vs:Vs}:∀{l:List Li} {j:Nat} {x:Li},Zct p vs l=none->l[j]?=some x->rtL p vs x=none
 | [],j,x,h,hx=>by simp at hx
 | y::l,j,x,h,hx=>by
  simp only [Zct] at h
  cases hy:rtL p vs y with
  | some f=>rw [hy] at h;cases h
  | none =>
  rw [hy] at h
  cases j with
  | zero=>simp at hx;subst hx;exact hy
  | succ j=>exact ZlG h (by simpa using hx)
def ZDL (a b:Zp):Zp:=fun args σ K=>a args σ K\/b args σ K
def Zqy {G:GE} {g:FuncId} {a b:Zp} (ha:PCalls G g a) (hb:PCalls G g b):PCalls G g (ZDL a b):=⟨ha.enters,fun args σ K h=>h.elim (ha.calls args σ K) (hb.calls args σ K)⟩
abbrev ZCP (pl:Pl) (p:Pr) (r:Ru) (vs:Vs) (more:Bool) (M:SM):List Box:=Zbn pl p r vs more++[.cells 63 [.ptr 0 0],.smap 9 M none,.cells 176 [.mp 8]]
def ZdU (m:Nat):Zp:=ZaK fun rest pl p r vs more K=>match rest with
 | []=>(JL r<=m/\m<=2097152)/\Zke p vs r.head r.args r.at' true=none/\Zct p vs r.body=none/\∀x,Jl p r=x->RtK pl K vs more x
 | _=>False
def Ziz (m:Nat):ZG (ZdU m):=ZdO fun rest pl p r vs more K K' hK h=>by
 split at h
 ·obtain ⟨h1,h2,h3,h4⟩:=h;exact ⟨h1,h2,h3,fun x g=>ZgS hK (h4 x g)⟩
 exact h.elim
def ZlH (m:Nat):Tbl:=[(91,ZDL (Znq m) (Znr m))]
def Ztf {m:Nat} (ht:TO w0 nG (ZlH m)):PC w0 nG 50 (ZdU m):=by
 refine ZoG ZI mixed (tbl:=ZlH m) ht Tryz.func50 rfl kR kR ?_;intro args σ K h
 unfold ZdU ZaK at h
 split at h
 ·obtain ⟨pl,p,⟨head,af,body,rat⟩,vs,more,rfl,hp,h⟩:=h;split at h
  ·obtain ⟨⟨hz,hm⟩,ll,yo,h⟩:=h;simp only [JL] at hz ll yo;obtain ⟨hi,hd,du,gl,kx,ic,uj⟩:=Ziy ll;have pq:=Zn szL body;have j8:(Yf pl body).length=body.length:=by rw [Zl,Td]
   have hlh:(Zm pl af).length=af.length:=by rw [Zb,Td]
   have hnh:=Zn szE af;have lm:=ZxT p (l:=body) oM;obtain ⟨MF,hMF⟩:∃MF,WH [] (body.flatMap (X1 p))=MF:=⟨_,rfl⟩
   rw [hMF] at lm;obtain ⟨X,hX⟩:∃X,Jl p ⟨head,af,body,rat⟩=X:=⟨_,rfl⟩
   have h:=h X hX;have hX:Wh p (ZaC p body) (U0 p af hd.fields)=X:=by rw [<- hX,Jl,uj]
   generalize ZaC p body=kn at lm hX;refine ⟨Zo [(3,⟨[16],[1,2,14,15],fun w σ=>∃(j n:Nat) (M:SM),w=[.d (.int .i64 j)]/\σ=⟨ZCP pl p ⟨head,af,body,rat⟩ vs more M,[],0⟩/\j<=body.length/\(Zqt M n/\n+szS szL (body.drop j)<=1073741824)/\WH M ((body.drop j).flatMap (X1 p))=MF,
     fun w _=>match w with | [.d (.int _ j)]=>((body.length:Int) - j).toNat | _=>0⟩),
    (7,⟨[45],[1,2,4,14,15,16,43,44],fun w σ=>∃(j i n:Nat) (M:SM) (rel:Bs) (eargs:List Ex) (lbody:List Li) (at':Nat) (fs:List Fi),w=[.ptr 7 0,.ptr 9 0,.ptr 10 0,.d (.sl (Yf pl body)),.d (.int .i64 ((Yf pl body).length:Nat)),.d (.int .i64 j),.d (.sl (fs.map Zk)),.d (.int .i64 ((fs.map Zk).length:Nat)),.d (.int .i64 i)] /\
      σ=⟨ZCP pl p ⟨head,af,body,rat⟩ vs more M++[.cells 57 ((Y5 pl (.mk 1 rel eargs lbody at')).map .d)],[],0⟩/\body[j]?=some (.mk 1 rel eargs lbody at')/\fs=Zis p rel/\i<=eargs.length /\
      (Zqt M n/\n+szS szE (eargs.drop i)+szS szL (body.drop (j+1))<=1073741824)/\WH (WH M (U0 p (eargs.drop i) (fs.drop i))) ((body.drop (j+1)).flatMap (X1 p))=MF,
     fun w _=>match w with | [_,_,_,_,_,_,_,.d (.int _ n),.d (.int _ i)]=>(n - i).toNat | _=>0⟩),
    (13,⟨[87],[1,2,85,86],fun w σ=>∃(j:Nat),w=[.d (.int .i64 j)]/\σ=⟨ZCP pl p ⟨head,af,body,rat⟩ vs more MF,[],0⟩/\j<=af.length/\Wh p kn (U0 p (af.drop j) (hd.fields.drop j))=X,
     fun w _=>match w with | [.d (.int _ j)]=>((af.length:Int) - j).toNat | _=>0⟩)],Xn [],Yd [7],Yd [9],Yd [],7,false,sM,Tc rfl,?_⟩
   conv=>whnf
   refine ⟨⟨0,0,[],rfl,rfl,oM,⟨(fun t rows hr=>by cases hr),by rw [So];omega⟩,hMF⟩,?_⟩
   rintro w σ1 ⟨j,n,M,rfl,rfl,hj,⟨hM,hn⟩,ha⟩
   conv=>whnf
   refine ZEH (fun hc=>?_) (fun hc=>?_);rotate_left
   ·have hc:¬(j:Int)<((Yf pl body).length:Int):=hc;rw [Tv oM] at ha;have ha:M=MF:=ha;subst ha;have hr:(p.rels.map (ZF pl))[(hi:Int).toNat]?=some (ZF pl hd):=by rw [Tl,Th,gl];rfl
    obtain ⟨d1,d2,d3,d4,d5,d6⟩:=hd;simp only at kx ic hX;(conv=>whnf);refine optK.yes (by rw [ZK,du];rfl) (wN ?_)
    (repeat (refine ⟨rfl,?_⟩;conv=>whnf))
    refine ⟨_,oM,hr,wN ?_⟩;refine ⟨⟨0,rfl,rfl,oM,hX⟩,?_⟩
    rintro w σ1 ⟨i,rfl,rfl,ac,ha⟩
    conv=>whnf
    refine ZEH (fun bw=>?_) (fun bw=>?_);rotate_left
    ·have bw:¬(i:Int)<((d2.map Zk).length:Int):=bw;rw [Td] at bw;rw [Tv oM] at ha;have ha:none=X:=ha;subst ha;exact mq52
    have ab:i<d2.length:=by have bw:(i:Int)<((d2.map Zk).length:Int):=bw;rw [Td] at bw;omega
    have aq:i<af.length:=oM;rw [Tn ab,Tn aq] at ha;simp only [U0] at ha;have hk:=Zcv ic (Tb aq) (by rw [ZN,Th,Tb ab];rfl);have ov:(d2.map Zk)[(i:Int).toNat]?=some (Zk d2[i]):=by rw [Tl,Th,Tb ab];rfl
    have mz:(Zm pl af)[(i:Int).toNat]?=some (ZQ pl af[i]):=by rw [Zb,Tl,Th,Tb aq];rfl
    have dx:=Zr szE af i aq;have hμ:((af.length:Int) - ((i:Int)+1)).toNat<((af.length:Int) - (i:Int)).toNat:=oM;generalize d2[i]=f0 at ha hk ov;generalize af[i]=x0 at ha hk mz dx;obtain ⟨f1,f2⟩:=f0;obtain ⟨x1,x2,x3,x4,x5⟩:=x0;(conv=>whnf);refine ⟨_,oM,ov,wN ?_⟩;refine ⟨_,oM,mz,wN ?_⟩;refine .inr ⟨pl,p,⟨head,af,body,rat⟩,vs,more,.mk x1 x2 x3 x4 x5,M,kn,rfl,rfl,rfl,hp,⟨oM,hm⟩,hk,lm,fun y hy=>?_⟩;rw [WY,hy] at ha
    cases y with
    | some ae =>
     obtain ⟨a,e⟩:=ae;simp only [orF] at ha;subst ha;simp only [FlK,RtK] at h |-;exact mq52
    | none =>
    simp only [FlK,orF] at ha |-;(conv=>whnf)
    (repeat (refine ⟨rfl,?_⟩;conv=>whnf))
    refine Zi ?_;exact ⟨⟨i+1,rfl,rfl,oM,ha⟩,hμ⟩
   have ab:j<body.length:=by have hc:(j:Int)<((Yf pl body).length:Int):=hc;omega
   have hr:(Yf pl body)[(j:Int).toNat]?=some (Y5 pl body[j]):=by rw [Zl,Tl,Th,Tb ab];rfl
   have dx:=Zr szL body j ab;have il:=Zcw (f:=szL) (Tb ab);have hx:=ZlG yo (Tb ab);rw [Tn ab,List.flatMap_cons,WH,List.foldl_append] at ha;have hμ:((body.length:Int) - ((j:Int)+1)).toNat<((body.length:Int) - (j:Int)).toNat:=oM;have jf:body[j]?=some body[j]:=Tb ab;generalize body[j]=x at ha hr dx il hx jf;obtain ⟨op,rel,eargs,lbody,at'⟩:=x;simp only [szL,Xi] at dx il;simp only [X1] at ha;(conv=>whnf);refine ⟨_,oM,hr,wN ?_⟩;refine ZEJ (fun ho=>wN ?_) (fun ho=>?_)
   ·have ho:¬op=1:=fun g=>ho (by simp only [g];rfl)
    rw [Tf ho] at ha;refine Zi ?_;exact ⟨⟨j+1,n,M,rfl,rfl,oM,⟨hM,oM⟩,ha⟩,hμ⟩
   have ho:op=1:=by have ho:(op:Int)=1:=ho;omega
   subst ho;rw [Tj rfl] at ha;simp only [rtL] at hx;rw [Tj dM] at hx;obtain ⟨ri,d,q1,q2,q3,q4,q5⟩:=Ziy hx;have yq:(p.rels.map (ZF pl))[(ri:Int).toNat]?=some (ZF pl d):=by rw [Tl,Th,q2];rfl
   obtain ⟨d1,d2,d3,d4,d5,d6⟩:=d;simp only at q3 q4 q5;have fu:(Zm pl eargs).length=eargs.length:=by rw [Zb,Td]
   have ai:=Zn szE eargs;rw [q5] at ha;(conv=>whnf);refine optK.yes (by rw [ZK,q1];rfl) (wN ?_)
   (repeat (refine ⟨rfl,?_⟩;conv=>whnf))
   refine ⟨_,oM,yq,wN ?_⟩;refine ⟨⟨j,0,n,M,rel,eargs,lbody,at',d2,rfl,rfl,jf,q5.symm,oM,⟨hM,by rw [So];omega⟩,ha⟩,?_⟩
   clear ha hM hn
   rintro w σ1 ⟨j',i,n2,M2,rel',eargs',lbody',at'',fs',hw,rfl,la,yu,ac,⟨uo,ia⟩,ha⟩
   have ej:(some (PV.d (.int .i64 (j:Int))):Option PV)=some (.d (.int .i64 (j':Int))):=congrArg (fun l:List PV=>l[5]?) hw;obtain rfl:j=j':=by have ej:=Option.some.inj ej;injection ej with ej;injection ej with _ ej;omega
   rw [jf] at la;obtain ⟨_,rfl,rfl,rfl,rfl⟩:=Li.mk.inj (Option.some.inj la);obtain rfl:fs'=d2:=yu.trans q5;have hw:w=[.d (.int .i64 i)]:=congrArg (List.drop 8) hw;subst hw;(conv=>whnf);refine ZEH (fun bw=>?_) (fun bw=>?_);rotate_left
   ·have bw:¬(i:Int)<((fs'.map Zk).length:Int):=bw;rw [Td] at bw;have z8:i=eargs.length:=oM;rw [Tv oM] at ha ia;have ha:WH M2 ((body.drop (j+1)).flatMap (X1 p))=MF:=ha;(conv=>whnf);refine Zi ?_;exact ⟨⟨j+1,n2,M2,rfl,rfl,oM,⟨uo,by simp only [szS] at ia;omega⟩,ha⟩,hμ⟩
   have uq:i<fs'.length:=by have bw:(i:Int)<((fs'.map Zk).length:Int):=bw;rw [Td] at bw;omega
   have aq:i<eargs.length:=oM;rw [Tn uq,Tn aq] at ha;simp only [U0] at ha;have hk:=Zcv q4 (Tb aq) (by rw [ZN,Th,Tb uq];rfl);have ov:(fs'.map Zk)[(i:Int).toNat]?=some (Zk fs'[i]):=by rw [Tl,Th,Tb uq];rfl
   have mz:(Zm pl eargs)[(i:Int).toNat]?=some (ZQ pl eargs[i]):=by rw [Zb,Tl,Th,Tb aq];rfl
   have ua:=Zr szE eargs i aq;have hde:=Zcw (f:=szE) (Tb aq);have yv:(((fs'.map Zk).length:Int) - ((i:Int)+1)).toNat<(((fs'.map Zk).length:Int) - (i:Int)).toNat:=by rw [Td];omega
   generalize fs'[i]=f0 at ha hk ov;generalize eargs[i]=x0 at ha hk mz ua hde;obtain ⟨f1,f2⟩:=f0;obtain ⟨x1,x2,x3,x4,x5⟩:=x0;(conv=>whnf);refine ⟨_,oM,ov,wN ?_⟩;refine ⟨_,oM,mz,wN ?_⟩;refine .inl ⟨pl,p,⟨head,af,body,rat⟩,vs,more,.mk x1 x2 x3 x4 x5,M2,n2,rfl,rfl,rfl,hp,⟨oM,hm⟩,hk,⟨uo,oM⟩,wN ?_⟩;have hM3:=ZaF (wiE p (.mk x1 x2 x3 x4 x5) f2) uo;have yw:=ZgT p (.mk x1 x2 x3 x4 x5) f2;rw [show WH M2 (wiE p (.mk x1 x2 x3 x4 x5) f2++U0 p (List.drop (i+1) eargs) (List.drop (i+1) fs'))=WH (WH M2 (wiE p (.mk x1 x2 x3 x4 x5) f2)) (U0 p (List.drop (i+1) eargs) (List.drop (i+1) fs')) from List.foldl_append ..] at ha
   (repeat (refine ⟨rfl,?_⟩;conv=>whnf))
   refine Zi ?_;exact ⟨⟨j,i+1,n2+(wiE p (.mk x1 x2 x3 x4 x5) f2).length,_,rel,eargs,lbody,at',fs',rfl,rfl,jf,yu,oM,⟨hM3,oM⟩,ha⟩,yv⟩
  exact h.elim
 exact h.elim
def recOfC:Nat×Nat×Code:=match Zy2 (YW Tryz.f47) with | some x=>x | none=>(0,0,.skip)
def ZxU:List PV->St->(St->Prop)->Prop:=fun args σ K=>args.length<=Tryz.f47.ntmps/\W (ctx Jy [] (Zo [])) recOfC.2.2 (Zvc Jy Tryz.f47 σ.bx.length K) (V4 (V4 (ZcH 0 args) recOfC.1 (.d .nili)) recOfC.2.1 (.d .nili)) σ
def ZxV:PV->List PV->St->(St->Prop)->Prop:=fun pv args σ K=>args.length<=Tryz.f47.ntmps/\W (ctx Jy [] (Zo [])) recOfC.2.2 (Zvc Jy Tryz.f47 σ.bx.length K) (V4 (V4 (ZcH 0 args) recOfC.1 pv) recOfC.2.1 pv) σ
def ZxW:PDef (GG w0 nG) 47 ZxU ZxV :=
 Zo8 (a:=recOfC.1) (b:=recOfC.2.1) (rest:=recOfC.2.2) ZI mixed Tryz.func47 rfl kR rfl kR (fun args σ K h=>⟨ZrL Jy [] (Zo []) (fun _=>0) (fun _=>false),σ.bx.length,CxG.of (tbl:=[]) ZI trivial trivial _ _ _,Tr _,h.1,h.2⟩) (fun pv args σ K h=>⟨ZrL Jy [] (Zo []) (fun _=>0) (fun _=>false),σ.bx.length,CxG.of (tbl:=[]) ZI trivial trivial _ _ _,Tr _,h.1,h.2⟩)
def ZEm (pl:Pl):Flt->PV
 | none=>.agg [.d (.int .i64 0),.d (.int .i64 0)]
 | some (a,e)=>.agg [.d (.int .i64 (pl a)),.d (.int .i64 e)]
def Zcx (m:Nat):Zp:=ZaK fun rest pl p r vs more K=>match rest with
 | []=>(JL r<=m/\m<=2097152)/\Zb7 r.body=true/\∀x,WX p r vs=x->K (.ret (ZEm pl x)) vs more
 | _=>False
def ZiA (m:Nat):Tbl:=[(48,ZfF m),(49,ZdT m),(50,ZdU m)]
def Zqz {m:Nat} (ht:TO w0 nG (ZiA m)):PC w0 nG 23 (Zcx m):=by
 refine Zgy ZI mixed Tryz.func23 rfl kR kR ZxW ?_;intro args σ K h
 unfold Zcx ZaK at h
 split at h
 ·obtain ⟨pl,p,⟨head,af,body,rat⟩,vs,more,rfl,hp,h⟩:=h;split at h
  ·obtain ⟨⟨hz,hm⟩,bv,h⟩:=h;simp only [JL] at hz bv;refine ⟨ZrL Jy (ZiA m) (Zo []) (Xn []) (Yd []),7,false,CxG.of ZI ht ⟨Zkg m,Zkh m,Ziz m,trivial⟩ _ _ _,sM,Tc rfl,wN ?_⟩;simp only [WX] at h;refine ZEH (fun hc=>wN ?_) (fun hc=>wN ?_)
   ·have hc:64<vs.length:=by have hc:(64:Int)<((mvM mvI vs).length:Nat):=hc;rw [Zj3] at hc;omega
    rw [Tj hc] at h;exact h _ rfl
   have hc:¬64<vs.length:=by have hc:¬(64:Int)<((mvM mvI vs).length:Nat):=hc;rw [Zj3] at hc;omega
   rw [Tf hc] at h
   (repeat (refine ⟨rfl,?_⟩;conv=>whnf))
   refine ⟨pl,p,⟨head,af,body,rat⟩,vs,more,rfl,hp,af,rat,rfl,rfl,⟨oM,hm⟩,fun x hx=>?_⟩;rw [hx] at h
   cases x with
   | some ae =>
    obtain ⟨a,e⟩:=ae;have h:=h _ rfl;exact mq109
   | none =>
   simp only [RtK];(conv=>whnf)
   (repeat (refine ⟨rfl,?_⟩;conv=>whnf))
   refine ⟨pl,p,⟨head,af,body,rat⟩,vs,more,rfl,hp,body,rfl,⟨oM,hm⟩,bv,fun y hy=>?_⟩;rw [hy] at h
   cases y with
   | some ae =>
    obtain ⟨a,e⟩:=ae;have h:=h _ rfl;exact mq109
   | none =>
   simp only [RtK];(conv=>whnf)
   (repeat (refine ⟨rfl,?_⟩;conv=>whnf))
   refine ⟨pl,p,⟨head,af,body,rat⟩,vs,more,rfl,hp,⟨by simp only [JL];omega,hm⟩,hx,hy,fun z hz=>?_⟩;have h:=h z hz
   cases z with
   | some ae =>
    obtain ⟨a,e⟩:=ae;exact mq109
   | none =>
   exact mq109
  exact h.elim
 exact h.elim
def ZCQ:Prop:=∀p:Pr,Zeg p=none->ZAB p
def pig:∀(n:Nat) (f:Nat->Nat),(∀i,i<=n->f i<n)->∃i j,i<j/\j<=n/\f i=f j
 | 0,f,h=>absurd (h 0 (Tr _)) oM
 | n+1,f,h=>by
  by_cases hx:∃i,i<=n/\f i=f (n+1)
  ·obtain ⟨i,h1,h2⟩:=hx;exact ⟨i,n+1,oM,oM,h2⟩
  have ai:∀i,i<=n->f i≠f (n+1):=fun i hi g=>hx ⟨i,hi,g⟩
  have hv:=h (n+1) oM;obtain ⟨i,j,h1,h2,h3⟩:=pig n (fun i=>if f (n+1)<f i then f i - 1 else f i) (fun i hi=>by
   have h1:=h i oM;have h2:=ai i hi;show (if f (n+1)<f i then f i - 1 else f i)<n;split <;> omega)
  refine ⟨i,j,h1,oM,?_⟩;have h4:=ai i oM;have h5:=ai j h2
  change (if f (n+1)<f i then f i - 1 else f i)=(if f (n+1)<f j then f j - 1 else f j) at h3
  split at h3 <;> split at h3 <;> omega
def sN (p:Pr):Nat->Bs->Bs
 | 0,a=>a
 | n+1,a=>sN p n ((YT p a).getD [])
def ZqA (p:Pr):∀(i k:Nat) (a:Bs),sN p (i+k) a=sN p k (sN p i a)
 | 0,k,a=>by rw [Sa];rfl
 | i+1,k,a=>by rw [show i+1+k=(i+k)+1 by omega];exact ZqA p i k _
def ZlI {p:Pr}:∀{n:Nat} {a:Bs},U7 p n a=none->∀i,i<n->(YT p (sN p i a)).isSome=true
 | 0,_,_,i,hi=>oM
 | n+1,a,h,i,hi=>by
  simp only [U7] at h;split at h
  ·cases h
  rename_i c hc
  cases i with
  | zero=>simp only [sN,hc];rfl
  | succ i=>simp only [sN,hc];exact ZlI h i oM
def ZqB {p:Pr} {s:Bs}:∀{k n:Nat} {a:Bs},(∀i,i<=k->(YT p (sN p i a)).isSome=true)->sN p (k+1) a=s->k<n->Jk p s n a=true
 | k,0,_,_,_,h=>oM
 | 0,n+1,a,h,hs,_=>by
  obtain ⟨c,hc⟩:=Sv.1 (h 0 oM);simp only [sN] at hc hs;rw [hc] at hs;simp only [Sl] at hs;simp only [Jk,hc];rw [Tj hs]
 | k+1,n+1,a,h,hs,hk=>by
  obtain ⟨c,hc⟩:=Sv.1 (h 0 oM);simp only [sN] at hc;simp only [Jk,hc];split
  ·rfl
  refine ZqB (k:=k) (fun i hi=>?_) ?_ oM
  ·have:=h (i+1) oM;simpa only [sN,hc,Sl] using this
  rw [<- hs];simp only [sN,hc];rfl
def ZfH {p:Pr}:∀{l:List Ty},JV p l=none->∀t∈l,ZgR p t=false
 | [],_,_,h=>by cases h
 | x::l,h,t,ht=>by
  simp only [JV] at h;split at h
  ·cases h
  rename_i hx
  rcases Tt.1 ht with rfl | ht
  ·simpa using hx
  exact ZfH h t ht
def ZxX {p:Pr} {a b:Bs} (h:YT p a=some b):∃(k:Nat) (t:Ty),lkM a (ZsJ p)=some (k:Int)/\p.types[k]?=some t/\t.name=a/\t.kind=1/\t.base=b:=by
 unfold YT at h
 split at h
 ·cases h
 rename_i i hi
 obtain ⟨k,t,rfl,ht,hn⟩:=Zp6 hi;split at h
 ·cases h
 rw [Tl,ht] at h;simp only at h;split at h
 ·rename_i hc;cases h;exact ⟨k,t,hi,ht,hn,hc.1,rfl⟩
 cases h
def ZxY {p:Pr} (h:JV p p.types=none):ZAB p:=fun s=>by
 cases he:ZsK p s with
 | some r=>rfl
 | none =>
 exfalso;have hs:=ZlI he;have yk:∀i,i<=p.types.length->∃(k:Nat) (t:Ty),lkM (sN p i s) (ZsJ p)=some (k:Int)/\p.types[k]?=some t/\t.name=sN p i s:=fun i hi=>by
  obtain ⟨b,hb⟩:=Sv.1 (hs i oM);obtain ⟨k,t,h1,h2,h3,_⟩:=ZxX hb;exact ⟨k,t,h1,h2,h3⟩
 obtain ⟨i,j,h1,h2,h3⟩:=pig p.types.length (fun i=>((lkM (sN p i s) (ZsJ p)).getD 0).toNat) (fun i hi=>by
  obtain ⟨k,t,g1,g2,_⟩:=yk i hi;simp only [g1,Sl,Tl];exact (Ti.1 g2).1)
 obtain ⟨k1,t1,g1,g2,g3⟩:=yk i oM;obtain ⟨k2,t2,q1,q2,q3⟩:=yk j h2;simp only [g1,q1,Sl,Tl] at h3;subst h3;rw [g2] at q2
 cases q2
 have bu:sN p j s=sN p i s:=q3.symm.trans g3;have hr:=ZfH h t1 (TT g2);have:ZgR p t1=true:=by
  unfold ZgR
  rw [g3];refine ZqB (k:=j - i - 1) (fun m hm=>?_) ?_ oM
  ·rw [<- ZqA];exact hs _ oM
  rw [<- ZqA,show i+(j - i - 1+1)=j by omega];exact bu
 rw [this] at hr
 cases hr
def Ztg {p:Pr} (h:Zeg p=none):ZaB p.types Zfy []=none/\Zb9 p p.types=none/\JV p p.types=none:=by
 unfold Zeg at h
 split at h
 ·cases h
 rename_i h1
 split at h
 ·cases h
 rename_i h2
 split at h
 ·cases h
 rename_i h3;exact ⟨h1,h2,h3⟩
def Zun:ZCQ:=fun p h=>ZxY (Ztg h).2.2
inductive On (p:Pr):Bs->Bs->Prop
 | refl (a:Bs):On p a a
 | step {a c b:Bs} (h:YT p a=some c) (k:On p c b):On p a b
def On.trans {p:Pr} {a b c:Bs} (h:On p a b) (k:On p b c):On p a c:=by
 induction h with
 | refl=>exact k
 | step h _ ih=>exact .step h (ih k)
def NZ (x:Flt):Prop:=∀a e,x=some (a,e)->e≠0
def NZ.none:NZ none:=fun a e h=>by cases h
def NZ.mk {a e:Nat} (h:e≠0):NZ (some (a,e)):=fun _ _ g=>by cases g;exact h
mutual
def ZAO (p:Pr) (vs:Vs):∀(e:Ex) (n:Int),NZ (rtE p vs e n)
 | .mk op text num args a,n=>by
  simp only [rtE];split
  ·exact .mk dM
  split
  ·exact .mk dM
  split
  ·exact .mk dM
  exact ZdV p vs args _
def ZdV (p:Pr) (vs:Vs):∀(l:List Ex) (ns:List Int),NZ (UZ p vs l ns)
 | [],_=>.none
 | e::l,[]=>.none
 | e::l,n::ns=>by
  have h:=ZAO p vs e n;simp only [UZ];split
  ·exact mq130
  exact ZdV p vs l ns
end
def ZqC (p:Pr) (vs:Vs) (name:Bs) (args:List Ex) (a:Nat) (hd:Bool):NZ (Zke p vs name args a hd):=by
 unfold Zke
 split
 ·exact .mk dM
 split
 ·exact .none
 split
 ·exact .mk dM
 split
 ·exact .mk dM
 exact ZdV p vs _ _
mutual
def ZAP (p:Pr) (vs:Vs):∀(x:Li),NZ (rtL p vs x)
 | .mk op rel args body a=>by
  simp only [rtL];split
  ·exact ZqC p vs _ _ _ _
  split
  ·have h:=ZdV p vs args [Xt p vs args,Xt p vs args];split
   ·exact mq130
   split
   ·exact .mk dM
   exact .none
  have h:=ZdV p vs args (List.replicate args.length 0);split
  ·exact mq130
  exact Zkj p vs body
def Zkj (p:Pr) (vs:Vs):∀(l:List Li),NZ (Zct p vs l)
 | []=>.none
 | x::l=>by
  have h:=ZAP p vs x;simp only [Zct];split
  ·exact mq130
  exact Zkj p vs l
end
def ZlJ (p:Pr) (kn:List (Bs×Bs)):∀l,NZ (Wh p kn l)
 | []=>.none
 | (.mk op text _ _ a,k)::l=>by
  simp only [Wh];split
  ·exact .mk dM
  exact ZlJ p kn l
def ZdW (p:Pr) (r:Ru) (vs:Vs):NZ (WX p r vs):=by
 unfold WX
 split
 ·exact .mk dM
 have h:=ZqC p vs r.head r.args r.at' true;split
 ·exact mq130
 have h:=Zkj p vs r.body;split
 ·exact mq130
 exact ZlJ p _ _
def ZiB {p:Pr} (h:(Zaw (prU p)).2=0) {r:Ru} (hr:r∈p.rules):Zb7 r.body=true:=by
 have hm:Zeu (prU p)=true:=by
  cases hm:Zeu (prU p) with
  | true=>rfl
  | false=>rw [Zaw,hm] at h;simp at h
 simp only [prU,Zeu,Tm,Tq] at hm;have:=hm.2.2.1 r hr;simp only [XQ,Tm] at this;rw [Xk];exact this.2.2
def ZaG (n:Nat):Zp:=fun args σ K=>match args,σ with
 | [.agg c],⟨[],[],0⟩=>∃pl p,c=(UC pl p).map .d/\(JP n (prU p)/\n<=16777216/\ZbW p<=2097152) /\
   ((Zaw (prU p)).2≠0->K (.ret (.tuple [.d .nilp,.agg [.d (.int .i64 0),.d (.int .i64 (Zaw (prU p)).2)]])) ⟨[],[],0⟩) /\
   ((Zaw (prU p)).2=0->∀a e,orF (Zeg p) (Yx p p.rules)=some (a,e)->K (.ret (.tuple [.d .nilp,.agg [.d (.int .i64 (pl a)),.d (.int .i64 e)]])) ⟨[],[],0⟩) /\
   ((Zaw (prU p)).2=0->orF (Zeg p) (Yx p p.rules)=none->K (.ret (.tuple [.ptr 5 0,.agg [.d (.int .i64 0),.d (.int .i64 0)]])) ⟨ZCI pl p,[],0⟩)
 | _,_=>False
def ZqD (n:Nat):Tbl:=[(20,Zni XV JP Zaw n),(21,Zcs),(22,Zs2),(14,ZaE 2097152),(23,Zcx 2097152)]
def ZqE {n:Nat} (ht:TO w0 nG (ZqD n)):PC w0 nG 13 (ZaG n):=by
 refine Wu ZI mixed (tbl:=ZqD n) ht Tryz.func13 rfl kR kR ?_;intro args σ K h
 unfold ZaG at h
 split at h
 ·obtain ⟨pl,⟨p1,p2,p3⟩,rfl,⟨hc,hn,hz⟩,h1,h2,h3⟩:=h;have hp:BP ⟨p1,p2,p3⟩:=by unfold BP;omega
  have je:=@ZiB ⟨p1,p2,p3⟩;obtain ⟨tx,k,ho⟩:∃s k,Zaw (prU ⟨p1,p2,p3⟩)=(s,k):=⟨_,_,rfl⟩
  rw [ho] at h1 h2 h3 je;simp only at h1 h2 h3 je
  by_cases hk:k=0
  ·subst hk;have h2:=h2 rfl;have h3:=h3 rfl;have je:=@je rfl
   cases hd:Zeg ⟨p1,p2,p3⟩ with
   | none =>
    rw [hd] at h2 h3;simp only [orF] at h2 h3;have ax:OKP ⟨p1,p2,p3⟩:=⟨hp,Zun _ hd⟩
    have yx:∀r∈p3,JL r<=2097152:=fun r hr=>by have:=JT (f:=JL) hr;simp only [ZbW] at hz;omega
    have kx:(p3.map (Zy pl)).length=p3.length:=Td ..;have ic:p3.length<=2097152:=by have:=Zn JL p3;simp only [ZbW] at hz;omega
    cases hX:Yx ⟨p1,p2,p3⟩ p3 with
    | none =>
     have h3:=h3 hX;refine ⟨Zo [(9,⟨[37],[3,6,35,36],fun w σ=>∃j:Nat,w=[.d (.int .i64 j)]/\σ=⟨ZCI pl ⟨p1,p2,p3⟩++[.cells 60 [.d (.int .i64 0),.d (.int .i64 0)]],[],0⟩/\j<=p3.length/\Yx ⟨p1,p2,p3⟩ (p3.drop j)=none,
      fun w _=>match w with | [.d (.int _ j)]=>((p3.length:Int) - j).toNat | _=>0⟩)],Xn [],Yd [],8,false,sM,Tc rfl,?_⟩
     conv=>whnf
     refine ⟨pl,prU ⟨p1,p2,p3⟩,rfl,⟨hc,hn⟩,fun s k he=>?_⟩;rw [ho] at he
     cases he
     conv=>whnf
     refine ⟨pl,⟨p1,p2,p3⟩,rfl,hp,wN ?_⟩;refine ⟨pl,⟨p1,p2,p3⟩,rfl,hp,fun x hx=>?_⟩;rw [hd] at hx;subst hx;(conv=>whnf);refine ⟨⟨0,rfl,rfl,oM,hX⟩,?_⟩
     rintro w σ1 ⟨j,rfl,rfl,hj,ha⟩
     conv=>whnf
     refine ZEH (fun hq=>?_) (fun hq=>?_);rotate_left
     ·have hq:¬(j:Int)<((p3.map (Zy pl)).length:Nat):=hq;rw [Tv oM] at ha;have ha:none=none:=ha;(conv=>whnf);exact h3
     have ab:j<p3.length:=by have hq:(j:Int)<((p3.map (Zy pl)).length:Nat):=hq;omega
     have hr:(p3.map (Zy pl))[(j:Int).toNat]?=some (Zy pl p3[j]):=by rw [Tl,Th,Tb ab];rfl
     have i5:=yx _ (TE ab);have pb:=je (TE ab);rw [Tn ab] at ha;simp only [Yx] at ha;have hμ:((p3.length:Int) - ((j:Int)+1)).toNat<((p3.length:Int) - (j:Int)).toNat:=oM;generalize p3[j]=r at ha hr i5 pb;obtain ⟨r1,r2,r3,r4⟩:=r;(conv=>whnf);refine ⟨_,oM,hr,wN ?_⟩;refine ⟨pl,⟨p1,p2,p3⟩,⟨r1,r2,r3,r4⟩,rfl,rfl,ax,⟨i5,dM⟩,pb,wN ?_⟩;refine ⟨pl,⟨p1,p2,p3⟩,⟨r1,r2,r3,r4⟩,Xq ⟨p1,p2,p3⟩ ⟨r1,r2,r3,r4⟩,false,rfl,ax,⟨i5,dM⟩,pb,fun x hx=>?_⟩;have hnz:=ZdW ⟨p1,p2,p3⟩ ⟨r1,r2,r3,r4⟩ (Xq ⟨p1,p2,p3⟩ ⟨r1,r2,r3,r4⟩);rw [hx] at ha hnz
     cases x with
     | none =>
      conv=>whnf
      exact mq86
     | some ae =>
     obtain ⟨a2,e2⟩:=ae
     cases ha
    | some ae =>
    obtain ⟨a,e⟩:=ae;have h2:=h2 a e hX;refine ⟨Zo [(9,⟨[37],[3,6,35,36],fun w σ=>∃j:Nat,w=[.d (.int .i64 j)]/\σ=⟨ZCI pl ⟨p1,p2,p3⟩++[.cells 60 [.d (.int .i64 0),.d (.int .i64 0)]],[],0⟩/\j<=p3.length/\Yx ⟨p1,p2,p3⟩ (p3.drop j)=some (a,e),
     fun w _=>match w with | [.d (.int _ j)]=>((p3.length:Int) - j).toNat | _=>0⟩)],Xn [],Yd [],0,false,sM,Tc rfl,?_⟩
    conv=>whnf
    refine ⟨pl,prU ⟨p1,p2,p3⟩,rfl,⟨hc,hn⟩,fun s k he=>?_⟩;rw [ho] at he
    cases he
    conv=>whnf
    refine ⟨pl,⟨p1,p2,p3⟩,rfl,hp,wN ?_⟩;refine ⟨pl,⟨p1,p2,p3⟩,rfl,hp,fun x hx=>?_⟩;rw [hd] at hx;subst hx;(conv=>whnf);refine ⟨⟨0,rfl,rfl,oM,hX⟩,?_⟩
    rintro w σ1 ⟨j,rfl,rfl,hj,ha⟩
    conv=>whnf
    refine ZEH (fun hq=>?_) (fun hq=>?_);rotate_left
    ·have hq:¬(j:Int)<((p3.map (Zy pl)).length:Nat):=hq;rw [Tv oM] at ha;have ha:none=some (a,e):=ha
     cases ha
    have ab:j<p3.length:=by have hq:(j:Int)<((p3.map (Zy pl)).length:Nat):=hq;omega
    have hr:(p3.map (Zy pl))[(j:Int).toNat]?=some (Zy pl p3[j]):=by rw [Tl,Th,Tb ab];rfl
    have i5:=yx _ (TE ab);have pb:=je (TE ab);rw [Tn ab] at ha;simp only [Yx] at ha;have hμ:((p3.length:Int) - ((j:Int)+1)).toNat<((p3.length:Int) - (j:Int)).toNat:=oM;generalize p3[j]=r at ha hr i5 pb;obtain ⟨r1,r2,r3,r4⟩:=r;(conv=>whnf);refine ⟨_,oM,hr,wN ?_⟩;refine ⟨pl,⟨p1,p2,p3⟩,⟨r1,r2,r3,r4⟩,rfl,rfl,ax,⟨i5,dM⟩,pb,wN ?_⟩;refine ⟨pl,⟨p1,p2,p3⟩,⟨r1,r2,r3,r4⟩,Xq ⟨p1,p2,p3⟩ ⟨r1,r2,r3,r4⟩,false,rfl,ax,⟨i5,dM⟩,pb,fun x hx=>?_⟩;have hnz:=ZdW ⟨p1,p2,p3⟩ ⟨r1,r2,r3,r4⟩ (Xq ⟨p1,p2,p3⟩ ⟨r1,r2,r3,r4⟩);rw [hx] at ha hnz
    cases x with
    | none =>
     conv=>whnf
     exact mq86
    | some ae =>
    obtain ⟨a2,e2⟩:=ae;have ha:some (a2,e2)=some (a,e):=ha
    cases ha
    conv=>whnf
    refine ZEJ (fun _=>wN ?_) (fun g=>absurd (by have g:(e:Int)=0:=g;omega) (hnz _ _ rfl))
    (repeat (refine ⟨rfl,?_⟩;conv=>whnf))
    exact h2
   | some ae =>
   obtain ⟨a,e⟩:=ae;have h2:=h2 a e (by rw [hd];rfl);refine ⟨Zo [],Xn [],Yd [],0,false,sM,Tc rfl,wN ?_⟩;refine ⟨pl,prU ⟨p1,p2,p3⟩,rfl,⟨hc,hn⟩,fun s k he=>?_⟩;rw [ho] at he
   cases he
   conv=>whnf
   refine ⟨pl,⟨p1,p2,p3⟩,rfl,hp,wN ?_⟩;refine ⟨pl,⟨p1,p2,p3⟩,rfl,hp,fun x hx=>?_⟩;rw [hd] at hx;subst hx;(conv=>whnf);refine ZEJ (fun _=>wN ?_) (fun g=>absurd (by have g:(e:Int)=0:=g;omega) (Zqe hd))
   (repeat (refine ⟨rfl,?_⟩;conv=>whnf))
   exact h2
  have h1:=h1 hk;refine ⟨Zo [],Xn [],Yd [],0,false,sM,Tc rfl,wN ?_⟩;refine ⟨pl,prU ⟨p1,p2,p3⟩,rfl,⟨hc,hn⟩,fun s k he=>?_⟩;rw [ho] at he
  cases he
  conv=>whnf
  refine ZEJ (fun _=>wN ?_) (fun g=>absurd (by have g:(k:Int)=0:=g;omega) hk);exact h1
 exact h.elim
def ZdX (n:Nat):Zp:=fun args σ K=>match args,σ with
 | [.agg c],⟨[],[],0⟩=>∃pl p,c=(UC pl p).map .d/\(JP n (prU p)/\n<=16777216/\ZbW p<=2097152)/\∀a e,Zfz pl p=(a,e)->K (.ret (.tuple [.d (.int .i64 a),.d (.int .i64 e)])) ⟨[],[],0⟩
 | _,_=>False
def Zbq (pl:Pl) (p:Pr):Zfz pl p=if (Zaw (prU p)).2≠0 then ((0:Int),((Zaw (prU p)).2:Int)) else match orF (Zeg p) (Yx p p.rules) with | some (a,e)=>(pl a,(e:Int)) | none=>(0,0):=by
 unfold Zfz
 split
 ·rfl
 cases Zeg p with
 | some ae=>rfl
 | none=>rfl
def Zth {n:Nat}:OKw w0 nG [(13,ZaG n)] 8 (ZdX n):=by
 refine pwo Tryz.func8 fun args σ K h=>?_
 unfold ZdX at h
 split at h
 ·obtain ⟨pl,p,rfl,hc,h⟩:=h;simp only [Zbq] at h;refine pwv [] 0 false ?_;refine ⟨pl,p,rfl,hc,fun g=>?_,fun g a e g2=>?_,fun g g2=>?_⟩
  ·conv=>whnf
   exact h _ _ (by rw [Tj g])
  ·conv=>whnf
   exact h _ _ (by rw [Tf (fun q=>q g),g2])
  conv=>whnf
  exact h _ _ (by rw [Tf (fun q=>q g),g2])
 exact h.elim
end Go.PM.Lex
end

section
namespace Go.PM.Lex
section
variable {ty:List Ty} {re:List Re} {a b:List Ru}
def Zb1 (x:Bs):∀(n:Nat) (y:Bs),JU ⟨ty,re,a⟩ x n y=JU ⟨ty,re,b⟩ x n y
 | 0,y=>rfl
 | n+1,y=>by
  simp only [JU];rw [show YT ⟨ty,re,a⟩ y=YT ⟨ty,re,b⟩ y from rfl];split
  ·rfl
  split
  ·rfl
  exact Zb1 x n _
def Zns (x y:Bs):Xa ⟨ty,re,a⟩ x y=Xa ⟨ty,re,b⟩ x y:=Zb1 _ _ _
def ZfI:∀(n:Nat) (y:Bs),U7 ⟨ty,re,a⟩ n y=U7 ⟨ty,re,b⟩ n y
 | 0,y=>rfl
 | n+1,y=>by
  simp only [U7];rw [show YT ⟨ty,re,a⟩ y=YT ⟨ty,re,b⟩ y from rfl];split
  ·rfl
  exact ZfI n _
def Zbr (x:Bs):Y0 ⟨ty,re,a⟩ x=Y0 ⟨ty,re,b⟩ x:=by
 unfold Y0 ZsK
 rw [ZfI (a:=a) (b:=b)];rfl
def JW (l:List Fi):ZN ⟨ty,re,a⟩ l=ZN ⟨ty,re,b⟩ l:=by
 unfold ZN
 exact Si fun f _=>Zbr _
def ZfJ (op:Nat) (text:Bs) (k:Nat) (n:Int):Zz ⟨ty,re,a⟩ op text k n=Zz ⟨ty,re,b⟩ op text k n:=by
 unfold Zz
 rw [show Zcb ⟨ty,re,a⟩ text=Zcb ⟨ty,re,b⟩ text from rfl,show Zez ⟨ty,re,a⟩ n=Zez ⟨ty,re,b⟩ n from rfl];split
 ·split
  ·exact JW _
  rfl
 split
 ·split
  ·exact JW _
  rfl
 rfl
def ZlK (vs:Vs) (op:Nat) (text:Bs):Zbm ⟨ty,re,a⟩ vs op text=Zbm ⟨ty,re,b⟩ vs op text:=by
 unfold Zbm
 rw [show Zcb ⟨ty,re,a⟩ text=Zcb ⟨ty,re,b⟩ text from rfl];split
 ·rfl
 split
 ·split
  ·exact Zbr _
  rfl
 rfl
def ZiC (vs:Vs) (e:Ex):Zqf ⟨ty,re,a⟩ vs e=Zqf ⟨ty,re,b⟩ vs e:=by
 obtain ⟨op,text,_,_,_⟩:=e;exact ZlK ..
def ZfK (vs:Vs) (l:List Ex):Xt ⟨ty,re,a⟩ vs l=Xt ⟨ty,re,b⟩ vs l:=by
 unfold Xt
 split
 ·rw [ZiC (a:=a) (b:=b),ZiC (a:=a) (b:=b)]
 rfl
def ZdY (s:Bs) (n:Nat):YM ⟨ty,re,a⟩ s n=YM ⟨ty,re,b⟩ s n:=by
 unfold YM
 rw [show UD ⟨ty,re,a⟩=UD ⟨ty,re,b⟩ from rfl];split
 ·rfl
 rw [show (⟨ty,re,a⟩:Pr).rels=(⟨ty,re,b⟩:Pr).rels from rfl];split
 ·rfl
 split
 ·exact JW _
 rfl
mutual
def Zti:∀(e:Ex) (n:Int) (s:VS),gvE ⟨ty,re,a⟩ e n s=gvE ⟨ty,re,b⟩ e n s
 | .mk op text num args at',n,s=>by
  simp only [gvE];rw [ZfJ (a:=a) (b:=b),Vw args]
def Vw:∀(l:List Ex) (ns:List Int) (s:VS),gvEs ⟨ty,re,a⟩ l ns s=gvEs ⟨ty,re,b⟩ l ns s
 | [],_,_=>rfl
 | e::l,[],_=>rfl
 | e::l,n::ns,s=>by simp only [gvEs];rw [Zti e,Vw l]
end
mutual
def Ztj:∀(x:Li) (s:VS),gvL ⟨ty,re,a⟩ x s=gvL ⟨ty,re,b⟩ x s
 | .mk op rel args body at',s=>by
  simp only [gvL];rw [ZdY (a:=a) (b:=b),ZfK (a:=a) (b:=b),Vw (a:=a) (b:=b),Vw (a:=a) (b:=b),Vw (a:=a) (b:=b),ZdZ body]
def ZdZ:∀(l:List Li) (s:VS),gvLs ⟨ty,re,a⟩ l s=gvLs ⟨ty,re,b⟩ l s
 | [],_=>rfl
 | x::l,s=>by simp only [gvLs];rw [Ztj x,ZdZ l]
end
def Znt (r:Ru) (v:Vs):XR ⟨ty,re,a⟩ r v=XR ⟨ty,re,b⟩ r v:=by
 unfold XR
 rw [ZdY (a:=a) (b:=b),Vw (a:=a) (b:=b),ZdZ (a:=a) (b:=b)]
def Zd0 (r:Ru):∀(n:Nat) (v:Vs),YD ⟨ty,re,a⟩ r n v=YD ⟨ty,re,b⟩ r n v
 | 0,_=>rfl
 | n+1,v=>by
  simp only [YD];rw [Znt (a:=a) (b:=b),Zd0 r n]
def ZiD (r:Ru):Xq ⟨ty,re,a⟩ r=Xq ⟨ty,re,b⟩ r:=by unfold Xq;rw [Zd0 (a:=a) (b:=b)]
mutual
def Ztk (vs:Vs):∀(e:Ex) (n:Int),rtE ⟨ty,re,a⟩ vs e n=rtE ⟨ty,re,b⟩ vs e n
 | .mk op text num args at',n=>by
  simp only [rtE];rw [ZlK (a:=a) (b:=b),ZfJ (a:=a) (b:=b),UF vs args];rfl
def UF (vs:Vs):∀(l:List Ex) (ns:List Int),UZ ⟨ty,re,a⟩ vs l ns=UZ ⟨ty,re,b⟩ vs l ns
 | [],_=>rfl
 | e::l,[]=>rfl
 | e::l,n::ns=>by simp only [UZ];rw [Ztk vs e,UF vs l]
end
def ZiE (vs:Vs) (s:Bs) (l:List Ex) (at':Nat) (hd:Bool):Zke ⟨ty,re,a⟩ vs s l at' hd=Zke ⟨ty,re,b⟩ vs s l at' hd:=by
 unfold Zke
 rw [ZdY (a:=a) (b:=b),UF (a:=a) (b:=b)];rfl
mutual
def Ztl (vs:Vs):∀(x:Li),rtL ⟨ty,re,a⟩ vs x=rtL ⟨ty,re,b⟩ vs x
 | .mk op rel args body at'=>by
  simp only [rtL];rw [ZiE (a:=a) (b:=b),ZfK (a:=a) (b:=b),UF (a:=a) (b:=b),UF (a:=a) (b:=b),Zd1 vs body]
def Zd1 (vs:Vs):∀(l:List Li),Zct ⟨ty,re,a⟩ vs l=Zct ⟨ty,re,b⟩ vs l
 | []=>rfl
 | x::l=>by simp only [Zct];rw [Ztl vs x,Zd1 vs l]
end
def ZiF (op:Nat) (text kind:Bs):Z4 ⟨ty,re,a⟩ op text kind=Z4 ⟨ty,re,b⟩ op text kind:=by
 unfold Z4
 rw [Zbr (a:=a) (b:=b)];rfl
mutual
def Ztm:∀(e:Ex) (kind:Bs),wiE ⟨ty,re,a⟩ e kind=wiE ⟨ty,re,b⟩ e kind
 | .mk op text num args at',kind=>by
  simp only [wiE];rw [ZiF (a:=a) (b:=b),ZaH args]
def ZaH:∀(l:List Ex) (fs:List Fi),U0 ⟨ty,re,a⟩ l fs=U0 ⟨ty,re,b⟩ l fs
 | [],_=>rfl
 | e::l,[]=>rfl
 | e::l,f::fs=>by simp only [U0];rw [Ztm e,ZaH l]
end
def Znu (l:List Li):ZaC ⟨ty,re,a⟩ l=ZaC ⟨ty,re,b⟩ l:=by
 rw [Vv,Vv]
 congr 1
 rw [List.flatMap_def,List.flatMap_def]
 congr 1
 refine Si fun x _=>?_
 obtain ⟨op,rel,args,body,at'⟩:=x;simp only [X1];rw [show Zis ⟨ty,re,a⟩ rel=Zis ⟨ty,re,b⟩ rel from rfl,ZaH (a:=a) (b:=b)]
def ZfL (kn:List (Bs×Bs)):∀l,Wh ⟨ty,re,a⟩ kn l=Wh ⟨ty,re,b⟩ kn l
 | []=>rfl
 | (.mk op text _ _ at',k)::l=>by
  simp only [Wh];rw [show YT ⟨ty,re,a⟩ k=YT ⟨ty,re,b⟩ k from rfl,ZfL kn l];simp only [Zns (a:=a) (b:=b)]
def Znv (r:Ru):Jl ⟨ty,re,a⟩ r=Jl ⟨ty,re,b⟩ r:=by
 unfold Jl
 rw [ZfL (a:=a) (b:=b),Znu (a:=a) (b:=b),ZaH (a:=a) (b:=b)];rfl
def Znw (r:Ru) (vs:Vs):WX ⟨ty,re,a⟩ r vs=WX ⟨ty,re,b⟩ r vs:=by
 unfold WX
 rw [ZiE (a:=a) (b:=b),Zd1 (a:=a) (b:=b),Znv (a:=a) (b:=b)]
def ZqF (t:Ty):Zey ⟨ty,re,a⟩ t=Zey ⟨ty,re,b⟩ t:=rfl
def ZfM:∀l:List Ty,Zb9 ⟨ty,re,a⟩ l=Zb9 ⟨ty,re,b⟩ l
 | []=>rfl
 | t::l=>by simp only [Zb9];rw [ZfM l,ZqF (a:=a) (b:=b)]
def Zd2 (s:Bs):∀(n:Nat) (x:Bs),Jk ⟨ty,re,a⟩ s n x=Jk ⟨ty,re,b⟩ s n x
 | 0,_=>rfl
 | n+1,x=>by
  simp only [Jk];rw [show YT ⟨ty,re,a⟩ x=YT ⟨ty,re,b⟩ x from rfl];split
  ·rfl
  split
  ·rfl
  exact Zd2 s n _
def ZfN:∀l:List Ty,JV ⟨ty,re,a⟩ l=JV ⟨ty,re,b⟩ l
 | []=>rfl
 | t::l=>by
  simp only [JV];rw [ZfN l,show ZgR ⟨ty,re,a⟩ t=ZgR ⟨ty,re,b⟩ t from Zd2 _ _ _]
def ZfO:∀(i:Nat) (l:List Re),Zca ⟨ty,re,a⟩ i l=Zca ⟨ty,re,b⟩ i l
 | _,[]=>rfl
 | i,d::l=>by
  simp only [Zca];rw [ZfO (i+1) l];rfl
def Ztn:Zeg ⟨ty,re,a⟩=Zeg ⟨ty,re,b⟩:=by
 unfold Zeg
 simp only [ZfM (a:=a) (b:=b),ZfN (a:=a) (b:=b),ZfO (a:=a) (b:=b)]
end
def rules_none {p:Pr}:∀{l:List Ru},Yx p l=none↔∀r∈l,WX p r (Xq p r)=none
 | []=>by simp [Yx]
 | r::l=>by
  simp only [Yx,List.forall_mem_cons,<- rules_none (p:=p) (l:=l)]
  cases WX p r (Xq p r) with
  | none=>simp
  | some f=>simp
end Go.PM.Lex
end
