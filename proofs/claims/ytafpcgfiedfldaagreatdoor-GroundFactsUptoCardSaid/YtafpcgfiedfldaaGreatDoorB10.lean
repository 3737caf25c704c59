/- A part of the proof: plain logic, contracts and laws over the given program. -/
import Derived.Test.YtafpcgfiedfldaaGreatDoorB09
set_option linter.unusedVariables false
set_option linter.unusedSimpArgs false
set_option linter.all false
set_option maxRecDepth 100000
set_option maxHeartbeats 16000000
noncomputable section
section
namespace Go.PM.Lex
open Go.Proofs
variable {w0:World} {nG:Nat}
abbrev ZEu (pl:Pl) (r:Ru) (more:Bool):List PV:=[.ptr 1 0,.d (.str r.head),.d (.sl (Ze pl r.args)),.d (.sl (ZQ pl r.body)),.d (.int .i64 (pl r.at')),.mp 2,.d (.bool more)]
abbrev Zbl (pl:Pl) (p:Pr) (r:Ru) (vs:Vs) (more:Bool):List Box:=.cells 119 (ZEu pl r more)::.cells 104 (ZiD pl p 3)::.dmap (mvM mvI vs)::ZiE p
structure OKP (p:Pr):Prop where
 bp:BP p
 ends:ZBd p
def ZaH (body:List PV->Pl->Pr->Ru->Vs->Bool->(PEnd->Vs->Bool->Prop)->Prop):Zo:=fun args σ K=>match args,σ with
 | .ptr 0 0::rest,⟨bx,[],0⟩=>∃pl p r vs more,bx=Zbl pl p r vs more/\OKP p/\body rest pl p r vs more fun pe vs' more'=>K pe ⟨Zbl pl p r vs' more',[],0⟩
 | _,_=>False
def ZdV {body:List PV->Pl->Pr->Ru->Vs->Bool->(PEnd->Vs->Bool->Prop)->Prop} (hb:∀rest pl p r vs more (K K':PEnd->Vs->Bool->Prop),(∀pe v m,K pe v m->K' pe v m)->body rest pl p r vs more K->body rest pl p r vs more K'):Zz (ZaH body):=fun args σ K K' hK h=>by
 unfold ZaH at h |-
 split at h
 ·obtain ⟨pl,p,r,vs,more,h1,h2,h3⟩:=h;exact ⟨pl,p,r,vs,more,h1,h2,hb _ _ _ _ _ _ _ _ (fun pe v m hk=>hK _ _ hk) h3⟩
 exact h.elim
def ZfO {s:Bs} {i:Nat} {v:Int×Int}:∀(l:List Ca) (k:Nat) (m:List (Bs×(Int×Int))),lkM s (Yw i k l m)=some v->lkM s m=some v\/∃(j:Nat) (c:Ca),v=((i:Int),((k+j:Nat):Int))/\l[j]?=some c/\c.name=s
 | [],k,m,h=>.inl h
 | c::l,k,m,h=>by
  rcases ZfO l (k+1) _ h with h | ⟨j,c',h1,h2,h3⟩
  ·split at h
   ·rw [JK] at h;split at h
    ·rename_i e;cases h;exact .inr ⟨0,c,sM,rfl,e.symm⟩
    exact .inl h
   exact .inl h
  exact .inr ⟨j+1,c',by rw [h1];congr 2;omega,by simpa using h2,h3⟩
def ZfP {s:Bs} {v:Int×Int}:∀(l:List Ty) (i:Nat) (m:List (Bs×(Int×Int))),lkM s (JM i l m)=some v->lkM s m=some v\/∃(j k:Nat) (t:Ty) (c:Ca),v=(((i+j:Nat):Int),(k:Int))/\l[j]?=some t/\t.cases[k]?=some c/\c.name=s
 | [],i,m,h=>.inl h
 | t::l,i,m,h=>by
  rcases ZfP l (i+1) _ h with h | ⟨j,k,t',c,h1,h2,h3,h4⟩
  ·rcases ZfO _ _ _ h with h | ⟨j,c,h1,h2,h3⟩
   ·exact .inl h
   exact .inr ⟨0,j,t,c,by rw [h1];simp,rfl,h2,h3⟩
  exact .inr ⟨j+1,k,t',c,by rw [h1];congr 2;omega,by simpa using h2,h3,h4⟩
def ZdW {p:Pr} {s:Bs} {v:Int×Int} (h:lkM s (Xb p)=some v):∃(j k:Nat) (t:Ty) (c:Ca),v=((j:Int),(k:Int))/\p.types[j]?=some t/\t.cases[k]?=some c/\ZiI p s=some (t,c):=by
 rcases ZfP _ _ _ h with h | ⟨j,k,t,c,h1,h2,h3,h4⟩
 ·cases h
 rw [T5] at h1;refine ⟨j,k,t,c,h1,h2,h3,?_⟩;subst h1;simp only [ZiI,h,Tj,h2,h3]
def ZfQ {p:Pr} {s:Bs} (h:lkM s (Xb p)=none):ZiI p s=none:=by simp only [ZiI,h]
def Zqz:Zo:=ZaH fun rest pl p r vs more K=>match rest with
 | [.agg c]=>∃e,c=(ZE pl e).map .d/\∀n,Zza p vs e=n->K (.ret (.d (.int .i64 n))) vs more
 | _=>False
def ZBh:OKw w0 nG [(97,VO)] 171 Zqz:=by
 refine pwo Tryz.func171 fun args σ K h=>?_
 unfold Zqz ZaH at h
 split at h
 ·obtain ⟨pl,p,r,vs,more,rfl,hp,h⟩:=h;split at h
  ·obtain ⟨⟨op,text,num,eargs,ea⟩,rfl,h⟩:=h;simp only [Zza] at h;refine pwv [] 7 false ?_;refine ZFs (fun h1=>?_) (fun h1=>wN ?_)
   ·have h1:op=1:=by have h1:(op:Int)=1:=h1;omega
    subst h1;(conv=>whnf);refine ZFB (fun v hv=>?_) (fun hv=>wN ?_)
    ·rw [ZJ] at hv;obtain ⟨n,hn,rfl⟩:=TD.1 hv;(conv=>whnf);exact h n (by simp [ZeR,hn])
    rw [ZJ,Option.map_eq_none_iff] at hv;exact h (-1) (by simp [ZeR,hv])
   have h1:¬op=1:=fun g=>h1 (by simp only [g];rfl)
   refine ZFs (fun h7=>?_) (fun h7=>?_)
   ·have h7:op=7:=by have h7:(op:Int)=7:=h7;omega
    subst h7;(conv=>whnf);refine ZFB (fun v hv=>?_) (fun hv=>wN ?_)
    ·rw [ZJ] at hv;obtain ⟨n,hn,rfl⟩:=TD.1 hv;obtain ⟨j,k,t,c,rfl,h2,h3,h4⟩:=ZdW hn;have hr:(p.types.map (Zr pl))[(j:Int).toNat]?=some (Zr pl t):=by rw [Tj,Th,h2];rfl
     obtain ⟨t1,t2,t3,t4,t5,t6⟩:=t;(conv=>whnf)
     (repeat (refine ⟨rfl,?_⟩;conv=>whnf))
     refine ⟨dM,dM,wN ?_⟩;refine ⟨_,oM,hr,wN ?_⟩;refine ⟨pl,p,rfl,hp.bp,hp.ends,fun n hn=>wN ?_⟩
     (repeat (refine ⟨rfl,?_⟩;conv=>whnf))
     exact h n (by simp only [ZeR];rw [Tf dM,Tk trivial,h4];exact hn)
    rw [ZJ,Option.map_eq_none_iff] at hv
    (repeat (refine ⟨rfl,?_⟩;conv=>whnf))
    exact h (-1) (by simp [ZeR,ZfQ hv])
   have h7:¬op=7:=fun g=>h7 (by simp only [g];rfl)
   repeat' ((conv=>whnf);refine ZFs (fun hc=>?_) (fun hc=>?_))
   all_goals (conv=>whnf)
   all_goals first
    | (exfalso;omega)
    | (refine h _ ?_
       unfold ZeR
       rw [Tf h1,Tf h7]
       first
        | rw [Tk oM]
        | rw [Tf oM,Tk oM]
        | rw [Tf oM,Tf oM])
  exact h.elim
 exact h.elim
def optK.int {k:Bs} {m:List (Bs×Int)} {A:MV->Prop} (h:A (mvI ((lkM k m).getD 0))):optK (lkM k (mvM mvI m)) A (A (mvI 0)):=by
 rw [ZJ]
 cases hk:lkM k m with
 | none=>rw [hk] at h;exact h
 | some b=>rw [hk] at h;exact h
abbrev zTy:List PV:=[.d (.int .u8 0),.d (.str []),.d (.str []),.d (.sl []),.d (.sl []),.d (.int .i64 0)]
def ZiL (p:Pr) (n:Int) (t:Ty):Bool:=decide (t.kind=2) && (decide (0<=n) && decide ((lkM t.name (JN p)).getD 0=n))
def ZkB:Zo:=ZaH fun rest pl p r vs more K=>match rest with
 | [.d (.int .i64 n)]=>(∀t,Zg7 p n=some t->K (.ret (.tuple [.agg ((Zr pl t).map .d),.d (.bool true)])) vs more)/\(Zg7 p n=none->K (.ret (.tuple [.agg zTy,.d (.bool false)])) vs more)
 | _=>False
def ZBi:PC w0 nG 170 ZkB:=by
 refine pwe Tryz.func170 fun args σ K h=>?_
 unfold ZkB ZaH at h
 split at h
 ·obtain ⟨pl,p,r,vs,more,rfl,hp,h⟩:=h;split at h
  ·rename_i n
   obtain ⟨hs,hn⟩:=h;have hlen:=hp.bp.len;have hl:(p.types.map (Zr pl)).length=p.types.length:=Td ..;refine pwu [(2,⟨[17],[0,1,4,15,16],fun w σ=>∃j:Nat,w=[.d (.int .i64 j)]/\σ=⟨Zbl pl p r vs more++[.cells 41 [.d (.int .u8 0),.d (.str []),.d (.str []),.sl 0 58 [],.sl 1 44 [],.d (.int .i64 0)]],[1,0],2⟩/\j<=p.types.length/\(p.types.drop j).find? (ZiL p n)=Zg7 p n,
    fun w _=>match w with | [.d (.int _ j)]=>((p.types.length:Int) - j).toNat | _=>0⟩)] 7 false ?_
   conv=>whnf
   refine ⟨⟨0,rfl,rfl,oM,rfl⟩,?_⟩
   rintro w σ1 ⟨j,rfl,rfl,hj,ha⟩
   conv=>whnf
   refine ZFs (fun hc=>?_) (fun hc=>?_);rotate_left
   ·conv=>whnf
    rw [Tr oM] at ha;exact hn ha.symm
   have aa:j<p.types.length:=oM;rw [Tm aa,List.find?_cons] at ha;have hr:(p.types.map (Zr pl))[(j:Int).toNat]?=some (Zr pl p.types[j]):=by rw [Tj,Th,Ta aa];rfl
   generalize p.types[j]=t at ha hr;obtain ⟨t1,t2,t3,t4,t5,t6⟩:=t;have hμ:((p.types.length:Int) - ((j:Int)+1)).toNat<((p.types.length:Int) - (j:Int)).toNat:=oM;have yes:ZiL p n ⟨t1,t2,t3,t4,t5,t6⟩=true->K (.ret (.tuple [.agg ((Zr pl ⟨t1,t2,t3,t4,t5,t6⟩).map .d),.d (.bool true)])) ⟨Zbl pl p r vs more,[],0⟩:=fun g=>by
    rw [g] at ha;exact hs _ ha.symm
   have no:ZiL p n ⟨t1,t2,t3,t4,t5,t6⟩=false->(p.types.drop (j+1)).find? (ZiL p n)=Zg7 p n:=fun g=>by rw [g] at ha;exact ha
   clear ha hs hn
   conv=>whnf
   refine ⟨_,oM,hr,wN ?_⟩;refine ZFs (fun hk=>?_) (fun hk=>?_);rotate_left
   ·have hk:¬t1=2:=fun g=>hk (by simp only [g];rfl)
    conv=>whnf
    refine Zi ?_;exact ⟨⟨j+1,rfl,rfl,oM,no (by unfold ZiL;rw [decide_eq_false hk];rfl)⟩,hμ⟩
   have hk:t1=2:=by have hk:(t1:Int)=2:=hk;omega
   conv=>whnf
   refine ZFs (fun h0=>?_) (fun h0=>?_);rotate_left
   ·conv=>whnf
    refine Zi ?_;exact ⟨⟨j+1,rfl,rfl,oM,no (by unfold ZiL;rw [decide_eq_false h0,TU,Bool.and_false])⟩,hμ⟩
   conv=>whnf
   refine optK.int (wN ?_);refine ZFs (fun he=>wN ?_) (fun he=>wN ?_)
   ·exact yes (by unfold ZiL;rw [Sa hk,Sa h0,Sa he];rfl)
   refine Zi ?_;exact ⟨⟨j+1,rfl,rfl,oM,no (by unfold ZiL;rw [decide_eq_false he,Bool.and_false,Bool.and_false])⟩,hμ⟩
  exact h.elim
 exact h.elim
def Zl0 (p:Pr) (n:Int):Ex->List Int
 | .mk op text _ args _=>ZK p op text args.length n
def Zcf:Ex->Nat
 | .mk _ _ _ args _=>args.length
def ZdX:Zo:=ZaH fun rest pl p r vs more K=>match rest with
 | [.agg c,.d (.int .i64 n)]=>∃e,c=(ZE pl e).map .d/\Zcf e<=2097152/\∀l b,Zl0 p n e=l->decide (l.length=Zcf e)=b->K (.ret (.tuple [.d (.sl (Vn l)),.d (.bool b)])) vs more
 | _=>False
def ZqA (l:List Int):(Vn l).length=l.length:=Td ..
def Ztu (ht:TO w0 nG [(169,Zat),(170,ZkB)]):PC w0 nG 98 ZdX:=by
 refine pwt ht Tryz.func98 fun args σ K h=>?_
 unfold ZdX ZaH at h
 split at h
 ·obtain ⟨pl,p,r,vs,more,rfl,hp,h⟩:=h;split at h
  ·rename_i n
   obtain ⟨⟨op,text,num,eargs,ea⟩,rfl,ly,h⟩:=h;simp only [Zl0,Zcf] at h ly;have aj:(Ze pl eargs).length=eargs.length:=by rw [Zb,Td]
   have fin:∀l:List Int,ZK p op text eargs.length n=l->K (.ret (.tuple [.d (.sl (Vn l)),.d (.bool (decide (((Vn l).length:Int)=((Ze pl eargs).length:Int))))])) ⟨Zbl pl p r vs more,[],0⟩:=fun l hl =>
    h l _ hl (by rw [ZqA,aj];exact decide_eq_decide.2 oM)
   clear h
   refine pwv [] 7 false ?_;refine ZFs (fun h7=>?_) (fun h7=>wN ?_)
   ·have h7:op=7:=by have h7:(op:Int)=7:=h7;omega
    subst h7;(conv=>whnf);refine ZFB (fun v hv=>?_) (fun hv=>wN ?_)
    ·rw [ZJ] at hv;obtain ⟨m,hn,rfl⟩:=TD.1 hv;obtain ⟨j,k,t,c,rfl,h2,h3,h4⟩:=ZdW hn;have ot:=(hp.bp.ty (TW h2)).2.2 c (TW h3);have hr:(p.types.map (Zr pl))[(j:Int).toNat]?=some (Zr pl t):=by rw [Tj,Th,h2];rfl
     have dc:(t.cases.map Zt)[(k:Int).toNat]?=some (Zt c):=by rw [Tj,Th,h3];rfl
     obtain ⟨t1,t2,t3,t4,t5,t6⟩:=t;obtain ⟨c1,c2⟩:=c;(conv=>whnf)
     (repeat (refine ⟨rfl,?_⟩;conv=>whnf))
     refine ⟨dM,dM,wN ?_⟩;refine ⟨_,oM,hr,wN ?_⟩;refine ⟨dM,dM,wN ?_⟩;refine ⟨_,oM,dc,wN ?_⟩;refine ⟨pl,p,rfl,hp.bp,c2,rfl,⟨hp.ends,ot⟩,wN ?_⟩
     (repeat (refine ⟨rfl,?_⟩;conv=>whnf))
     exact fin _ (by simp [ZK,h4])
    rw [ZJ,Option.map_eq_none_iff] at hv
    (repeat (refine ⟨rfl,?_⟩;conv=>whnf))
    exact fin [] (by simp [ZK,ZfQ hv])
   have h7:¬op=7:=fun g=>h7 (by simp only [g];rfl)
   refine ZFs (fun h6=>?_) (fun h6=>wN ?_)
   ·have h6:op=6:=by have h6:(op:Int)=6:=h6;omega
    subst h6;(conv=>whnf);refine ⟨pl,p,r,vs,more,rfl,hp,fun t ht=>wN ?_,fun ht=>wN ?_⟩
    ·obtain ⟨t1,t2,t3,t4,t5,t6⟩:=t;have dy:=(hp.bp.ty (List.mem_of_find?_eq_some ht)).1;refine ⟨pl,p,rfl,hp.bp,t4,rfl,⟨hp.ends,dy⟩,wN ?_⟩
     (repeat (refine ⟨rfl,?_⟩;conv=>whnf))
     exact fin _ (by simp [ZK,ht])
    exact fin [] (by simp [ZK,ht])
   have h6:¬op=6:=fun g=>h6 (by simp only [g];rfl)
   refine ZFs (fun hc=>?_) (fun hc=>?_)
   ·have hc:op=20:=by have hc:(op:Int)=20:=hc;omega
    subst hc;(conv=>whnf);exact fin [1,1] (by simp [ZK])
   have h20:¬op=20:=fun g=>hc (by simp only [g];rfl)
   repeat' ((conv=>whnf);refine ZFs (fun hc=>?_) (fun hc=>?_))
   all_goals (conv=>whnf)
   all_goals try (exfalso;omega)
   all_goals try
    first
    | (refine fin [1] ?_;unfold ZK;rw [Tf h7,Tf h6,Tf h20,Tk oM];done)
    | (refine fin [1,0,0] ?_;unfold ZK;rw [Tf h7,Tf h6,Tf h20,Tf oM,Tk oM];done)
   all_goals
    refine ⟨rfl,dM,by show (Ze pl eargs).length * 1<=_;omega,by show (Ze pl eargs).length * 8<=_;omega,wN ?_⟩;rw [show List.replicate (Ze pl eargs).length [D.int .i64 0]=Vn (List.replicate eargs.length 0) by rw [Vn,List.map_replicate,aj]];exact fin _ (by unfold ZK;rw [Tf h7,Tf h6,Tf h20,Tf oM,Tf oM])
  exact h.elim
 exact h.elim
def Zx4 (m:Nat):Zo:=ZaH fun rest pl p r vs more K=>match rest with
 | [.agg c,.d (.int .i64 n)]=>∃e,c=(ZE pl e).map .d/\(szE e<=m/\m<=2097152)/\∀v b,gvE p e n (vs,more)=(v,b)->K (.ret (.tuple [])) v b
 | _=>False
def Zaw (p:Pr) (op:Nat) (text:Bs) (k:Nat) (n:Int):List Int:=if (ZK p op text k n).length=k then ZK p op text k n else List.replicate k (-1)
def ZiM (p:Pr) (op:Nat) (text:Bs) (k:Nat) (n:Int):(Zaw p op text k n).length=k:=by unfold Zaw;split <;> simp [*]
def ZBj {m:Nat}:OKw w0 nG [(46,spB Zx4 m),(98,ZdX)] 46 (Zx4 m):=by
 refine pwo Tryz.func46 fun args σ K h=>?_
 unfold Zx4 ZaH at h
 split at h
 ·obtain ⟨pl,p,r,vs,more,rfl,hp,h⟩:=h;split at h
  ·rename_i n
   obtain ⟨⟨op,text,num,eargs,ea⟩,rfl,⟨hz,hm⟩,h⟩:=h;simp only [szE,Yv] at hz;have ly:=Zp szE eargs;have aj:(Ze pl eargs).length=eargs.length:=by rw [Zb,Td]
   refine pwu [(8,⟨[63],[0,8,9,61,62],fun w σ=>∃(j:Nat) (v:Vs) (b:Bool),w=[.d (.int .i64 j)]/\σ=⟨Zbl pl p r v b++[.cells 50 ((ZE pl (.mk op text num eargs ea)).map .d)],[],0⟩/\j<=eargs.length /\
     Zbk p (eargs.drop j) ((Zaw p op text eargs.length n).drop j) (v,b)=Zbk p eargs (Zaw p op text eargs.length n) (vs,more),
    fun w _=>match w with | [.d (.int _ j)]=>((eargs.length:Int) - j).toNat | _=>0⟩)] 7 false ?_
   conv=>whnf
   refine ZFs (fun h1=>?_) (fun h1=>wN ?_)
   ·have h1:op=1:=by have h1:(op:Int)=1:=h1;omega
    subst h1;have h:=h (Zx3 text n (vs,more)).1 (Zx3 text n (vs,more)).2 (by simp [gvE]);have yes:((lkM text vs).isNone=true\/((lkM text vs).getD 0=-1/\n≠-1))->∀b,(more || decide (n≠-1))=b->K (.ret (.tuple [])) ⟨.cells 119 (ZEu pl r b)::.cells 104 (ZiD pl p 3)::.dmap (Yo text (mvI n) (mvM mvI vs))::ZiE p,[],0⟩:=fun g b hb=>by
     simp only [Zx3] at h;rw [Tk g,hb] at h;rw [Wy];exact h
    have no:¬((lkM text vs).isNone=true\/((lkM text vs).getD 0=-1/\n≠-1))->K (.ret (.tuple [])) ⟨Zbl pl p r vs more,[],0⟩:=fun g=>by
     simp only [Zx3] at h;rw [Tf g] at h;exact h
    clear h
    conv=>whnf
    refine ZFB (fun v hv=>?_) (fun hv=>wN ?_)
    ·rw [ZJ] at hv;obtain ⟨old,mn,rfl⟩:=TD.1 hv;rw [mn] at yes no;(conv=>whnf);refine ZFs (fun ho=>wN ?_) (fun ho=>wN ?_)
     ·refine ZFv (fun hn=>wN ?_) (fun hn=>wN ?_)
      ·have yes:=yes (.inr ⟨ho,hn⟩);exact mq134
      exact no (by simp [hn])
     exact no (by simp [show ¬old=-1 from ho])
    rw [ZJ,Option.map_eq_none_iff] at hv;have yes:=yes (.inl (by rw [hv];rfl));exact mq134
   have h1:¬op=1:=fun g=>h1 (by simp only [g];rfl)
   have h:=fun v b (g:Zbk p eargs (Zaw p op text eargs.length n) (vs,more)=(v,b))=>h v b (by simp only [gvE];rw [Tf h1];exact g)
   refine ⟨pl,p,r,vs,more,rfl,hp,.mk op text num eargs ea,rfl,by show eargs.length<=_;omega,fun l b hl hb=>?_⟩;simp only [Zl0,Zcf] at hl hb
   cases b with
   | true =>
    have hL:Zaw p op text eargs.length n=l:=by unfold Zaw;rw [hl,Tk (Sr hb)]
    conv=>whnf
    refine ⟨⟨0,vs,more,rfl,rfl,oM,rfl⟩,?_⟩
    rintro w σ1 ⟨j,v,b,rfl,rfl,hj,ha⟩
    conv=>whnf
    refine ZFs (fun hc=>?_) (fun hc=>?_);rotate_left
    ·conv=>whnf
     rw [Tr oM] at ha;exact h v b ha.symm
    have aa:j<eargs.length:=oM;have aq:j<(Zaw p op text eargs.length n).length:=by rw [ZiM];exact aa
    rw [Tm aa,Tm aq] at ha;simp only [Zbk] at ha;have hr:(Ze pl eargs)[(j:Int).toNat]?=some (ZE pl eargs[j]):=by rw [Zb,Tj,Th,Ta aa];rfl
    have dw:=Zs szE eargs j aa;have dc:(Vn l)[(j:Int).toNat]?=some [.int .i64 (Zaw p op text eargs.length n)[j]]:=by
     rw [Vn,Tj,Th,<- hL,Ta aq];rfl
    generalize (Zaw p op text eargs.length n)[j]=y at ha dc;generalize eargs[j]=x at ha hr dw;obtain ⟨x1,x2,x3,x4,x5⟩:=x;have hμ:((eargs.length:Int) - ((j:Int)+1)).toNat<((eargs.length:Int) - (j:Int)).toNat:=oM;(conv=>whnf);refine ⟨_,oM,hr,wN ?_⟩;refine ⟨_,oM,dc,wN ?_⟩;exact mq96
   | false =>
   have hL:Zaw p op text eargs.length n=List.replicate eargs.length (-1):=by unfold Zaw;rw [hl,Tf (of_decide_eq_false hb)]
   conv=>whnf
   refine ⟨⟨0,vs,more,rfl,rfl,oM,rfl⟩,?_⟩
   rintro w σ1 ⟨j,v,b,rfl,rfl,hj,ha⟩
   conv=>whnf
   refine ZFs (fun hc=>?_) (fun hc=>?_);rotate_left
   ·conv=>whnf
    rw [Tr oM] at ha;exact h v b ha.symm
   have aa:j<eargs.length:=oM;have aq:j<(Zaw p op text eargs.length n).length:=by rw [ZiM];exact aa
   rw [Tm aa,Tm aq] at ha;simp only [Zbk] at ha;have hr:(Ze pl eargs)[(j:Int).toNat]?=some (ZE pl eargs[j]):=by rw [Zb,Tj,Th,Ta aa];rfl
   have dw:=Zs szE eargs j aa;have hy:(Zaw p op text eargs.length n)[j]=-1:=by simp only [hL,List.getElem_replicate]
   rw [hy] at ha;generalize eargs[j]=x at ha hr dw;obtain ⟨x1,x2,x3,x4,x5⟩:=x;have hμ:((eargs.length:Int) - ((j:Int)+1)).toNat<((eargs.length:Int) - (j:Int)).toNat:=oM;(conv=>whnf);refine ⟨_,oM,hr,wN ?_⟩;exact mq96
  exact h.elim
 exact h.elim
def ZdY:Zo:=ZaH fun rest pl p r vs more K=>match rest with
 | [.agg c]=>∃op rel a b args body at',c=(YT pl (.mk op rel (a::b::args) body at')).map .d/\∀n,Jd p vs (a::b::args)=n->K (.ret (.d (.int .i64 n))) vs more
 | _=>False
def Ztw:OKw w0 nG [(171,Zqz)] 99 ZdY:=by
 refine pwo Tryz.func99 fun args σ K h=>?_
 unfold ZdY ZaH at h
 split at h
 ·obtain ⟨pl,p,r,vs,more,rfl,hp,h⟩:=h;split at h
  ·obtain ⟨op,rel,⟨a1,a2,a3,a4,a5⟩,⟨b1,b2,b3,b4,b5⟩,args,body,at',rfl,h⟩:=h;simp only [Jd] at h;refine pwv [] 7 false ?_;refine ⟨ZE pl (.mk a1 a2 a3 a4 a5),dM,rfl,wN ?_⟩;refine ⟨pl,p,r,vs,more,rfl,hp,.mk a1 a2 a3 a4 a5,rfl,fun n hn=>wN ?_⟩;rw [hn] at h;refine ZFv (fun hc=>wN ?_) (fun hc=>wN ?_)
   ·exact h n (by rw [Tk hc])
   refine ⟨ZE pl (.mk b1 b2 b3 b4 b5),dM,rfl,wN ?_⟩;refine ⟨pl,p,r,vs,more,rfl,hp,.mk b1 b2 b3 b4 b5,rfl,fun n2 ip=>wN ?_⟩;exact h n2 (by rw [Tf (fun g=>g hc)];exact ip)
  exact h.elim
 exact h.elim
def RtK (pl:Pl) (K:PEnd->Vs->Bool->Prop) (vs:Vs) (more:Bool):Flt->Prop
 | none=>K (.ret (.tuple [])) vs more
 | some (a,e)=>K (.panic (.iface 53 (.agg [.d (.int .i64 (pl a)),.d (.int .i64 e)]))) vs more
def Zg8 {pl:Pl} {K K':PEnd->Vs->Bool->Prop} (hK:∀pe v m,K pe v m->K' pe v m) {vs:Vs} {more:Bool} {x:Flt} (h:RtK pl K vs more x):RtK pl K' vs more x:=by
 cases x with
 | none=>exact hK _ _ _ h
 | some ae=>exact hK _ _ _ h
def Zx5 (m:Nat):Zo:=ZaH fun rest pl p r vs more K=>match rest with
 | [.agg c,.d (.int .i64 n)]=>∃e,c=(ZE pl e).map .d/\(szE e<=m/\m<=2097152)/\∀x,rtE p vs e n=x->RtK pl K vs more x
 | _=>False
def ZuB (m:Nat):Tbl:=[(100,spB Zx5 m),(171,Zqz),(98,ZdX),(170,ZkB)]
abbrev Zx6 (a e:Int):PV:=.iface 53 (.agg [.d (.int .i64 a),.d (.int .i64 e)])
def ZuC {m:Nat} (ht:TO w0 nG (ZuB m)):PC w0 nG 100 (Zx5 m):=by
 refine Zo2 Zy mixed (tbl:=ZuB m) ht Tryz.func100 rfl kR kR ?_;intro args σ K h
 unfold Zx5 ZaH at h
 split at h
 ·obtain ⟨pl,p,r,vs,more,rfl,hp,h⟩:=h;split at h
  ·rename_i n
   obtain ⟨⟨op,text,num,eargs,ea⟩,rfl,⟨hz,hm⟩,h⟩:=h;simp only [szE,Yv] at hz;have ly:=Zp szE eargs;have aj:(Ze pl eargs).length=eargs.length:=by rw [Zb,Td]
   obtain ⟨x,hx⟩:∃x,rtE p vs (.mk op text num eargs ea) n=x:=⟨_,rfl⟩
   have h:=h x hx;refine ⟨Zj [(14,⟨[101],[0,7,99,100],fun w σ=>∃(j:Nat) (c1 c2 c3 c4 c5 c6 d1 d2:D),w=[.d (.int .i64 j)]/\σ=⟨Zbl pl p r vs more++[.cells 50 ((ZE pl (.mk op text num eargs ea)).map .d),.cells 41 [.d c1,.d c2,.d c3,.d c4,.d c5,.d c6],.cells 109 [.d d1,.d d2]],[],0⟩/\j<=eargs.length /\
     (ZK p op text eargs.length n).length=eargs.length/\ZaF p vs (eargs.drop j) ((ZK p op text eargs.length n).drop j)=x,
    fun w _=>match w with | [.d (.int _ j)]=>((eargs.length:Int) - j).toNat | _=>0⟩)],Xo [],Ye [],Ye [],Ye [],Zvd [(4,([0,2,4,6,7,8,10],fun w σ=>∃c1 c2 c3 c4 c5 c6:D,w=[.ptr 0 0,.d (.int .i64 n),.ptr 7 0,.d (.int .i64 (ZeR p vs op text)),.d (.sl (Vn (ZK p op text eargs.length n))),.d (.bool (decide ((ZK p op text eargs.length n).length=eargs.length))),.d (.bool (Zg7 p n).isSome)] /\
     σ=⟨Zbl pl p r vs more++[.cells 50 ((ZE pl (.mk op text num eargs ea)).map .d),.cells 41 [.d c1,.d c2,.d c3,.d c4,.d c5,.d c6]],[],0⟩)),
    (5,([0,2,4,6,7,8,10,12],fun w σ=>∃c1 c2 c3 c4 c5 c6 d1 d2:D,w=[.ptr 0 0,.d (.int .i64 n),.ptr 7 0,.d (.int .i64 (ZeR p vs op text)),.d (.sl (Vn (ZK p op text eargs.length n))),.d (.bool (decide ((ZK p op text eargs.length n).length=eargs.length))),.d (.bool (Zg7 p n).isSome),.d (.bool (lkM text (Xb p)).isSome)] /\
     σ=⟨Zbl pl p r vs more++[.cells 50 ((ZE pl (.mk op text num eargs ea)).map .d),.cells 41 [.d c1,.d c2,.d c3,.d c4,.d c5,.d c6],.cells 109 [.d d1,.d d2]],[],0⟩)),
    (13,([0,4,7],fun w σ=>∃c1 c2 c3 c4 c5 c6 d1 d2:D,w=[.ptr 0 0,.ptr 7 0,.d (.sl (Vn (ZK p op text eargs.length n)))] /\
     σ=⟨Zbl pl p r vs more++[.cells 50 ((ZE pl (.mk op text num eargs ea)).map .d),.cells 41 [.d c1,.d c2,.d c3,.d c4,.d c5,.d c6],.cells 109 [.d d1,.d d2]],[],0⟩/\(ZK p op text eargs.length n).length=eargs.length /\
     ZaF p vs eargs (ZK p op text eargs.length n)=x))],7,false,sM,Tc rfl,?_⟩
   conv=>whnf
   refine ⟨pl,p,r,vs,more,rfl,hp,.mk op text num eargs ea,rfl,fun own jq=>?_⟩;simp only [Zza] at jq;subst jq;(conv=>whnf);refine ⟨pl,p,r,vs,more,rfl,hp,.mk op text num eargs ea,rfl,by show eargs.length<=_;omega,fun l ok hl av=>?_⟩;simp only [Zl0,Zcf] at hl av;subst hl av;(conv=>whnf);refine ⟨?_,?_⟩
   ·refine ⟨pl,p,r,vs,more,rfl,hp,fun t uv=>wN ?_,fun uv=>wN ?_⟩
    ·obtain ⟨t1,t2,t3,t4,t5,t6⟩:=t;exact ⟨_,_,_,_,_,_,by rw [uv];rfl,rfl⟩
    exact ⟨_,_,_,_,_,_,by rw [uv];rfl,rfl⟩
   rintro w σ1 ⟨c1,c2,c3,c4,c5,c6,rfl,rfl⟩
   conv=>whnf
   refine ⟨wN ?_,?_⟩
   ·refine ZFB (fun v hv=>?_) (fun hv=>wN ?_)
    ·rw [ZJ] at hv;obtain ⟨ij,i7,rfl⟩:=TD.1 hv;obtain ⟨i,k⟩:=ij;(conv=>whnf)
     (repeat (refine ⟨rfl,?_⟩;conv=>whnf))
     exact ⟨_,_,_,_,_,_,_,_,by rw [i7];rfl,rfl⟩
    rw [ZJ,Option.map_eq_none_iff] at hv
    (repeat (refine ⟨rfl,?_⟩;conv=>whnf))
    exact ⟨_,_,_,_,_,_,_,_,by rw [hv];rfl,rfl⟩
   rintro w σ1 ⟨c1,c2,c3,c4,c5,c6,d1,d2,rfl,rfl⟩
   conv=>whnf
   refine ⟨?_,?_⟩
   ·have eok : (op = 7 -> (lkM text (Xb p)).isSome = true) -> ¬ ((ZeR p vs op text ≠ -1 /\ n ≠ -1 /\ ZeR p vs op text ≠ n) \/ ((op = 6 \/ op = 5) /\ (Zg7 p n).isSome = false) \/ (op = 1 /\ ZeR p vs op text = -1)) -> decide ((ZK p op text eargs.length n).length = eargs.length) = true ->
        (ZK p op text eargs.length n).length=eargs.length/\ZaF p vs eargs (ZK p op text eargs.length n)=x:=fun g1 g2 g3=>by
     have g3:=Sr g3;refine ⟨g3,?_⟩;rw [<- hx,rtE,Tf (fun g=>by have:=g1 g.1;cases hl:lkM text (Xb p) <;> simp_all),Tf (fun g=>g2 (by
      rcases g with g | ⟨g,g'⟩ | g
      ·exact .inl g
      ·exact .inr (.inl ⟨g,by cases hl:Zg7 p n <;> simp_all⟩)
      exact .inr (.inr g))),Tf (fun g=>g g3)]
    have e184:op=7->(lkM text (Xb p)).isSome=false->K (.panic (Zx6 (pl ea) 184)) ⟨Zbl pl p r vs more,[],0⟩:=fun g1 g2=>by
     rw [rtE,Tk ⟨g1,by cases hl:lkM text (Xb p) <;> simp_all⟩] at hx;subst hx;exact h
    have e183:(op=7->(lkM text (Xb p)).isSome=true)->((ZeR p vs op text≠-1/\n≠-1/\ZeR p vs op text≠n)\/((op=6\/op=5)/\(Zg7 p n).isSome=false)\/(op=1/\ZeR p vs op text=-1))->K (.panic (Zx6 (pl ea) 183)) ⟨Zbl pl p r vs more,[],0⟩:=fun g1 g2=>by
     rw [rtE,Tf (fun g=>by have:=g1 g.1;cases hl:lkM text (Xb p) <;> simp_all),Tk (by
      rcases g2 with g | ⟨g,g'⟩ | g
      ·exact .inl g
      ·exact .inr (.inl ⟨g,by cases hl:Zg7 p n <;> simp_all⟩)
      exact .inr (.inr g))] at hx
     subst hx;exact h
    have e182:(op=7->(lkM text (Xb p)).isSome=true)->¬((ZeR p vs op text≠-1/\n≠-1/\ZeR p vs op text≠n)\/((op=6\/op=5)/\(Zg7 p n).isSome=false)\/(op=1/\ZeR p vs op text=-1))->decide ((ZK p op text eargs.length n).length=eargs.length)=false->K (.panic (Zx6 (pl ea) 182)) ⟨Zbl pl p r vs more,[],0⟩:=fun g1 g2 g3=>by
     have g3:=of_decide_eq_false g3;rw [rtE,Tf (fun g=>by have:=g1 g.1;cases hl:lkM text (Xb p) <;> simp_all),Tf (fun g=>g2 (by
      rcases g with g | ⟨g,g'⟩ | g
      ·exact .inl g
      ·exact .inr (.inl ⟨g,by cases hl:Zg7 p n <;> simp_all⟩)
      exact .inr (.inr g))),Tk g3] at hx
     subst hx;exact h
    clear h hx
    generalize decide ((ZK p op text eargs.length n).length=eargs.length)=ok at eok e182 |-;generalize (Zg7 p n).isSome=rec at eok e182 e183 |-;generalize (lkM text (Xb p)).isSome=br at eok e182 e183 e184 |-;generalize ZeR p vs op text=own at eok e182 e183 |-;have n2:∀{rec:Bool},¬(own≠-1/\n≠-1/\own≠n)->((op=6\/op=5)->rec=true)->¬(op=1/\own=-1)->¬((own≠-1/\n≠-1/\own≠n)\/((op=6\/op=5)/\rec=false)\/(op=1/\own=-1)):=fun {rec} g1 g2 g3 g=>by
     rcases g with g | ⟨g,g'⟩ | g
     ·exact g1 g
     ·rw [g2 g] at g';cases g'
     exact g3 g
    cases br <;> cases rec <;> cases ok
    all_goals repeat' ((conv=>whnf);first | refine ZFs (fun hc=>?_) (fun hc=>?_) | refine ZFv (fun hc=>?_) (fun hc=>?_))
    all_goals (conv=>whnf)
    all_goals first
     | (exfalso;omega)
     | exact e184 oM rfl
     | exact e183 (fun g=>by first | rfl | (exfalso;omega)) (by first | (left;omega) | (right;left;exact ⟨oM,rfl⟩) | (right;right;omega))
     | exact e182 (fun g=>by first | rfl | (exfalso;omega)) (n2 oM (fun g=>by first | rfl | (exfalso;omega)) oM) rfl
     | exact ⟨c1,c2,c3,c4,c5,c6,d1,d2,rfl,rfl,eok (fun g=>by first | rfl | (exfalso;omega)) (n2 oM (fun g=>by first | rfl | (exfalso;omega)) oM) rfl⟩
   rintro w σ1 ⟨c1,c2,c3,c4,c5,c6,d1,d2,rfl,rfl,hlen,ha⟩
   conv=>whnf
   refine ⟨⟨0,c1,c2,c3,c4,c5,c6,d1,d2,rfl,rfl,oM,hlen,ha⟩,?_⟩
   rintro w σ1 ⟨j,c1,c2,c3,c4,c5,c6,d1,d2,rfl,rfl,hj,hlen,ha⟩
   conv=>whnf
   refine ZFs (fun hc=>?_) (fun hc=>?_);rotate_left
   ·conv=>whnf
    rw [Tr oM] at ha;subst ha;exact h
   have aa:j<eargs.length:=oM;have aq:j<(ZK p op text eargs.length n).length:=by rw [hlen];exact aa
   rw [Tm aa,Tm aq] at ha;simp only [ZaF] at ha;have hr:(Ze pl eargs)[(j:Int).toNat]?=some (ZE pl eargs[j]):=by rw [Zb,Tj,Th,Ta aa];rfl
   have dw:=Zs szE eargs j aa;have dc:(Vn (ZK p op text eargs.length n))[(j:Int).toNat]?=some [.int .i64 (ZK p op text eargs.length n)[j]]:=by
    rw [Vn,Tj,Th,Ta aq];rfl
   have hμ:((eargs.length:Int) - ((j:Int)+1)).toNat<((eargs.length:Int) - (j:Int)).toNat:=oM;generalize (ZK p op text eargs.length n)[j]=y at ha dc;generalize eargs[j]=e at ha hr dw;obtain ⟨x1,x2,x3,x4,x5⟩:=e;(conv=>whnf);refine ⟨_,oM,hr,wN ?_⟩;refine ⟨_,oM,dc,wN ?_⟩;refine ⟨oM,pl,p,r,vs,more,rfl,hp,.mk x1 x2 x3 x4 x5,rfl,⟨oM,oM⟩,fun f hf=>?_⟩;rw [hf] at ha
   cases f with
   | none =>
    simp only [RtK];(conv=>whnf)
    (repeat (refine ⟨rfl,?_⟩;conv=>whnf))
    refine Zi ?_;exact ⟨⟨j+1,c1,c2,c3,c4,c5,c6,d1,d2,rfl,rfl,oM,hlen,ha⟩,hμ⟩
   | some ae =>
   obtain ⟨a,e⟩:=ae;simp only at ha;subst ha;simp only [RtK] at h |-;exact mq51
  exact h.elim
 exact h.elim
def Zcw {p:Pr} {s:Bs} {n:Int} (h:lkM s (JL p)=some n):∃(k:Nat) (d:Re),n=k/\p.rels[k]?=some d/\d.name=s:=by
 exact mq158
def Zbm {p:Pr} {s:Bs} {n:Nat} {k:Nat} {d:Re} (h:lkM s (JL p)=some (k:Int)) (hd:p.rels[k]?=some d):Y7 p s n=if d.fields.length=n then ZX p d.fields else List.replicate n (-1):=by
 simp only [Y7,h,Tj,hd]
def ZfR {p:Pr} {s:Bs} {n:Nat} (h:lkM s (JL p)=none):Y7 p s n=List.replicate n (-1):=by
 simp only [Y7,h]
def ZiN (p:Pr) (s:Bs) (n:Nat):(Y7 p s n).length=n:=by
 unfold Y7
 split
 ·simp
 split
 ·simp
 split
 ·simp [ZX, *]
 simp
def ZqB (m:Nat):Zo:=ZaH fun rest pl p r vs more K=>match rest with
 | [.d (.str name),.d (.sl rows),.func f [.ptr 0 0] []]=>∃args,rows=Ze pl args/\f=46/\(szS szE args<=m/\m<=2097152)/\∀v b,Zbk p args (Y7 p name args.length) (vs,more)=(v,b)->K (.ret (.tuple [])) v b
 | _=>False
def ZBl {m:Nat}:OKw w0 nG [(46,Zx4 m),(97,VO)] 45 (ZqB m):=by
 refine pwo Tryz.func45 fun args σ K h=>?_
 unfold ZqB ZaH at h
 split at h
 ·obtain ⟨pl,p,r,vs,more,rfl,hp,h⟩:=h;split at h
  ·rename_i name rows f
   obtain ⟨eargs,rfl,rfl,⟨hz,hm⟩,h⟩:=h;have ly:=Zp szE eargs;have aj:(Ze pl eargs).length=eargs.length:=by rw [Zb,Td]
   refine pwu [(3,⟨[46],[0,3,8,9,44,45],fun w σ=>∃(j:Nat) (v:Vs) (b:Bool),w=[.d (.int .i64 j)]/\σ=⟨Zbl pl p r v b,[],0⟩/\j<=eargs.length /\
     Zbk p (eargs.drop j) ((Y7 p name eargs.length).drop j) (v,b)=Zbk p eargs (Y7 p name eargs.length) (vs,more),
    fun w _=>match w with | [.d (.int _ j)]=>((eargs.length:Int) - j).toNat | _=>0⟩)] 7 false ?_
   have step:∀(j:Nat) (v:Vs) (b:Bool),j<eargs.length->Zbk p (eargs.drop j) ((Y7 p name eargs.length).drop j) (v,b)=Zbk p eargs (Y7 p name eargs.length) (vs,more)->∃(x:Ex) (y:Int),(Ze pl eargs)[(j:Int).toNat]?=some (ZE pl x)/\(Y7 p name eargs.length)[j]?=some y/\szE x<=m /\
     ∀v' b',gvE p x y (v,b)=(v',b')->Zbk p (eargs.drop (j+1)) ((Y7 p name eargs.length).drop (j+1)) (v',b')=Zbk p eargs (Y7 p name eargs.length) (vs,more):=fun j v b aa ha=>by
    have aq:j<(Y7 p name eargs.length).length:=by rw [ZiN];exact aa
    have dw:=Zs szE eargs j aa;rw [Tm aa,Tm aq] at ha;simp only [Zbk] at ha;exact ⟨eargs[j],(Y7 p name eargs.length)[j],by rw [Zb,Tj,Th,Ta aa];rfl,Ta aq,oM,fun v' b' hg=>by rw [hg] at ha;exact ha⟩
   have fin:∀(j:Nat) (v:Vs) (b:Bool),¬j<eargs.length->Zbk p (eargs.drop j) ((Y7 p name eargs.length).drop j) (v,b)=Zbk p eargs (Y7 p name eargs.length) (vs,more)->K (.ret (.tuple [])) ⟨Zbl pl p r v b,[],0⟩:=fun j v b hn ha=>by
    rw [Tr oM] at ha;exact h v b ha.symm
   conv=>whnf
   refine ZFB (fun v hv=>?_) (fun hv=>wN ?_)
   ·rw [ZJ] at hv;obtain ⟨i,hi,rfl⟩:=TD.1 hv;obtain ⟨k,d,rfl,h2,h3⟩:=Zcw hi;have hr:(p.rels.map (ZH pl))[(k:Int).toNat]?=some (ZH pl d):=by rw [Tj,Th,h2];rfl
    have hT:=Zbm (n:=eargs.length) hi h2;obtain ⟨d1,d2,d3,d4,d5,d6⟩:=d;simp only at hT;(conv=>whnf);refine ⟨_,oM,hr,wN ?_⟩;refine ⟨⟨0,vs,more,rfl,rfl,oM,rfl⟩,?_⟩
    rintro w σ1 ⟨j,v,b,rfl,rfl,hj,ha⟩
    conv=>whnf
    refine ZFs (fun hc=>?_) (fun hc=>?_);rotate_left
    ·conv=>whnf
     exact fin j v b oM ha
    obtain ⟨⟨x1,x2,x3,x4,x5⟩,y,cg,hy,dw,lf⟩:=step j v b oM ha;have hμ:((eargs.length:Int) - ((j:Int)+1)).toNat<((eargs.length:Int) - (j:Int)).toNat:=oM;(conv=>whnf);refine ⟨_,oM,cg,wN ?_⟩;refine ZFs (fun hq=>?_) (fun hq=>?_)
    ·have hq:d2.length=eargs.length:=by have hq:((d2.map Zn).length:Int)=((Ze pl eargs).length:Int):=hq;rw [Td,aj] at hq;omega
     rw [hT,Tk hq,ZX,Th] at hy;obtain ⟨⟨f1,f2⟩,hf,hy⟩:=TD.1 hy;have dc:(d2.map Zn)[(j:Int).toNat]?=some (Zn ⟨f1,f2⟩):=by rw [Tj,Th,hf];rfl
     simp only at hy;(conv=>whnf)
     (repeat (refine ⟨rfl,?_⟩;conv=>whnf))
     refine ⟨_,oM,hr,wN ?_⟩
     (repeat (refine ⟨rfl,?_⟩;conv=>whnf))
     refine ⟨_,oM,dc,wN ?_⟩
     (repeat (refine ⟨rfl,?_⟩;conv=>whnf))
     refine ⟨pl,p,rfl,hp.bp,hp.ends,fun n hn=>?_⟩;rw [hy] at hn;subst hn;(conv=>whnf)
     (repeat (refine ⟨rfl,?_⟩;conv=>whnf))
     exact mq67
    have hq:¬d2.length=eargs.length:=by have hq:¬((d2.map Zn).length:Int)=((Ze pl eargs).length:Int):=hq;rw [Td,aj] at hq;omega
    rw [hT,Tf hq,Sc] at hy;split at hy
    ·cases hy
     conv=>whnf
     exact mq67
    cases hy
   rw [ZJ,Option.map_eq_none_iff] at hv;have hT:=ZfR (n:=eargs.length) hv;refine ⟨⟨0,vs,more,rfl,rfl,oM,rfl⟩,?_⟩
   rintro w σ1 ⟨j,v,b,rfl,rfl,hj,ha⟩
   conv=>whnf
   refine ZFs (fun hc=>?_) (fun hc=>?_);rotate_left
   ·conv=>whnf
    exact fin j v b oM ha
   obtain ⟨⟨x1,x2,x3,x4,x5⟩,y,cg,hy,dw,lf⟩:=step j v b oM ha;have hμ:((eargs.length:Int) - ((j:Int)+1)).toNat<((eargs.length:Int) - (j:Int)).toNat:=oM;rw [hT,Sc] at hy;split at hy
   ·cases hy
    conv=>whnf
    refine ⟨_,oM,cg,wN ?_⟩;exact mq67
   cases hy
  exact h.elim
 exact h.elim
def ZfS (m:Nat):Zo:=ZaH fun rest pl p r vs more K=>match rest with
 | [.d (.sl rows)]=>∃l,rows=ZQ pl l/\(szS szL l<=m/\m<=2097152)/\Zcb l=true/\∀v b,Zqx p l (vs,more)=(v,b)->K (.ret (.tuple [])) v b
 | _=>False
def ZqC {op:Nat} {rel:Bs} {args:List Ex} {body:List Li} {a:Nat} (h:YI (.mk op rel args body a)=true) (h1:¬op<=2) (h2:op<=8):∃x y,args=[x,y]:=by
 simp only [YI,YY] at h;rw [Tf oM,Tk oM] at h;simp only [Tn,TQ] at h
 match args,h.1.2.1 with
 | [x,y],_=>exact ⟨x,y,rfl⟩
def Zl1 {op:Nat} {rel:Bs} {args:List Ex} {body:List Li} {a:Nat} (h:YI (.mk op rel args body a)=true):Zcb body=true:=by
 simp only [YI,Tn] at h;exact h.2.2
def ZqD (m:Nat):Tbl:=[(47,spB ZfS m),(46,Zx4 m),(45,ZqB m),(99,ZdY)]
def ZqE {m:Nat} (ht:TO w0 nG (ZqD m)):PC w0 nG 47 (ZfS m):=by
 refine XQ Zy mixed (tbl:=ZqD m) ht Tryz.func47 rfl kR kR ?_;intro args σ K h
 unfold ZfS ZaH at h
 split at h
 ·obtain ⟨pl,p,r,vs,more,rfl,hp,h⟩:=h;split at h
  ·rename_i rows
   obtain ⟨l,rfl,⟨hz,hm⟩,bw,h⟩:=h;have ly:=Zp szL l;have aj:(ZQ pl l).length=l.length:=by rw [Zm,Td]
   obtain ⟨F,hF⟩:∃F,Zqx p l (vs,more)=F:=⟨_,rfl⟩
   have h:∀v b,F=(v,b)->K (.ret (.tuple [])) ⟨Zbl pl p r v b,[],0⟩:=fun v b g=>h v b (hF.trans g)
   refine ⟨Zj [(1,⟨[11],[0,9,10],fun w σ=>∃(j:Nat) (v:Vs) (b:Bool),w=[.d (.int .i64 j)]/\σ=⟨Zbl pl p r v b,[],0⟩/\j<=l.length/\Zqx p (l.drop j) (v,b)=F,
    fun w _=>match w with | [.d (.int _ j)]=>((l.length:Int) - j).toNat | _=>0⟩),
    (4,⟨[18],[0,5,9,10,11,16,17],fun w σ=>∃(j i op:Nat) (rel:Bs) (eargs:List Ex) (body:List Li) (at':Nat) (v:Vs) (b:Bool),w=[.ptr 0 0,.ptr 7 0,.d (.sl (ZQ pl l)),.d (.int .i64 ((ZQ pl l).length:Nat)),.d (.int .i64 j),.d (.sl (Ze pl eargs)),.d (.int .i64 ((Ze pl eargs).length:Nat)),.d (.int .i64 i)] /\
     σ=⟨Zbl pl p r v b++[.cells 84 ((YT pl (.mk op rel eargs body at')).map .d)],[],0⟩/\l[j]?=some (.mk op rel eargs body at')/\i<=eargs.length/\(szS szE eargs<=m/\szS szL body+1<=m)/\Zcb body=true /\
     Zqx p (l.drop (j+1)) (Zqx p body (Zbk p (eargs.drop i) (List.replicate (eargs.length - i) 0) (v,b)))=F,
    fun w _=>match w with | [_,_,_,_,_,_,.d (.int _ n),.d (.int _ i)]=>(n - i).toNat | _=>0⟩)],Xo [],Ye [4],7,false,sM,Tc rfl,?_⟩
   conv=>whnf
   refine ⟨⟨0,vs,more,rfl,rfl,oM,hF⟩,?_⟩
   rintro w σ1 ⟨j,v,b,rfl,rfl,hj,ha⟩
   conv=>whnf
   refine ZFs (fun hc=>?_) (fun hc=>?_);rotate_left
   ·conv=>whnf
    rw [Tr oM] at ha;exact h v b ha.symm
   have aa:j<l.length:=oM;have hr:(ZQ pl l)[(j:Int).toNat]?=some (YT pl l[j]):=by rw [Zm,Tj,Th,Ta aa];rfl
   have dw:=Zs szL l j aa;have eu:YI l[j]=true:=by rw [Xl,Tq] at bw;exact bw _ (TC aa)
   rw [Tm aa] at ha;simp only [Zqx] at ha;have hμ:((l.length:Int) - ((j:Int)+1)).toNat<((l.length:Int) - (j:Int)).toNat:=oM;have jm:l[j]?=some l[j]:=Ta aa;generalize l[j]=x at ha hr dw eu jm;obtain ⟨op,rel,eargs,body,at'⟩:=x;simp only [szL,Yv,Xj] at dw;simp only [gvL] at ha;have ah:=Zp szE eargs;have f7:(Ze pl eargs).length=eargs.length:=by rw [Zb,Td]
   conv=>whnf
   refine ⟨_,oM,hr,wN ?_⟩;refine ZFs (fun h2=>wN ?_) (fun h2=>wN ?_)
   ·have h2:op<=2:=by have h2:(op:Int)<=2:=h2;omega
    rw [Tk h2] at ha;refine ⟨pl,p,r,v,b,rfl,hp,eargs,rfl,rfl,⟨oM,hm⟩,fun v' b' hg=>wN ?_⟩;rw [hg] at ha;refine Zi ?_;exact ⟨⟨j+1,v',b',rfl,rfl,oM,ha⟩,hμ⟩
   have h2:¬op<=2:=by have h2:¬(op:Int)<=2:=h2;omega
   rw [Tf h2] at ha;refine ZFs (fun h8=>?_) (fun h8=>wN ?_)
   ·have h8:op<=8:=by have h8:(op:Int)<=8:=h8;omega
    rw [Tk h8] at ha;obtain ⟨⟨a1,a2,a3,a4,a5⟩,⟨b1,b2,b3,b4,b5⟩,rfl⟩:=ZqC eu h2 h8;simp only [szS] at dw;(conv=>whnf);refine ⟨pl,p,r,v,b,rfl,hp,op,rel,.mk a1 a2 a3 a4 a5,.mk b1 b2 b3 b4 b5,[],body,at',rfl,fun n hn=>wN ?_⟩;simp only [hn,Zbk] at ha;refine ⟨ZE pl (.mk a1 a2 a3 a4 a5),dM,rfl,wN ?_⟩;refine ⟨pl,p,r,v,b,rfl,hp,.mk a1 a2 a3 a4 a5,rfl,⟨oM,hm⟩,fun v1 b1' hg1=>wN ?_⟩;rw [hg1] at ha;refine ⟨ZE pl (.mk b1 b2 b3 b4 b5),dM,rfl,wN ?_⟩;refine ⟨pl,p,r,v1,b1',rfl,hp,.mk b1 b2 b3 b4 b5,rfl,⟨oM,hm⟩,fun v2 b2' yg=>wN ?_⟩;rw [yg] at ha;refine Zi ?_;exact ⟨⟨j+1,v2,b2',rfl,rfl,oM,ha⟩,hμ⟩
   have h8:¬op<=8:=by have h8:¬(op:Int)<=8:=h8;omega
   rw [Tf h8] at ha;refine ⟨⟨j,0,op,rel,eargs,body,at',v,b,rfl,rfl,jm,oM,⟨oM,oM⟩,Zl1 eu,ha⟩,?_⟩
   rintro w σ1 ⟨j',i,op',rel',eargs',body',at'',v2,b2,hw,rfl,lg,hi,⟨wi,ce⟩,yu,et⟩
   have ej:(some (PV.d (.int .i64 (j:Int))):Option PV)=some (.d (.int .i64 (j':Int))):=congrArg (fun l:List PV=>l[4]?) hw;obtain rfl:j=j':=by have ej:=Option.some.inj ej;injection ej with ej;injection ej with _ ej;omega
   rw [jm] at lg;obtain ⟨rfl,rfl,rfl,rfl,rfl⟩:=Li.mk.inj (Option.some.inj lg);have hw:w=[.d (.int .i64 i)]:=congrArg (List.drop 7) hw;subst hw;(conv=>whnf);refine ZFs (fun bm=>?_) (fun bm=>?_)
   ·have aq:i<eargs.length:=by have bm:(i:Int)<((Ze pl eargs).length:Int):=bm;omega
    have dc:(Ze pl eargs)[(i:Int).toNat]?=some (ZE pl eargs[i]):=by rw [Zb,Tj,Th,Ta aq];rfl
    have uf:=Zs szE eargs i aq;rw [Tm aq,show eargs.length - i=(eargs.length - (i+1))+1 by omega,List.replicate_succ] at et;simp only [Zbk] at et;generalize eargs[i]=e at et dc uf;obtain ⟨x1,x2,x3,x4,x5⟩:=e;(conv=>whnf);refine ⟨_,oM,dc,wN ?_⟩;refine ⟨pl,p,r,v2,b2,rfl,hp,.mk x1 x2 x3 x4 x5,rfl,⟨oM,hm⟩,fun v' b' hg=>wN ?_⟩;rw [hg] at et;refine Zi ?_;exact ⟨⟨j,i+1,op,rel,eargs,body,at',v',b',rfl,rfl,jm,oM,⟨wi,ce⟩,yu,et⟩,by show (((Ze pl eargs).length:Int) - ((i:Int)+1)).toNat<(((Ze pl eargs).length:Int) - (i:Int)).toNat;omega⟩
   have zz:i=eargs.length:=by have bm:¬(i:Int)<((Ze pl eargs).length:Int):=bm;omega
   subst zz;rw [SN,Nat.sub_self] at et;simp only [Zbk,List.replicate_zero] at et;(conv=>whnf);refine ⟨oM,pl,p,r,v2,b2,rfl,hp,body,rfl,⟨oM,oM⟩,yu,fun v' b' hg=>wN ?_⟩;rw [hg] at et;refine Zi ?_;exact ⟨⟨j+1,v',b',rfl,rfl,oM,et⟩,hμ⟩
  exact h.elim
 exact h.elim
def Xn (v:Vs) (x:Bs):Bool:=decide ((lkM x v).getD (-1)=-1)
def Zl2 (X:List Bs) (v:Vs):Nat:=X.countP (Xn v)
def Less (X:List Bs) (s s':VS):Prop:=(∀x,Xn s'.1 x=true->Xn s.1 x=true)/\(s'.2=true->s.2=true\/∃x∈X,Xn s.1 x=true/\Xn s'.1 x=false)
def Less.rfl' {X:List Bs} {s:VS}:Less X s s:=⟨fun _ h=>h,fun h=>.inl h⟩
def Less.trans {X:List Bs} {a b c:VS} (h:Less X a b) (k:Less X b c):Less X a c:=by
 refine ⟨fun x hx=>h.1 x (k.1 x hx),fun hc=>?_⟩;rcases k.2 hc with hb | ⟨x,hx,h1,h2⟩
 ·rcases h.2 hb with ha | ⟨x,hx,h1,h2⟩
  ·exact .inl ha
  refine .inr ⟨x,hx,h1,?_⟩
  cases hc':Xn c.1 x with
  | false=>rfl
  | true=>rw [k.1 x hc'] at h2;cases h2
 exact .inr ⟨x,hx,h.1 x h1,h2⟩
def Less.sub {X Y:List Bs} {a b:VS} (h:Less X a b) (hs:∀x∈X,x∈Y):Less Y a b :=
 ⟨h.1,fun hb=>(h.2 hb).imp id fun ⟨x,hx,h1⟩=>⟨x,hs x hx,h1⟩⟩
def ZqF {t:Bs} {n:Int} {s:VS}:Less [t] s (Zx3 t n s):=by
 unfold Zx3
 split
 ·rename_i h
  have hu:Xn s.1 t=true:=by
   unfold Xn
   rcases h with h | ⟨h1,_⟩
   ·have:lkM t s.1=none:=by simpa using h
    rw [this];rfl
   cases hl:lkM t s.1 with
   | none=>rfl
   | some v=>rw [hl] at h1;simp at h1;simp [h1]
  refine ⟨fun x hx=>?_,fun hm=>?_⟩
  ·by_cases hxt:x=t
   ·subst hxt;exact hu
   unfold Xn at hx |-
   simp only [JK,Tf hxt] at hx;exact hx
  simp only [Sv,TQ] at hm;rcases hm with hm | hm
  ·exact .inl hm
  refine .inr ⟨t,sM,hu,?_⟩;unfold Xn
  simp only [JK,if_true,Sp];simpa using hm
 exact .rfl'
mutual
def Ztx (p:Pr):∀(e:Ex) (n:Int) (s:VS),Less (nvE e) s (gvE p e n s)
 | .mk op text num args a,n,s=>by
  simp only [gvE,nvE];split
  ·exact ZqF
  exact Vo p args _ s
def Vo (p:Pr):∀(l:List Ex) (ns:List Int) (s:VS),Less (Zqy l) s (Zbk p l ns s)
 | [],_,s=>.rfl'
 | e::l,[],s=>.rfl'
 | e::l,n::ns,s=>by
  simp only [Zbk,Zqy];exact ((Ztx p e n s).sub fun x hx=>List.mem_append_left _ hx).trans ((Vo p l ns _).sub fun x hx=>List.mem_append_right _ hx)
end
mutual
def Zty (p:Pr):∀(x:Li) (s:VS),Less (nvL x) s (gvL p x s)
 | .mk op rel args body a,s=>by
  simp only [gvL,nvL];split
  ·exact (Vo p args _ s).sub fun x hx=>List.mem_append_left _ hx
  split
  ·exact (Vo p args _ s).sub fun x hx=>List.mem_append_left _ hx
  exact ((Vo p args _ s).sub fun x hx=>List.mem_append_left _ hx).trans ((ZdZ p body _).sub fun x hx=>List.mem_append_right _ hx)
def ZdZ (p:Pr):∀(l:List Li) (s:VS),Less (Zce l) s (Zqx p l s)
 | [],s=>.rfl'
 | x::l,s=>by
  simp only [Zqx,Zce];exact ((Zty p x s).sub fun y hy=>List.mem_append_left _ hy).trans ((ZdZ p l _).sub fun y hy=>List.mem_append_right _ hy)
end
def ZqG {v v':Vs} (h:∀x,Xn v' x=true->Xn v x=true):∀X:List Bs,Zl2 X v'<=Zl2 X v
 | []=>Tt _
 | x::X=>by
  have ih:=ZqG h X;unfold Zl2 at ih |-
  rw [List.countP_cons,List.countP_cons]
  cases h1:Xn v' x with
  | false=>simp;omega
  | true=>rw [h x h1];simpa using ih
def ZuD {v v':Vs} (h:∀x,Xn v' x=true->Xn v x=true):∀{X:List Bs} {x:Bs},x∈X->Xn v x=true->Xn v' x=false->Zl2 X v'<Zl2 X v
 | y::X,x,hx,h1,h2=>by
  rcases Tu.1 hx with rfl | hx
  ·have:=ZqG h X;unfold Zl2 at this |-
   rw [List.countP_cons,List.countP_cons,h1,h2];simp;omega
  have ih:=ZuD h hx h1 h2;unfold Zl2 at ih |-
  rw [List.countP_cons,List.countP_cons]
  cases h3:Xn v' y with
  | false=>simp;omega
  | true=>rw [h y h3];simpa using ih
def ZnO (p:Pr) (r:Ru) (v:Vs):Less (nvR r) (v,false) (Je p r v):=by
 unfold Je nvR
 exact ((Vo p r.args _ _).sub fun x hx=>List.mem_append_left _ hx).trans ((ZdZ p r.body _).sub fun x hx=>List.mem_append_right _ hx)
def ZiO (p:Pr) (r:Ru) (v:Vs):Zl2 (nvR r) (Je p r v).1<=Zl2 (nvR r) v/\((Je p r v).2=true->Zl2 (nvR r) (Je p r v).1<Zl2 (nvR r) v):=by
 have h:=ZnO p r v;refine ⟨ZqG h.1 _,fun hb=>?_⟩;rcases h.2 hb with h1 | ⟨x,hx,h1,h2⟩
 ·cases h1
 exact ZuD h.1 hx h1 h2
def Zb1 (p:Pr) (r:Ru):∀(n:Nat) (v:Vs),Zl2 (nvR r) v<n->∃w,JO p r n v=some w
 | 0,v,h=>oM
 | n+1,v,h=>by
  simp only [JO];split
  ·rename_i hb
   exact Zb1 p r n _ (by have:=(ZiO p r v).2 hb;omega)
  exact ⟨_,rfl⟩
def Ztz (p:Pr) (r:Ru):JO p r ((nvR r).length+1) []=some (ZeS p r):=by
 obtain ⟨w,hw⟩:=Zb1 p r ((nvR r).length+1) [] (Nat.lt_succ_of_le List.countP_le_length);unfold ZeS
 rw [hw];rfl
def ZBm (X:List Bs) (m:List (Bs×MV)):Nat:=X.countP fun x=>match lkM x m with | some (.one (.int _ n))=>decide (n=-1) | _=>true
def ZqH (X:List Bs) (v:Vs):ZBm X (mvM mvI v)=Zl2 X v:=by
 unfold ZBm Zl2
 congr 1
 funext x
 rw [ZJ];unfold Xn
 cases lkM x v with
 | none=>rfl
 | some n=>rfl
abbrev ZEv (pl:Pl) (p:Pr) (r:Ru) (v:Vs) (b:Bool):List Box:=ZeQ pl p++[.cells 32 ((ZC pl r).map .d),.dmap (mvM mvI v),.cells 119 [.ptr 0 0,.d (.str r.head),.d (.sl (Ze pl r.args)),.d (.sl (ZQ pl r.body)),.d (.int .i64 (pl r.at')),.mp 6,.d (.bool b)]]
def Zcx (m:Nat):Zo:=fun args σ K=>match args,σ with
 | [.ptr 0 0,.agg c],⟨bx,[],0⟩=>∃pl p r,c=(ZC pl r).map .d/\bx=ZeQ pl p/\OKP p/\(V8 r<=m/\m<=2097152)/\Zcb r.body=true/\K (.ret (.ptr 7 0)) ⟨ZEv pl p r (ZeS p r) false,[],0⟩
 | _,_=>False
def ZqJ {m:Nat}:OKw w0 nG [(45,ZqB m),(47,ZfS m)] 20 (Zcx m):=by
 refine pwo Tryz.func20 fun args σ K h=>?_
 unfold Zcx at h
 split at h
 ·obtain ⟨pl,p,⟨head,eargs,body,at'⟩,rfl,rfl,hp,⟨hz,hm⟩,bw,h⟩:=h;simp only [V8] at hz;refine pwu [(3,⟨[],[3,5],fun w σ=>∃(v:Vs) (b:Bool),w=[]/\σ=⟨ZEv pl p ⟨head,eargs,body,at'⟩ v b,[],0⟩/\(b=true->∃n,JO p ⟨head,eargs,body,at'⟩ n v=some (ZeS p ⟨head,eargs,body,at'⟩))/\(b=false->v=ZeS p ⟨head,eargs,body,at'⟩),
   fun _ σ=>match σ with
    | ⟨_::_::_::_::_::_::.dmap m::.cells _ [_,_,_,_,_,_,.d (.bool b)]::_,_,_⟩=>2 * ZBm (nvR ⟨head,eargs,body,at'⟩) m+(if b=true then 1 else 0)
    | _=>0⟩)] 8 false ?_
  conv=>whnf
  refine ⟨⟨[],true,rfl,rfl,fun _=>⟨_,Ztz _ _⟩,fun h=>by cases h⟩,?_⟩
  rintro w σ1 ⟨v,b,rfl,rfl,h1,h2⟩
  cases b with
  | false =>
   have h2:=h2 rfl;(conv=>whnf);subst h2;exact h
  | true =>
  obtain ⟨n,hn⟩:=h1 rfl
  cases n with
  | zero=>cases hn
  | succ n =>
  simp only [JO] at hn;(conv=>whnf);refine ⟨pl,p,⟨head,eargs,body,at'⟩,v,false,rfl,hp,eargs,rfl,rfl,⟨oM,hm⟩,fun v1 b1 hg1=>wN ?_⟩;refine ⟨pl,p,⟨head,eargs,body,at'⟩,v1,b1,rfl,hp,body,rfl,⟨oM,hm⟩,bw,fun v2 b2 yg=>?_⟩;have hr:Je p ⟨head,eargs,body,at'⟩ v=(v2,b2):=by unfold Je;simp only [hg1];exact yg
  have hc:=ZiO p ⟨head,eargs,body,at'⟩ v;rw [hr] at hn hc;simp only at hn hc;have hμ:2 * ZBm (nvR ⟨head,eargs,body,at'⟩) (mvM mvI v2)+(if b2=true then 1 else 0)<2 * ZBm (nvR ⟨head,eargs,body,at'⟩) (mvM mvI v)+(if true=true then 1 else 0):=by
   rw [ZqH,ZqH]
   cases b2 with
   | true=>have:=hc.2 rfl;simp;omega
   | false=>have:=hc.1;simp;omega
  conv=>whnf
  exact ⟨⟨v2,b2,rfl,rfl,fun hb=>by subst hb;exact ⟨n,by simpa using hn⟩,fun hb=>by subst hb;simpa using hn⟩,hμ⟩
 exact h.elim
def ZtA (m:Nat):Zo:=ZaH fun rest pl p r vs more K=>match rest with
 | [.d (.str name),.d (.sl rows),.func f [.ptr 0 0] []]=>∃args,rows=Ze pl args/\f=100/\(szS szE args<=m/\m<=2097152)/\∀x,ZaF p vs args (Y7 p name args.length)=x->RtK pl K vs more x
 | _=>False
def ZBo {m:Nat}:OKw w0 nG [(100,Zx5 m),(97,VO)] 45 (ZtA m):=by
 refine pwo Tryz.func45 fun args σ K h=>?_
 unfold ZtA ZaH at h
 split at h
 ·obtain ⟨pl,p,r,vs,more,rfl,hp,h⟩:=h;split at h
  ·rename_i name rows f
   obtain ⟨eargs,rfl,rfl,⟨hz,hm⟩,h⟩:=h;have ly:=Zp szE eargs;obtain ⟨X,hX⟩:∃X,ZaF p vs eargs (Y7 p name eargs.length)=X:=⟨_,rfl⟩
   have h:=h X hX;have aj:(Ze pl eargs).length=eargs.length:=by rw [Zb,Td]
   refine pwu [(3,⟨[46],[0,3,8,9,44,45],fun w σ=>∃(j:Nat),w=[.d (.int .i64 j)]/\σ=⟨Zbl pl p r vs more,[],0⟩/\j<=eargs.length /\
     ZaF p vs (eargs.drop j) ((Y7 p name eargs.length).drop j)=X,
    fun w _=>match w with | [.d (.int _ j)]=>((eargs.length:Int) - j).toNat | _=>0⟩)] 7 false ?_
   have step:∀(j:Nat),j<eargs.length->ZaF p vs (eargs.drop j) ((Y7 p name eargs.length).drop j)=X->∃(x:Ex) (y:Int),(Ze pl eargs)[(j:Int).toNat]?=some (ZE pl x)/\(Y7 p name eargs.length)[j]?=some y/\szE x<=m /\
     (rtE p vs x y=none->ZaF p vs (eargs.drop (j+1)) ((Y7 p name eargs.length).drop (j+1))=X)/\∀f,rtE p vs x y=some f->X=some f:=fun j aa ha=>by
    have aq:j<(Y7 p name eargs.length).length:=by rw [ZiN];exact aa
    have dw:=Zs szE eargs j aa;rw [Tm aa,Tm aq] at ha;simp only [ZaF] at ha;exact ⟨eargs[j],(Y7 p name eargs.length)[j],by rw [Zb,Tj,Th,Ta aa];rfl,Ta aq,oM,fun hg=>by rw [hg] at ha;exact ha,fun f hg=>by rw [hg] at ha;exact ha.symm⟩
   have fin:∀(j:Nat),¬j<eargs.length->ZaF p vs (eargs.drop j) ((Y7 p name eargs.length).drop j)=X->K (.ret (.tuple [])) ⟨Zbl pl p r vs more,[],0⟩:=fun j hn ha=>by
    rw [Tr oM] at ha;subst ha;exact h
   conv=>whnf
   refine ZFB (fun v hv=>?_) (fun hv=>wN ?_)
   ·rw [ZJ] at hv;obtain ⟨i,hi,rfl⟩:=TD.1 hv;obtain ⟨k,d,rfl,h2,h3⟩:=Zcw hi;have hr:(p.rels.map (ZH pl))[(k:Int).toNat]?=some (ZH pl d):=by rw [Tj,Th,h2];rfl
    have hT:=Zbm (n:=eargs.length) hi h2;obtain ⟨d1,d2,d3,d4,d5,d6⟩:=d;simp only at hT;(conv=>whnf);refine ⟨_,oM,hr,wN ?_⟩;refine ⟨⟨0,rfl,rfl,oM,hX⟩,?_⟩
    rintro w σ1 ⟨j,rfl,rfl,hj,ha⟩
    conv=>whnf
    refine ZFs (fun hc=>?_) (fun hc=>?_);rotate_left
    ·conv=>whnf
     exact fin j oM ha
    obtain ⟨⟨x1,x2,x3,x4,x5⟩,y,cg,hy,dw,lf,cy⟩:=step j oM ha;have hμ:((eargs.length:Int) - ((j:Int)+1)).toNat<((eargs.length:Int) - (j:Int)).toNat:=oM;(conv=>whnf);refine ⟨_,oM,cg,wN ?_⟩;refine ZFs (fun hq=>?_) (fun hq=>?_)
    ·have hq:d2.length=eargs.length:=by have hq:((d2.map Zn).length:Int)=((Ze pl eargs).length:Int):=hq;rw [Td,aj] at hq;omega
     rw [hT,Tk hq,ZX,Th] at hy;obtain ⟨⟨f1,f2⟩,hf,hy⟩:=TD.1 hy;have dc:(d2.map Zn)[(j:Int).toNat]?=some (Zn ⟨f1,f2⟩):=by rw [Tj,Th,hf];rfl
     simp only at hy;(conv=>whnf)
     (repeat (refine ⟨rfl,?_⟩;conv=>whnf))
     refine ⟨_,oM,hr,wN ?_⟩
     (repeat (refine ⟨rfl,?_⟩;conv=>whnf))
     refine ⟨_,oM,dc,wN ?_⟩
     (repeat (refine ⟨rfl,?_⟩;conv=>whnf))
     refine ⟨pl,p,rfl,hp.bp,hp.ends,fun n hn=>?_⟩;rw [hy] at hn;subst hn;(conv=>whnf)
     (repeat (refine ⟨rfl,?_⟩;conv=>whnf))
     exact mq36
    have hq:¬d2.length=eargs.length:=by have hq:¬((d2.map Zn).length:Int)=((Ze pl eargs).length:Int):=hq;rw [Td,aj] at hq;omega
    rw [hT,Tf hq,Sc] at hy;split at hy
    ·cases hy
     conv=>whnf
     exact mq36
    cases hy
   rw [ZJ,Option.map_eq_none_iff] at hv;have hT:=ZfR (n:=eargs.length) hv;refine ⟨⟨0,rfl,rfl,oM,hX⟩,?_⟩
   rintro w σ1 ⟨j,rfl,rfl,hj,ha⟩
   conv=>whnf
   refine ZFs (fun hc=>?_) (fun hc=>?_);rotate_left
   ·conv=>whnf
    exact fin j oM ha
   obtain ⟨⟨x1,x2,x3,x4,x5⟩,y,cg,hy,dw,lf,cy⟩:=step j oM ha;have hμ:((eargs.length:Int) - ((j:Int)+1)).toNat<((eargs.length:Int) - (j:Int)).toNat:=oM;rw [hT,Sc] at hy;split at hy
   ·cases hy
    conv=>whnf
    refine ⟨_,oM,cg,wN ?_⟩;exact mq36
   cases hy
  exact h.elim
 exact h.elim
def ZfT (m:Nat):Zo:=ZaH fun rest pl p r vs more K=>match rest with
 | [.d (.str name),.d (.sl rows),.d (.int .i64 a),.d (.bool hd)]=>∃args an,rows=Ze pl args/\a=pl an/\(szS szE args<=m/\m<=2097152)/\∀x,Zts p vs name args an hd=x->RtK pl K vs more x
 | _=>False
def ZkC (m:Nat):Zz (ZfT m):=ZdV fun rest pl p r vs more K K' hK h=>by
 split at h
 ·obtain ⟨e,an,h1,h2,h3,h4⟩:=h;exact ⟨e,an,h1,h2,h3,fun x g=>Zg8 hK (h4 x g)⟩
 exact h.elim
def Zx8 {m:Nat}:OKw w0 nG [(45,ZtA m)] 49 (ZfT m):=by
 refine pwo Tryz.func49 fun args σ K h=>?_
 unfold ZfT ZaH at h
 split at h
 ·obtain ⟨pl,p,r,vs,more,rfl,hp,h⟩:=h;split at h
  ·rename_i name rows a hd
   obtain ⟨eargs,an,rfl,rfl,⟨hz,hm⟩,h⟩:=h;have aj:(Ze pl eargs).length=eargs.length:=by rw [Zb,Td]
   simp only [Zts] at h;refine pwv [] 7 false ?_;refine ZFB (fun v hv=>?_) (fun hv=>?_);rotate_left
   ·rw [ZJ,Option.map_eq_none_iff] at hv;rw [hv] at h;have h:=h _ rfl;simp only [RtK] at h;exact mq51
   rw [ZJ] at hv;obtain ⟨i,hi,rfl⟩:=TD.1 hv;obtain ⟨k,d,rfl,h2,h3⟩:=Zcw hi;have hr:(p.rels.map (ZH pl))[(k:Int).toNat]?=some (ZH pl d):=by rw [Tj,Th,h2];rfl
   rw [hi] at h;simp only [Tj,h2] at h;obtain ⟨d1,d2,d3,d4,d5,d6⟩:=d;simp only at h;have hb:(hd && d3)=true->K (.panic (Zx6 (pl an) 185)) ⟨Zbl pl p r vs more,[],0⟩:=fun g=>by
    have h:=h _ rfl;rw [Tk g] at h;exact h
   have h:(hd && d3)=false->∀x,(if d2.length≠eargs.length then some (an,182) else ZaF p vs eargs (Y7 p name eargs.length))=x->RtK pl (fun pe vs' more'=>K pe ⟨Zbl pl p r vs' more',[],0⟩) vs more x:=fun g x hx=>h x (by rw [Tf (by rw [g];simp)];exact hx)
   have rest:(hd && d3)=false->∀(X:Prop),X->X:=fun _ X hX=>hX
   cases hd with
   | true =>
    conv=>whnf
    refine ⟨_,oM,hr,?_⟩
    cases d3 with
    | true =>
     conv=>whnf
     exact hb rfl
    | false =>
    exact mq35
   | false =>
   exact mq35
  exact h.elim
 exact h.elim
def orF (x:Flt) (y:Flt):Flt:=match x with | some f=>some f | none=>y
def Zd0 (m:Nat):Zo:=ZaH fun rest pl p r vs more K=>match rest with
 | [.d (.sl rows)]=>∃l,rows=ZQ pl l/\(szS szL l<=m/\m<=2097152)/\Zcb l=true/\∀x,Zhx p vs l=x->RtK pl K vs more x
 | _=>False
def ZkD (m:Nat):Zz (Zd0 m):=ZdV fun rest pl p r vs more K K' hK h=>by
 split at h
 ·obtain ⟨e,h1,h2,h3,h4⟩:=h;exact ⟨e,h1,h2,h3,fun x g=>Zg8 hK (h4 x g)⟩
 exact h.elim
def ZqK (m:Nat):Tbl:=[(50,spB Zd0 m),(100,Zx5 m),(49,ZfT m),(99,ZdY)]
def ZqL {m:Nat} (ht:TO w0 nG (ZqK m)):PC w0 nG 50 (Zd0 m):=by
 refine XQ Zy mixed (tbl:=ZqK m) ht Tryz.func50 rfl kR kR ?_;intro args σ K h
 unfold Zd0 ZaH at h
 split at h
 ·obtain ⟨pl,p,r,vs,more,rfl,hp,h⟩:=h;split at h
  ·rename_i rows
   obtain ⟨l,rfl,⟨hz,hm⟩,bw,h⟩:=h;have ly:=Zp szL l;have aj:(ZQ pl l).length=l.length:=by rw [Zm,Td]
   obtain ⟨X,hX⟩:∃X,Zhx p vs l=X:=⟨_,rfl⟩
   have h:=h X hX;refine ⟨Zj [(1,⟨[11],[0,9,10],fun w σ=>∃(j:Nat),w=[.d (.int .i64 j)]/\σ=⟨Zbl pl p r vs more,[],0⟩/\j<=l.length/\Zhx p vs (l.drop j)=X,
    fun w _=>match w with | [.d (.int _ j)]=>((l.length:Int) - j).toNat | _=>0⟩),
    (4,⟨[18],[0,5,9,10,11,16,17],fun w σ=>∃(j i op:Nat) (rel:Bs) (eargs:List Ex) (body:List Li) (at':Nat),w=[.ptr 0 0,.ptr 7 0,.d (.sl (ZQ pl l)),.d (.int .i64 ((ZQ pl l).length:Nat)),.d (.int .i64 j),.d (.sl (Ze pl eargs)),.d (.int .i64 ((Ze pl eargs).length:Nat)),.d (.int .i64 i)] /\
     σ=⟨Zbl pl p r vs more++[.cells 84 ((YT pl (.mk op rel eargs body at')).map .d)],[],0⟩/\l[j]?=some (.mk op rel eargs body at')/\i<=eargs.length/\(szS szE eargs<=m/\szS szL body+1<=m)/\Zcb body=true /\
     orF (ZaF p vs (eargs.drop i) (List.replicate (eargs.length - i) 0)) (orF (Zhx p vs body) (Zhx p vs (l.drop (j+1))))=X,
    fun w _=>match w with | [_,_,_,_,_,_,.d (.int _ n),.d (.int _ i)]=>(n - i).toNat | _=>0⟩)],Xo [],Ye [4],7,false,sM,Tc rfl,?_⟩
   conv=>whnf
   refine ⟨⟨0,rfl,rfl,oM,hX⟩,?_⟩
   rintro w σ1 ⟨j,rfl,rfl,hj,ha⟩
   conv=>whnf
   refine ZFs (fun hc=>?_) (fun hc=>?_);rotate_left
   ·conv=>whnf
    rw [Tr oM] at ha;subst ha;exact h
   have aa:j<l.length:=oM;have hr:(ZQ pl l)[(j:Int).toNat]?=some (YT pl l[j]):=by rw [Zm,Tj,Th,Ta aa];rfl
   have dw:=Zs szL l j aa;have eu:YI l[j]=true:=by rw [Xl,Tq] at bw;exact bw _ (TC aa)
   rw [Tm aa] at ha;have ha:orF (rtL p vs l[j]) (Zhx p vs (l.drop (j+1)))=X:=by rw [<- ha];simp only [Zhx];rfl
   have hμ:((l.length:Int) - ((j:Int)+1)).toNat<((l.length:Int) - (j:Int)).toNat:=oM;have jm:l[j]?=some l[j]:=Ta aa;generalize l[j]=x at ha hr dw eu jm;obtain ⟨op,rel,eargs,body,at'⟩:=x;simp only [szL,Yv,Xj] at dw;simp only [rtL] at ha;have ah:=Zp szE eargs;have f7:(Ze pl eargs).length=eargs.length:=by rw [Zb,Td]
   conv=>whnf
   refine ⟨_,oM,hr,wN ?_⟩;refine ZFs (fun h2=>wN ?_) (fun h2=>wN ?_)
   ·have h2:op<=2:=by have h2:(op:Int)<=2:=h2;omega
    rw [Tk h2] at ha;refine ⟨pl,p,r,vs,more,rfl,hp,eargs,at',rfl,rfl,⟨oM,hm⟩,fun f hf=>?_⟩;rw [hf] at ha
    cases f with
    | none =>
     simp only [RtK];(conv=>whnf);exact mq52
    | some ae =>
    exact mq179
   have h2:¬op<=2:=by have h2:¬(op:Int)<=2:=h2;omega
   rw [Tf h2] at ha;refine ZFs (fun h8=>?_) (fun h8=>wN ?_)
   ·have h8:op<=8:=by have h8:(op:Int)<=8:=h8;omega
    rw [Tk h8] at ha;obtain ⟨⟨a1,a2,a3,a4,a5⟩,⟨b1,b2,b3,b4,b5⟩,rfl⟩:=ZqC eu h2 h8;simp only [szS] at dw;(conv=>whnf);refine ⟨pl,p,r,vs,more,rfl,hp,op,rel,.mk a1 a2 a3 a4 a5,.mk b1 b2 b3 b4 b5,[],body,at',rfl,fun n hn=>wN ?_⟩;simp only [hn,ZaF] at ha;refine ⟨ZE pl (.mk a1 a2 a3 a4 a5),dM,rfl,wN ?_⟩;refine ⟨pl,p,r,vs,more,rfl,hp,.mk a1 a2 a3 a4 a5,rfl,⟨oM,hm⟩,fun f hf=>?_⟩;rw [hf] at ha
    cases f with
    | some ae =>
     exact mq179
    | none =>
    simp only [RtK];(conv=>whnf);refine ⟨ZE pl (.mk b1 b2 b3 b4 b5),dM,rfl,wN ?_⟩;refine ⟨pl,p,r,vs,more,rfl,hp,.mk b1 b2 b3 b4 b5,rfl,⟨oM,hm⟩,fun f hf=>?_⟩;rw [hf] at ha
    cases f with
    | some ae =>
     exact mq179
    | none =>
    simp only [RtK];simp only at ha;have good:¬(5<=op/\n≠0/\n≠1)->Zhx p vs (l.drop (j+1))=X:=fun g=>by rw [Tf g] at ha;exact ha
    have bad:(5<=op/\n≠0/\n≠1)->K (.panic (Zx6 (pl at') 183)) ⟨Zbl pl p r vs more,[],0⟩:=fun g=>by
     rw [Tk g] at ha;simp only [orF] at ha;subst ha;exact h
    conv=>whnf
    refine ZFs (fun h5=>wN ?_) (fun h5=>wN ?_)
    ·have h5:5<=op:=by have h5:(5:Int)<=op:=h5;omega
     refine ZFv (fun dj=>wN ?_) (fun dj=>wN ?_)
     ·refine ZFv (fun fd=>wN ?_) (fun fd=>wN ?_)
      ·conv=>whnf
       exact bad ⟨h5,dj,fd⟩
      conv=>whnf
      refine Zi ?_;exact ⟨⟨j+1,rfl,rfl,oM,good (fun g=>g.2.2 fd)⟩,hμ⟩
     conv=>whnf
     refine Zi ?_;exact ⟨⟨j+1,rfl,rfl,oM,good (fun g=>g.2.1 dj)⟩,hμ⟩
    have h5:¬5<=op:=by have h5:¬(5:Int)<=op:=h5;omega
    refine Zi ?_;exact ⟨⟨j+1,rfl,rfl,oM,good (fun g=>h5 g.1)⟩,hμ⟩
   have h8:¬op<=8:=by have h8:¬(op:Int)<=8:=h8;omega
   rw [Tf h8] at ha;have ha:orF (ZaF p vs eargs (List.replicate eargs.length 0)) (orF (Zhx p vs body) (Zhx p vs (l.drop (j+1))))=X:=by
    rw [<- ha];cases ZaF p vs eargs (List.replicate eargs.length 0) <;> rfl
   refine ⟨⟨j,0,op,rel,eargs,body,at',rfl,rfl,jm,oM,⟨oM,oM⟩,Zl1 eu,ha⟩,?_⟩
   clear ha
   rintro w σ1 ⟨j',i,op',rel',eargs',body',at'',hw,rfl,lg,hi,⟨wi,ce⟩,yu,ha⟩
   have ej:(some (PV.d (.int .i64 (j:Int))):Option PV)=some (.d (.int .i64 (j':Int))):=congrArg (fun l:List PV=>l[4]?) hw;obtain rfl:j=j':=by have ej:=Option.some.inj ej;injection ej with ej;injection ej with _ ej;omega
   rw [jm] at lg;obtain ⟨rfl,rfl,rfl,rfl,rfl⟩:=Li.mk.inj (Option.some.inj lg);have hw:w=[.d (.int .i64 i)]:=congrArg (List.drop 7) hw;subst hw;(conv=>whnf);refine ZFs (fun bm=>?_) (fun bm=>?_)
   ·have aq:i<eargs.length:=by have bm:(i:Int)<((Ze pl eargs).length:Int):=bm;omega
    have dc:(Ze pl eargs)[(i:Int).toNat]?=some (ZE pl eargs[i]):=by rw [Zb,Tj,Th,Ta aq];rfl
    have uf:=Zs szE eargs i aq;rw [Tm aq,show eargs.length - i=(eargs.length - (i+1))+1 by omega,List.replicate_succ] at ha;simp only [ZaF] at ha;generalize eargs[i]=e at ha dc uf;obtain ⟨x1,x2,x3,x4,x5⟩:=e;(conv=>whnf);refine ⟨_,oM,dc,wN ?_⟩;refine ⟨pl,p,r,vs,more,rfl,hp,.mk x1 x2 x3 x4 x5,rfl,⟨oM,hm⟩,fun f hf=>?_⟩;rw [hf] at ha
    cases f with
    | none =>
     simp only [RtK];(conv=>whnf);refine Zi ?_;exact ⟨⟨j,i+1,op,rel,eargs,body,at',rfl,rfl,jm,oM,⟨wi,ce⟩,yu,ha⟩,by show (((Ze pl eargs).length:Int) - ((i:Int)+1)).toNat<(((Ze pl eargs).length:Int) - (i:Int)).toNat;omega⟩
    | some ae =>
    exact mq179
   have zz:i=eargs.length:=by have bm:¬(i:Int)<((Ze pl eargs).length:Int):=bm;omega
   subst zz;rw [SN,Nat.sub_self] at ha;simp only [ZaF,List.replicate_zero,orF] at ha;(conv=>whnf);refine ⟨oM,pl,p,r,vs,more,rfl,hp,body,rfl,⟨oM,oM⟩,yu,fun f hf=>?_⟩;rw [hf] at ha
   cases f with
   | none =>
    simp only [RtK];(conv=>whnf);exact mq52
   | some ae =>
   obtain ⟨a,e⟩:=ae;simp only at ha;subst ha;simp only [RtK] at h |-;exact mq51
  exact h.elim
 exact h.elim
abbrev SM:=List (Bs×List (List D))
def ZtB (k:Bs):List D:=[.str k]
def ZuE (M:SM):Ex×Bs->SM
 | (.mk op text _ _ _,k)=>if op=1 then Yo text ((lkM text M).getD []++[ZtB k]) M else M
def Wz (M:SM) (l:List (Ex×Bs)):SM:=l.foldl ZuE M
def ZqM (M:SM) (n:Nat):Prop:=∀t rows,lkM t M=some rows->rows.length<=n
def Zl3 {M:SM} {n:Nat} (h:ZqM M n) (x:Ex×Bs):ZqM (ZuE M x) (n+1):=by
 obtain ⟨⟨op,text,_,_,_⟩,k⟩:=x;simp only [ZuE];split
 ·intro t rows hr
  rw [JK] at hr;split at hr
  ·cases hr
   rw [Tb]
   cases hl:lkM text M with
   | none=>simp
   | some r=>have:=h _ _ hl;simp;omega
  have:=h _ _ hr;omega
 intro t rows hr;have:=h _ _ hr;omega
def Zax:∀(l:List (Ex×Bs)) {M:SM} {n:Nat},ZqM M n->ZqM (Wz M l) (n+l.length)
 | [],M,n,h=>h
 | x::l,M,n,h=>by
  have:=Zax l (Zl3 h x);rw [Te,show n+(l.length+1)=n+1+l.length by omega];exact this
def Zbn {α:Type} {k:Bs} {u v:α}:∀m:List (Bs×α),Yo k v (Yo k u m)=Yo k v m
 | []=>by simp [Yo]
 | (x,y)::l=>by
  simp only [Yo]
  by_cases h:k=x
  ·simp [h,Yo]
  simp only [decide_eq_false h,Yo,Zbn l]
def ZCm:Zo:=fun args σ K=>match args,σ with
 | [.agg c,.d (.str k),.ptr 0 0],⟨[.cells ty [.mp 1],.smap el M none],[],0⟩=>∃pl e,c=(ZE pl e).map .d/\(ty=183/\el=9)/\ZqM M 1073741824/\K (.ret (.tuple [])) ⟨[.cells ty [.mp 1],.smap el (ZuE M (e,k)) none],[],0⟩
 | _,_=>False
def ZDq:PC w0 nG 102 ZCm:=by
 refine Zo1 Zy mixed (tbl:=[]) trivial Tryz.func102 rfl kR kR ?_;intro args σ K h
 unfold ZCm at h
 split at h
 ·rename_i k ty el M
  obtain ⟨pl,⟨op,text,num,eargs,ea⟩,rfl,⟨rfl,rfl⟩,hM,h⟩:=h;refine ⟨Zj [],Xo [],Ye [],Ye [],Ye [2],2,false,sM,Tc rfl,wN ?_⟩;simp only [ZuE] at h;refine ZFs (fun h1=>wN ?_) (fun h1=>wN ?_)
  ·have h1:op=1:=by have h1:(op:Int)=1:=h1;omega
   rw [Tk h1] at h;refine ⟨1,text,wN ?_⟩;refine ZFB (fun rows hr=>wN ?_) (fun hr=>wN ?_)
   ·rw [hr] at h;have hlen:=hM _ _ hr;refine ⟨rfl,wN ?_⟩;refine ⟨fun r hr=>by simp at hr;subst hr;rfl,by show (rows.length+1) * 16<=140737488355328;omega,by show rows.length+1<=140737488355328;omega,wN ?_⟩
    (repeat (refine ⟨rfl,?_⟩;conv=>whnf))
    rw [<- Zbn (u:=[])] at h;exact h
   rw [hr] at h;refine ⟨rfl,wN ?_⟩;refine ⟨fun r hr=>by simp at hr;subst hr;rfl,by show 1 * 16<=140737488355328;omega,by show 1<=140737488355328;omega,wN ?_⟩
   (repeat (refine ⟨rfl,?_⟩;conv=>whnf))
   rw [<- Zbn (u:=[])] at h;exact h
  have h1:¬op=1:=fun g=>h1 (by simp only [g];rfl)
  rw [Tf h1] at h;exact h
 exact h.elim
abbrev ZtC (pl:Pl) (r:Ru) (more:Bool) (a b:Nat):List PV:=[.ptr a 0,.d (.str r.head),.d (.sl (Ze pl r.args)),.d (.sl (ZQ pl r.body)),.d (.int .i64 (pl r.at')),.mp b,.d (.bool more)]
abbrev ZkE (pl:Pl) (p:Pr) (r:Ru) (vs:Vs) (more:Bool) (kind:Bs):List Box:=[.cells 72 [.ptr 2 0],.cells 9 [.d (.str kind)],.cells 119 (ZtC pl r more 3 4),.cells 104 (ZiD pl p 5),.dmap (mvM mvI vs)]++ZiE p
def ZqN:Zo:=fun args σ K=>match args,σ with
 | [.d (.str k),.ptr 0 0,.ptr 1 0],⟨bx,[],0⟩=>∃pl p r vs more kind,bx=ZkE pl p r vs more kind/\OKP p/\∀x,WO p k kind=x->K (.ret (.d (.bool x))) ⟨bx,[],0⟩
 | _,_=>False
def Zya:OKw w0 nG [(106,Zg3)] 105 ZqN:=by
 refine pwo Tryz.func105 fun args σ K h=>?_
 unfold ZqN at h
 split at h
 ·obtain ⟨pl,p,r,vs,more,kind,rfl,hp,h⟩:=h;refine pwv [] 9 false ?_;refine ⟨pl,p,rfl,hp.bp,fun x hx=>wN ?_⟩
  (repeat (refine ⟨rfl,?_⟩;conv=>whnf))
  exact h x hx
 exact h.elim
def ZqO:Zo:=fun args σ K=>match args,σ with
 | [.d (.sl rows),.func g [] [.ptr 0 0,.ptr 1 0]],⟨bx,[],0⟩=>∃pl p r vs more kind,∃l:List Bs,bx=ZkE pl p r vs more kind/\rows=l.map ZtB/\(g=105/\OKP p/\l.length<=1073741824)/\∀i,Zg4 (fun k=>WO p k kind) 0 l=i->K (.ret (.d (.int .i64 i))) ⟨bx,[],0⟩
 | [.sl 0 _ [],.func g [] [.ptr 0 0,.ptr 1 0]],⟨bx,[0],1⟩=>∃pl p r vs more kind,bx=ZkE pl p r vs more kind/\K (.ret (.d (.int .i64 (-1)))) ⟨bx,[],0⟩
 | _,_=>False
def Zyc:OKw w0 nG [(105,ZqN)] 172 ZqO:=by
 refine pwo Tryz.func172 fun args σ K h=>?_
 unfold ZqO at h
 split at h
 ·obtain ⟨pl,p,r,vs,more,kind,l,rfl,rfl,⟨rfl,hp,hlen⟩,h⟩:=h;have hl:(l.map ZtB).length=l.length:=Td ..;refine pwu [(2,⟨[8],[0,1,7],fun w σ=>∃j:Nat,w=[.d (.int .i64 j)]/\σ=⟨ZkE pl p r vs more kind,[],0⟩/\j<=l.length/\Zg4 (fun k=>WO p k kind) j (l.drop j)=Zg4 (fun k=>WO p k kind) 0 l,
   fun w _=>match w with | [.d (.int _ j)]=>((l.length:Int) - j).toNat | _=>0⟩)] 9 false ?_
  conv=>whnf
  refine ⟨⟨0,rfl,rfl,oM,rfl⟩,?_⟩
  rintro w σ1 ⟨j,rfl,rfl,hj,ha⟩
  conv=>whnf
  refine ZFs (fun hc=>?_) (fun hc=>?_);rotate_left
  ·conv=>whnf
   rw [Tr oM] at ha;exact h (-1) ha.symm
  have aa:j<l.length:=oM;rw [Tm aa] at ha;have hr:(l.map ZtB)[(j:Int).toNat]?=some (ZtB l[j]):=by rw [Tj,Th,Ta aa];rfl
  generalize l[j]=x at ha hr;(conv=>whnf);refine ⟨_,oM,hr,wN ?_⟩;refine ⟨pl,p,r,vs,more,kind,rfl,hp,fun b hb=>?_⟩;exact mq39
 ·obtain ⟨pl,p,r,vs,more,kind,rfl,h⟩:=h;refine pwv [(2,⟨[8],[0,1,7],fun w σ=>w=[.d (.int .i64 0)]/\σ=⟨ZkE pl p r vs more kind,[],0⟩,fun _ _=>0⟩)] 9 false ?_;refine ⟨⟨rfl,rfl⟩,?_⟩
  rintro w σ1 ⟨rfl,rfl⟩
  exact mq51
 exact h.elim
def ZqP:Zo:=fun args σ K=>match args,σ with
 | [.d (.sl rows),.func g [] [.ptr 0 0,.ptr 1 0]],⟨bx,[],0⟩=>∃pl p r vs more kind,∃l:List Bs,bx=ZkE pl p r vs more kind/\rows=l.map ZtB/\(g=105/\OKP p/\l.length<=1073741824)/\∀b,(l.any fun k=>WO p k kind)=b->K (.ret (.d (.bool b))) ⟨bx,[],0⟩
 | [.sl 0 _ [],.func g [] [.ptr 0 0,.ptr 1 0]],⟨bx,[0],1⟩=>∃pl p r vs more kind,bx=ZkE pl p r vs more kind/\K (.ret (.d (.bool false))) ⟨bx,[],0⟩
 | _,_=>False
def Zye:OKw w0 nG [(172,ZqO)] 104 ZqP:=by
 refine pwo Tryz.func104 fun args σ K h=>?_
 unfold ZqP at h
 split at h
 ·obtain ⟨pl,p,r,vs,more,kind,l,rfl,rfl,hc,h⟩:=h;refine pwv [] 9 false ?_;refine ⟨pl,p,r,vs,more,kind,l,rfl,rfl,hc,fun i hi=>wN ?_⟩;exact h _ (by rw [Bool.eq_iff_iff,decide_eq_true_iff,<- hi];exact (ZdS l 0).symm)
 ·obtain ⟨pl,p,r,vs,more,kind,rfl,h⟩:=h;refine pwv [] 9 false ?_;refine ⟨pl,p,r,vs,more,kind,rfl,wN ?_⟩;exact h
 exact h.elim
def h2T (p:Pr) (kn:List (Bs×Bs)):Ex×Bs->Flt
 | (.mk op text _ _ a,k)=>if (XU p k).isSome=true/\(8<=op\/(op=1/\(kn.any fun y=>decide (y.1=text) && WO p y.2 k)=false)) then some (a,183) else none
def ZDr (M:SM) (kn:List (Bs×Bs)):Prop:=kn.length<=1073741824/\∀t,(lkM t M).getD []=(kn.filter fun y=>decide (y.1=t)).map fun y=>ZtB y.2
abbrev ZDs (pl:Pl) (p:Pr) (r:Ru) (vs:Vs) (more:Bool) (M:SM):List Box:=[.cells 72 [.ptr 2 0],.cells 183 [.mp 3],.cells 119 (ZtC pl r more 4 5),.smap 9 M none,.cells 104 (ZiD pl p 6),.dmap (mvM mvI vs)]++ZiE p
def FlK (pl:Pl) (K:PEnd->St->Prop) (σ:St):Flt->Prop
 | none=>K (.ret (.tuple [])) σ
 | some (a,e)=>K (.panic (Zx6 (pl a) e)) σ
def ZCn:Zo:=fun args σ K=>match args,σ with
 | [.agg c,.d (.str kind),.ptr 0 0,.ptr 1 0],⟨bx,[],0⟩=>∃pl p r vs more M kn e,c=(ZE pl e).map .d/\bx=ZDs pl p r vs more M/\OKP p/\ZDr M kn/\∀x,h2T p kn (e,kind)=x->FlK pl K ⟨bx,[],0⟩ x
 | _,_=>False
def ZuF {p:Pr} {kn:List (Bs×Bs)} {t k:Bs}:((kn.filter fun y=>decide (y.1=t)).map (·.2)).any (fun y=>WO p y k)=kn.any fun y=>decide (y.1=t) && WO p y.2 k:=by
 rw [List.any_map,List.any_filter];rfl
def ZDu:OKw w0 nG [(44,ZfJ),(104,ZqP)] 103 ZCn:=by
 refine pwo Tryz.func103 fun args σ K h=>?_
 unfold ZCn at h
 split at h
 ·rename_i kind bx
  obtain ⟨pl,p,r,vs,more,M,kn,⟨op,text,num,eargs,ea⟩,rfl,rfl,hp,⟨ee,bl⟩,h⟩:=h;have good:¬((XU p kind).isSome=true/\(8<=op\/(op=1/\(kn.any fun y=>decide (y.1=text) && WO p y.2 kind)=false)))->K (.ret (.tuple [])) ⟨ZDs pl p r vs more M,[],0⟩:=fun g=>h none (by simp only [h2T];rw [Tf g])
  have bad:((XU p kind).isSome=true/\(8<=op\/(op=1/\(kn.any fun y=>decide (y.1=text) && WO p y.2 kind)=false)))->K (.panic (Zx6 (pl ea) 183)) ⟨ZDs pl p r vs more M,[],0⟩:=fun g=>h (some (ea,183)) (by simp only [h2T];rw [Tk g])
  clear h
  refine pwv [] 10 false ?_;refine ⟨pl,p,rfl,hp.bp,fun x hx=>wN ?_⟩
  (repeat (refine ⟨rfl,?_⟩;conv=>whnf))
  refine ZFB (fun rows hr=>wN ?_) (fun hr=>wN ?_)
  ·have cg:=bl text;rw [hr] at cg;have cg:rows=((kn.filter fun y=>decide (y.1=text)).map (·.2)).map ZtB:=by rw [List.map_map];exact cg
   refine ⟨pl,p,r,vs,more,kind,_,rfl,cg,⟨rfl,hp,by rw [Td];have:=List.length_filter_le (fun y:Bs×Bs=>decide (y.1=text)) kn;omega⟩,fun b hb=>?_⟩;rw [ZuF] at hb;rw [hx,hb] at good bad;generalize x.isSome=sub at good bad |-
   cases sub <;> cases b
   all_goals repeat' ((conv=>whnf);first | refine ZFs (fun hc=>?_) (fun hc=>?_) | refine ZFv (fun hc=>?_) (fun hc=>?_))
   all_goals (conv=>whnf)
   all_goals first
    | (exfalso;omega)
    | exact bad ⟨rfl,by first | (left;omega) | (right;exact ⟨oM,rfl⟩)⟩
    | exact good (fun g=>by first | exact Bool.noConfusion g.1 | (rcases g.2 with g | g <;> first | omega | exact Bool.noConfusion g.2))
  have cg:=bl text;rw [hr] at cg;have ez:kn.filter (fun y=>decide (y.1=text))=[]:=by
   cases hf:kn.filter (fun y=>decide (y.1=text)) with
   | nil=>rfl
   | cons y l=>rw [hf] at cg;simp at cg
  have hb:(kn.any fun y=>decide (y.1=text) && WO p y.2 kind)=false:=by rw [<- ZuF,ez];rfl
  rw [hx,hb] at good bad;obtain ⟨b,ka⟩:∃b:Bool,b=false:=⟨_,rfl⟩
  refine ⟨pl,p,r,vs,more,kind,rfl,?_⟩
  clear ka b
  generalize eo:false=b at good bad;generalize x.isSome=sub at good bad |-
  cases sub <;> cases b <;> first | (cases eo;done) | skip
  all_goals repeat' ((conv=>whnf);first | refine ZFs (fun hc=>?_) (fun hc=>?_) | refine ZFv (fun hc=>?_) (fun hc=>?_))
  all_goals (conv=>whnf)
  all_goals first
   | (exfalso;omega)
   | exact bad ⟨rfl,by first | (left;omega) | (right;exact ⟨oM,rfl⟩)⟩
   | exact good (fun g=>by first | exact Bool.noConfusion g.1 | (rcases g.2 with g | g <;> first | omega | exact Bool.noConfusion g.2))
 exact h.elim
def Zcy {p:Pr} {vs:Vs}:∀{l:List Ex} {ns:List Int} {j:Nat} {e:Ex} {n:Int},ZaF p vs l ns=none->l[j]?=some e->ns[j]?=some n->rtE p vs e n=none
 | [],_,j,e,n,h,h1,h2=>by simp at h1
 | x::l,[],j,e,n,h,h1,h2=>by simp at h2
 | x::l,y::ns,j,e,n,h,h1,h2=>by
  simp only [ZaF] at h
  cases hx:rtE p vs x y with
  | some f=>rw [hx] at h;cases h
  | none =>
  rw [hx] at h
  cases j with
  | zero=>simp at h1 h2;subst h1;subst h2;exact hx
  | succ j=>exact Zcy h (by simpa using h1) (by simpa using h2)
def Zb2 {p:Pr} {vs:Vs} {op:Nat} {text:Bs} {num:Int} {args:List Ex} {a:Nat} {kind:Bs} (h:rtE p vs (.mk op text num args a) (Xs p kind)=none) :
  (op=7->∃(i k:Nat) (t:Ty) (c:Ca),lkM text (Xb p)=some ((i:Int),(k:Int))/\p.types[i]?=some t/\t.cases[k]?=some c/\Yz p op text kind=c.fields/\c.fields.length=args.length) /\
  (op=6->∃t,Zg7 p (Xs p kind)=some t/\Yz p op text kind=t.fields/\t.fields.length=args.length) /\
  (op≠7->op≠6->Yz p op text kind=[]) /\
  ∀(j:Nat) (e:Ex) (f:Fi),args[j]?=some e->(Yz p op text kind)[j]?=some f->rtE p vs e (Xs p f.typ)=none:=by
 simp only [rtE] at h;split at h
 ·cases h
 rename_i h1
 split at h
 ·cases h
 rename_i h2
 split at h
 ·cases h
 rename_i h3
 have h3:(ZK p op text args.length (Xs p kind)).length=args.length:=Decidable.of_not_not h3;refine ⟨fun h7=>?_,fun h6=>?_,fun h7 h6=>?_,fun j e f he hf=>?_⟩
 ·cases hl:lkM text (Xb p) with
  | none=>exact absurd ⟨h7,by rw [hl];rfl⟩ h1
  | some v =>
  obtain ⟨i,k,t,c,rfl,g2,g3,g4⟩:=ZdW hl;have hp:ZK p op text args.length (Xs p kind)=ZX p c.fields:=by simp only [ZK,Tk h7,g4]
  rw [hp] at h3;refine ⟨i,k,t,c,rfl,g2,g3,?_,by simpa [ZX] using h3⟩;simp only [Yz,Tk h7,g4]
 ·cases hr:Zg7 p (Xs p kind) with
  | none=>exact absurd (.inr (.inl ⟨.inl h6,by rw [hr];rfl⟩)) h2
  | some t =>
  have h7:¬op=7:=oM;have hp:ZK p op text args.length (Xs p kind)=ZX p t.fields:=by simp only [ZK,Tf h7,Tk h6,hr]
  rw [hp] at h3;refine ⟨t,rfl,?_,by simpa [ZX] using h3⟩;simp only [Yz,Tf h7,Tk h6,hr]
 ·simp only [Yz,Tf h7,Tf h6]
 have hp:(Yz p op text kind).length≠0->ZK p op text args.length (Xs p kind)=ZX p (Yz p op text kind):=fun ah=>by
  unfold Yz at ah |-
  unfold ZK
  by_cases h7:op=7
  ·simp only [Tk h7] at ah |-
   cases hc:ZiI p text with
   | none=>rw [hc] at ah;simp at ah
   | some tc=>rfl
  simp only [Tf h7] at ah |-
  by_cases h6:op=6
  ·simp only [Tk h6] at ah |-
   cases hr:Zg7 p (Xs p kind) with
   | none=>rw [hr] at ah;simp at ah
   | some t=>rfl
  simp only [Tf h6] at ah;simp at ah
 have ah:(Yz p op text kind).length≠0:=fun h0=>by
  have:=(Ti.1 hf).1;omega
 rw [hp ah] at h;exact Zcy h he (by rw [ZX,Th,hf];rfl)
mutual
def Zg9 (p:Pr):∀(e:Ex) (kind:Bs),(wiE p e kind).length<=szE e
 | .mk op text n args a,kind=>by
  simp only [wiE,Te,szE];have:=Zha p args (Yz p op text kind);omega
def Zha (p:Pr):∀(l:List Ex) (fs:List Fi),(ZaG p l fs).length<=Zct l
 | [],fs=>by simp [ZaG]
 | e::l,[]=>by simp [ZaG]
 | e::l,f::fs=>by
  simp only [ZaG,Tb,Zct];have:=Zg9 p e f.typ;have:=Zha p l fs;omega
end
def Zcz {α:Type} {f:α->Nat} {l:List α} {j:Nat} {x:α} (h:l[j]?=some x):szS f (l.drop j)=1+f x+szS f (l.drop (j+1)):=by
 have hj:=(Ti.1 h).1;rw [Tm hj,szS];rw [Ta hj] at h
 cases h;rfl
def WP {p:Pr} {kn:List (Bs×Bs)}:∀(a b:List (Ex×Bs)),V6 p kn (a++b)=orF (V6 p kn a) (V6 p kn b)
 | [],b=>rfl
 | (.mk op text _ _ at',k)::a,b=>by
  simp only [T7,V6];split
  ·rfl
  exact WP a b
def ZnP {p:Pr} {kn:List (Bs×Bs)} (x:Ex×Bs) (l:List (Ex×Bs)):V6 p kn (x::l)=orF (h2T p kn x) (V6 p kn l):=by
 obtain ⟨⟨op,text,n,args,a⟩,k⟩:=x;simp only [V6,h2T];split <;> rfl
abbrev ZqQ (pl:Pl) (p:Pr) (r:Ru) (vs:Vs) (more:Bool) (M:SM):List Box:=[.cells 119 (ZtC pl r more 2 3),.cells 183 [.mp 4],.cells 104 (ZiD pl p 5),.dmap (mvM mvI vs),.smap 9 M none]++ZiE p
abbrev ZtD (pl:Pl) (p:Pr) (r:Ru) (vs:Vs) (more:Bool) (M:SM):List Box:=[.cells 119 (ZtC pl r more 3 4),.cells 72 [.ptr 0 0],.cells 183 [.mp 5],.cells 104 (ZiD pl p 6),.dmap (mvM mvI vs),.smap 9 M none]++ZiE p
def ZnQ (m:Nat):Zo:=fun args σ K=>match args,σ with
 | [.ptr 0 0,.agg c,.d (.str kind),.func f [] [.ptr 1 0]],⟨bx,[],0⟩=>∃pl p r vs more e M n,c=(ZE pl e).map .d/\f=102/\bx=ZqQ pl p r vs more M/\OKP p/\(szE e<=m/\m<=2097152)/\rtE p vs e (Xs p kind)=none/\(ZqM M n/\n+szE e<=1073741824)/\K (.ret (.tuple [])) ⟨ZqQ pl p r vs more (Wz M (wiE p e kind)),[],0⟩
 | _,_=>False
def ZuG {m:Nat}:OKw w0 nG [(101,spB ZnQ m),(102,ZCm),(97,VO),(170,ZkB)] 101 (ZnQ m):=by
 refine pwo Tryz.func101 fun args σ K h=>?_
 unfold ZnQ at h
 split at h
 ·rename_i c kind f bx
  obtain ⟨pl,p,r,vs,more,⟨op,text,num,eargs,ea⟩,M,n,rfl,rfl,rfl,hp,⟨hz,hm⟩,uv,⟨hM,hn⟩,h⟩:=h;simp only [wiE] at h;obtain ⟨F,hF⟩:∃F,Wz M ((.mk op text num eargs ea,kind)::ZaG p eargs (Yz p op text kind))=F:=⟨_,rfl⟩
  rw [hF] at h;have hM1:=Zl3 hM (.mk op text num eargs ea,kind);have hF:Wz (ZuE M (.mk op text num eargs ea,kind)) (ZaG p eargs (Yz p op text kind))=F:=hF;have aj:(Ze pl eargs).length=eargs.length:=by rw [Zb,Td]
  simp only [szE,Yv] at hz hn;have ly:=Zp szE eargs;obtain ⟨r7,r6,r0,rk⟩:=Zb2 uv;obtain ⟨fs,ra⟩:∃fs,Yz p op text kind=fs:=⟨_,rfl⟩
  rw [ra] at r7 r6 r0 rk hF
  by_cases h7:op=7
  ·obtain ⟨i0,k0,t,c,hl,h2,h3,g1,g2⟩:=r7 h7;have hr:(p.types.map (Zr pl))[(i0:Int).toNat]?=some (Zr pl t):=by rw [Tj,Th,h2];rfl
   have dc:(t.cases.map Zt)[(k0:Int).toNat]?=some (Zt c):=by rw [Tj,Th,h3];rfl
   obtain ⟨t1,t2,t3,t4,t5,t6⟩:=t;obtain ⟨c1,c2⟩:=c;simp only at g1 g2;obtain rfl:fs=c2:=g1;refine pwu [(11,⟨[67],[0,3,5,65,66],fun w σ=>∃(j n1:Nat) (M1:SM),w=[.d (.int .i64 j)]/\σ=⟨ZqQ pl p r vs more M1++[.cells 50 ((ZE pl (.mk op text num eargs ea)).map .d),.cells 109 [.d (.int .i64 i0),.d (.int .i64 k0)]],[],0⟩/\j<=eargs.length/\(ZqM M1 n1/\n1+szS szE (eargs.drop j)<=1073741824)/\Wz M1 (ZaG p (eargs.drop j) (fs.drop j))=F,
    fun w _=>match w with | [.d (.int _ j)]=>((eargs.length:Int) - j).toNat | _=>0⟩)] 9 false ?_
   conv=>whnf
   refine ⟨pl,.mk op text num eargs ea,rfl,⟨rfl,rfl⟩,fun t rows hr=>by have:=hM t rows hr;omega,wN ?_⟩;refine ZFs (fun jf=>?_) (fun jf=>absurd (show (op:Int)=7 by omega) jf);(conv=>whnf);refine optK.yes (by rw [ZJ,hl];rfl) (wN ?_)
   (repeat (refine ⟨rfl,?_⟩;conv=>whnf))
   refine ⟨dM,dM,wN ?_⟩;refine ⟨_,oM,hr,wN ?_⟩;refine ⟨dM,dM,wN ?_⟩;refine ⟨_,oM,dc,wN ?_⟩;exact mq10
  by_cases h6:op=6
  ·obtain ⟨t0,nr,g1,g2⟩:=r6 h6;refine pwu [(11,⟨[67],[0,3,5,65,66],fun w σ=>∃(j n1:Nat) (M1:SM),w=[.d (.int .i64 j)]/\σ=⟨ZqQ pl p r vs more M1++[.cells 50 ((ZE pl (.mk op text num eargs ea)).map .d),.cells 41 ((Zr pl t0).map .d)],[],0⟩/\j<=eargs.length/\(ZqM M1 n1/\n1+szS szE (eargs.drop j)<=1073741824)/\Wz M1 (ZaG p (eargs.drop j) (fs.drop j))=F,
    fun w _=>match w with | [.d (.int _ j)]=>((eargs.length:Int) - j).toNat | _=>0⟩)] 9 false ?_
   conv=>whnf
   refine ⟨pl,.mk op text num eargs ea,rfl,⟨rfl,rfl⟩,fun t rows hr=>by have:=hM t rows hr;omega,wN ?_⟩;refine ZFs (fun jf=>absurd (show op=7 by have jf:(op:Int)=7:=jf;omega) h7) (fun jf=>wN ?_);refine ZFs (fun nd=>?_) (fun nd=>absurd (show (op:Int)=6 by omega) nd);(conv=>whnf);refine ⟨pl,p,rfl,hp.bp,hp.ends,fun n6 hn6=>?_⟩;subst hn6;(conv=>whnf);refine ⟨pl,p,r,vs,more,rfl,hp,fun t6 qu=>?_,fun qu=>by rw [nr] at qu;cases qu⟩;obtain rfl:t0=t6:=Option.some.inj (nr.symm.trans qu);obtain ⟨t1,t2,t3,t4,t5,t6⟩:=t0;simp only at g1 g2;obtain rfl:fs=t4:=g1;(conv=>whnf);exact mq10
  skip
  refine pwu [(11,⟨[67],[0,3,5,65,66],fun w σ=>∃(j n1:Nat) (M1:SM),w=[.d (.int .i64 j)]/\σ=⟨ZqQ pl p r vs more M1++[.cells 50 ((ZE pl (.mk op text num eargs ea)).map .d)],[],0⟩/\j<=eargs.length/\(ZqM M1 n1/\n1+szS szE (eargs.drop j)<=1073741824)/\Wz M1 (ZaG p (eargs.drop j) (fs.drop j))=F,
   fun w _=>match w with | [.d (.int _ j)]=>((eargs.length:Int) - j).toNat | _=>0⟩)] 9 false ?_
  conv=>whnf
  refine ⟨pl,.mk op text num eargs ea,rfl,⟨rfl,rfl⟩,fun t rows hr=>by have:=hM t rows hr;omega,wN ?_⟩;refine ZFs (fun jf=>absurd (show op=7 by have jf:(op:Int)=7:=jf;omega) h7) (fun jf=>wN ?_);refine ZFs (fun nd=>absurd (show op=6 by have nd:(op:Int)=6:=nd;omega) h6) (fun nd=>wN ?_);have h0:fs=[]:=r0 h7 h6;subst h0;refine ⟨⟨0,n+1,_,rfl,rfl,oM,⟨hM1,by rw [Sj];omega⟩,hF⟩,?_⟩
  rintro w σ1 ⟨j,n1,M1,rfl,rfl,hj,⟨uw,ip⟩,ha⟩
  have ha:M1=F:=by
   exact mq147
  subst ha;exact mq51
 exact h.elim
def ZnR (m:Nat):Zo:=fun args σ K=>match args,σ with
 | [.ptr 0 0,.agg c,.d (.str kind),.func f [] [.ptr 1 0,.ptr 2 0]],⟨bx,[],0⟩=>∃pl p r vs more e M kn,c=(ZE pl e).map .d/\f=103/\bx=ZtD pl p r vs more M/\OKP p/\(szE e<=m/\m<=2097152)/\rtE p vs e (Xs p kind)=none/\ZDr M kn/\∀x,V6 p kn (wiE p e kind)=x->FlK pl K ⟨bx,[],0⟩ x
 | _,_=>False
def ZuH {m:Nat}:OKw w0 nG [(101,spB ZnR m),(103,ZCn),(97,VO),(170,ZkB)] 101 (ZnR m):=by
 refine pwo Tryz.func101 fun args σ K h=>?_
 unfold ZnR at h
 split at h
 ·rename_i c kind f bx
  obtain ⟨pl,p,r,vs,more,⟨op,text,num,eargs,ea⟩,M,kn,rfl,rfl,rfl,hp,⟨hz,hm⟩,uv,lv,h⟩:=h;simp only [wiE] at h;obtain ⟨X,hX⟩:∃X,V6 p kn ((.mk op text num eargs ea,kind)::ZaG p eargs (Yz p op text kind))=X:=⟨_,rfl⟩
  have h:=h X hX;rw [ZnP] at hX;have aj:(Ze pl eargs).length=eargs.length:=by rw [Zb,Td]
  simp only [szE,Yv] at hz;have ly:=Zp szE eargs;obtain ⟨r7,r6,r0,rk⟩:=Zb2 uv;obtain ⟨fs,ra⟩:∃fs,Yz p op text kind=fs:=⟨_,rfl⟩
  rw [ra] at r7 r6 r0 rk hX
  by_cases h7:op=7
  ·obtain ⟨i0,k0,t,c,hl,h2,h3,g1,g2⟩:=r7 h7;have hr:(p.types.map (Zr pl))[(i0:Int).toNat]?=some (Zr pl t):=by rw [Tj,Th,h2];rfl
   have dc:(t.cases.map Zt)[(k0:Int).toNat]?=some (Zt c):=by rw [Tj,Th,h3];rfl
   obtain ⟨t1,t2,t3,t4,t5,t6⟩:=t;obtain ⟨c1,c2⟩:=c;simp only at g1 g2;obtain rfl:fs=c2:=g1;refine pwu [(11,⟨[67],[0,3,5,65,66],fun w σ=>∃(j:Nat),w=[.d (.int .i64 j)]/\σ=⟨ZtD pl p r vs more M++[.cells 50 ((ZE pl (.mk op text num eargs ea)).map .d),.cells 109 [.d (.int .i64 i0),.d (.int .i64 k0)]],[],0⟩/\j<=eargs.length/\V6 p kn (ZaG p (eargs.drop j) (fs.drop j))=X,
    fun w _=>match w with | [.d (.int _ j)]=>((eargs.length:Int) - j).toNat | _=>0⟩)] 10 false ?_
   conv=>whnf
   refine ⟨pl,p,r,vs,more,M,kn,.mk op text num eargs ea,rfl,rfl,hp,lv,fun y hy=>?_⟩;rw [hy] at hX
   cases y with
   | some ae =>
    exact mq187
   | none =>
   simp only [FlK,orF] at hX |-;(conv=>whnf);refine ZFs (fun jf=>?_) (fun jf=>absurd (show (op:Int)=7 by omega) jf);(conv=>whnf);refine optK.yes (by rw [ZJ,hl];rfl) (wN ?_)
   (repeat (refine ⟨rfl,?_⟩;conv=>whnf))
   refine ⟨dM,dM,wN ?_⟩;refine ⟨_,oM,hr,wN ?_⟩;refine ⟨dM,dM,wN ?_⟩;refine ⟨_,oM,dc,wN ?_⟩;exact mq12
  by_cases h6:op=6
  ·obtain ⟨t0,nr,g1,g2⟩:=r6 h6;refine pwu [(11,⟨[67],[0,3,5,65,66],fun w σ=>∃(j:Nat),w=[.d (.int .i64 j)]/\σ=⟨ZtD pl p r vs more M++[.cells 50 ((ZE pl (.mk op text num eargs ea)).map .d),.cells 41 ((Zr pl t0).map .d)],[],0⟩/\j<=eargs.length/\V6 p kn (ZaG p (eargs.drop j) (fs.drop j))=X,
    fun w _=>match w with | [.d (.int _ j)]=>((eargs.length:Int) - j).toNat | _=>0⟩)] 10 false ?_
   conv=>whnf
   refine ⟨pl,p,r,vs,more,M,kn,.mk op text num eargs ea,rfl,rfl,hp,lv,fun y hy=>?_⟩;rw [hy] at hX
   cases y with
   | some ae =>
    exact mq187
   | none =>
   simp only [FlK,orF] at hX |-;(conv=>whnf);refine ZFs (fun jf=>absurd (show op=7 by have jf:(op:Int)=7:=jf;omega) h7) (fun jf=>wN ?_);refine ZFs (fun nd=>?_) (fun nd=>absurd (show (op:Int)=6 by omega) nd);(conv=>whnf);refine ⟨pl,p,rfl,hp.bp,hp.ends,fun n6 hn6=>?_⟩;subst hn6;(conv=>whnf);refine ⟨pl,p,r,vs,more,rfl,hp,fun t6 qu=>?_,fun qu=>by rw [nr] at qu;cases qu⟩;obtain rfl:t0=t6:=Option.some.inj (nr.symm.trans qu);obtain ⟨t1,t2,t3,t4,t5,t6⟩:=t0;simp only at g1 g2;obtain rfl:fs=t4:=g1;(conv=>whnf);exact mq12
  skip
  refine pwu [(11,⟨[67],[0,3,5,65,66],fun w σ=>∃(j:Nat),w=[.d (.int .i64 j)]/\σ=⟨ZtD pl p r vs more M++[.cells 50 ((ZE pl (.mk op text num eargs ea)).map .d)],[],0⟩/\j<=eargs.length/\V6 p kn (ZaG p (eargs.drop j) (fs.drop j))=X,
   fun w _=>match w with | [.d (.int _ j)]=>((eargs.length:Int) - j).toNat | _=>0⟩)] 10 false ?_
  conv=>whnf
  refine ⟨pl,p,r,vs,more,M,kn,.mk op text num eargs ea,rfl,rfl,hp,lv,fun y hy=>?_⟩;rw [hy] at hX
  cases y with
  | some ae =>
   exact mq187
  | none =>
  simp only [FlK,orF] at hX |-;(conv=>whnf);refine ZFs (fun jf=>absurd (show op=7 by have jf:(op:Int)=7:=jf;omega) h7) (fun jf=>wN ?_);refine ZFs (fun nd=>absurd (show op=6 by have nd:(op:Int)=6:=nd;omega) h6) (fun nd=>wN ?_);have h0:fs=[]:=r0 h7 h6;subst h0;refine ⟨⟨0,rfl,rfl,oM,hX⟩,?_⟩
  rintro w σ1 ⟨j,rfl,rfl,hj,ha⟩
  have ha:none=X:=by
   exact mq147
  subst ha;exact mq51
 exact h.elim
def knF (x:Ex×Bs):Option (Bs×Bs):=match x with
 | (.mk op text _ _ _,k)=>if op=1 then some (text,k) else none
def ZiP (p:Pr) (l:List Li):ZiJ p l=(l.flatMap (VX p)).filterMap knF:=rfl
def Zl4 (M:SM) (kn:List (Bs×Bs)):Prop:=∀t,(lkM t M).getD []=(kn.filter fun y=>decide (y.1=t)).map fun y=>ZtB y.2
def ZtE {M:SM} {kn:List (Bs×Bs)} (h:Zl4 M kn) (x:Ex×Bs):Zl4 (ZuE M x) (kn++(knF x).toList):=by
 obtain ⟨⟨op,text,_,_,_⟩,k⟩:=x;simp only [ZuE,knF];split
 ·intro t
  rw [JK,List.filter_append,So]
  by_cases ht:t=text
  ·subst ht;simp [h t]
  have kr:¬text=t:=fun e=>ht e.symm
  simp [ht,kr,h t]
 intro t;simpa using h t
def ZiQ:∀(l:List (Ex×Bs)) {M:SM} {kn:List (Bs×Bs)},Zl4 M kn->Zl4 (Wz M l) (kn++l.filterMap knF)
 | [],M,kn,h=>by simpa [Wz] using h
 | x::l,M,kn,h=>by
  have:=ZiQ l (ZtE h x);simp only [List.filterMap_cons]
  cases hx:knF x with
  | none=>rw [hx] at this;simpa [Wz] using this
  | some y=>rw [hx] at this;simpa [Wz] using this
def ZfU (p:Pr):∀(l:List Li),(l.flatMap (VX p)).length<=szS szL l
 | []=>sM
 | .mk op rel args body a::l=>by
  have:=ZfU p l;have h2:=Zha p args (ZnN p rel);rw [Yv] at h2;rw [List.flatMap_cons,Tb,szS,szL];simp only [VX];split
  ·omega
  rw [Tg];omega
def Zyf (p:Pr) {l:List Li} (h:szS szL l<=1073741824):ZDr (Wz [] (l.flatMap (VX p))) (ZiJ p l):=by
 refine ⟨?_,?_⟩
 ·have h1:=ZfU p l;have h2:=List.length_filterMap_le knF (l.flatMap (VX p));rw [ZiP];omega
 have:=ZiQ (l.flatMap (VX p)) (M:=[]) (kn:=[]) (fun t=>rfl);rw [Si,<- ZiP] at this;exact this
def ZiR {p:Pr} {vs:Vs} {name:Bs} {args:List Ex} {a:Nat} {hd:Bool} (h:Zts p vs name args a hd=none) :
  ∃(i:Nat) (d:Re),lkM name (JL p)=some (i:Int)/\p.rels[i]?=some d/\d.fields.length=args.length/\ZaF p vs args (ZX p d.fields)=none/\ZnN p name=d.fields:=by
 unfold Zts at h
 cases hl:lkM name (JL p) with
 | none=>rw [hl] at h;cases h
 | some n =>
 obtain ⟨i,d,rfl,h2,h3⟩:=Zcw hl;rw [hl] at h;simp only [Tj,h2] at h;split at h
 ·cases h
 split at h
 ·cases h
 rename_i hn
 have hn:d.fields.length=args.length:=Decidable.of_not_not hn;rw [Zbm hl h2,Tk hn] at h;exact ⟨i,d,rfl,h2,hn,h,by simp only [ZnN,hl,Tj,h2]⟩
def Zl5 {p:Pr} {vs:Vs}:∀{l:List Li} {j:Nat} {x:Li},Zhx p vs l=none->l[j]?=some x->rtL p vs x=none
 | [],j,x,h,hx=>by simp at hx
 | y::l,j,x,h,hx=>by
  simp only [Zhx] at h
  cases hy:rtL p vs y with
  | some f=>rw [hy] at h;cases h
  | none =>
  rw [hy] at h
  cases j with
  | zero=>simp at hx;subst hx;exact hy
  | succ j=>exact Zl5 h (by simpa using hx)
def ZEw (a b:Zo):Zo:=fun args σ K=>a args σ K\/b args σ K
def ZqR {G:GE} {g:FuncId} {a b:Zo} (ha:PCalls G g a) (hb:PCalls G g b):PCalls G g (ZEw a b):=⟨ha.enters,fun args σ K h=>h.elim (ha.calls args σ K) (hb.calls args σ K)⟩
abbrev ZDv (pl:Pl) (p:Pr) (r:Ru) (vs:Vs) (more:Bool) (M:SM):List Box:=Zbl pl p r vs more++[.cells 72 [.ptr 0 0],.smap 9 M none,.cells 183 [.mp 8]]
def Zd1 (m:Nat):Zo:=ZaH fun rest pl p r vs more K=>match rest with
 | []=>(V8 r<=m/\m<=2097152)/\Zts p vs r.head r.args r.at' true=none/\Zhx p vs r.body=none/\∀x,ZlZ p r=x->RtK pl K vs more x
 | _=>False
def ZiS (m:Nat):Zz (Zd1 m):=ZdV fun rest pl p r vs more K K' hK h=>by
 split at h
 ·obtain ⟨h1,h2,h3,h4⟩:=h;exact ⟨h1,h2,h3,fun x g=>Zg8 hK (h4 x g)⟩
 exact h.elim
def Zl6 (m:Nat):Tbl:=[(101,ZEw (ZnQ m) (ZnR m))]
def ZtF {m:Nat} (ht:TO w0 nG (Zl6 m)):PC w0 nG 51 (Zd1 m):=by
 refine Zo1 Zy mixed (tbl:=Zl6 m) ht Tryz.func51 rfl kR kR ?_;intro args σ K h
 unfold Zd1 ZaH at h
 split at h
 ·obtain ⟨pl,p,⟨head,ac,body,rat⟩,vs,more,rfl,hp,h⟩:=h;split at h
  ·obtain ⟨⟨hz,hm⟩,lr,yv,h⟩:=h;simp only [V8] at hz lr yv;obtain ⟨hi,hd,dt,gu,ia,ir,uq⟩:=ZiR lr;have qe:=Zp szL body;have kg:(ZQ pl body).length=body.length:=by rw [Zm,Td]
   have hlh:(Ze pl ac).length=ac.length:=by rw [Zb,Td]
   have hnh:=Zp szE ac;have lv:=Zyf p (l:=body) oM;obtain ⟨MF,hMF⟩:∃MF,Wz [] (body.flatMap (VX p))=MF:=⟨_,rfl⟩
   rw [hMF] at lv;obtain ⟨X,hX⟩:∃X,ZlZ p ⟨head,ac,body,rat⟩=X:=⟨_,rfl⟩
   have h:=h X hX;have hX:V6 p (ZiJ p body) (ZaG p ac hd.fields)=X:=by rw [<- hX,ZlZ,uq]
   generalize ZiJ p body=kn at lv hX;refine ⟨Zj [(3,⟨[16],[1,2,14,15],fun w σ=>∃(j n:Nat) (M:SM),w=[.d (.int .i64 j)]/\σ=⟨ZDv pl p ⟨head,ac,body,rat⟩ vs more M,[],0⟩/\j<=body.length/\(ZqM M n/\n+szS szL (body.drop j)<=1073741824)/\Wz M ((body.drop j).flatMap (VX p))=MF,
     fun w _=>match w with | [.d (.int _ j)]=>((body.length:Int) - j).toNat | _=>0⟩),
    (7,⟨[45],[1,2,4,14,15,16,43,44],fun w σ=>∃(j i n:Nat) (M:SM) (rel:Bs) (eargs:List Ex) (lbody:List Li) (at':Nat) (fs:List Fi),w=[.ptr 7 0,.ptr 9 0,.ptr 10 0,.d (.sl (ZQ pl body)),.d (.int .i64 ((ZQ pl body).length:Nat)),.d (.int .i64 j),.d (.sl (fs.map Zn)),.d (.int .i64 ((fs.map Zn).length:Nat)),.d (.int .i64 i)] /\
      σ=⟨ZDv pl p ⟨head,ac,body,rat⟩ vs more M++[.cells 84 ((YT pl (.mk 1 rel eargs lbody at')).map .d)],[],0⟩/\body[j]?=some (.mk 1 rel eargs lbody at')/\fs=ZnN p rel/\i<=eargs.length /\
      (ZqM M n/\n+szS szE (eargs.drop i)+szS szL (body.drop (j+1))<=1073741824)/\Wz (Wz M (ZaG p (eargs.drop i) (fs.drop i))) ((body.drop (j+1)).flatMap (VX p))=MF,
     fun w _=>match w with | [_,_,_,_,_,_,_,.d (.int _ n),.d (.int _ i)]=>(n - i).toNat | _=>0⟩),
    (13,⟨[87],[1,2,85,86],fun w σ=>∃(j:Nat),w=[.d (.int .i64 j)]/\σ=⟨ZDv pl p ⟨head,ac,body,rat⟩ vs more MF,[],0⟩/\j<=ac.length/\V6 p kn (ZaG p (ac.drop j) (hd.fields.drop j))=X,
     fun w _=>match w with | [.d (.int _ j)]=>((ac.length:Int) - j).toNat | _=>0⟩)],Xo [],Ye [7],Ye [9],Ye [],7,false,sM,Tc rfl,?_⟩
   conv=>whnf
   refine ⟨⟨0,0,[],rfl,rfl,oM,⟨(fun t rows hr=>by cases hr),by rw [Sj];omega⟩,hMF⟩,?_⟩
   rintro w σ1 ⟨j,n,M,rfl,rfl,hj,⟨hM,hn⟩,ha⟩
   conv=>whnf
   refine ZFs (fun hc=>?_) (fun hc=>?_);rotate_left
   ·have hc:¬(j:Int)<((ZQ pl body).length:Int):=hc;rw [Tr oM] at ha;have ha:M=MF:=ha;subst ha;have hr:(p.rels.map (ZH pl))[(hi:Int).toNat]?=some (ZH pl hd):=by rw [Tj,Th,gu];rfl
    obtain ⟨d1,d2,d3,d4,d5,d6⟩:=hd;simp only at ia ir hX;(conv=>whnf);refine optK.yes (by rw [ZJ,dt];rfl) (wN ?_)
    (repeat (refine ⟨rfl,?_⟩;conv=>whnf))
    refine ⟨_,oM,hr,wN ?_⟩;refine ⟨⟨0,rfl,rfl,oM,hX⟩,?_⟩
    rintro w σ1 ⟨i,rfl,rfl,ab,ha⟩
    conv=>whnf
    refine ZFs (fun bm=>?_) (fun bm=>?_);rotate_left
    ·have bm:¬(i:Int)<((d2.map Zn).length:Int):=bm;rw [Td] at bm;rw [Tr oM] at ha;have ha:none=X:=ha;subst ha;exact mq51
    have aa:i<d2.length:=by have bm:(i:Int)<((d2.map Zn).length:Int):=bm;rw [Td] at bm;omega
    have aq:i<ac.length:=oM;rw [Tm aa,Tm aq] at ha;simp only [ZaG] at ha;have hk:=Zcy ir (Ta aq) (by rw [ZX,Th,Ta aa];rfl);have o5:(d2.map Zn)[(i:Int).toNat]?=some (Zn d2[i]):=by rw [Tj,Th,Ta aa];rfl
    have nc:(Ze pl ac)[(i:Int).toNat]?=some (ZE pl ac[i]):=by rw [Zb,Tj,Th,Ta aq];rfl
    have dw:=Zs szE ac i aq;have hμ:((ac.length:Int) - ((i:Int)+1)).toNat<((ac.length:Int) - (i:Int)).toNat:=oM;generalize d2[i]=f0 at ha hk o5;generalize ac[i]=x0 at ha hk nc dw;obtain ⟨f1,f2⟩:=f0;obtain ⟨x1,x2,x3,x4,x5⟩:=x0;(conv=>whnf);refine ⟨_,oM,o5,wN ?_⟩;refine ⟨_,oM,nc,wN ?_⟩;refine .inr ⟨pl,p,⟨head,ac,body,rat⟩,vs,more,.mk x1 x2 x3 x4 x5,M,kn,rfl,rfl,rfl,hp,⟨oM,hm⟩,hk,lv,fun y hy=>?_⟩;rw [WP,hy] at ha
    cases y with
    | some ae =>
     obtain ⟨a,e⟩:=ae;simp only [orF] at ha;subst ha;simp only [FlK,RtK] at h |-;exact mq51
    | none =>
    simp only [FlK,orF] at ha |-;(conv=>whnf)
    (repeat (refine ⟨rfl,?_⟩;conv=>whnf))
    refine Zi ?_;exact ⟨⟨i+1,rfl,rfl,oM,ha⟩,hμ⟩
   have aa:j<body.length:=by have hc:(j:Int)<((ZQ pl body).length:Int):=hc;omega
   have hr:(ZQ pl body)[(j:Int).toNat]?=some (YT pl body[j]):=by rw [Zm,Tj,Th,Ta aa];rfl
   have dw:=Zs szL body j aa;have i6:=Zcz (f:=szL) (Ta aa);have hx:=Zl5 yv (Ta aa);rw [Tm aa,List.flatMap_cons,Wz,Sz] at ha;have hμ:((body.length:Int) - ((j:Int)+1)).toNat<((body.length:Int) - (j:Int)).toNat:=oM;have jm:body[j]?=some body[j]:=Ta aa;generalize body[j]=x at ha hr dw i6 hx jm;obtain ⟨op,rel,eargs,lbody,at'⟩:=x;simp only [szL,Xj] at dw i6;simp only [VX] at ha;(conv=>whnf);refine ⟨_,oM,hr,wN ?_⟩;refine ZFv (fun ho=>wN ?_) (fun ho=>?_)
   ·have ho:¬op=1:=fun g=>ho (by simp only [g];rfl)
    rw [Tf ho] at ha;refine Zi ?_;exact ⟨⟨j+1,n,M,rfl,rfl,oM,⟨hM,oM⟩,ha⟩,hμ⟩
   have ho:op=1:=by have ho:(op:Int)=1:=ho;omega
   subst ho;rw [Tk rfl] at ha;simp only [rtL] at hx;rw [Tk dM] at hx;obtain ⟨ri,d,q1,q2,q3,q4,q5⟩:=ZiR hx;have hrr:(p.rels.map (ZH pl))[(ri:Int).toNat]?=some (ZH pl d):=by rw [Tj,Th,q2];rfl
   obtain ⟨d1,d2,d3,d4,d5,d6⟩:=d;simp only at q3 q4 q5;have f7:(Ze pl eargs).length=eargs.length:=by rw [Zb,Td]
   have ah:=Zp szE eargs;rw [q5] at ha;(conv=>whnf);refine optK.yes (by rw [ZJ,q1];rfl) (wN ?_)
   (repeat (refine ⟨rfl,?_⟩;conv=>whnf))
   refine ⟨_,oM,hrr,wN ?_⟩;refine ⟨⟨j,0,n,M,rel,eargs,lbody,at',d2,rfl,rfl,jm,q5.symm,oM,⟨hM,by rw [Sj];omega⟩,ha⟩,?_⟩
   clear ha hM hn
   rintro w σ1 ⟨j',i,n2,M2,rel',eargs',lbody',at'',fs',hw,rfl,lg,yw,ab,⟨uw,ip⟩,ha⟩
   have ej:(some (PV.d (.int .i64 (j:Int))):Option PV)=some (.d (.int .i64 (j':Int))):=congrArg (fun l:List PV=>l[5]?) hw;obtain rfl:j=j':=by have ej:=Option.some.inj ej;injection ej with ej;injection ej with _ ej;omega
   rw [jm] at lg;obtain ⟨_,rfl,rfl,rfl,rfl⟩:=Li.mk.inj (Option.some.inj lg);obtain rfl:fs'=d2:=yw.trans q5;have hw:w=[.d (.int .i64 i)]:=congrArg (List.drop 8) hw;subst hw;(conv=>whnf);refine ZFs (fun bm=>?_) (fun bm=>?_);rotate_left
   ·have bm:¬(i:Int)<((fs'.map Zn).length:Int):=bm;rw [Td] at bm;have zz:i=eargs.length:=oM;rw [Tr oM] at ha ip;have ha:Wz M2 ((body.drop (j+1)).flatMap (VX p))=MF:=ha;(conv=>whnf);refine Zi ?_;exact ⟨⟨j+1,n2,M2,rfl,rfl,oM,⟨uw,by simp only [szS] at ip;omega⟩,ha⟩,hμ⟩
   have ux:i<fs'.length:=by have bm:(i:Int)<((fs'.map Zn).length:Int):=bm;rw [Td] at bm;omega
   have aq:i<eargs.length:=oM;rw [Tm ux,Tm aq] at ha;simp only [ZaG] at ha;have hk:=Zcy q4 (Ta aq) (by rw [ZX,Th,Ta ux];rfl);have o5:(fs'.map Zn)[(i:Int).toNat]?=some (Zn fs'[i]):=by rw [Tj,Th,Ta ux];rfl
   have nc:(Ze pl eargs)[(i:Int).toNat]?=some (ZE pl eargs[i]):=by rw [Zb,Tj,Th,Ta aq];rfl
   have uf:=Zs szE eargs i aq;have hde:=Zcz (f:=szE) (Ta aq);have hμ2:(((fs'.map Zn).length:Int) - ((i:Int)+1)).toNat<(((fs'.map Zn).length:Int) - (i:Int)).toNat:=by rw [Td];omega
   generalize fs'[i]=f0 at ha hk o5;generalize eargs[i]=x0 at ha hk nc uf hde;obtain ⟨f1,f2⟩:=f0;obtain ⟨x1,x2,x3,x4,x5⟩:=x0;(conv=>whnf);refine ⟨_,oM,o5,wN ?_⟩;refine ⟨_,oM,nc,wN ?_⟩;refine .inl ⟨pl,p,⟨head,ac,body,rat⟩,vs,more,.mk x1 x2 x3 x4 x5,M2,n2,rfl,rfl,rfl,hp,⟨oM,hm⟩,hk,⟨uw,oM⟩,wN ?_⟩;have hM3:=Zax (wiE p (.mk x1 x2 x3 x4 x5) f2) uw;have hwl:=Zg9 p (.mk x1 x2 x3 x4 x5) f2;rw [show Wz M2 (wiE p (.mk x1 x2 x3 x4 x5) f2++ZaG p (List.drop (i+1) eargs) (List.drop (i+1) fs'))=Wz (Wz M2 (wiE p (.mk x1 x2 x3 x4 x5) f2)) (ZaG p (List.drop (i+1) eargs) (List.drop (i+1) fs')) from Sz ..] at ha
   (repeat (refine ⟨rfl,?_⟩;conv=>whnf))
   refine Zi ?_;exact ⟨⟨j,i+1,n2+(wiE p (.mk x1 x2 x3 x4 x5) f2).length,_,rel,eargs,lbody,at',fs',rfl,rfl,jm,yw,oM,⟨hM3,oM⟩,ha⟩,hμ2⟩
  exact h.elim
 exact h.elim
def recOfC:Nat×Nat×Code:=match Zy5 (YR Tryz.f48) with | some x=>x | none=>(0,0,.skip)
def Zyg:List PV->St->(St->Prop)->Prop:=fun args σ K=>args.length<=Tryz.f48.ntmps/\W (ctx Vr [] (Zj [])) recOfC.2.2 (Zsh Vr Tryz.f48 σ.bx.length K) (W1 (W1 (Zb7 0 args) recOfC.1 (.d .nili)) recOfC.2.1 (.d .nili)) σ
def Zyh:PV->List PV->St->(St->Prop)->Prop:=fun pv args σ K=>args.length<=Tryz.f48.ntmps/\W (ctx Vr [] (Zj [])) recOfC.2.2 (Zsh Vr Tryz.f48 σ.bx.length K) (W1 (W1 (Zb7 0 args) recOfC.1 pv) recOfC.2.1 pv) σ
def Zyi:PDef (GG w0 nG) 48 Zyg Zyh :=
 Zj1 (a:=recOfC.1) (b:=recOfC.2.1) (rest:=recOfC.2.2) Zy mixed Tryz.func48 rfl kR rfl kR (fun args σ K h=>⟨Zn6 Vr [] (Zj []) (fun _=>0) (fun _=>false),σ.bx.length,CxG.of (tbl:=[]) Zy trivial trivial _ _ _,Tt _,h.1,h.2⟩) (fun pv args σ K h=>⟨Zn6 Vr [] (Zj []) (fun _=>0) (fun _=>false),σ.bx.length,CxG.of (tbl:=[]) Zy trivial trivial _ _ _,Tt _,h.1,h.2⟩)
def ZFb (pl:Pl):Flt->PV
 | none=>.agg [.d (.int .i64 0),.d (.int .i64 0)]
 | some (a,e)=>.agg [.d (.int .i64 (pl a)),.d (.int .i64 e)]
def ZcA (m:Nat):Zo:=ZaH fun rest pl p r vs more K=>match rest with
 | []=>(V8 r<=m/\m<=2097152)/\Zcb r.body=true/\∀x,ZiK p r vs=x->K (.ret (ZFb pl x)) vs more
 | _=>False
def ZiT (m:Nat):Tbl:=[(49,ZfT m),(50,Zd0 m),(51,Zd1 m)]
def ZqS {m:Nat} (ht:TO w0 nG (ZiT m)):PC w0 nG 21 (ZcA m):=by
 refine Zcr Zy mixed Tryz.func21 rfl kR kR Zyi ?_;intro args σ K h
 unfold ZcA ZaH at h
 split at h
 ·obtain ⟨pl,p,⟨head,ac,body,rat⟩,vs,more,rfl,hp,h⟩:=h;split at h
  ·obtain ⟨⟨hz,hm⟩,bw,h⟩:=h;simp only [V8] at hz bw;refine ⟨Zn6 Vr (ZiT m) (Zj []) (Xo []) (Ye []),7,false,CxG.of Zy ht ⟨ZkC m,ZkD m,ZiS m,trivial⟩ _ _ _,sM,Tc rfl,wN ?_⟩;simp only [ZiK] at h;refine ZFs (fun hc=>wN ?_) (fun hc=>wN ?_)
   ·have hc:64<vs.length:=by have hc:(64:Int)<((mvM mvI vs).length:Nat):=hc;rw [Zkr] at hc;omega
    rw [Tk hc] at h;exact h _ rfl
   have hc:¬64<vs.length:=by have hc:¬(64:Int)<((mvM mvI vs).length:Nat):=hc;rw [Zkr] at hc;omega
   rw [Tf hc] at h
   (repeat (refine ⟨rfl,?_⟩;conv=>whnf))
   refine ⟨pl,p,⟨head,ac,body,rat⟩,vs,more,rfl,hp,ac,rat,rfl,rfl,⟨oM,hm⟩,fun x hx=>?_⟩;rw [hx] at h
   cases x with
   | some ae =>
    obtain ⟨a,e⟩:=ae;have h:=h _ rfl;exact mq118
   | none =>
   simp only [RtK];(conv=>whnf)
   (repeat (refine ⟨rfl,?_⟩;conv=>whnf))
   refine ⟨pl,p,⟨head,ac,body,rat⟩,vs,more,rfl,hp,body,rfl,⟨oM,hm⟩,bw,fun y hy=>?_⟩;rw [hy] at h
   cases y with
   | some ae =>
    obtain ⟨a,e⟩:=ae;have h:=h _ rfl;exact mq118
   | none =>
   simp only [RtK];(conv=>whnf)
   (repeat (refine ⟨rfl,?_⟩;conv=>whnf))
   refine ⟨pl,p,⟨head,ac,body,rat⟩,vs,more,rfl,hp,⟨by simp only [V8];omega,hm⟩,hx,hy,fun z hz=>?_⟩;have h:=h z hz
   cases z with
   | some ae =>
    obtain ⟨a,e⟩:=ae;exact mq118
   | none =>
   exact mq118
  exact h.elim
 exact h.elim
def ZDw:Prop:=∀p:Pr,ZiH p=none->ZBd p
def pig:∀(n:Nat) (f:Nat->Nat),(∀i,i<=n->f i<n)->∃i j,i<j/\j<=n/\f i=f j
 | 0,f,h=>absurd (h 0 (Tt _)) oM
 | n+1,f,h=>by
  by_cases hx:∃i,i<=n/\f i=f (n+1)
  ·obtain ⟨i,h1,h2⟩:=hx;exact ⟨i,n+1,oM,oM,h2⟩
  have ah:∀i,i<=n->f i≠f (n+1):=fun i hi g=>hx ⟨i,hi,g⟩
  have hv:=h (n+1) oM;obtain ⟨i,j,h1,h2,h3⟩:=pig n (fun i=>if f (n+1)<f i then f i - 1 else f i) (fun i hi=>by
   have h1:=h i oM;have h2:=ah i hi;show (if f (n+1)<f i then f i - 1 else f i)<n;split <;> omega)
  refine ⟨i,j,h1,oM,?_⟩;have h4:=ah i oM;have h5:=ah j h2
  change (if f (n+1)<f i then f i - 1 else f i)=(if f (n+1)<f j then f j - 1 else f j) at h3
  split at h3 <;> split at h3 <;> omega
def sN (p:Pr):Nat->Bs->Bs
 | 0,a=>a
 | n+1,a=>sN p n ((XU p a).getD [])
def ZqT (p:Pr):∀(i k:Nat) (a:Bs),sN p (i+k) a=sN p k (sN p i a)
 | 0,k,a=>by rw [T5];rfl
 | i+1,k,a=>by rw [show i+1+k=(i+k)+1 by omega];exact ZqT p i k _
def Zl7 {p:Pr}:∀{n:Nat} {a:Bs},Zbi p n a=none->∀i,i<n->(XU p (sN p i a)).isSome=true
 | 0,_,_,i,hi=>oM
 | n+1,a,h,i,hi=>by
  simp only [Zbi] at h;split at h
  ·cases h
  rename_i c hc
  cases i with
  | zero=>simp only [sN,hc];rfl
  | succ i=>simp only [sN,hc];exact Zl7 h i oM
def ZqU {p:Pr} {s:Bs}:∀{k n:Nat} {a:Bs},(∀i,i<=k->(XU p (sN p i a)).isSome=true)->sN p (k+1) a=s->k<n->ZdU p s n a=true
 | k,0,_,_,_,h=>oM
 | 0,n+1,a,h,hs,_=>by
  obtain ⟨c,hc⟩:=Su.1 (h 0 oM);simp only [sN] at hc hs;rw [hc] at hs;simp only [Sp] at hs;simp only [ZdU,hc];rw [Tk hs]
 | k+1,n+1,a,h,hs,hk=>by
  obtain ⟨c,hc⟩:=Su.1 (h 0 oM);simp only [sN] at hc;simp only [ZdU,hc];split
  ·rfl
  refine ZqU (k:=k) (fun i hi=>?_) ?_ oM
  ·have:=h (i+1) oM;simpa only [sN,hc,Sp] using this
  rw [<- hs];simp only [sN,hc];rfl
def ZfV {p:Pr}:∀{l:List Ty},Zcd p l=none->∀t∈l,ZkA p t=false
 | [],_,_,h=>by cases h
 | x::l,h,t,ht=>by
  simp only [Zcd] at h;split at h
  ·cases h
  rename_i hx
  rcases Tu.1 ht with rfl | ht
  ·simpa using hx
  exact ZfV h t ht
def Zyj {p:Pr} {a b:Bs} (h:XU p a=some b):∃(k:Nat) (t:Ty),lkM a (Zs9 p)=some (k:Int)/\p.types[k]?=some t/\t.name=a/\t.kind=1/\t.base=b:=by
 unfold XU at h
 split at h
 ·cases h
 rename_i i hi
 obtain ⟨k,t,rfl,ht,hn⟩:=Zqo hi;split at h
 ·cases h
 rw [Tj,ht] at h;simp only at h;split at h
 ·rename_i hc;cases h;exact ⟨k,t,hi,ht,hn,hc.1,rfl⟩
 cases h
def Zyk {p:Pr} (h:Zcd p p.types=none):ZBd p:=fun s=>by
 cases he:Zuz p s with
 | some r=>rfl
 | none =>
 exfalso;have hs:=Zl7 he;have yq:∀i,i<=p.types.length->∃(k:Nat) (t:Ty),lkM (sN p i s) (Zs9 p)=some (k:Int)/\p.types[k]?=some t/\t.name=sN p i s:=fun i hi=>by
  obtain ⟨b,hb⟩:=Su.1 (hs i oM);obtain ⟨k,t,h1,h2,h3,_⟩:=Zyj hb;exact ⟨k,t,h1,h2,h3⟩
 obtain ⟨i,j,h1,h2,h3⟩:=pig p.types.length (fun i=>((lkM (sN p i s) (Zs9 p)).getD 0).toNat) (fun i hi=>by
  obtain ⟨k,t,g1,g2,_⟩:=yq i hi;simp only [g1,Sp,Tj];exact (Ti.1 g2).1)
 obtain ⟨k1,t1,g1,g2,g3⟩:=yq i oM;obtain ⟨k2,t2,q1,q2,q3⟩:=yq j h2;simp only [g1,q1,Sp,Tj] at h3;subst h3;rw [g2] at q2
 cases q2
 have bv:sN p j s=sN p i s:=q3.symm.trans g3;have hr:=ZfV h t1 (TW g2);have:ZkA p t1=true:=by
  unfold ZkA
  rw [g3];refine ZqU (k:=j - i - 1) (fun m hm=>?_) ?_ oM
  ·rw [<- ZqT];exact hs _ oM
  rw [<- ZqT,show i+(j - i - 1+1)=j by omega];exact bv
 rw [this] at hr
 cases hr
def ZtG {p:Pr} (h:ZiH p=none):Zav p.types ZfN []=none/\Zg5 p p.types=none/\Zcd p p.types=none:=by
 unfold ZiH at h
 split at h
 ·cases h
 rename_i h1
 split at h
 ·cases h
 rename_i h2
 split at h
 ·cases h
 rename_i h3;exact ⟨h1,h2,h3⟩
def ZBr:ZDw:=fun p h=>Zyk (ZtG h).2.2
inductive On (p:Pr):Bs->Bs->Prop
 | refl (a:Bs):On p a a
 | step {a c b:Bs} (h:XU p a=some c) (k:On p c b):On p a b
def On.trans {p:Pr} {a b c:Bs} (h:On p a b) (k:On p b c):On p a c:=by
 induction h with
 | refl=>exact k
 | step h _ ih=>exact .step h (ih k)
def NZ (x:Flt):Prop:=∀a e,x=some (a,e)->e≠0
def NZ.none:NZ none:=fun a e h=>by cases h
def NZ.mk {a e:Nat} (h:e≠0):NZ (some (a,e)):=fun _ _ g=>by cases g;exact h
mutual
def ZBs (p:Pr) (vs:Vs):∀(e:Ex) (n:Int),NZ (rtE p vs e n)
 | .mk op text num args a,n=>by
  simp only [rtE];split
  ·exact .mk dM
  split
  ·exact .mk dM
  split
  ·exact .mk dM
  exact Zd2 p vs args _
def Zd2 (p:Pr) (vs:Vs):∀(l:List Ex) (ns:List Int),NZ (ZaF p vs l ns)
 | [],_=>.none
 | e::l,[]=>.none
 | e::l,n::ns=>by
  have h:=ZBs p vs e n;simp only [ZaF];split
  ·exact mq157
  exact Zd2 p vs l ns
end
def ZqV (p:Pr) (vs:Vs) (name:Bs) (args:List Ex) (a:Nat) (hd:Bool):NZ (Zts p vs name args a hd):=by
 unfold Zts
 split
 ·exact .mk dM
 split
 ·exact .none
 split
 ·exact .mk dM
 split
 ·exact .mk dM
 exact Zd2 p vs _ _
mutual
def ZBt (p:Pr) (vs:Vs):∀(x:Li),NZ (rtL p vs x)
 | .mk op rel args body a=>by
  simp only [rtL];split
  ·exact ZqV p vs _ _ _ _
  split
  ·have h:=Zd2 p vs args [Jd p vs args,Jd p vs args];split
   ·exact mq157
   split
   ·exact .mk dM
   exact .none
  have h:=Zd2 p vs args (List.replicate args.length 0);split
  ·exact mq157
  exact ZkF p vs body
def ZkF (p:Pr) (vs:Vs):∀(l:List Li),NZ (Zhx p vs l)
 | []=>.none
 | x::l=>by
  have h:=ZBt p vs x;simp only [Zhx];split
  ·exact mq157
  exact ZkF p vs l
end
def Zl8 (p:Pr) (kn:List (Bs×Bs)):∀l,NZ (V6 p kn l)
 | []=>.none
 | (.mk op text _ _ a,k)::l=>by
  simp only [V6];split
  ·exact .mk dM
  exact Zl8 p kn l
def ZiU (p:Pr) (r:Ru) (vs:Vs):NZ (ZiK p r vs):=by
 unfold ZiK
 split
 ·exact .mk dM
 have h:=ZqV p vs r.head r.args r.at' true;split
 ·exact mq157
 have h:=ZkF p vs r.body;split
 ·exact mq157
 exact Zl8 p _ _
def ZqW {p:Pr} (h:(ZfG (prU p)).2=0) {r:Ru} (hr:r∈p.rules):Zcb r.body=true:=by
 have hm:ZeO (prU p)=true:=by
  cases hm:ZeO (prU p) with
  | true=>rfl
  | false=>rw [ZfG,hm] at h;simp at h
 simp only [prU,ZeO,Tn,Tq] at hm;have:=hm.2.2.1 r hr;simp only [XO,Tn] at this;rw [Xl];exact this.2.2
def Zd3 (n:Nat):Zo:=fun args σ K=>match args,σ with
 | [.agg c],⟨[],[],0⟩=>∃pl p,c=(V5 pl p).map .d/\(Zaq n (prU p)/\n<=16777216/\ZaE p<=2097152) /\
   ((ZfG (prU p)).2≠0->K (.ret (.tuple [.d .nilp,.agg [.d (.int .i64 0),.d (.int .i64 (ZfG (prU p)).2)]])) ⟨[],[],0⟩) /\
   ((ZfG (prU p)).2=0->∀a e,orF (ZiH p) (Jf p p.rules)=some (a,e)->K (.ret (.tuple [.d .nilp,.agg [.d (.int .i64 (pl a)),.d (.int .i64 e)]])) ⟨[],[],0⟩) /\
   ((ZfG (prU p)).2=0->orF (ZiH p) (Jf p p.rules)=none->K (.ret (.tuple [.ptr 5 0,.agg [.d (.int .i64 0),.d (.int .i64 0)]])) ⟨ZDo pl p,[],0⟩)
 | _,_=>False
def ZqX (n:Nat):Tbl:=[(17,ZnI XT Zaq ZfG n),(18,Zcv),(19,Ztr),(20,Zcx 2097152),(21,ZcA 2097152)]
def Zyl {n:Nat} (ht:TO w0 nG (ZqX n)):PC w0 nG 12 (Zd3 n):=by
 refine XQ Zy mixed (tbl:=ZqX n) ht Tryz.func12 rfl kR kR ?_;intro args σ K h
 unfold Zd3 at h
 split at h
 ·obtain ⟨pl,⟨p1,p2,p3⟩,rfl,⟨hc,hn,hz⟩,h1,h2,h3⟩:=h;have hp:BP ⟨p1,p2,p3⟩:=by unfold BP;omega
  have jl:=@ZqW ⟨p1,p2,p3⟩;obtain ⟨tx,k,ho⟩:∃s k,ZfG (prU ⟨p1,p2,p3⟩)=(s,k):=⟨_,_,rfl⟩
  rw [ho] at h1 h2 h3 jl;simp only at h1 h2 h3 jl
  by_cases hk:k=0
  ·subst hk;have h2:=h2 rfl;have h3:=h3 rfl;have jl:=@jl rfl
   cases hd:ZiH ⟨p1,p2,p3⟩ with
   | none =>
    rw [hd] at h2 h3;simp only [orF] at h2 h3;have av:OKP ⟨p1,p2,p3⟩:=⟨hp,ZBr _ hd⟩
    have nf:∀r∈p3,V8 r<=2097152:=fun r hr=>by have:=Zbh (f:=V8) hr;simp only [ZaE] at hz;omega
    have ia:(p3.map (ZC pl)).length=p3.length:=Td ..;have ir:p3.length<=2097152:=by have:=Zp V8 p3;simp only [ZaE] at hz;omega
    cases hX:Jf ⟨p1,p2,p3⟩ p3 with
    | none =>
     have h3:=h3 hX;refine ⟨Zj [(9,⟨[37],[3,6,35,36],fun w σ=>∃j:Nat,w=[.d (.int .i64 j)]/\σ=⟨ZDo pl ⟨p1,p2,p3⟩++[.cells 53 [.d (.int .i64 0),.d (.int .i64 0)]],[],0⟩/\j<=p3.length/\Jf ⟨p1,p2,p3⟩ (p3.drop j)=none,
      fun w _=>match w with | [.d (.int _ j)]=>((p3.length:Int) - j).toNat | _=>0⟩)],Xo [],Ye [],8,false,sM,Tc rfl,?_⟩
     conv=>whnf
     refine ⟨pl,prU ⟨p1,p2,p3⟩,rfl,⟨hc,hn⟩,fun s k he=>?_⟩;rw [ho] at he
     cases he
     conv=>whnf
     refine ⟨pl,⟨p1,p2,p3⟩,rfl,hp,wN ?_⟩;refine ⟨pl,⟨p1,p2,p3⟩,rfl,hp,fun x hx=>?_⟩;rw [hd] at hx;subst hx;(conv=>whnf);refine ⟨⟨0,rfl,rfl,oM,hX⟩,?_⟩
     rintro w σ1 ⟨j,rfl,rfl,hj,ha⟩
     conv=>whnf
     refine ZFs (fun hq=>?_) (fun hq=>?_);rotate_left
     ·have hq:¬(j:Int)<((p3.map (ZC pl)).length:Nat):=hq;rw [Tr oM] at ha;have ha:none=none:=ha;(conv=>whnf);exact h3
     have aa:j<p3.length:=by have hq:(j:Int)<((p3.map (ZC pl)).length:Nat):=hq;omega
     have hr:(p3.map (ZC pl))[(j:Int).toNat]?=some (ZC pl p3[j]):=by rw [Tj,Th,Ta aa];rfl
     have ib:=nf _ (TC aa);have uy:=jl (TC aa);rw [Tm aa] at ha;simp only [Jf] at ha;have hμ:((p3.length:Int) - ((j:Int)+1)).toNat<((p3.length:Int) - (j:Int)).toNat:=oM;generalize p3[j]=r at ha hr ib uy;obtain ⟨r1,r2,r3,r4⟩:=r;(conv=>whnf);refine ⟨_,oM,hr,wN ?_⟩;refine ⟨pl,⟨p1,p2,p3⟩,⟨r1,r2,r3,r4⟩,rfl,rfl,av,⟨ib,dM⟩,uy,wN ?_⟩;refine ⟨pl,⟨p1,p2,p3⟩,⟨r1,r2,r3,r4⟩,ZeS ⟨p1,p2,p3⟩ ⟨r1,r2,r3,r4⟩,false,rfl,av,⟨ib,dM⟩,uy,fun x hx=>?_⟩;have z4:=ZiU ⟨p1,p2,p3⟩ ⟨r1,r2,r3,r4⟩ (ZeS ⟨p1,p2,p3⟩ ⟨r1,r2,r3,r4⟩);rw [hx] at ha z4
     cases x with
     | none =>
      conv=>whnf
      exact mq52
     | some ae =>
     obtain ⟨a2,e2⟩:=ae
     cases ha
    | some ae =>
    obtain ⟨a,e⟩:=ae;have h2:=h2 a e hX;refine ⟨Zj [(9,⟨[37],[3,6,35,36],fun w σ=>∃j:Nat,w=[.d (.int .i64 j)]/\σ=⟨ZDo pl ⟨p1,p2,p3⟩++[.cells 53 [.d (.int .i64 0),.d (.int .i64 0)]],[],0⟩/\j<=p3.length/\Jf ⟨p1,p2,p3⟩ (p3.drop j)=some (a,e),
     fun w _=>match w with | [.d (.int _ j)]=>((p3.length:Int) - j).toNat | _=>0⟩)],Xo [],Ye [],0,false,sM,Tc rfl,?_⟩
    conv=>whnf
    refine ⟨pl,prU ⟨p1,p2,p3⟩,rfl,⟨hc,hn⟩,fun s k he=>?_⟩;rw [ho] at he
    cases he
    conv=>whnf
    refine ⟨pl,⟨p1,p2,p3⟩,rfl,hp,wN ?_⟩;refine ⟨pl,⟨p1,p2,p3⟩,rfl,hp,fun x hx=>?_⟩;rw [hd] at hx;subst hx;(conv=>whnf);refine ⟨⟨0,rfl,rfl,oM,hX⟩,?_⟩
    rintro w σ1 ⟨j,rfl,rfl,hj,ha⟩
    conv=>whnf
    refine ZFs (fun hq=>?_) (fun hq=>?_);rotate_left
    ·have hq:¬(j:Int)<((p3.map (ZC pl)).length:Nat):=hq;rw [Tr oM] at ha;have ha:none=some (a,e):=ha
     cases ha
    have aa:j<p3.length:=by have hq:(j:Int)<((p3.map (ZC pl)).length:Nat):=hq;omega
    have hr:(p3.map (ZC pl))[(j:Int).toNat]?=some (ZC pl p3[j]):=by rw [Tj,Th,Ta aa];rfl
    have ib:=nf _ (TC aa);have uy:=jl (TC aa);rw [Tm aa] at ha;simp only [Jf] at ha;have hμ:((p3.length:Int) - ((j:Int)+1)).toNat<((p3.length:Int) - (j:Int)).toNat:=oM;generalize p3[j]=r at ha hr ib uy;obtain ⟨r1,r2,r3,r4⟩:=r;(conv=>whnf);refine ⟨_,oM,hr,wN ?_⟩;refine ⟨pl,⟨p1,p2,p3⟩,⟨r1,r2,r3,r4⟩,rfl,rfl,av,⟨ib,dM⟩,uy,wN ?_⟩;refine ⟨pl,⟨p1,p2,p3⟩,⟨r1,r2,r3,r4⟩,ZeS ⟨p1,p2,p3⟩ ⟨r1,r2,r3,r4⟩,false,rfl,av,⟨ib,dM⟩,uy,fun x hx=>?_⟩;have z4:=ZiU ⟨p1,p2,p3⟩ ⟨r1,r2,r3,r4⟩ (ZeS ⟨p1,p2,p3⟩ ⟨r1,r2,r3,r4⟩);rw [hx] at ha z4
    cases x with
    | none =>
     conv=>whnf
     exact mq52
    | some ae =>
    obtain ⟨a2,e2⟩:=ae;have ha:some (a2,e2)=some (a,e):=ha
    cases ha
    conv=>whnf
    refine ZFv (fun _=>wN ?_) (fun g=>absurd (by have g:(e:Int)=0:=g;omega) (z4 _ _ rfl))
    (repeat (refine ⟨rfl,?_⟩;conv=>whnf))
    exact h2
   | some ae =>
   obtain ⟨a,e⟩:=ae;have h2:=h2 a e (by rw [hd];rfl);refine ⟨Zj [],Xo [],Ye [],0,false,sM,Tc rfl,wN ?_⟩;refine ⟨pl,prU ⟨p1,p2,p3⟩,rfl,⟨hc,hn⟩,fun s k he=>?_⟩;rw [ho] at he
   cases he
   conv=>whnf
   refine ⟨pl,⟨p1,p2,p3⟩,rfl,hp,wN ?_⟩;refine ⟨pl,⟨p1,p2,p3⟩,rfl,hp,fun x hx=>?_⟩;rw [hd] at hx;subst hx;(conv=>whnf);refine ZFv (fun _=>wN ?_) (fun g=>absurd (by have g:(e:Int)=0:=g;omega) (Zx2 hd))
   (repeat (refine ⟨rfl,?_⟩;conv=>whnf))
   exact h2
  have h1:=h1 hk;refine ⟨Zj [],Xo [],Ye [],0,false,sM,Tc rfl,wN ?_⟩;refine ⟨pl,prU ⟨p1,p2,p3⟩,rfl,⟨hc,hn⟩,fun s k he=>?_⟩;rw [ho] at he
  cases he
  conv=>whnf
  refine ZFv (fun _=>wN ?_) (fun g=>absurd (by have g:(k:Int)=0:=g;omega) hk);exact h1
 exact h.elim
def Zd4 (n:Nat):Zo:=fun args σ K=>match args,σ with
 | [.agg c],⟨[],[],0⟩=>∃pl p,c=(V5 pl p).map .d/\(Zaq n (prU p)/\n<=16777216/\ZaE p<=2097152)/\∀a e,ZrL pl p=(a,e)->K (.ret (.tuple [.d (.int .i64 a),.d (.int .i64 e)])) ⟨[],[],0⟩
 | _,_=>False
def ZkG (pl:Pl) (p:Pr):ZrL pl p=if (ZfG (prU p)).2≠0 then ((0:Int),((ZfG (prU p)).2:Int)) else match orF (ZiH p) (Jf p p.rules) with | some (a,e)=>(pl a,(e:Int)) | none=>(0,0):=by
 unfold ZrL
 split
 ·rfl
 cases ZiH p with
 | some ae=>rfl
 | none=>rfl
def ZtH {n:Nat}:OKw w0 nG [(12,Zd3 n)] 7 (Zd4 n):=by
 refine pwo Tryz.func7 fun args σ K h=>?_
 unfold Zd4 at h
 split at h
 ·obtain ⟨pl,p,rfl,hc,h⟩:=h;simp only [ZkG] at h;refine pwv [] 0 false ?_;refine ⟨pl,p,rfl,hc,fun g=>?_,fun g a e g2=>?_,fun g g2=>?_⟩
  ·conv=>whnf
   exact h _ _ (by rw [Tk g])
  ·conv=>whnf
   exact h _ _ (by rw [Tf (fun q=>q g),g2])
  conv=>whnf
  exact h _ _ (by rw [Tf (fun q=>q g),g2])
 exact h.elim
end Go.PM.Lex
end

section
namespace Go.PM.Lex
section
variable {ty:List Ty} {re:List Re} {a b:List Ru}
end
end Go.PM.Lex
end

section
namespace Go.PM.Lex
mutual
def prE:Ex->List Ex
 | .mk op t n args a=>.mk op t n args a::ZfW args
def ZfW:List Ex->List Ex
 | []=>[]
 | e::l=>prE e++ZfW l
end
abbrev Bv:=List (Bs×Bool)
def txX:Ex->Bs | .mk _ t _ _ _=>t
def atX:Ex->Nat | .mk _ _ _ _ a=>a
def Zzb (m:Bv) (x:Ex):Bv:=if opE x=1 then Yo (txX x) true m else m
def ZkH (m:Bv) (l:List Ex):Bv:=l.foldl Zzb m
def JP (m:Bv) (x:Ex):Bool:=decide (opE x=2) || (decide (opE x=1) && !((lkM (txX x) m).getD false))
def Zhb (m:Bv) (e:Ex):Option Ex:=(prE e).find? (JP m)
def WY (m:Bv) (l:List Ex):Option Ex:=(ZfW l).find? (JP m)
def Zl9:∀l k:List Ex,ZfW (l++k)=ZfW l++ZfW k
 | [],_=>rfl
 | e::l,k=>by simp only [T7,ZfW,Zl9 l k,To]
def ZiV {l:List Ex} {j:Nat} (h:j<l.length):ZfW (l.take (j+1))=ZfW (l.take j)++prE l[j]:=by
 rw [List.take_add_one,Ta h,Zl9];simp [ZfW]
def ZiW (m:Bv) (l k:List Ex):ZkH m (l++k)=ZkH (ZkH m l) k:=Sz ..
def ZfX {m:Bv} {l:List Ex} {j:Nat} (h:j<l.length):WY m (l.drop j)=match Zhb m l[j] with | some x=>some x | none=>WY m (l.drop (j+1)):=by
 rw [Tm h];simp only [WY,Zhb,ZfW,List.find?_append]
 cases (prE l[j]).find? (JP m) <;> rfl
mutual
def ZeT (m:Bv):Ex->Bool
 | .mk op t n args a=>if 8<=op then (Zhb m (.mk op t n args a)).isSome else Jg m args
def Jg (m:Bv):List Ex->Bool
 | []=>false
 | e::l=>ZeT m e || Jg m l
end
def ZnS (m:Bv) (l:List Ex):Jg m l=l.any (ZeT m):=by induction l with | nil=>rfl | cons x l ih=>simp [Jg,ih]
mutual
def ZtI:Ex->Bv->Bv
 | .mk op t _ args _,m=>if op=1 then Yo t true m else if op=6\/op=7 then Zbo args m else m
def Zbo:List Ex->Bv->Bv
 | [],m=>m
 | e::l,m=>Zbo l (ZtI e m)
end
def Zbp {l:List Ex} {j:Nat} (h:j<l.length) (m:Bv):Zbo (l.drop j) m=Zbo (l.drop (j+1)) (ZtI l[j] m):=by
 rw [Tm h];rfl
def YA (m:Bv) (a b:Ex):Bv:=if (Zhb m b).isNone=true/\ZeT m a=false then ZtI a m else m
def Zd5 (m:Bv):Li->Bv
 | .mk op _ args _ _=>if op=1 then (if Jg m args=false then Zbo args m else m)
  else if op=3 then (match args with | [a,b]=>YA (YA m a b) b a | _=>m) else m
def ZM (m:Bv) (l:List Li):Bv:=l.foldl Zd5 m
def opL:Li->Nat | .mk op _ _ _ _=>op
def JQ (l:List Li):Prop:=∀x∈l,opL x<=8
def Zay (l:List Li):Nat->Bv->Option Bv
 | 0,_=>none
 | k+1,m=>if m.length<(ZM m l).length then Zay l k (ZM m l) else some (ZM m l)
mutual
def ZCo (m:Bv):Ex->Option Ex
 | .mk op _ _ args _=>if 8<=op then WY m args else Zhc m args
def Zhc (m:Bv):List Ex->Option Ex
 | []=>none
 | e::l=>match ZCo m e with | some x=>some x | none=>Zhc m l
end
mutual
def ZCp (m:Bv):Ex->Option Ex
 | .mk op t n args a=>if op=2 then none else if op=6\/op=7 then Zhd m args else Zhb m (.mk op t n args a)
def Zhd (m:Bv):List Ex->Option Ex
 | []=>none
 | e::l=>match ZCp m e with | some x=>some x | none=>Zhd m l
end
def ZfY {m:Bv} {l:List Ex} {j:Nat} (h:j<l.length):Zhc m (l.drop j)=match ZCo m l[j] with | some x=>some x | none=>Zhc m (l.drop (j+1)):=by
 rw [Tm h];rfl
def Zbq {m:Bv} {l:List Ex} {j:Nat} (h:j<l.length):Zhd m (l.drop j)=match ZCp m l[j] with | some x=>some x | none=>Zhd m (l.drop (j+1)):=by
 rw [Tm h];rfl
def ZqY (m:Bv):Li->Option Ex
 | .mk op _ args _ _=>if op=1 then Zhc m args else if op=2 then Zhd m args else WY m args
def VY (m:Bv):List Li->Option Ex
 | []=>none
 | x::l=>match ZqY m x with | some y=>some y | none=>VY m l
def ZkI {m:Bv} {l:List Li} {j:Nat} (h:j<l.length):VY m (l.drop j)=match ZqY m l[j] with | some x=>some x | none=>VY m (l.drop (j+1)):=by
 rw [Tm h];rfl
def unB (X:List Bs) (m:Bv):Nat:=X.countP fun t=>(lkM t m).isNone
def Inc (X:List Bs) (m k:Bv):Prop:=(∀t,(lkM t k).isNone=true->(lkM t m).isNone=true)/\m.length<=k.length/\unB X k+k.length<=unB X m+m.length
def Inc.refl (X:List Bs) (m:Bv):Inc X m m:=⟨fun _ h=>h,Tt _,Tt _⟩
def Inc.trans {X:List Bs} {m k l:Bv} (h:Inc X m k) (g:Inc X k l):Inc X m l:=⟨fun t ht=>h.1 t (g.1 t ht),TZ h.2.1 g.2.1,TZ g.2.2 h.2.2⟩
def ZuI {X:List Bs} {m k:Bv} (h:∀t,(lkM t k).isNone=true->(lkM t m).isNone=true):unB X k<=unB X m:=List.countP_mono_left fun t _ g=>h t g
def ZuJ {m k:Bv} (h:∀t,(lkM t k).isNone=true->(lkM t m).isNone=true) {t:Bs} (h2:(lkM t m).isNone=true) (h3:(lkM t k).isNone=false):∀{X:List Bs},t∈X->unB X k<unB X m
 | y::Y,ht=>by
  have le:=ZuI (X:=Y) h;unfold unB at le |-
  simp only [List.countP_cons];rcases Tu.1 ht with rfl | ht
  ·rw [h2,h3];simp;omega
  have ih:=ZuJ h h2 h3 ht;unfold unB at ih
  have:(if (lkM y k).isNone=true then 1 else 0)<=(if (lkM y m).isNone=true then 1 else 0):=by
   split
   ·rename_i g;rw [h y g];simp
   exact T6 _
  omega
def Zym {X:List Bs} {t:Bs} (ht:t∈X) (m:Bv):Inc X m (Yo t true m):=by
 have h1:∀(m:Bv) s,lkM s (Yo t true m)=if s=t then some true else lkM s m:=fun m s=>by
  induction m with
  | nil=>by_cases h:s=t <;> simp [Yo,lkM,h]
  | cons x m ih =>
  obtain ⟨y,v⟩:=x;simp only [Yo]
  by_cases hy:t=y
  ·subst hy
   by_cases h:s=t <;> simp [lkM,h]
  rw [decide_eq_false hy];simp only [lkM,ih]
  by_cases h:s=t
  ·subst h;simp [hy]
  simp [h]
 have h2:∀m:Bv,(Yo t true m).length=if (lkM t m).isNone=true then m.length+1 else m.length:=fun m=>by
  induction m with
  | nil=>simp [Yo,lkM]
  | cons x m ih =>
  obtain ⟨y,v⟩:=x;simp only [Yo,lkM]
  by_cases hy:t=y
  ·subst hy;simp
  simp only [hy,decide_false,Te,ih];split <;> omega
 have h0:∀s,(lkM s (Yo t true m)).isNone=true->(lkM s m).isNone=true:=fun s hs=>by
  rw [h1] at hs;split at hs
  ·cases hs
  exact hs
 refine ⟨h0,?_,?_⟩
 ·rw [h2];split <;> omega
 rw [h2];split
 ·rename_i h
  have:=ZuJ h0 h (by rw [h1,Tk rfl];rfl) ht;omega
 have:=ZuI (X:=X) h0;omega
mutual
def Zma {X:List Bs}:∀(e:Ex) (m:Bv),(∀t∈nvE e,t∈X)->Inc X m (ZtI e m)
 | .mk op t n args a,m,h=>by
  simp only [nvE] at h;simp only [ZtI]
  by_cases h1:op=1
  ·rw [Tk h1] at h |-;exact Zym (h t sM) m
  rw [Tf h1] at h |-;split
  ·exact Zd6 args m h
  exact .refl X m
def Zd6 {X:List Bs}:∀(l:List Ex) (m:Bv),(∀t∈Zqy l,t∈X)->Inc X m (Zbo l m)
 | [],m,_=>.refl X m
 | e::l,m,h=>by
  simp only [Zqy,TM] at h;exact (Zma e m fun t g=>h t (.inl g)).trans (Zd6 l _ fun t g=>h t (.inr g))
end
def ZfZ {X:List Bs} {a b:Ex} (m:Bv) (h:∀t∈nvE a,t∈X):Inc X m (YA m a b):=by
 unfold YA
 split
 ·exact Zma a m h
 exact .refl X m
def ZqZ {X:List Bs}:∀(x:Li) (m:Bv),(∀t∈nvL x,t∈X)->Inc X m (Zd5 m x)
 | .mk op rel args body a,m,h=>by
  simp only [nvL,TM] at h;simp only [Zd5];split
  ·split
   ·exact Zd6 args m fun t g=>h t (.inl g)
   exact .refl X m
  split
  ·split
   ·rename_i a b
    simp only [Zqy,TM] at h;exact (ZfZ m fun t g=>h t (.inl (.inl g))).trans (ZfZ _ fun t g=>h t (.inl (.inr (.inl g))))
   exact .refl X m
  exact .refl X m
def Zbr {X:List Bs}:∀(l:List Li) (m:Bv),(∀t∈Zce l,t∈X)->Inc X m (ZM m l)
 | [],m,_=>.refl X m
 | x::l,m,h=>by
  simp only [Zce,TM] at h;exact (ZqZ x m fun t g=>h t (.inl g)).trans (Zbr l _ fun t g=>h t (.inr g))
def ZtJ {X:List Bs} {m k:Bv} (h:Inc X m k) (hl:m.length<k.length):unB X k<unB X m:=by
 have:=h.2.2;omega
def Zd7 {l:List Li} {X:List Bs} (hX:∀t∈Zce l,t∈X):∀(k:Nat) (m:Bv),unB X m<k->∃r,Zay l k m=some r
 | 0,m,h=>oM
 | k+1,m,h=>by
  simp only [Zay];split
  ·rename_i g
   have:=ZtJ (Zbr l m hX) g;exact Zd7 hX k _ oM
  exact ⟨_,rfl⟩
def Zf0 (l:List Li) (m:Bv):Bv:=(Zay l ((Zce l).length+1) m).getD []
def Zq0 (l:List Li) (m:Bv):Zay l ((Zce l).length+1) m=some (Zf0 l m):=by
 obtain ⟨r,h⟩:=Zd7 (l:=l) (X:=Zce l) (fun t h=>h) ((Zce l).length+1) m (by
  have:unB (Zce l) m<=(Zce l).length:=List.countP_le_length;omega)
 rw [Zf0,h];rfl
def Zzc (r:Ru):Option Ex:=match WY (Zf0 r.body []) r.args with | some x=>some x | none=>VY (Zf0 r.body []) r.body
def Zhe:List Ru->Option Ex
 | []=>none
 | r::l=>match Zzc r with | some x=>some x | none=>Zhe l
def ZkJ (pl:Pl) (p:Pr):Int×Int:=if (ZrL pl p).2≠0 then ZrL pl p else match Zhe p.rules with | some x=>(pl (atX x),190) | none=>(0,0)
mutual
def Zq1:Ex->Bool
 | .mk op _ _ args _=>decide (op=1) || (decide (op=2) || Vp args)
def Vp:List Ex->Bool
 | []=>false
 | e::l=>Zq1 e || Vp l
end
mutual
def Zq2:∀e:Ex,(prE e).any (JP [])=Zq1 e
 | .mk op t n args a=>by
  simp only [prE,SF,Zq1,Zbs args];rw [show JP [] (.mk op t n args a)=(decide (op=2) || (decide (op=1) && true)) from rfl]
  cases decide (op=1) <;> cases decide (op=2) <;> rfl
def Zbs:∀l:List Ex,(ZfW l).any (JP [])=Vp l
 | []=>rfl
 | e::l=>by simp only [ZfW,List.any_append,Vp,Zq2 e,Zbs l]
end
def Xc (r:Ru):Ru:=⟨r.head,r.args,[],r.at'⟩
def ZkK (r:Ru):Zzc (Xc r)=WY [] r.args:=by
 unfold Zzc
 show (match WY [] r.args with | some x=>some x | none=>none)=_
 cases WY [] r.args <;> rfl
def Zb3:∀l:List Ru,(Zhe (l.map Xc)).isSome=l.any fun r=>Vp r.args
 | []=>rfl
 | r::l=>by
  have ih:=Zb3 l;simp only [TE,Zhe,ZkK,SF,<- ih,WY];rw [<- Zbs]
  cases h:(ZfW r.args).find? (JP []) with
  | none =>
   have:(ZfW r.args).any (JP [])=false:=by rw [List.any_eq_false];exact fun x hx=>by simpa using List.find?_eq_none.1 h x hx
   simp [this]
  | some x =>
  have:(ZfW r.args).any (JP [])=true:=List.any_eq_true.2 ⟨x,List.mem_of_find?_eq_some h,List.find?_some h⟩;simp [this]
end Go.PM.Lex
end
