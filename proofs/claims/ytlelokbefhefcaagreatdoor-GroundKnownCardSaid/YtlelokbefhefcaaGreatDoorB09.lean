/- A part of the proof: plain logic, contracts and laws over the given program. -/
import Derived.Test.YtlelokbefhefcaaGreatDoorB08
set_option linter.unusedVariables false
set_option linter.unusedSimpArgs false
set_option linter.all false
set_option maxRecDepth 100000
set_option maxHeartbeats 16000000
noncomputable section
section
namespace Go.PM.Lex
open Go.Proofs
variable {w0:World} {nG:Nat}
def Zy4 (m:Nat):Zk:=ZaY fun rest pl p r vs more K=>match rest with
 | [.agg c,.d (.int .i64 n)]=>∃e,c=(ZF pl e).map .d/\(szE e<=m/\m<=2097152)/\∀v b,gvE p e n (vs,more)=(v,b)->K (.ret (.tuple [])) v b
 | _=>False
def ZaG (p:Pr) (op:Nat) (text:Bs) (k:Nat) (n:Int):List Int:=if (ZN p op text k n).length=k then ZN p op text k n else List.replicate k (-1)
def Zjg (p:Pr) (op:Nat) (text:Bs) (k:Nat) (n:Int):(ZaG p op text k n).length=k:=by unfold ZaG;split <;> simp [*]
def ZCx {m:Nat}:OKw w0 nG [(85,spB Zy4 m),(138,Zd9)] 85 (Zy4 m):=by
 refine pwo Tryz.func85 fun args σ K h=>?_
 unfold Zy4 ZaY at h
 split at h
 ·obtain ⟨pl,p,r,vs,more,rfl,hp,h⟩:=h;split at h
  ·rename_i n
   obtain ⟨⟨op,text,num,eargs,ea⟩,rfl,⟨hz,hm⟩,h⟩:=h;simp only [szE,Wq] at hz;have ol:=Zu szE eargs;have am:(Ze pl eargs).length=eargs.length:=by rw [Zc,Td]
   refine pwu [(8,⟨[63],[0,8,9,61,62],fun w σ=>∃(j:Nat) (v:Vs) (b:Bool),w=[.d (.int .i64 j)]/\σ=⟨Zby pl p r v b++[.cells 25 ((ZF pl (.mk op text num eargs ea)).map .d)],[],0⟩/\j<=eargs.length /\
     gvEs p (eargs.drop j) ((ZaG p op text eargs.length n).drop j) (v,b)=gvEs p eargs (ZaG p op text eargs.length n) (vs,more),
    fun w _=>match w with | [.d (.int _ j)]=>((eargs.length:Int) - j).toNat | _=>0⟩)] 7 false ?_
   conv=>whnf
   refine ZGg (fun h1=>?_) (fun h1=>wN ?_)
   ·have h1:op=1:=by have h1:(op:Int)=1:=h1;omega
    subst h1;have h:=h (Zt0 text n (vs,more)).1 (Zt0 text n (vs,more)).2 (by simp [gvE]);have yes:((lkM text vs).isNone=true\/((lkM text vs).getD 0=-1/\n≠-1))->∀b,(more || decide (n≠-1))=b->K (.ret (.tuple [])) ⟨.cells 160 (ZFf pl r b)::.cells 139 (Zi7 pl p 3)::.dmap (Z2 text (mvI n) (mvM mvI vs))::Zi8 p,[],0⟩:=fun g b hb=>by
     simp only [Zt0] at h;rw [Tj g,hb] at h;rw [XN];exact h
    have no:¬((lkM text vs).isNone=true\/((lkM text vs).getD 0=-1/\n≠-1))->K (.ret (.tuple [])) ⟨Zby pl p r vs more,[],0⟩:=fun g=>by
     simp only [Zt0] at h;rw [Tf g] at h;exact h
    clear h
    conv=>whnf
    refine ZGp (fun v hv=>?_) (fun hv=>wN ?_)
    ·rw [ZI] at hv;obtain ⟨old,oa,rfl⟩:=TB.1 hv;rw [oa] at yes no;(conv=>whnf);refine ZGg (fun ho=>wN ?_) (fun ho=>wN ?_)
     ·refine ZGi (fun hn=>wN ?_) (fun hn=>wN ?_)
      ·have yes:=yes (.inr ⟨ho,hn⟩);exact mq122
      exact no (by simp [hn])
     exact no (by simp [show ¬old=-1 from ho])
    rw [ZI,Option.map_eq_none_iff] at hv;have yes:=yes (.inl (by rw [hv];rfl));exact mq122
   have h1:¬op=1:=fun g=>h1 (by simp only [g];rfl)
   have h:=fun v b (g:gvEs p eargs (ZaG p op text eargs.length n) (vs,more)=(v,b))=>h v b (by simp only [gvE];rw [Tf h1];exact g)
   refine ⟨pl,p,r,vs,more,rfl,hp,.mk op text num eargs ea,rfl,by show eargs.length<=_;omega,fun l b hl hb=>?_⟩;simp only [Zml,Zcn] at hl hb
   cases b with
   | true =>
    have hL:ZaG p op text eargs.length n=l:=by unfold ZaG;rw [hl,Tj (of_decide_eq_true hb)]
    conv=>whnf
    refine ⟨⟨0,vs,more,rfl,rfl,oM,rfl⟩,?_⟩
    rintro w σ1 ⟨j,v,b,rfl,rfl,hj,ha⟩
    conv=>whnf
    refine ZGg (fun hc=>?_) (fun hc=>?_);rotate_left
    ·conv=>whnf
     rw [Tp oM] at ha;exact h v b ha.symm
    have aa:j<eargs.length:=oM;have av:j<(ZaG p op text eargs.length n).length:=by rw [Zjg];exact aa
    rw [Tk aa,Tk av] at ha;simp only [gvEs] at ha;have hr:(Ze pl eargs)[(j:Int).toNat]?=some (ZF pl eargs[j]):=by rw [Zc,Th,Ti,Tb aa];rfl
    have dy:=ZD szE eargs j aa;have ef:(Vk l)[(j:Int).toNat]?=some [.int .i64 (ZaG p op text eargs.length n)[j]]:=by
     rw [Vk,Th,Ti,<- hL,Tb av];rfl
    generalize (ZaG p op text eargs.length n)[j]=y at ha ef;generalize eargs[j]=x at ha hr dy;obtain ⟨x1,x2,x3,x4,x5⟩:=x;have hμ:((eargs.length:Int) - ((j:Int)+1)).toNat<((eargs.length:Int) - (j:Int)).toNat:=oM;(conv=>whnf);refine ⟨_,oM,hr,wN ?_⟩;refine ⟨_,oM,ef,wN ?_⟩;exact mq93
   | false =>
   have hL:ZaG p op text eargs.length n=List.replicate eargs.length (-1):=by unfold ZaG;rw [hl,Tf (of_decide_eq_false hb)]
   conv=>whnf
   refine ⟨⟨0,vs,more,rfl,rfl,oM,rfl⟩,?_⟩
   rintro w σ1 ⟨j,v,b,rfl,rfl,hj,ha⟩
   conv=>whnf
   refine ZGg (fun hc=>?_) (fun hc=>?_);rotate_left
   ·conv=>whnf
    rw [Tp oM] at ha;exact h v b ha.symm
   have aa:j<eargs.length:=oM;have av:j<(ZaG p op text eargs.length n).length:=by rw [Zjg];exact aa
   rw [Tk aa,Tk av] at ha;simp only [gvEs] at ha;have hr:(Ze pl eargs)[(j:Int).toNat]?=some (ZF pl eargs[j]):=by rw [Zc,Th,Ti,Tb aa];rfl
   have dy:=ZD szE eargs j aa;have hy:(ZaG p op text eargs.length n)[j]=-1:=by simp only [hL,List.getElem_replicate]
   rw [hy] at ha;generalize eargs[j]=x at ha hr dy;obtain ⟨x1,x2,x3,x4,x5⟩:=x;have hμ:((eargs.length:Int) - ((j:Int)+1)).toNat<((eargs.length:Int) - (j:Int)).toNat:=oM;(conv=>whnf);refine ⟨_,oM,hr,wN ?_⟩;exact mq93
  exact h.elim
 exact h.elim
def Zea:Zk:=ZaY fun rest pl p r vs more K=>match rest with
 | [.agg c]=>∃op rel a b args body at',c=(YQ pl (.mk op rel (a::b::args) body at')).map .d/\∀n,Jp p vs (a::b::args)=n->K (.ret (.d (.int .i64 n))) vs more
 | _=>False
def Zt5:OKw w0 nG [(205,ZqW)] 139 Zea:=by
 refine pwo Tryz.func139 fun args σ K h=>?_
 unfold Zea ZaY at h
 split at h
 ·obtain ⟨pl,p,r,vs,more,rfl,hp,h⟩:=h;split at h
  ·obtain ⟨op,rel,⟨a1,a2,a3,a4,a5⟩,⟨b1,b2,b3,b4,b5⟩,args,body,at',rfl,h⟩:=h;simp only [Jp] at h;refine pwv [] 7 false ?_;refine ⟨ZF pl (.mk a1 a2 a3 a4 a5),dM,rfl,wN ?_⟩;refine ⟨pl,p,r,vs,more,rfl,hp,.mk a1 a2 a3 a4 a5,rfl,fun n hn=>wN ?_⟩;rw [hn] at h;refine ZGi (fun hc=>wN ?_) (fun hc=>wN ?_)
   ·exact h n (by rw [Tj hc])
   refine ⟨ZF pl (.mk b1 b2 b3 b4 b5),dM,rfl,wN ?_⟩;refine ⟨pl,p,r,vs,more,rfl,hp,.mk b1 b2 b3 b4 b5,rfl,fun n2 kj=>wN ?_⟩;exact h n2 (by rw [Tf (fun g=>g hc)];exact kj)
  exact h.elim
 exact h.elim
def RtK (pl:Pl) (K:PEnd->Vs->Bool->Prop) (vs:Vs) (more:Bool):Flt->Prop
 | none=>K (.ret (.tuple [])) vs more
 | some (a,e)=>K (.panic (.iface 71 (.agg [.d (.int .i64 (pl a)),.d (.int .i64 e)]))) vs more
def Zhx {pl:Pl} {K K':PEnd->Vs->Bool->Prop} (hK:∀pe v m,K pe v m->K' pe v m) {vs:Vs} {more:Bool} {x:Flt} (h:RtK pl K vs more x):RtK pl K' vs more x:=by
 cases x with
 | none=>exact hK _ _ _ h
 | some ae=>exact hK _ _ _ h
def Zy5 (m:Nat):Zk:=ZaY fun rest pl p r vs more K=>match rest with
 | [.agg c,.d (.int .i64 n)]=>∃e,c=(ZF pl e).map .d/\(szE e<=m/\m<=2097152)/\∀x,rtE p vs e n=x->RtK pl K vs more x
 | _=>False
def ZvB (m:Nat):Tbl:=[(140,spB Zy5 m),(205,ZqW),(138,Zd9),(204,ZkT)]
abbrev Zy6 (a e:Int):PV:=.iface 71 (.agg [.d (.int .i64 a),.d (.int .i64 e)])
theorem ZvC {m:Nat} (ht:TO w0 nG (ZvB m)):PC w0 nG 140 (Zy5 m):=by
 refine Zpo Zr mixed (tbl:=ZvB m) ht Tryz.func140 rfl kR kR ?_;intro args σ K h
 unfold Zy5 ZaY at h
 split at h
 ·obtain ⟨pl,p,r,vs,more,rfl,hp,h⟩:=h;split at h
  ·rename_i n
   obtain ⟨⟨op,text,num,eargs,ea⟩,rfl,⟨hz,hm⟩,h⟩:=h;simp only [szE,Wq] at hz;have ol:=Zu szE eargs;have am:(Ze pl eargs).length=eargs.length:=by rw [Zc,Td]
   obtain ⟨x,hx⟩:∃x,rtE p vs (.mk op text num eargs ea) n=x:=⟨_,rfl⟩
   have h:=h x hx;refine ⟨Zg [(14,⟨[101],[0,7,99,100],fun w σ=>∃(j:Nat) (c1 c2 c3 c4 c5 c6 d1 d2:D),w=[.d (.int .i64 j)]/\σ=⟨Zby pl p r vs more++[.cells 25 ((ZF pl (.mk op text num eargs ea)).map .d),.cells 144 [.d c1,.d c2,.d c3,.d c4,.d c5,.d c6],.cells 152 [.d d1,.d d2]],[],0⟩/\j<=eargs.length /\
     (ZN p op text eargs.length n).length=eargs.length/\ZaW p vs (eargs.drop j) ((ZN p op text eargs.length n).drop j)=x,
    fun w _=>match w with | [.d (.int _ j)]=>((eargs.length:Int) - j).toNat | _=>0⟩)],Ys [],ZC [],ZC [],ZC [],Zwc [(4,([0,2,4,6,7,8,10],fun w σ=>∃c1 c2 c3 c4 c5 c6:D,w=[.ptr 0 0,.d (.int .i64 n),.ptr 7 0,.d (.int .i64 (Ze3 p vs op text)),.d (.sl (Vk (ZN p op text eargs.length n))),.d (.bool (decide ((ZN p op text eargs.length n).length=eargs.length))),.d (.bool (Zhv p n).isSome)] /\
     σ=⟨Zby pl p r vs more++[.cells 25 ((ZF pl (.mk op text num eargs ea)).map .d),.cells 144 [.d c1,.d c2,.d c3,.d c4,.d c5,.d c6]],[],0⟩)),
    (5,([0,2,4,6,7,8,10,12],fun w σ=>∃c1 c2 c3 c4 c5 c6 d1 d2:D,w=[.ptr 0 0,.d (.int .i64 n),.ptr 7 0,.d (.int .i64 (Ze3 p vs op text)),.d (.sl (Vk (ZN p op text eargs.length n))),.d (.bool (decide ((ZN p op text eargs.length n).length=eargs.length))),.d (.bool (Zhv p n).isSome),.d (.bool (lkM text (Xc p)).isSome)] /\
     σ=⟨Zby pl p r vs more++[.cells 25 ((ZF pl (.mk op text num eargs ea)).map .d),.cells 144 [.d c1,.d c2,.d c3,.d c4,.d c5,.d c6],.cells 152 [.d d1,.d d2]],[],0⟩)),
    (13,([0,4,7],fun w σ=>∃c1 c2 c3 c4 c5 c6 d1 d2:D,w=[.ptr 0 0,.ptr 7 0,.d (.sl (Vk (ZN p op text eargs.length n)))] /\
     σ=⟨Zby pl p r vs more++[.cells 25 ((ZF pl (.mk op text num eargs ea)).map .d),.cells 144 [.d c1,.d c2,.d c3,.d c4,.d c5,.d c6],.cells 152 [.d d1,.d d2]],[],0⟩/\(ZN p op text eargs.length n).length=eargs.length /\
     ZaW p vs eargs (ZN p op text eargs.length n)=x))],7,false,sM,Tc rfl,?_⟩
   conv=>whnf
   refine ⟨pl,p,r,vs,more,rfl,hp,.mk op text num eargs ea,rfl,fun own jn=>?_⟩;simp only [ZAC] at jn;subst jn;(conv=>whnf);refine ⟨pl,p,r,vs,more,rfl,hp,.mk op text num eargs ea,rfl,by show eargs.length<=_;omega,fun l ok hl au=>?_⟩;simp only [Zml,Zcn] at hl au;subst hl au;(conv=>whnf);refine ⟨?_,?_⟩
   ·refine ⟨pl,p,r,vs,more,rfl,hp,fun t uf=>wN ?_,fun uf=>wN ?_⟩
    ·obtain ⟨t1,t2,t3,t4,t5,t6⟩:=t;exact ⟨_,_,_,_,_,_,by rw [uf];rfl,rfl⟩
    exact ⟨_,_,_,_,_,_,by rw [uf];rfl,rfl⟩
   rintro w σ1 ⟨c1,c2,c3,c4,c5,c6,rfl,rfl⟩
   conv=>whnf
   refine ⟨wN ?_,?_⟩
   ·refine ZGp (fun v hv=>?_) (fun hv=>wN ?_)
    ·rw [ZI] at hv;obtain ⟨ij,jc,rfl⟩:=TB.1 hv;obtain ⟨i,k⟩:=ij;(conv=>whnf)
     (repeat (refine ⟨rfl,?_⟩;conv=>whnf))
     exact ⟨_,_,_,_,_,_,_,_,by rw [jc];rfl,rfl⟩
    rw [ZI,Option.map_eq_none_iff] at hv
    (repeat (refine ⟨rfl,?_⟩;conv=>whnf))
    exact ⟨_,_,_,_,_,_,_,_,by rw [hv];rfl,rfl⟩
   rintro w σ1 ⟨c1,c2,c3,c4,c5,c6,d1,d2,rfl,rfl⟩
   conv=>whnf
   refine ⟨?_,?_⟩
   ·have eok : (op = 7 -> (lkM text (Xc p)).isSome = true) -> ¬ ((Ze3 p vs op text ≠ -1 /\ n ≠ -1 /\ Ze3 p vs op text ≠ n) \/ ((op = 6 \/ op = 5) /\ (Zhv p n).isSome = false) \/ (op = 1 /\ Ze3 p vs op text = -1)) -> decide ((ZN p op text eargs.length n).length = eargs.length) = true ->
        (ZN p op text eargs.length n).length=eargs.length/\ZaW p vs eargs (ZN p op text eargs.length n)=x:=fun g1 g2 g3=>by
     have g3:=of_decide_eq_true g3;refine ⟨g3,?_⟩;rw [<- hx,rtE,Tf (fun g=>by have:=g1 g.1;cases hl:lkM text (Xc p) <;> simp_all),Tf (fun g=>g2 (by
      rcases g with g | ⟨g,g'⟩ | g
      ·exact .inl g
      ·exact .inr (.inl ⟨g,by cases hl:Zhv p n <;> simp_all⟩)
      exact .inr (.inr g))),Tf (fun g=>g g3)]
    have e184:op=7->(lkM text (Xc p)).isSome=false->K (.panic (Zy6 (pl ea) 184)) ⟨Zby pl p r vs more,[],0⟩:=fun g1 g2=>by
     rw [rtE,Tj ⟨g1,by cases hl:lkM text (Xc p) <;> simp_all⟩] at hx;subst hx;exact h
    have e183:(op=7->(lkM text (Xc p)).isSome=true)->((Ze3 p vs op text≠-1/\n≠-1/\Ze3 p vs op text≠n)\/((op=6\/op=5)/\(Zhv p n).isSome=false)\/(op=1/\Ze3 p vs op text=-1))->K (.panic (Zy6 (pl ea) 183)) ⟨Zby pl p r vs more,[],0⟩:=fun g1 g2=>by
     rw [rtE,Tf (fun g=>by have:=g1 g.1;cases hl:lkM text (Xc p) <;> simp_all),Tj (by
      rcases g2 with g | ⟨g,g'⟩ | g
      ·exact .inl g
      ·exact .inr (.inl ⟨g,by cases hl:Zhv p n <;> simp_all⟩)
      exact .inr (.inr g))] at hx
     subst hx;exact h
    have e182:(op=7->(lkM text (Xc p)).isSome=true)->¬((Ze3 p vs op text≠-1/\n≠-1/\Ze3 p vs op text≠n)\/((op=6\/op=5)/\(Zhv p n).isSome=false)\/(op=1/\Ze3 p vs op text=-1))->decide ((ZN p op text eargs.length n).length=eargs.length)=false->K (.panic (Zy6 (pl ea) 182)) ⟨Zby pl p r vs more,[],0⟩:=fun g1 g2 g3=>by
     have g3:=of_decide_eq_false g3;rw [rtE,Tf (fun g=>by have:=g1 g.1;cases hl:lkM text (Xc p) <;> simp_all),Tf (fun g=>g2 (by
      rcases g with g | ⟨g,g'⟩ | g
      ·exact .inl g
      ·exact .inr (.inl ⟨g,by cases hl:Zhv p n <;> simp_all⟩)
      exact .inr (.inr g))),Tj g3] at hx
     subst hx;exact h
    clear h hx
    generalize decide ((ZN p op text eargs.length n).length=eargs.length)=ok at eok e182 |-;generalize (Zhv p n).isSome=rec at eok e182 e183 |-;generalize (lkM text (Xc p)).isSome=br at eok e182 e183 e184 |-;generalize Ze3 p vs op text=own at eok e182 e183 |-;have n2:∀{rec:Bool},¬(own≠-1/\n≠-1/\own≠n)->((op=6\/op=5)->rec=true)->¬(op=1/\own=-1)->¬((own≠-1/\n≠-1/\own≠n)\/((op=6\/op=5)/\rec=false)\/(op=1/\own=-1)):=fun {rec} g1 g2 g3 g=>by
     rcases g with g | ⟨g,g'⟩ | g
     ·exact g1 g
     ·rw [g2 g] at g';cases g'
     exact g3 g
    cases br <;> cases rec <;> cases ok
    all_goals repeat' ((conv=>whnf);first | refine ZGg (fun hc=>?_) (fun hc=>?_) | refine ZGi (fun hc=>?_) (fun hc=>?_))
    all_goals (conv=>whnf)
    all_goals first
     | (exfalso;omega)
     | exact e184 oM rfl
     | exact e183 (fun g=>by first | rfl | (exfalso;omega)) (by first | (left;omega) | (right;left;exact ⟨oM,rfl⟩) | (right;right;omega))
     | exact e182 (fun g=>by first | rfl | (exfalso;omega)) (n2 oM (fun g=>by first | rfl | (exfalso;omega)) oM) rfl
     | exact ⟨c1,c2,c3,c4,c5,c6,d1,d2,rfl,rfl,eok (fun g=>by first | rfl | (exfalso;omega)) (n2 oM (fun g=>by first | rfl | (exfalso;omega)) oM) rfl⟩
   rintro w σ1 ⟨c1,c2,c3,c4,c5,c6,d1,d2,rfl,rfl,hlen,ha⟩
   conv=>whnf
   refine ⟨⟨0,c1,c2,c3,c4,c5,c6,d1,d2,rfl,rfl,oM,hlen,ha⟩,?_⟩
   rintro w σ1 ⟨j,c1,c2,c3,c4,c5,c6,d1,d2,rfl,rfl,hj,hlen,ha⟩
   conv=>whnf
   refine ZGg (fun hc=>?_) (fun hc=>?_);rotate_left
   ·conv=>whnf
    rw [Tp oM] at ha;subst ha;exact h
   have aa:j<eargs.length:=oM;have av:j<(ZN p op text eargs.length n).length:=by rw [hlen];exact aa
   rw [Tk aa,Tk av] at ha;simp only [ZaW] at ha;have hr:(Ze pl eargs)[(j:Int).toNat]?=some (ZF pl eargs[j]):=by rw [Zc,Th,Ti,Tb aa];rfl
   have dy:=ZD szE eargs j aa;have ef:(Vk (ZN p op text eargs.length n))[(j:Int).toNat]?=some [.int .i64 (ZN p op text eargs.length n)[j]]:=by
    rw [Vk,Th,Ti,Tb av];rfl
   have hμ:((eargs.length:Int) - ((j:Int)+1)).toNat<((eargs.length:Int) - (j:Int)).toNat:=oM;generalize (ZN p op text eargs.length n)[j]=y at ha ef;generalize eargs[j]=e at ha hr dy;obtain ⟨x1,x2,x3,x4,x5⟩:=e;(conv=>whnf);refine ⟨_,oM,hr,wN ?_⟩;refine ⟨_,oM,ef,wN ?_⟩;refine ⟨oM,pl,p,r,vs,more,rfl,hp,.mk x1 x2 x3 x4 x5,rfl,⟨oM,oM⟩,fun f hf=>?_⟩;rw [hf] at ha
   cases f with
   | none =>
    simp only [RtK];(conv=>whnf)
    (repeat (refine ⟨rfl,?_⟩;conv=>whnf))
    refine Zi ?_;exact ⟨⟨j+1,c1,c2,c3,c4,c5,c6,d1,d2,rfl,rfl,oM,hlen,ha⟩,hμ⟩
   | some ae =>
   obtain ⟨a,e⟩:=ae;simp only at ha;subst ha;simp only [RtK] at h |-;exact mq47
  exact h.elim
 exact h.elim
def ZcI {p:Pr} {s:Bs} {n:Int} (h:lkM s (JW p)=some n):∃(k:Nat) (d:Re),n=k/\p.rels[k]?=some d/\d.name=s:=by
 exact mq146
def Zbz {p:Pr} {s:Bs} {n:Nat} {k:Nat} {d:Re} (h:lkM s (JW p)=some (k:Int)) (hd:p.rels[k]?=some d):Y8 p s n=if d.fields.length=n then ZY p d.fields else List.replicate n (-1):=by
 simp only [Y8,h,Th,hd]
def Zga {p:Pr} {s:Bs} {n:Nat} (h:lkM s (JW p)=none):Y8 p s n=List.replicate n (-1):=by
 simp only [Y8,h]
def Zjh (p:Pr) (s:Bs) (n:Nat):(Y8 p s n).length=n:=by
 unfold Y8
 split
 ·simp
 split
 ·simp
 split
 ·simp [ZY, *]
 simp
def ZqY (m:Nat):Zk:=ZaY fun rest pl p r vs more K=>match rest with
 | [.d (.str name),.d (.sl rows),.func f [.ptr 0 0] []]=>∃args,rows=Ze pl args/\f=85/\(szS szE args<=m/\m<=2097152)/\∀v b,gvEs p args (Y8 p name args.length) (vs,more)=(v,b)->K (.ret (.tuple [])) v b
 | _=>False
def ZCz {m:Nat}:OKw w0 nG [(85,Zy4 m),(137,VJ)] 84 (ZqY m):=by
 refine pwo Tryz.func84 fun args σ K h=>?_
 unfold ZqY ZaY at h
 split at h
 ·obtain ⟨pl,p,r,vs,more,rfl,hp,h⟩:=h;split at h
  ·rename_i name rows f
   obtain ⟨eargs,rfl,rfl,⟨hz,hm⟩,h⟩:=h;have ol:=Zu szE eargs;have am:(Ze pl eargs).length=eargs.length:=by rw [Zc,Td]
   refine pwu [(3,⟨[46],[0,3,8,9,44,45],fun w σ=>∃(j:Nat) (v:Vs) (b:Bool),w=[.d (.int .i64 j)]/\σ=⟨Zby pl p r v b,[],0⟩/\j<=eargs.length /\
     gvEs p (eargs.drop j) ((Y8 p name eargs.length).drop j) (v,b)=gvEs p eargs (Y8 p name eargs.length) (vs,more),
    fun w _=>match w with | [.d (.int _ j)]=>((eargs.length:Int) - j).toNat | _=>0⟩)] 7 false ?_
   have step:∀(j:Nat) (v:Vs) (b:Bool),j<eargs.length->gvEs p (eargs.drop j) ((Y8 p name eargs.length).drop j) (v,b)=gvEs p eargs (Y8 p name eargs.length) (vs,more)->∃(x:Ex) (y:Int),(Ze pl eargs)[(j:Int).toNat]?=some (ZF pl x)/\(Y8 p name eargs.length)[j]?=some y/\szE x<=m /\
     ∀v' b',gvE p x y (v,b)=(v',b')->gvEs p (eargs.drop (j+1)) ((Y8 p name eargs.length).drop (j+1)) (v',b')=gvEs p eargs (Y8 p name eargs.length) (vs,more):=fun j v b aa ha=>by
    have av:j<(Y8 p name eargs.length).length:=by rw [Zjh];exact aa
    have dy:=ZD szE eargs j aa;rw [Tk aa,Tk av] at ha;simp only [gvEs] at ha;exact ⟨eargs[j],(Y8 p name eargs.length)[j],by rw [Zc,Th,Ti,Tb aa];rfl,Tb av,oM,fun v' b' hg=>by rw [hg] at ha;exact ha⟩
   have fin:∀(j:Nat) (v:Vs) (b:Bool),¬j<eargs.length->gvEs p (eargs.drop j) ((Y8 p name eargs.length).drop j) (v,b)=gvEs p eargs (Y8 p name eargs.length) (vs,more)->K (.ret (.tuple [])) ⟨Zby pl p r v b,[],0⟩:=fun j v b hn ha=>by
    rw [Tp oM] at ha;exact h v b ha.symm
   conv=>whnf
   refine ZGp (fun v hv=>?_) (fun hv=>wN ?_)
   ·rw [ZI] at hv;obtain ⟨i,hi,rfl⟩:=TB.1 hv;obtain ⟨k,d,rfl,h2,h3⟩:=ZcI hi;have hr:(p.rels.map (ZM pl))[(k:Int).toNat]?=some (ZM pl d):=by rw [Th,Ti,h2];rfl
    have hT:=Zbz (n:=eargs.length) hi h2;obtain ⟨d1,d2,d3,d4,d5,d6⟩:=d;simp only at hT;(conv=>whnf);refine ⟨_,oM,hr,wN ?_⟩;refine ⟨⟨0,vs,more,rfl,rfl,oM,rfl⟩,?_⟩
    rintro w σ1 ⟨j,v,b,rfl,rfl,hj,ha⟩
    conv=>whnf
    refine ZGg (fun hc=>?_) (fun hc=>?_);rotate_left
    ·conv=>whnf
     exact fin j v b oM ha
    obtain ⟨⟨x1,x2,x3,x4,x5⟩,y,cd,hy,dy,kz⟩:=step j v b oM ha;have hμ:((eargs.length:Int) - ((j:Int)+1)).toNat<((eargs.length:Int) - (j:Int)).toNat:=oM;(conv=>whnf);refine ⟨_,oM,cd,wN ?_⟩;refine ZGg (fun hq=>?_) (fun hq=>?_)
    ·have hq:d2.length=eargs.length:=by have hq:((d2.map Zn).length:Int)=((Ze pl eargs).length:Int):=hq;rw [Td,am] at hq;omega
     rw [hT,Tj hq,ZY,Ti] at hy;obtain ⟨⟨f1,f2⟩,hf,hy⟩:=TB.1 hy;have ef:(d2.map Zn)[(j:Int).toNat]?=some (Zn ⟨f1,f2⟩):=by rw [Th,Ti,hf];rfl
     simp only at hy;(conv=>whnf)
     (repeat (refine ⟨rfl,?_⟩;conv=>whnf))
     refine ⟨_,oM,hr,wN ?_⟩
     (repeat (refine ⟨rfl,?_⟩;conv=>whnf))
     refine ⟨_,oM,ef,wN ?_⟩
     (repeat (refine ⟨rfl,?_⟩;conv=>whnf))
     refine ⟨pl,p,rfl,hp.bp,hp.ends,fun n hn=>?_⟩;rw [hy] at hn;subst hn;(conv=>whnf)
     (repeat (refine ⟨rfl,?_⟩;conv=>whnf))
     exact mq65
    have hq:¬d2.length=eargs.length:=by have hq:¬((d2.map Zn).length:Int)=((Ze pl eargs).length:Int):=hq;rw [Td,am] at hq;omega
    rw [hT,Tf hq,Ss] at hy;split at hy
    ·cases hy
     conv=>whnf
     exact mq65
    cases hy
   rw [ZI,Option.map_eq_none_iff] at hv;have hT:=Zga (n:=eargs.length) hv;refine ⟨⟨0,vs,more,rfl,rfl,oM,rfl⟩,?_⟩
   rintro w σ1 ⟨j,v,b,rfl,rfl,hj,ha⟩
   conv=>whnf
   refine ZGg (fun hc=>?_) (fun hc=>?_);rotate_left
   ·conv=>whnf
    exact fin j v b oM ha
   obtain ⟨⟨x1,x2,x3,x4,x5⟩,y,cd,hy,dy,kz⟩:=step j v b oM ha;have hμ:((eargs.length:Int) - ((j:Int)+1)).toNat<((eargs.length:Int) - (j:Int)).toNat:=oM;rw [hT,Ss] at hy;split at hy
   ·cases hy
    conv=>whnf
    refine ⟨_,oM,cd,wN ?_⟩;exact mq65
   cases hy
  exact h.elim
 exact h.elim
def Zgb (m:Nat):Zk:=ZaY fun rest pl p r vs more K=>match rest with
 | [.d (.sl rows)]=>∃l,rows=ZL pl l/\(szS szL l<=m/\m<=2097152)/\Zck l=true/\∀v b,gvLs p l (vs,more)=(v,b)->K (.ret (.tuple [])) v b
 | _=>False
def ZqZ {op:Nat} {rel:Bs} {args:List Ex} {body:List Li} {a:Nat} (h:YI (.mk op rel args body a)=true) (h1:¬op<=2) (h2:op<=8):∃x y,args=[x,y]:=by
 simp only [YI,YY] at h;rw [Tf oM,Tj oM] at h;simp only [Tl,TH] at h
 match args,h.1.2.1 with
 | [x,y],_=>exact ⟨x,y,rfl⟩
def Zmm {op:Nat} {rel:Bs} {args:List Ex} {body:List Li} {a:Nat} (h:YI (.mk op rel args body a)=true):Zck body=true:=by
 simp only [YI,Tl] at h;exact h.2.2
def Zq0 (m:Nat):Tbl:=[(86,spB Zgb m),(85,Zy4 m),(84,ZqY m),(139,Zea)]
def Zq1 {m:Nat} (ht:TO w0 nG (Zq0 m)):PC w0 nG 86 (Zgb m):=by
 refine YV Zr mixed (tbl:=Zq0 m) ht Tryz.func86 rfl kR kR ?_;intro args σ K h
 unfold Zgb ZaY at h
 split at h
 ·obtain ⟨pl,p,r,vs,more,rfl,hp,h⟩:=h;split at h
  ·rename_i rows
   obtain ⟨l,rfl,⟨hz,hm⟩,bm,h⟩:=h;have ol:=Zu szL l;have am:(ZL pl l).length=l.length:=by rw [Zq,Td]
   obtain ⟨F,hF⟩:∃F,gvLs p l (vs,more)=F:=⟨_,rfl⟩
   have h:∀v b,F=(v,b)->K (.ret (.tuple [])) ⟨Zby pl p r v b,[],0⟩:=fun v b g=>h v b (hF.trans g)
   refine ⟨Zg [(1,⟨[11],[0,9,10],fun w σ=>∃(j:Nat) (v:Vs) (b:Bool),w=[.d (.int .i64 j)]/\σ=⟨Zby pl p r v b,[],0⟩/\j<=l.length/\gvLs p (l.drop j) (v,b)=F,
    fun w _=>match w with | [.d (.int _ j)]=>((l.length:Int) - j).toNat | _=>0⟩),
    (4,⟨[18],[0,5,9,10,11,16,17],fun w σ=>∃(j i op:Nat) (rel:Bs) (eargs:List Ex) (body:List Li) (at':Nat) (v:Vs) (b:Bool),w=[.ptr 0 0,.ptr 7 0,.d (.sl (ZL pl l)),.d (.int .i64 ((ZL pl l).length:Nat)),.d (.int .i64 j),.d (.sl (Ze pl eargs)),.d (.int .i64 ((Ze pl eargs).length:Nat)),.d (.int .i64 i)] /\
     σ=⟨Zby pl p r v b++[.cells 30 ((YQ pl (.mk op rel eargs body at')).map .d)],[],0⟩/\l[j]?=some (.mk op rel eargs body at')/\i<=eargs.length/\(szS szE eargs<=m/\szS szL body+1<=m)/\Zck body=true /\
     gvLs p (l.drop (j+1)) (gvLs p body (gvEs p (eargs.drop i) (List.replicate (eargs.length - i) 0) (v,b)))=F,
    fun w _=>match w with | [_,_,_,_,_,_,.d (.int _ n),.d (.int _ i)]=>(n - i).toNat | _=>0⟩)],Ys [],ZC [4],7,false,sM,Tc rfl,?_⟩
   conv=>whnf
   refine ⟨⟨0,vs,more,rfl,rfl,oM,hF⟩,?_⟩
   rintro w σ1 ⟨j,v,b,rfl,rfl,hj,ha⟩
   conv=>whnf
   refine ZGg (fun hc=>?_) (fun hc=>?_);rotate_left
   ·conv=>whnf
    rw [Tp oM] at ha;exact h v b ha.symm
   have aa:j<l.length:=oM;have hr:(ZL pl l)[(j:Int).toNat]?=some (YQ pl l[j]):=by rw [Zq,Th,Ti,Tb aa];rfl
   have dy:=ZD szL l j aa;have fg:YI l[j]=true:=by rw [Xk,Tm] at bm;exact bm _ (TC aa)
   rw [Tk aa] at ha;simp only [gvLs] at ha;have hμ:((l.length:Int) - ((j:Int)+1)).toNat<((l.length:Int) - (j:Int)).toNat:=oM;have j6:l[j]?=some l[j]:=Tb aa;generalize l[j]=x at ha hr dy fg j6;obtain ⟨op,rel,eargs,body,at'⟩:=x;simp only [szL,Wq,Zbs] at dy;simp only [gvL] at ha;have ai:=Zu szE eargs;have gd:(Ze pl eargs).length=eargs.length:=by rw [Zc,Td]
   conv=>whnf
   refine ⟨_,oM,hr,wN ?_⟩;refine ZGg (fun h2=>wN ?_) (fun h2=>wN ?_)
   ·have h2:op<=2:=by have h2:(op:Int)<=2:=h2;omega
    rw [Tj h2] at ha;refine ⟨pl,p,r,v,b,rfl,hp,eargs,rfl,rfl,⟨oM,hm⟩,fun v' b' hg=>wN ?_⟩;rw [hg] at ha;refine Zi ?_;exact ⟨⟨j+1,v',b',rfl,rfl,oM,ha⟩,hμ⟩
   have h2:¬op<=2:=by have h2:¬(op:Int)<=2:=h2;omega
   rw [Tf h2] at ha;refine ZGg (fun h8=>?_) (fun h8=>wN ?_)
   ·have h8:op<=8:=by have h8:(op:Int)<=8:=h8;omega
    rw [Tj h8] at ha;obtain ⟨⟨a1,a2,a3,a4,a5⟩,⟨b1,b2,b3,b4,b5⟩,rfl⟩:=ZqZ fg h2 h8;simp only [szS] at dy;(conv=>whnf);refine ⟨pl,p,r,v,b,rfl,hp,op,rel,.mk a1 a2 a3 a4 a5,.mk b1 b2 b3 b4 b5,[],body,at',rfl,fun n hn=>wN ?_⟩;simp only [hn,gvEs] at ha;refine ⟨ZF pl (.mk a1 a2 a3 a4 a5),dM,rfl,wN ?_⟩;refine ⟨pl,p,r,v,b,rfl,hp,.mk a1 a2 a3 a4 a5,rfl,⟨oM,hm⟩,fun v1 b1' wi=>wN ?_⟩;rw [wi] at ha;refine ⟨ZF pl (.mk b1 b2 b3 b4 b5),dM,rfl,wN ?_⟩;refine ⟨pl,p,r,v1,b1',rfl,hp,.mk b1 b2 b3 b4 b5,rfl,⟨oM,hm⟩,fun v2 b2' uc=>wN ?_⟩;rw [uc] at ha;refine Zi ?_;exact ⟨⟨j+1,v2,b2',rfl,rfl,oM,ha⟩,hμ⟩
   have h8:¬op<=8:=by have h8:¬(op:Int)<=8:=h8;omega
   rw [Tf h8] at ha;refine ⟨⟨j,0,op,rel,eargs,body,at',v,b,rfl,rfl,j6,oM,⟨oM,oM⟩,Zmm fg,ha⟩,?_⟩
   rintro w σ1 ⟨j',i,op',rel',eargs',body',at'',v2,b2,hw,rfl,la,hi,⟨sa,co⟩,zc,ff⟩
   have ej:(some (PV.d (.int .i64 (j:Int))):Option PV)=some (.d (.int .i64 (j':Int))):=congrArg (fun l:List PV=>l[4]?) hw;obtain rfl:j=j':=by have ej:=Option.some.inj ej;injection ej with ej;injection ej with _ ej;omega
   rw [j6] at la;obtain ⟨rfl,rfl,rfl,rfl,rfl⟩:=Li.mk.inj (Option.some.inj la);have hw:w=[.d (.int .i64 i)]:=congrArg (List.drop 7) hw;subst hw;(conv=>whnf);refine ZGg (fun bj=>?_) (fun bj=>?_)
   ·have av:i<eargs.length:=by have bj:(i:Int)<((Ze pl eargs).length:Int):=bj;omega
    have ef:(Ze pl eargs)[(i:Int).toNat]?=some (ZF pl eargs[i]):=by rw [Zc,Th,Ti,Tb av];rfl
    have tg:=ZD szE eargs i av;rw [Tk av,show eargs.length - i=(eargs.length - (i+1))+1 by omega,List.replicate_succ] at ff;simp only [gvEs] at ff;generalize eargs[i]=e at ff ef tg;obtain ⟨x1,x2,x3,x4,x5⟩:=e;(conv=>whnf);refine ⟨_,oM,ef,wN ?_⟩;refine ⟨pl,p,r,v2,b2,rfl,hp,.mk x1 x2 x3 x4 x5,rfl,⟨oM,hm⟩,fun v' b' hg=>wN ?_⟩;rw [hg] at ff;refine Zi ?_;exact ⟨⟨j,i+1,op,rel,eargs,body,at',v',b',rfl,rfl,j6,oM,⟨sa,co⟩,zc,ff⟩,by show (((Ze pl eargs).length:Int) - ((i:Int)+1)).toNat<(((Ze pl eargs).length:Int) - (i:Int)).toNat;omega⟩
   have hii:i=eargs.length:=by have bj:¬(i:Int)<((Ze pl eargs).length:Int):=bj;omega
   subst hii;rw [Sw,Nat.sub_self] at ff;simp only [gvEs,List.replicate_zero] at ff;(conv=>whnf);refine ⟨oM,pl,p,r,v2,b2,rfl,hp,body,rfl,⟨oM,oM⟩,zc,fun v' b' hg=>wN ?_⟩;rw [hg] at ff;refine Zi ?_;exact ⟨⟨j+1,v',b',rfl,rfl,oM,ff⟩,hμ⟩
  exact h.elim
 exact h.elim
def Xm (v:Vs) (x:Bs):Bool:=decide ((lkM x v).getD (-1)=-1)
def Zmn (X:List Bs) (v:Vs):Nat:=X.countP (Xm v)
def Less (X:List Bs) (s s':VS):Prop:=(∀x,Xm s'.1 x=true->Xm s.1 x=true)/\(s'.2=true->s.2=true\/∃x∈X,Xm s.1 x=true/\Xm s'.1 x=false)
def Less.rfl' {X:List Bs} {s:VS}:Less X s s:=⟨fun _ h=>h,fun h=>.inl h⟩
def Less.trans {X:List Bs} {a b c:VS} (h:Less X a b) (k:Less X b c):Less X a c:=by
 refine ⟨fun x hx=>h.1 x (k.1 x hx),fun hc=>?_⟩;rcases k.2 hc with hb | ⟨x,hx,h1,h2⟩
 ·rcases h.2 hb with ha | ⟨x,hx,h1,h2⟩
  ·exact .inl ha
  refine .inr ⟨x,hx,h1,?_⟩
  cases hc':Xm c.1 x with
  | false=>rfl
  | true=>rw [k.1 x hc'] at h2;cases h2
 exact .inr ⟨x,hx,h.1 x h1,h2⟩
def Less.sub {X Y:List Bs} {a b:VS} (h:Less X a b) (hs:∀x∈X,x∈Y):Less Y a b :=
 ⟨h.1,fun hb=>(h.2 hb).imp id fun ⟨x,hx,h1⟩=>⟨x,hs x hx,h1⟩⟩
def Zq2 {t:Bs} {n:Int} {s:VS}:Less [t] s (Zt0 t n s):=by
 unfold Zt0
 split
 ·rename_i h
  have hu:Xm s.1 t=true:=by
   unfold Xm
   rcases h with h | ⟨h1,_⟩
   ·have:lkM t s.1=none:=by simpa using h
    rw [this];rfl
   cases hl:lkM t s.1 with
   | none=>rfl
   | some v=>rw [hl] at h1;simp at h1;simp [h1]
  refine ⟨fun x hx=>?_,fun hm=>?_⟩
  ·by_cases wj:x=t
   ·subst wj;exact hu
   unfold Xm at hx |-
   simp only [JV,Tf wj] at hx;exact hx
  simp only [Sh,TH] at hm;rcases hm with hm | hm
  ·exact .inl hm
  refine .inr ⟨t,sM,hu,?_⟩;unfold Xm
  simp only [JV,if_true,Sn];simpa using hm
 exact .rfl'
mutual
def Zt6 (p:Pr):∀(e:Ex) (n:Int) (s:VS),Less (nvE e) s (gvE p e n s)
 | .mk op text num args a,n,s=>by
  simp only [gvE,nvE];split
  ·exact Zq2
  exact Vm p args _ s
def Vm (p:Pr):∀(l:List Ex) (ns:List Int) (s:VS),Less (Zhw l) s (gvEs p l ns s)
 | [],_,s=>.rfl'
 | e::l,[],s=>.rfl'
 | e::l,n::ns,s=>by
  simp only [gvEs,Zhw];exact ((Zt6 p e n s).sub fun x hx=>List.mem_append_left _ hx).trans ((Vm p l ns _).sub fun x hx=>List.mem_append_right _ hx)
end
mutual
def Zt7 (p:Pr):∀(x:Li) (s:VS),Less (nvL x) s (gvL p x s)
 | .mk op rel args body a,s=>by
  simp only [gvL,nvL];split
  ·exact (Vm p args _ s).sub fun x hx=>List.mem_append_left _ hx
  split
  ·exact (Vm p args _ s).sub fun x hx=>List.mem_append_left _ hx
  exact ((Vm p args _ s).sub fun x hx=>List.mem_append_left _ hx).trans ((Zeb p body _).sub fun x hx=>List.mem_append_right _ hx)
def Zeb (p:Pr):∀(l:List Li) (s:VS),Less (Vl l) s (gvLs p l s)
 | [],s=>.rfl'
 | x::l,s=>by
  simp only [gvLs,Vl];exact ((Zt7 p x s).sub fun y hy=>List.mem_append_left _ hy).trans ((Zeb p l _).sub fun y hy=>List.mem_append_right _ hy)
end
def Zq3 {v v':Vs} (h:∀x,Xm v' x=true->Xm v x=true):∀X:List Bs,Zmn X v'<=Zmn X v
 | []=>Tr _
 | x::X=>by
  have ih:=Zq3 h X;unfold Zmn at ih |-
  rw [List.countP_cons,List.countP_cons]
  cases h1:Xm v' x with
  | false=>simp;omega
  | true=>rw [h x h1];simpa using ih
def ZvD {v v':Vs} (h:∀x,Xm v' x=true->Xm v x=true):∀{X:List Bs} {x:Bs},x∈X->Xm v x=true->Xm v' x=false->Zmn X v'<Zmn X v
 | y::X,x,hx,h1,h2=>by
  rcases Tu.1 hx with rfl | hx
  ·have:=Zq3 h X;unfold Zmn at this |-
   rw [List.countP_cons,List.countP_cons,h1,h2];simp;omega
  have ih:=ZvD h hx h1 h2;unfold Zmn at ih |-
  rw [List.countP_cons,List.countP_cons]
  cases h3:Xm v' y with
  | false=>simp;omega
  | true=>rw [h y h3];simpa using ih
def Zn6 (p:Pr) (r:Ru) (v:Vs):Less (nvR r) (v,false) (Uy p r v):=by
 unfold Uy nvR
 exact ((Vm p r.args _ _).sub fun x hx=>List.mem_append_left _ hx).trans ((Zeb p r.body _).sub fun x hx=>List.mem_append_right _ hx)
def Zji (p:Pr) (r:Ru) (v:Vs):Zmn (nvR r) (Uy p r v).1<=Zmn (nvR r) v/\((Uy p r v).2=true->Zmn (nvR r) (Uy p r v).1<Zmn (nvR r) v):=by
 have h:=Zn6 p r v;refine ⟨Zq3 h.1 _,fun hb=>?_⟩;rcases h.2 hb with h1 | ⟨x,hx,h1,h2⟩
 ·cases h1
 exact ZvD h.1 hx h1 h2
def Zca (p:Pr) (r:Ru):∀(n:Nat) (v:Vs),Zmn (nvR r) v<n->∃w,WT p r n v=some w
 | 0,v,h=>oM
 | n+1,v,h=>by
  simp only [WT];split
  ·rename_i hb
   exact Zca p r n _ (by have:=(Zji p r v).2 hb;omega)
  exact ⟨_,rfl⟩
def Zt8 (p:Pr) (r:Ru):WT p r ((nvR r).length+1) []=some (Zcm p r):=by
 obtain ⟨w,hw⟩:=Zca p r ((nvR r).length+1) [] (Nat.lt_succ_of_le List.countP_le_length);unfold Zcm
 rw [hw];rfl
def ZCA (X:List Bs) (m:List (Bs×MV)):Nat:=X.countP fun x=>match lkM x m with | some (.one (.int _ n))=>decide (n=-1) | _=>true
def Zq4 (X:List Bs) (v:Vs):ZCA X (mvM mvI v)=Zmn X v:=by
 unfold ZCA Zmn
 congr 1
 funext x
 rw [ZI];unfold Xm
 cases lkM x v with
 | none=>rfl
 | some n=>rfl
abbrev ZFg (pl:Pl) (p:Pr) (r:Ru) (v:Vs) (b:Bool):List Box:=Ze2 pl p++[.cells 51 ((ZQ pl r).map .d),.dmap (mvM mvI v),.cells 160 [.ptr 0 0,.d (.str r.head),.d (.sl (Ze pl r.args)),.d (.sl (ZL pl r.body)),.d (.int .i64 (pl r.at')),.mp 6,.d (.bool b)]]
def ZcJ (m:Nat):Zk:=fun args σ K=>match args,σ with
 | [.ptr 0 0,.agg c],⟨bx,[],0⟩=>∃pl p r,c=(ZQ pl r).map .d/\bx=Ze2 pl p/\OKP p/\(Zi0 r<=m/\m<=2097152)/\Zck r.body=true/\K (.ret (.ptr 7 0)) ⟨ZFg pl p r (Zcm p r) false,[],0⟩
 | _,_=>False
def Zq6 {m:Nat}:OKw w0 nG [(84,ZqY m),(86,Zgb m)] 48 (ZcJ m):=by
 refine pwo Tryz.func48 fun args σ K h=>?_
 unfold ZcJ at h
 split at h
 ·obtain ⟨pl,p,⟨head,eargs,body,at'⟩,rfl,rfl,hp,⟨hz,hm⟩,bm,h⟩:=h;simp only [Zi0] at hz;refine pwu [(3,⟨[],[3,5],fun w σ=>∃(v:Vs) (b:Bool),w=[]/\σ=⟨ZFg pl p ⟨head,eargs,body,at'⟩ v b,[],0⟩/\(b=true->∃n,WT p ⟨head,eargs,body,at'⟩ n v=some (Zcm p ⟨head,eargs,body,at'⟩))/\(b=false->v=Zcm p ⟨head,eargs,body,at'⟩),
   fun _ σ=>match σ with
    | ⟨_::_::_::_::_::_::.dmap m::.cells _ [_,_,_,_,_,_,.d (.bool b)]::_,_,_⟩=>2 * ZCA (nvR ⟨head,eargs,body,at'⟩) m+(if b=true then 1 else 0)
    | _=>0⟩)] 8 false ?_
  conv=>whnf
  refine ⟨⟨[],true,rfl,rfl,fun _=>⟨_,Zt8 _ _⟩,fun h=>by cases h⟩,?_⟩
  rintro w σ1 ⟨v,b,rfl,rfl,h1,h2⟩
  cases b with
  | false =>
   have h2:=h2 rfl;(conv=>whnf);subst h2;exact h
  | true =>
  obtain ⟨n,hn⟩:=h1 rfl
  cases n with
  | zero=>cases hn
  | succ n =>
  simp only [WT] at hn;(conv=>whnf);refine ⟨pl,p,⟨head,eargs,body,at'⟩,v,false,rfl,hp,eargs,rfl,rfl,⟨oM,hm⟩,fun v1 b1 wi=>wN ?_⟩;refine ⟨pl,p,⟨head,eargs,body,at'⟩,v1,b1,rfl,hp,body,rfl,⟨oM,hm⟩,bm,fun v2 b2 uc=>?_⟩;have hr:Uy p ⟨head,eargs,body,at'⟩ v=(v2,b2):=by unfold Uy;simp only [wi];exact uc
  have hc:=Zji p ⟨head,eargs,body,at'⟩ v;rw [hr] at hn hc;simp only at hn hc;have hμ:2 * ZCA (nvR ⟨head,eargs,body,at'⟩) (mvM mvI v2)+(if b2=true then 1 else 0)<2 * ZCA (nvR ⟨head,eargs,body,at'⟩) (mvM mvI v)+(if true=true then 1 else 0):=by
   rw [Zq4,Zq4]
   cases b2 with
   | true=>have:=hc.2 rfl;simp;omega
   | false=>have:=hc.1;simp;omega
  conv=>whnf
  exact ⟨⟨v2,b2,rfl,rfl,fun hb=>by subst hb;exact ⟨n,by simpa using hn⟩,fun hb=>by subst hb;simpa using hn⟩,hμ⟩
 exact h.elim
def Zt9 (m:Nat):Zk:=ZaY fun rest pl p r vs more K=>match rest with
 | [.d (.str name),.d (.sl rows),.func f [.ptr 0 0] []]=>∃args,rows=Ze pl args/\f=140/\(szS szE args<=m/\m<=2097152)/\∀x,ZaW p vs args (Y8 p name args.length)=x->RtK pl K vs more x
 | _=>False
def ZCC {m:Nat}:OKw w0 nG [(140,Zy5 m),(137,VJ)] 84 (Zt9 m):=by
 refine pwo Tryz.func84 fun args σ K h=>?_
 unfold Zt9 ZaY at h
 split at h
 ·obtain ⟨pl,p,r,vs,more,rfl,hp,h⟩:=h;split at h
  ·rename_i name rows f
   obtain ⟨eargs,rfl,rfl,⟨hz,hm⟩,h⟩:=h;have ol:=Zu szE eargs;obtain ⟨X,hX⟩:∃X,ZaW p vs eargs (Y8 p name eargs.length)=X:=⟨_,rfl⟩
   have h:=h X hX;have am:(Ze pl eargs).length=eargs.length:=by rw [Zc,Td]
   refine pwu [(3,⟨[46],[0,3,8,9,44,45],fun w σ=>∃(j:Nat),w=[.d (.int .i64 j)]/\σ=⟨Zby pl p r vs more,[],0⟩/\j<=eargs.length /\
     ZaW p vs (eargs.drop j) ((Y8 p name eargs.length).drop j)=X,
    fun w _=>match w with | [.d (.int _ j)]=>((eargs.length:Int) - j).toNat | _=>0⟩)] 7 false ?_
   have step:∀(j:Nat),j<eargs.length->ZaW p vs (eargs.drop j) ((Y8 p name eargs.length).drop j)=X->∃(x:Ex) (y:Int),(Ze pl eargs)[(j:Int).toNat]?=some (ZF pl x)/\(Y8 p name eargs.length)[j]?=some y/\szE x<=m /\
     (rtE p vs x y=none->ZaW p vs (eargs.drop (j+1)) ((Y8 p name eargs.length).drop (j+1))=X)/\∀f,rtE p vs x y=some f->X=some f:=fun j aa ha=>by
    have av:j<(Y8 p name eargs.length).length:=by rw [Zjh];exact aa
    have dy:=ZD szE eargs j aa;rw [Tk aa,Tk av] at ha;simp only [ZaW] at ha;exact ⟨eargs[j],(Y8 p name eargs.length)[j],by rw [Zc,Th,Ti,Tb aa];rfl,Tb av,oM,fun hg=>by rw [hg] at ha;exact ha,fun f hg=>by rw [hg] at ha;exact ha.symm⟩
   have fin:∀(j:Nat),¬j<eargs.length->ZaW p vs (eargs.drop j) ((Y8 p name eargs.length).drop j)=X->K (.ret (.tuple [])) ⟨Zby pl p r vs more,[],0⟩:=fun j hn ha=>by
    rw [Tp oM] at ha;subst ha;exact h
   conv=>whnf
   refine ZGp (fun v hv=>?_) (fun hv=>wN ?_)
   ·rw [ZI] at hv;obtain ⟨i,hi,rfl⟩:=TB.1 hv;obtain ⟨k,d,rfl,h2,h3⟩:=ZcI hi;have hr:(p.rels.map (ZM pl))[(k:Int).toNat]?=some (ZM pl d):=by rw [Th,Ti,h2];rfl
    have hT:=Zbz (n:=eargs.length) hi h2;obtain ⟨d1,d2,d3,d4,d5,d6⟩:=d;simp only at hT;(conv=>whnf);refine ⟨_,oM,hr,wN ?_⟩;refine ⟨⟨0,rfl,rfl,oM,hX⟩,?_⟩
    rintro w σ1 ⟨j,rfl,rfl,hj,ha⟩
    conv=>whnf
    refine ZGg (fun hc=>?_) (fun hc=>?_);rotate_left
    ·conv=>whnf
     exact fin j oM ha
    obtain ⟨⟨x1,x2,x3,x4,x5⟩,y,cd,hy,dy,kz,dl⟩:=step j oM ha;have hμ:((eargs.length:Int) - ((j:Int)+1)).toNat<((eargs.length:Int) - (j:Int)).toNat:=oM;(conv=>whnf);refine ⟨_,oM,cd,wN ?_⟩;refine ZGg (fun hq=>?_) (fun hq=>?_)
    ·have hq:d2.length=eargs.length:=by have hq:((d2.map Zn).length:Int)=((Ze pl eargs).length:Int):=hq;rw [Td,am] at hq;omega
     rw [hT,Tj hq,ZY,Ti] at hy;obtain ⟨⟨f1,f2⟩,hf,hy⟩:=TB.1 hy;have ef:(d2.map Zn)[(j:Int).toNat]?=some (Zn ⟨f1,f2⟩):=by rw [Th,Ti,hf];rfl
     simp only at hy;(conv=>whnf)
     (repeat (refine ⟨rfl,?_⟩;conv=>whnf))
     refine ⟨_,oM,hr,wN ?_⟩
     (repeat (refine ⟨rfl,?_⟩;conv=>whnf))
     refine ⟨_,oM,ef,wN ?_⟩
     (repeat (refine ⟨rfl,?_⟩;conv=>whnf))
     refine ⟨pl,p,rfl,hp.bp,hp.ends,fun n hn=>?_⟩;rw [hy] at hn;subst hn;(conv=>whnf)
     (repeat (refine ⟨rfl,?_⟩;conv=>whnf))
     exact mq32
    have hq:¬d2.length=eargs.length:=by have hq:¬((d2.map Zn).length:Int)=((Ze pl eargs).length:Int):=hq;rw [Td,am] at hq;omega
    rw [hT,Tf hq,Ss] at hy;split at hy
    ·cases hy
     conv=>whnf
     exact mq32
    cases hy
   rw [ZI,Option.map_eq_none_iff] at hv;have hT:=Zga (n:=eargs.length) hv;refine ⟨⟨0,rfl,rfl,oM,hX⟩,?_⟩
   rintro w σ1 ⟨j,rfl,rfl,hj,ha⟩
   conv=>whnf
   refine ZGg (fun hc=>?_) (fun hc=>?_);rotate_left
   ·conv=>whnf
    exact fin j oM ha
   obtain ⟨⟨x1,x2,x3,x4,x5⟩,y,cd,hy,dy,kz,dl⟩:=step j oM ha;have hμ:((eargs.length:Int) - ((j:Int)+1)).toNat<((eargs.length:Int) - (j:Int)).toNat:=oM;rw [hT,Ss] at hy;split at hy
   ·cases hy
    conv=>whnf
    refine ⟨_,oM,cd,wN ?_⟩;exact mq32
   cases hy
  exact h.elim
 exact h.elim
def Zgc (m:Nat):Zk:=ZaY fun rest pl p r vs more K=>match rest with
 | [.d (.str name),.d (.sl rows),.d (.int .i64 a),.d (.bool hd)]=>∃args an,rows=Ze pl args/\a=pl an/\(szS szE args<=m/\m<=2097152)/\∀x,Zt1 p vs name args an hd=x->RtK pl K vs more x
 | _=>False
def ZkU (m:Nat):Zx (Zgc m):=Zd7 fun rest pl p r vs more K K' hK h=>by
 split at h
 ·obtain ⟨e,an,h1,h2,h3,h4⟩:=h;exact ⟨e,an,h1,h2,h3,fun x g=>Zhx hK (h4 x g)⟩
 exact h.elim
def Zy8 {m:Nat}:OKw w0 nG [(84,Zt9 m)] 88 (Zgc m):=by
 refine pwo Tryz.func88 fun args σ K h=>?_
 unfold Zgc ZaY at h
 split at h
 ·obtain ⟨pl,p,r,vs,more,rfl,hp,h⟩:=h;split at h
  ·rename_i name rows a hd
   obtain ⟨eargs,an,rfl,rfl,⟨hz,hm⟩,h⟩:=h;have am:(Ze pl eargs).length=eargs.length:=by rw [Zc,Td]
   simp only [Zt1] at h;refine pwv [] 7 false ?_;refine ZGp (fun v hv=>?_) (fun hv=>?_);rotate_left
   ·rw [ZI,Option.map_eq_none_iff] at hv;rw [hv] at h;have h:=h _ rfl;simp only [RtK] at h;exact mq47
   rw [ZI] at hv;obtain ⟨i,hi,rfl⟩:=TB.1 hv;obtain ⟨k,d,rfl,h2,h3⟩:=ZcI hi;have hr:(p.rels.map (ZM pl))[(k:Int).toNat]?=some (ZM pl d):=by rw [Th,Ti,h2];rfl
   rw [hi] at h;simp only [Th,h2] at h;obtain ⟨d1,d2,d3,d4,d5,d6⟩:=d;simp only at h;have hb:(hd && d3)=true->K (.panic (Zy6 (pl an) 185)) ⟨Zby pl p r vs more,[],0⟩:=fun g=>by
    have h:=h _ rfl;rw [Tj g] at h;exact h
   have h:(hd && d3)=false->∀x,(if d2.length≠eargs.length then some (an,182) else ZaW p vs eargs (Y8 p name eargs.length))=x->RtK pl (fun pe vs' more'=>K pe ⟨Zby pl p r vs' more',[],0⟩) vs more x:=fun g x hx=>h x (by rw [Tf (by rw [g];simp)];exact hx)
   have rest:(hd && d3)=false->∀(X:Prop),X->X:=fun _ X hX=>hX
   cases hd with
   | true =>
    conv=>whnf
    refine ⟨_,oM,hr,?_⟩
    cases d3 with
    | true =>
     conv=>whnf
     exact hb rfl
    | false =>
    exact mq31
   | false =>
   exact mq31
  exact h.elim
 exact h.elim
def orF (x:Flt) (y:Flt):Flt:=match x with | some f=>some f | none=>y
def Zec (m:Nat):Zk:=ZaY fun rest pl p r vs more K=>match rest with
 | [.d (.sl rows)]=>∃l,rows=ZL pl l/\(szS szL l<=m/\m<=2097152)/\Zck l=true/\∀x,Zh0 p vs l=x->RtK pl K vs more x
 | _=>False
def ZkV (m:Nat):Zx (Zec m):=Zd7 fun rest pl p r vs more K K' hK h=>by
 split at h
 ·obtain ⟨e,h1,h2,h3,h4⟩:=h;exact ⟨e,h1,h2,h3,fun x g=>Zhx hK (h4 x g)⟩
 exact h.elim
def Zq7 (m:Nat):Tbl:=[(89,spB Zec m),(140,Zy5 m),(88,Zgc m),(139,Zea)]
def Zq8 {m:Nat} (ht:TO w0 nG (Zq7 m)):PC w0 nG 89 (Zec m):=by
 refine YV Zr mixed (tbl:=Zq7 m) ht Tryz.func89 rfl kR kR ?_;intro args σ K h
 unfold Zec ZaY at h
 split at h
 ·obtain ⟨pl,p,r,vs,more,rfl,hp,h⟩:=h;split at h
  ·rename_i rows
   obtain ⟨l,rfl,⟨hz,hm⟩,bm,h⟩:=h;have ol:=Zu szL l;have am:(ZL pl l).length=l.length:=by rw [Zq,Td]
   obtain ⟨X,hX⟩:∃X,Zh0 p vs l=X:=⟨_,rfl⟩
   have h:=h X hX;refine ⟨Zg [(1,⟨[11],[0,9,10],fun w σ=>∃(j:Nat),w=[.d (.int .i64 j)]/\σ=⟨Zby pl p r vs more,[],0⟩/\j<=l.length/\Zh0 p vs (l.drop j)=X,
    fun w _=>match w with | [.d (.int _ j)]=>((l.length:Int) - j).toNat | _=>0⟩),
    (4,⟨[18],[0,5,9,10,11,16,17],fun w σ=>∃(j i op:Nat) (rel:Bs) (eargs:List Ex) (body:List Li) (at':Nat),w=[.ptr 0 0,.ptr 7 0,.d (.sl (ZL pl l)),.d (.int .i64 ((ZL pl l).length:Nat)),.d (.int .i64 j),.d (.sl (Ze pl eargs)),.d (.int .i64 ((Ze pl eargs).length:Nat)),.d (.int .i64 i)] /\
     σ=⟨Zby pl p r vs more++[.cells 30 ((YQ pl (.mk op rel eargs body at')).map .d)],[],0⟩/\l[j]?=some (.mk op rel eargs body at')/\i<=eargs.length/\(szS szE eargs<=m/\szS szL body+1<=m)/\Zck body=true /\
     orF (ZaW p vs (eargs.drop i) (List.replicate (eargs.length - i) 0)) (orF (Zh0 p vs body) (Zh0 p vs (l.drop (j+1))))=X,
    fun w _=>match w with | [_,_,_,_,_,_,.d (.int _ n),.d (.int _ i)]=>(n - i).toNat | _=>0⟩)],Ys [],ZC [4],7,false,sM,Tc rfl,?_⟩
   conv=>whnf
   refine ⟨⟨0,rfl,rfl,oM,hX⟩,?_⟩
   rintro w σ1 ⟨j,rfl,rfl,hj,ha⟩
   conv=>whnf
   refine ZGg (fun hc=>?_) (fun hc=>?_);rotate_left
   ·conv=>whnf
    rw [Tp oM] at ha;subst ha;exact h
   have aa:j<l.length:=oM;have hr:(ZL pl l)[(j:Int).toNat]?=some (YQ pl l[j]):=by rw [Zq,Th,Ti,Tb aa];rfl
   have dy:=ZD szL l j aa;have fg:YI l[j]=true:=by rw [Xk,Tm] at bm;exact bm _ (TC aa)
   rw [Tk aa] at ha;have ha:orF (rtL p vs l[j]) (Zh0 p vs (l.drop (j+1)))=X:=by rw [<- ha];simp only [Zh0];rfl
   have hμ:((l.length:Int) - ((j:Int)+1)).toNat<((l.length:Int) - (j:Int)).toNat:=oM;have j6:l[j]?=some l[j]:=Tb aa;generalize l[j]=x at ha hr dy fg j6;obtain ⟨op,rel,eargs,body,at'⟩:=x;simp only [szL,Wq,Zbs] at dy;simp only [rtL] at ha;have ai:=Zu szE eargs;have gd:(Ze pl eargs).length=eargs.length:=by rw [Zc,Td]
   conv=>whnf
   refine ⟨_,oM,hr,wN ?_⟩;refine ZGg (fun h2=>wN ?_) (fun h2=>wN ?_)
   ·have h2:op<=2:=by have h2:(op:Int)<=2:=h2;omega
    rw [Tj h2] at ha;refine ⟨pl,p,r,vs,more,rfl,hp,eargs,at',rfl,rfl,⟨oM,hm⟩,fun f hf=>?_⟩;rw [hf] at ha
    cases f with
    | none =>
     simp only [RtK];(conv=>whnf);exact mq48
    | some ae =>
    exact mq163
   have h2:¬op<=2:=by have h2:¬(op:Int)<=2:=h2;omega
   rw [Tf h2] at ha;refine ZGg (fun h8=>?_) (fun h8=>wN ?_)
   ·have h8:op<=8:=by have h8:(op:Int)<=8:=h8;omega
    rw [Tj h8] at ha;obtain ⟨⟨a1,a2,a3,a4,a5⟩,⟨b1,b2,b3,b4,b5⟩,rfl⟩:=ZqZ fg h2 h8;simp only [szS] at dy;(conv=>whnf);refine ⟨pl,p,r,vs,more,rfl,hp,op,rel,.mk a1 a2 a3 a4 a5,.mk b1 b2 b3 b4 b5,[],body,at',rfl,fun n hn=>wN ?_⟩;simp only [hn,ZaW] at ha;refine ⟨ZF pl (.mk a1 a2 a3 a4 a5),dM,rfl,wN ?_⟩;refine ⟨pl,p,r,vs,more,rfl,hp,.mk a1 a2 a3 a4 a5,rfl,⟨oM,hm⟩,fun f hf=>?_⟩;rw [hf] at ha
    cases f with
    | some ae =>
     exact mq163
    | none =>
    simp only [RtK];(conv=>whnf);refine ⟨ZF pl (.mk b1 b2 b3 b4 b5),dM,rfl,wN ?_⟩;refine ⟨pl,p,r,vs,more,rfl,hp,.mk b1 b2 b3 b4 b5,rfl,⟨oM,hm⟩,fun f hf=>?_⟩;rw [hf] at ha
    cases f with
    | some ae =>
     exact mq163
    | none =>
    simp only [RtK];simp only at ha;have good:¬(5<=op/\n≠0/\n≠1)->Zh0 p vs (l.drop (j+1))=X:=fun g=>by rw [Tf g] at ha;exact ha
    have bad:(5<=op/\n≠0/\n≠1)->K (.panic (Zy6 (pl at') 183)) ⟨Zby pl p r vs more,[],0⟩:=fun g=>by
     rw [Tj g] at ha;simp only [orF] at ha;subst ha;exact h
    conv=>whnf
    refine ZGg (fun h5=>wN ?_) (fun h5=>wN ?_)
    ·have h5:5<=op:=by have h5:(5:Int)<=op:=h5;omega
     refine ZGi (fun eh=>wN ?_) (fun eh=>wN ?_)
     ·refine ZGi (fun jf=>wN ?_) (fun jf=>wN ?_)
      ·conv=>whnf
       exact bad ⟨h5,eh,jf⟩
      conv=>whnf
      refine Zi ?_;exact ⟨⟨j+1,rfl,rfl,oM,good (fun g=>g.2.2 jf)⟩,hμ⟩
     conv=>whnf
     refine Zi ?_;exact ⟨⟨j+1,rfl,rfl,oM,good (fun g=>g.2.1 eh)⟩,hμ⟩
    have h5:¬5<=op:=by have h5:¬(5:Int)<=op:=h5;omega
    refine Zi ?_;exact ⟨⟨j+1,rfl,rfl,oM,good (fun g=>h5 g.1)⟩,hμ⟩
   have h8:¬op<=8:=by have h8:¬(op:Int)<=8:=h8;omega
   rw [Tf h8] at ha;have ha:orF (ZaW p vs eargs (List.replicate eargs.length 0)) (orF (Zh0 p vs body) (Zh0 p vs (l.drop (j+1))))=X:=by
    rw [<- ha];cases ZaW p vs eargs (List.replicate eargs.length 0) <;> rfl
   refine ⟨⟨j,0,op,rel,eargs,body,at',rfl,rfl,j6,oM,⟨oM,oM⟩,Zmm fg,ha⟩,?_⟩
   clear ha
   rintro w σ1 ⟨j',i,op',rel',eargs',body',at'',hw,rfl,la,hi,⟨sa,co⟩,zc,ha⟩
   have ej:(some (PV.d (.int .i64 (j:Int))):Option PV)=some (.d (.int .i64 (j':Int))):=congrArg (fun l:List PV=>l[4]?) hw;obtain rfl:j=j':=by have ej:=Option.some.inj ej;injection ej with ej;injection ej with _ ej;omega
   rw [j6] at la;obtain ⟨rfl,rfl,rfl,rfl,rfl⟩:=Li.mk.inj (Option.some.inj la);have hw:w=[.d (.int .i64 i)]:=congrArg (List.drop 7) hw;subst hw;(conv=>whnf);refine ZGg (fun bj=>?_) (fun bj=>?_)
   ·have av:i<eargs.length:=by have bj:(i:Int)<((Ze pl eargs).length:Int):=bj;omega
    have ef:(Ze pl eargs)[(i:Int).toNat]?=some (ZF pl eargs[i]):=by rw [Zc,Th,Ti,Tb av];rfl
    have tg:=ZD szE eargs i av;rw [Tk av,show eargs.length - i=(eargs.length - (i+1))+1 by omega,List.replicate_succ] at ha;simp only [ZaW] at ha;generalize eargs[i]=e at ha ef tg;obtain ⟨x1,x2,x3,x4,x5⟩:=e;(conv=>whnf);refine ⟨_,oM,ef,wN ?_⟩;refine ⟨pl,p,r,vs,more,rfl,hp,.mk x1 x2 x3 x4 x5,rfl,⟨oM,hm⟩,fun f hf=>?_⟩;rw [hf] at ha
    cases f with
    | none =>
     simp only [RtK];(conv=>whnf);refine Zi ?_;exact ⟨⟨j,i+1,op,rel,eargs,body,at',rfl,rfl,j6,oM,⟨sa,co⟩,zc,ha⟩,by show (((Ze pl eargs).length:Int) - ((i:Int)+1)).toNat<(((Ze pl eargs).length:Int) - (i:Int)).toNat;omega⟩
    | some ae =>
    exact mq163
   have hii:i=eargs.length:=by have bj:¬(i:Int)<((Ze pl eargs).length:Int):=bj;omega
   subst hii;rw [Sw,Nat.sub_self] at ha;simp only [ZaW,List.replicate_zero,orF] at ha;(conv=>whnf);refine ⟨oM,pl,p,r,vs,more,rfl,hp,body,rfl,⟨oM,oM⟩,zc,fun f hf=>?_⟩;rw [hf] at ha
   cases f with
   | none =>
    simp only [RtK];(conv=>whnf);exact mq48
   | some ae =>
   obtain ⟨a,e⟩:=ae;simp only at ha;subst ha;simp only [RtK] at h |-;exact mq47
  exact h.elim
 exact h.elim
abbrev SM:=List (Bs×List (List D))
def Zua (k:Bs):List D:=[.str k]
def ZvE (M:SM):Ex×Bs->SM
 | (.mk op text _ _ _,k)=>if op=1 then Z2 text ((lkM text M).getD []++[Zua k]) M else M
def Wv (M:SM) (l:List (Ex×Bs)):SM:=l.foldl ZvE M
def Zq9 (M:SM) (n:Nat):Prop:=∀t rows,lkM t M=some rows->rows.length<=n
def Zmo {M:SM} {n:Nat} (h:Zq9 M n) (x:Ex×Bs):Zq9 (ZvE M x) (n+1):=by
 obtain ⟨⟨op,text,_,_,_⟩,k⟩:=x;simp only [ZvE];split
 ·intro t rows hr
  rw [JV] at hr;split at hr
  ·cases hr
   rw [Ta]
   cases hl:lkM text M with
   | none=>simp
   | some r=>have:=h _ _ hl;simp;omega
  have:=h _ _ hr;omega
 intro t rows hr;have:=h _ _ hr;omega
def ZaH:∀(l:List (Ex×Bs)) {M:SM} {n:Nat},Zq9 M n->Zq9 (Wv M l) (n+l.length)
 | [],M,n,h=>h
 | x::l,M,n,h=>by
  have:=ZaH l (Zmo h x);rw [Te,show n+(l.length+1)=n+1+l.length by omega];exact this
def ZbA {α:Type} {k:Bs} {u v:α}:∀m:List (Bs×α),Z2 k v (Z2 k u m)=Z2 k v m
 | []=>by simp [Z2]
 | (x,y)::l=>by
  simp only [Z2]
  by_cases h:k=x
  ·simp [h,Z2]
  simp only [decide_eq_false h,Z2,ZbA l]
def ZDp:Zk:=fun args σ K=>match args,σ with
 | [.agg c,.d (.str k),.ptr 0 0],⟨[.cells ty [.mp 1],.smap el M none],[],0⟩=>∃pl e,c=(ZF pl e).map .d/\(ty=222/\el=9)/\Zq9 M 1073741824/\K (.ret (.tuple [])) ⟨[.cells ty [.mp 1],.smap el (ZvE M (e,k)) none],[],0⟩
 | _,_=>False
def ZEs:PC w0 nG 142 ZDp:=by
 refine Zpn Zr mixed (tbl:=[]) trivial Tryz.func142 rfl kR kR ?_;intro args σ K h
 unfold ZDp at h
 split at h
 ·rename_i k ty el M
  obtain ⟨pl,⟨op,text,num,eargs,ea⟩,rfl,⟨rfl,rfl⟩,hM,h⟩:=h;refine ⟨Zg [],Ys [],ZC [],ZC [],ZC [2],2,false,sM,Tc rfl,wN ?_⟩;simp only [ZvE] at h;refine ZGg (fun h1=>wN ?_) (fun h1=>wN ?_)
  ·have h1:op=1:=by have h1:(op:Int)=1:=h1;omega
   rw [Tj h1] at h;refine ⟨1,text,wN ?_⟩;refine ZGp (fun rows hr=>wN ?_) (fun hr=>wN ?_)
   ·rw [hr] at h;have hlen:=hM _ _ hr;refine ⟨rfl,wN ?_⟩;refine ⟨fun r hr=>by simp at hr;subst hr;rfl,by show (rows.length+1) * 16<=140737488355328;omega,by show rows.length+1<=140737488355328;omega,wN ?_⟩
    (repeat (refine ⟨rfl,?_⟩;conv=>whnf))
    rw [<- ZbA (u:=[])] at h;exact h
   rw [hr] at h;refine ⟨rfl,wN ?_⟩;refine ⟨fun r hr=>by simp at hr;subst hr;rfl,by show 1 * 16<=140737488355328;omega,by show 1<=140737488355328;omega,wN ?_⟩
   (repeat (refine ⟨rfl,?_⟩;conv=>whnf))
   rw [<- ZbA (u:=[])] at h;exact h
  have h1:¬op=1:=fun g=>h1 (by simp only [g];rfl)
  rw [Tf h1] at h;exact h
 exact h.elim
abbrev Zub (pl:Pl) (r:Ru) (more:Bool) (a b:Nat):List PV:=[.ptr a 0,.d (.str r.head),.d (.sl (Ze pl r.args)),.d (.sl (ZL pl r.body)),.d (.int .i64 (pl r.at')),.mp b,.d (.bool more)]
abbrev ZkW (pl:Pl) (p:Pr) (r:Ru) (vs:Vs) (more:Bool) (kind:Bs):List Box:=[.cells 101 [.ptr 2 0],.cells 9 [.d (.str kind)],.cells 160 (Zub pl r more 3 4),.cells 139 (Zi7 pl p 5),.dmap (mvM mvI vs)]++Zi8 p
def Zra:Zk:=fun args σ K=>match args,σ with
 | [.d (.str k),.ptr 0 0,.ptr 1 0],⟨bx,[],0⟩=>∃pl p r vs more kind,bx=ZkW pl p r vs more kind/\OKP p/\∀x,WI p k kind=x->K (.ret (.d (.bool x))) ⟨bx,[],0⟩
 | _,_=>False
def Zza:OKw w0 nG [(146,Zhr)] 145 Zra:=by
 refine pwo Tryz.func145 fun args σ K h=>?_
 unfold Zra at h
 split at h
 ·obtain ⟨pl,p,r,vs,more,kind,rfl,hp,h⟩:=h;refine pwv [] 9 false ?_;refine ⟨pl,p,rfl,hp.bp,fun x hx=>wN ?_⟩
  (repeat (refine ⟨rfl,?_⟩;conv=>whnf))
  exact h x hx
 exact h.elim
def Zrb:Zk:=fun args σ K=>match args,σ with
 | [.d (.sl rows),.func g [] [.ptr 0 0,.ptr 1 0]],⟨bx,[],0⟩=>∃pl p r vs more kind,∃l:List Bs,bx=ZkW pl p r vs more kind/\rows=l.map Zua/\(g=145/\OKP p/\l.length<=1073741824)/\∀i,Zhs (fun k=>WI p k kind) 0 l=i->K (.ret (.d (.int .i64 i))) ⟨bx,[],0⟩
 | [.sl 0 _ [],.func g [] [.ptr 0 0,.ptr 1 0]],⟨bx,[0],1⟩=>∃pl p r vs more kind,bx=ZkW pl p r vs more kind/\K (.ret (.d (.int .i64 (-1)))) ⟨bx,[],0⟩
 | _,_=>False
def Zzc:OKw w0 nG [(145,Zra)] 206 Zrb:=by
 refine pwo Tryz.func206 fun args σ K h=>?_
 unfold Zrb at h
 split at h
 ·obtain ⟨pl,p,r,vs,more,kind,l,rfl,rfl,⟨rfl,hp,hlen⟩,h⟩:=h;have hl:(l.map Zua).length=l.length:=Td ..;refine pwu [(2,⟨[8],[0,1,7],fun w σ=>∃j:Nat,w=[.d (.int .i64 j)]/\σ=⟨ZkW pl p r vs more kind,[],0⟩/\j<=l.length/\Zhs (fun k=>WI p k kind) j (l.drop j)=Zhs (fun k=>WI p k kind) 0 l,
   fun w _=>match w with | [.d (.int _ j)]=>((l.length:Int) - j).toNat | _=>0⟩)] 9 false ?_
  conv=>whnf
  refine ⟨⟨0,rfl,rfl,oM,rfl⟩,?_⟩
  rintro w σ1 ⟨j,rfl,rfl,hj,ha⟩
  conv=>whnf
  refine ZGg (fun hc=>?_) (fun hc=>?_);rotate_left
  ·conv=>whnf
   rw [Tp oM] at ha;exact h (-1) ha.symm
  have aa:j<l.length:=oM;rw [Tk aa] at ha;have hr:(l.map Zua)[(j:Int).toNat]?=some (Zua l[j]):=by rw [Th,Ti,Tb aa];rfl
  generalize l[j]=x at ha hr;(conv=>whnf);refine ⟨_,oM,hr,wN ?_⟩;refine ⟨pl,p,r,vs,more,kind,rfl,hp,fun b hb=>?_⟩;exact mq36
 ·obtain ⟨pl,p,r,vs,more,kind,rfl,h⟩:=h;refine pwv [(2,⟨[8],[0,1,7],fun w σ=>w=[.d (.int .i64 0)]/\σ=⟨ZkW pl p r vs more kind,[],0⟩,fun _ _=>0⟩)] 9 false ?_;refine ⟨⟨rfl,rfl⟩,?_⟩
  rintro w σ1 ⟨rfl,rfl⟩
  exact mq47
 exact h.elim
def Zrc:Zk:=fun args σ K=>match args,σ with
 | [.d (.sl rows),.func g [] [.ptr 0 0,.ptr 1 0]],⟨bx,[],0⟩=>∃pl p r vs more kind,∃l:List Bs,bx=ZkW pl p r vs more kind/\rows=l.map Zua/\(g=145/\OKP p/\l.length<=1073741824)/\∀b,(l.any fun k=>WI p k kind)=b->K (.ret (.d (.bool b))) ⟨bx,[],0⟩
 | [.sl 0 _ [],.func g [] [.ptr 0 0,.ptr 1 0]],⟨bx,[0],1⟩=>∃pl p r vs more kind,bx=ZkW pl p r vs more kind/\K (.ret (.d (.bool false))) ⟨bx,[],0⟩
 | _,_=>False
def Zze:OKw w0 nG [(206,Zrb)] 144 Zrc:=by
 refine pwo Tryz.func144 fun args σ K h=>?_
 unfold Zrc at h
 split at h
 ·obtain ⟨pl,p,r,vs,more,kind,l,rfl,rfl,hc,h⟩:=h;refine pwv [] 9 false ?_;refine ⟨pl,p,r,vs,more,kind,l,rfl,rfl,hc,fun i hi=>wN ?_⟩;exact h _ (by rw [Bool.eq_iff_iff,decide_eq_true_iff,<- hi];exact (Zd4 l 0).symm)
 ·obtain ⟨pl,p,r,vs,more,kind,rfl,h⟩:=h;refine pwv [] 9 false ?_;refine ⟨pl,p,r,vs,more,kind,rfl,wN ?_⟩;exact h
 exact h.elim
def h2T (p:Pr) (kn:List (Bs×Bs)):Ex×Bs->Flt
 | (.mk op text _ _ a,k)=>if (XO p k).isSome=true/\(8<=op\/(op=1/\(kn.any fun y=>decide (y.1=text) && WI p y.2 k)=false)) then some (a,183) else none
def ZEt (M:SM) (kn:List (Bs×Bs)):Prop:=kn.length<=1073741824/\∀t,(lkM t M).getD []=(kn.filter fun y=>decide (y.1=t)).map fun y=>Zua y.2
abbrev ZEu (pl:Pl) (p:Pr) (r:Ru) (vs:Vs) (more:Bool) (M:SM):List Box:=[.cells 101 [.ptr 2 0],.cells 222 [.mp 3],.cells 160 (Zub pl r more 4 5),.smap 9 M none,.cells 139 (Zi7 pl p 6),.dmap (mvM mvI vs)]++Zi8 p
def FlK (pl:Pl) (K:PEnd->St->Prop) (σ:St):Flt->Prop
 | none=>K (.ret (.tuple [])) σ
 | some (a,e)=>K (.panic (Zy6 (pl a) e)) σ
def ZDq:Zk:=fun args σ K=>match args,σ with
 | [.agg c,.d (.str kind),.ptr 0 0,.ptr 1 0],⟨bx,[],0⟩=>∃pl p r vs more M kn e,c=(ZF pl e).map .d/\bx=ZEu pl p r vs more M/\OKP p/\ZEt M kn/\∀x,h2T p kn (e,kind)=x->FlK pl K ⟨bx,[],0⟩ x
 | _,_=>False
def ZvF {p:Pr} {kn:List (Bs×Bs)} {t k:Bs}:((kn.filter fun y=>decide (y.1=t)).map (·.2)).any (fun y=>WI p y k)=kn.any fun y=>decide (y.1=t) && WI p y.2 k:=by
 rw [List.any_map,List.any_filter];rfl
def ZEw:OKw w0 nG [(83,Zf2),(144,Zrc)] 143 ZDq:=by
 refine pwo Tryz.func143 fun args σ K h=>?_
 unfold ZDq at h
 split at h
 ·rename_i kind bx
  obtain ⟨pl,p,r,vs,more,M,kn,⟨op,text,num,eargs,ea⟩,rfl,rfl,hp,⟨fi,bw⟩,h⟩:=h;have good:¬((XO p kind).isSome=true/\(8<=op\/(op=1/\(kn.any fun y=>decide (y.1=text) && WI p y.2 kind)=false)))->K (.ret (.tuple [])) ⟨ZEu pl p r vs more M,[],0⟩:=fun g=>h none (by simp only [h2T];rw [Tf g])
  have bad:((XO p kind).isSome=true/\(8<=op\/(op=1/\(kn.any fun y=>decide (y.1=text) && WI p y.2 kind)=false)))->K (.panic (Zy6 (pl ea) 183)) ⟨ZEu pl p r vs more M,[],0⟩:=fun g=>h (some (ea,183)) (by simp only [h2T];rw [Tj g])
  clear h
  refine pwv [] 10 false ?_;refine ⟨pl,p,rfl,hp.bp,fun x hx=>wN ?_⟩
  (repeat (refine ⟨rfl,?_⟩;conv=>whnf))
  refine ZGp (fun rows hr=>wN ?_) (fun hr=>wN ?_)
  ·have cd:=bw text;rw [hr] at cd;have cd:rows=((kn.filter fun y=>decide (y.1=text)).map (·.2)).map Zua:=by rw [Sj];exact cd
   refine ⟨pl,p,r,vs,more,kind,_,rfl,cd,⟨rfl,hp,by rw [Td];have:=List.length_filter_le (fun y:Bs×Bs=>decide (y.1=text)) kn;omega⟩,fun b hb=>?_⟩;rw [ZvF] at hb;rw [hx,hb] at good bad;generalize x.isSome=sub at good bad |-
   cases sub <;> cases b
   all_goals repeat' ((conv=>whnf);first | refine ZGg (fun hc=>?_) (fun hc=>?_) | refine ZGi (fun hc=>?_) (fun hc=>?_))
   all_goals (conv=>whnf)
   all_goals first
    | (exfalso;omega)
    | exact bad ⟨rfl,by first | (left;omega) | (right;exact ⟨oM,rfl⟩)⟩
    | exact good (fun g=>by first | exact Bool.noConfusion g.1 | (rcases g.2 with g | g <;> first | omega | exact Bool.noConfusion g.2))
  have cd:=bw text;rw [hr] at cd;have fj:kn.filter (fun y=>decide (y.1=text))=[]:=by
   cases hf:kn.filter (fun y=>decide (y.1=text)) with
   | nil=>rfl
   | cons y l=>rw [hf] at cd;simp at cd
  have hb:(kn.any fun y=>decide (y.1=text) && WI p y.2 kind)=false:=by rw [<- ZvF,fj];rfl
  rw [hx,hb] at good bad;obtain ⟨b,lf⟩:∃b:Bool,b=false:=⟨_,rfl⟩
  refine ⟨pl,p,r,vs,more,kind,rfl,?_⟩
  clear lf b
  generalize dr:false=b at good bad;generalize x.isSome=sub at good bad |-
  cases sub <;> cases b <;> first | (cases dr;done) | skip
  all_goals repeat' ((conv=>whnf);first | refine ZGg (fun hc=>?_) (fun hc=>?_) | refine ZGi (fun hc=>?_) (fun hc=>?_))
  all_goals (conv=>whnf)
  all_goals first
   | (exfalso;omega)
   | exact bad ⟨rfl,by first | (left;omega) | (right;exact ⟨oM,rfl⟩)⟩
   | exact good (fun g=>by first | exact Bool.noConfusion g.1 | (rcases g.2 with g | g <;> first | omega | exact Bool.noConfusion g.2))
 exact h.elim
def ZcK {p:Pr} {vs:Vs}:∀{l:List Ex} {ns:List Int} {j:Nat} {e:Ex} {n:Int},ZaW p vs l ns=none->l[j]?=some e->ns[j]?=some n->rtE p vs e n=none
 | [],_,j,e,n,h,h1,h2=>by simp at h1
 | x::l,[],j,e,n,h,h1,h2=>by simp at h2
 | x::l,y::ns,j,e,n,h,h1,h2=>by
  simp only [ZaW] at h
  cases hx:rtE p vs x y with
  | some f=>rw [hx] at h;cases h
  | none =>
  rw [hx] at h
  cases j with
  | zero=>simp at h1 h2;subst h1;subst h2;exact hx
  | succ j=>exact ZcK h (by simpa using h1) (by simpa using h2)
def Zcb {p:Pr} {vs:Vs} {op:Nat} {text:Bs} {num:Int} {args:List Ex} {a:Nat} {kind:Bs} (h:rtE p vs (.mk op text num args a) (Xr p kind)=none) :
  (op=7->∃(i k:Nat) (t:Ty) (c:Ca),lkM text (Xc p)=some ((i:Int),(k:Int))/\p.types[i]?=some t/\t.cases[k]?=some c/\YB p op text kind=c.fields/\c.fields.length=args.length) /\
  (op=6->∃t,Zhv p (Xr p kind)=some t/\YB p op text kind=t.fields/\t.fields.length=args.length) /\
  (op≠7->op≠6->YB p op text kind=[]) /\
  ∀(j:Nat) (e:Ex) (f:Fi),args[j]?=some e->(YB p op text kind)[j]?=some f->rtE p vs e (Xr p f.typ)=none:=by
 simp only [rtE] at h;split at h
 ·cases h
 rename_i h1
 split at h
 ·cases h
 rename_i h2
 split at h
 ·cases h
 rename_i h3
 have h3:(ZN p op text args.length (Xr p kind)).length=args.length:=Decidable.of_not_not h3;refine ⟨fun h7=>?_,fun h6=>?_,fun h7 h6=>?_,fun j e f he hf=>?_⟩
 ·cases hl:lkM text (Xc p) with
  | none=>exact absurd ⟨h7,by rw [hl];rfl⟩ h1
  | some v =>
  obtain ⟨i,k,t,c,rfl,g2,g3,g4⟩:=Zd8 hl;have hp:ZN p op text args.length (Xr p kind)=ZY p c.fields:=by simp only [ZN,Tj h7,g4]
  rw [hp] at h3;refine ⟨i,k,t,c,rfl,g2,g3,?_,by simpa [ZY] using h3⟩;simp only [YB,Tj h7,g4]
 ·cases hr:Zhv p (Xr p kind) with
  | none=>exact absurd (.inr (.inl ⟨.inl h6,by rw [hr];rfl⟩)) h2
  | some t =>
  have h7:¬op=7:=oM;have hp:ZN p op text args.length (Xr p kind)=ZY p t.fields:=by simp only [ZN,Tf h7,Tj h6,hr]
  rw [hp] at h3;refine ⟨t,rfl,?_,by simpa [ZY] using h3⟩;simp only [YB,Tf h7,Tj h6,hr]
 ·simp only [YB,Tf h7,Tf h6]
 have hp:(YB p op text kind).length≠0->ZN p op text args.length (Xr p kind)=ZY p (YB p op text kind):=fun ai=>by
  unfold YB at ai |-
  unfold ZN
  by_cases h7:op=7
  ·simp only [Tj h7] at ai |-
   cases hc:Zjc p text with
   | none=>rw [hc] at ai;simp at ai
   | some tc=>rfl
  simp only [Tf h7] at ai |-
  by_cases h6:op=6
  ·simp only [Tj h6] at ai |-
   cases hr:Zhv p (Xr p kind) with
   | none=>rw [hr] at ai;simp at ai
   | some t=>rfl
  simp only [Tf h6] at ai;simp at ai
 have ai:(YB p op text kind).length≠0:=fun h0=>by
  have:=(To.1 hf).1;omega
 rw [hp ai] at h;exact ZcK h he (by rw [ZY,Ti,hf];rfl)
mutual
def Zhy (p:Pr):∀(e:Ex) (kind:Bs),(wiE p e kind).length<=szE e
 | .mk op text n args a,kind=>by
  simp only [wiE,Te,szE];have:=Zhz p args (YB p op text kind);omega
def Zhz (p:Pr):∀(l:List Ex) (fs:List Fi),(ZaX p l fs).length<=Jn l
 | [],fs=>by simp [ZaX]
 | e::l,[]=>by simp [ZaX]
 | e::l,f::fs=>by
  simp only [ZaX,Ta,Jn];have:=Zhy p e f.typ;have:=Zhz p l fs;omega
end
def ZcL {α:Type} {f:α->Nat} {l:List α} {j:Nat} {x:α} (h:l[j]?=some x):szS f (l.drop j)=1+f x+szS f (l.drop (j+1)):=by
 have hj:=(To.1 h).1;rw [Tk hj,szS];rw [Tb hj] at h
 cases h;rfl
def WJ {p:Pr} {kn:List (Bs×Bs)}:∀(a b:List (Ex×Bs)),V3 p kn (a++b)=orF (V3 p kn a) (V3 p kn b)
 | [],b=>rfl
 | (.mk op text _ _ at',k)::a,b=>by
  simp only [T9,V3];split
  ·rfl
  exact WJ a b
def Zn7 {p:Pr} {kn:List (Bs×Bs)} (x:Ex×Bs) (l:List (Ex×Bs)):V3 p kn (x::l)=orF (h2T p kn x) (V3 p kn l):=by
 obtain ⟨⟨op,text,n,args,a⟩,k⟩:=x;simp only [V3,h2T];split <;> rfl
abbrev Zrd (pl:Pl) (p:Pr) (r:Ru) (vs:Vs) (more:Bool) (M:SM):List Box:=[.cells 160 (Zub pl r more 2 3),.cells 222 [.mp 4],.cells 139 (Zi7 pl p 5),.dmap (mvM mvI vs),.smap 9 M none]++Zi8 p
abbrev Zuc (pl:Pl) (p:Pr) (r:Ru) (vs:Vs) (more:Bool) (M:SM):List Box:=[.cells 160 (Zub pl r more 3 4),.cells 101 [.ptr 0 0],.cells 222 [.mp 5],.cells 139 (Zi7 pl p 6),.dmap (mvM mvI vs),.smap 9 M none]++Zi8 p
def Zn8 (m:Nat):Zk:=fun args σ K=>match args,σ with
 | [.ptr 0 0,.agg c,.d (.str kind),.func f [] [.ptr 1 0]],⟨bx,[],0⟩=>∃pl p r vs more e M n,c=(ZF pl e).map .d/\f=142/\bx=Zrd pl p r vs more M/\OKP p/\(szE e<=m/\m<=2097152)/\rtE p vs e (Xr p kind)=none/\(Zq9 M n/\n+szE e<=1073741824)/\K (.ret (.tuple [])) ⟨Zrd pl p r vs more (Wv M (wiE p e kind)),[],0⟩
 | _,_=>False
def ZvG {m:Nat}:OKw w0 nG [(141,spB Zn8 m),(142,ZDp),(137,VJ),(204,ZkT)] 141 (Zn8 m):=by
 refine pwo Tryz.func141 fun args σ K h=>?_
 unfold Zn8 at h
 split at h
 ·rename_i c kind f bx
  obtain ⟨pl,p,r,vs,more,⟨op,text,num,eargs,ea⟩,M,n,rfl,rfl,rfl,hp,⟨hz,hm⟩,uf,⟨hM,hn⟩,h⟩:=h;simp only [wiE] at h;obtain ⟨F,hF⟩:∃F,Wv M ((.mk op text num eargs ea,kind)::ZaX p eargs (YB p op text kind))=F:=⟨_,rfl⟩
  rw [hF] at h;have hM1:=Zmo hM (.mk op text num eargs ea,kind);have hF:Wv (ZvE M (.mk op text num eargs ea,kind)) (ZaX p eargs (YB p op text kind))=F:=hF;have am:(Ze pl eargs).length=eargs.length:=by rw [Zc,Td]
  simp only [szE,Wq] at hz hn;have ol:=Zu szE eargs;obtain ⟨r7,r6,r0,rk⟩:=Zcb uf;obtain ⟨fs,qo⟩:∃fs,YB p op text kind=fs:=⟨_,rfl⟩
  rw [qo] at r7 r6 r0 rk hF
  by_cases h7:op=7
  ·obtain ⟨i0,k0,t,c,hl,h2,h3,g1,g2⟩:=r7 h7;have hr:(p.types.map (Zs pl))[(i0:Int).toNat]?=some (Zs pl t):=by rw [Th,Ti,h2];rfl
   have ef:(t.cases.map Zy)[(k0:Int).toNat]?=some (Zy c):=by rw [Th,Ti,h3];rfl
   obtain ⟨t1,t2,t3,t4,t5,t6⟩:=t;obtain ⟨c1,c2⟩:=c;simp only at g1 g2;obtain rfl:fs=c2:=g1;refine pwu [(11,⟨[67],[0,3,5,65,66],fun w σ=>∃(j n1:Nat) (M1:SM),w=[.d (.int .i64 j)]/\σ=⟨Zrd pl p r vs more M1++[.cells 25 ((ZF pl (.mk op text num eargs ea)).map .d),.cells 152 [.d (.int .i64 i0),.d (.int .i64 k0)]],[],0⟩/\j<=eargs.length/\(Zq9 M1 n1/\n1+szS szE (eargs.drop j)<=1073741824)/\Wv M1 (ZaX p (eargs.drop j) (fs.drop j))=F,
    fun w _=>match w with | [.d (.int _ j)]=>((eargs.length:Int) - j).toNat | _=>0⟩)] 9 false ?_
   conv=>whnf
   refine ⟨pl,.mk op text num eargs ea,rfl,⟨rfl,rfl⟩,fun t rows hr=>by have:=hM t rows hr;omega,wN ?_⟩;refine ZGg (fun jb=>?_) (fun jb=>absurd (show (op:Int)=7 by omega) jb);(conv=>whnf);refine optK.yes (by rw [ZI,hl];rfl) (wN ?_)
   (repeat (refine ⟨rfl,?_⟩;conv=>whnf))
   refine ⟨dM,dM,wN ?_⟩;refine ⟨_,oM,hr,wN ?_⟩;refine ⟨dM,dM,wN ?_⟩;refine ⟨_,oM,ef,wN ?_⟩;exact mq9
  by_cases h6:op=6
  ·obtain ⟨t0,pg,g1,g2⟩:=r6 h6;refine pwu [(11,⟨[67],[0,3,5,65,66],fun w σ=>∃(j n1:Nat) (M1:SM),w=[.d (.int .i64 j)]/\σ=⟨Zrd pl p r vs more M1++[.cells 25 ((ZF pl (.mk op text num eargs ea)).map .d),.cells 144 ((Zs pl t0).map .d)],[],0⟩/\j<=eargs.length/\(Zq9 M1 n1/\n1+szS szE (eargs.drop j)<=1073741824)/\Wv M1 (ZaX p (eargs.drop j) (fs.drop j))=F,
    fun w _=>match w with | [.d (.int _ j)]=>((eargs.length:Int) - j).toNat | _=>0⟩)] 9 false ?_
   conv=>whnf
   refine ⟨pl,.mk op text num eargs ea,rfl,⟨rfl,rfl⟩,fun t rows hr=>by have:=hM t rows hr;omega,wN ?_⟩;refine ZGg (fun jb=>absurd (show op=7 by have jb:(op:Int)=7:=jb;omega) h7) (fun jb=>wN ?_);refine ZGg (fun nc=>?_) (fun nc=>absurd (show (op:Int)=6 by omega) nc);(conv=>whnf);refine ⟨pl,p,rfl,hp.bp,hp.ends,fun n6 hn6=>?_⟩;subst hn6;(conv=>whnf);refine ⟨pl,p,r,vs,more,rfl,hp,fun t6 qj=>?_,fun qj=>by rw [pg] at qj;cases qj⟩;obtain rfl:t0=t6:=Option.some.inj (pg.symm.trans qj);obtain ⟨t1,t2,t3,t4,t5,t6⟩:=t0;simp only at g1 g2;obtain rfl:fs=t4:=g1;(conv=>whnf);exact mq9
  skip
  refine pwu [(11,⟨[67],[0,3,5,65,66],fun w σ=>∃(j n1:Nat) (M1:SM),w=[.d (.int .i64 j)]/\σ=⟨Zrd pl p r vs more M1++[.cells 25 ((ZF pl (.mk op text num eargs ea)).map .d)],[],0⟩/\j<=eargs.length/\(Zq9 M1 n1/\n1+szS szE (eargs.drop j)<=1073741824)/\Wv M1 (ZaX p (eargs.drop j) (fs.drop j))=F,
   fun w _=>match w with | [.d (.int _ j)]=>((eargs.length:Int) - j).toNat | _=>0⟩)] 9 false ?_
  conv=>whnf
  refine ⟨pl,.mk op text num eargs ea,rfl,⟨rfl,rfl⟩,fun t rows hr=>by have:=hM t rows hr;omega,wN ?_⟩;refine ZGg (fun jb=>absurd (show op=7 by have jb:(op:Int)=7:=jb;omega) h7) (fun jb=>wN ?_);refine ZGg (fun nc=>absurd (show op=6 by have nc:(op:Int)=6:=nc;omega) h6) (fun nc=>wN ?_);have h0:fs=[]:=r0 h7 h6;subst h0;refine ⟨⟨0,n+1,_,rfl,rfl,oM,⟨hM1,by rw [Sm];omega⟩,hF⟩,?_⟩
  rintro w σ1 ⟨j,n1,M1,rfl,rfl,hj,⟨ug,kj⟩,ha⟩
  have ha:M1=F:=by
   exact mq133
  subst ha;exact mq47
 exact h.elim
def Zn9 (m:Nat):Zk:=fun args σ K=>match args,σ with
 | [.ptr 0 0,.agg c,.d (.str kind),.func f [] [.ptr 1 0,.ptr 2 0]],⟨bx,[],0⟩=>∃pl p r vs more e M kn,c=(ZF pl e).map .d/\f=143/\bx=Zuc pl p r vs more M/\OKP p/\(szE e<=m/\m<=2097152)/\rtE p vs e (Xr p kind)=none/\ZEt M kn/\∀x,V3 p kn (wiE p e kind)=x->FlK pl K ⟨bx,[],0⟩ x
 | _,_=>False
def ZvH {m:Nat}:OKw w0 nG [(141,spB Zn9 m),(143,ZDq),(137,VJ),(204,ZkT)] 141 (Zn9 m):=by
 refine pwo Tryz.func141 fun args σ K h=>?_
 unfold Zn9 at h
 split at h
 ·rename_i c kind f bx
  obtain ⟨pl,p,r,vs,more,⟨op,text,num,eargs,ea⟩,M,kn,rfl,rfl,rfl,hp,⟨hz,hm⟩,uf,lm,h⟩:=h;simp only [wiE] at h;obtain ⟨X,hX⟩:∃X,V3 p kn ((.mk op text num eargs ea,kind)::ZaX p eargs (YB p op text kind))=X:=⟨_,rfl⟩
  have h:=h X hX;rw [Zn7] at hX;have am:(Ze pl eargs).length=eargs.length:=by rw [Zc,Td]
  simp only [szE,Wq] at hz;have ol:=Zu szE eargs;obtain ⟨r7,r6,r0,rk⟩:=Zcb uf;obtain ⟨fs,qo⟩:∃fs,YB p op text kind=fs:=⟨_,rfl⟩
  rw [qo] at r7 r6 r0 rk hX
  by_cases h7:op=7
  ·obtain ⟨i0,k0,t,c,hl,h2,h3,g1,g2⟩:=r7 h7;have hr:(p.types.map (Zs pl))[(i0:Int).toNat]?=some (Zs pl t):=by rw [Th,Ti,h2];rfl
   have ef:(t.cases.map Zy)[(k0:Int).toNat]?=some (Zy c):=by rw [Th,Ti,h3];rfl
   obtain ⟨t1,t2,t3,t4,t5,t6⟩:=t;obtain ⟨c1,c2⟩:=c;simp only at g1 g2;obtain rfl:fs=c2:=g1;refine pwu [(11,⟨[67],[0,3,5,65,66],fun w σ=>∃(j:Nat),w=[.d (.int .i64 j)]/\σ=⟨Zuc pl p r vs more M++[.cells 25 ((ZF pl (.mk op text num eargs ea)).map .d),.cells 152 [.d (.int .i64 i0),.d (.int .i64 k0)]],[],0⟩/\j<=eargs.length/\V3 p kn (ZaX p (eargs.drop j) (fs.drop j))=X,
    fun w _=>match w with | [.d (.int _ j)]=>((eargs.length:Int) - j).toNat | _=>0⟩)] 10 false ?_
   conv=>whnf
   refine ⟨pl,p,r,vs,more,M,kn,.mk op text num eargs ea,rfl,rfl,hp,lm,fun y hy=>?_⟩;rw [hy] at hX
   cases y with
   | some ae =>
    exact mq172
   | none =>
   simp only [FlK,orF] at hX |-;(conv=>whnf);refine ZGg (fun jb=>?_) (fun jb=>absurd (show (op:Int)=7 by omega) jb);(conv=>whnf);refine optK.yes (by rw [ZI,hl];rfl) (wN ?_)
   (repeat (refine ⟨rfl,?_⟩;conv=>whnf))
   refine ⟨dM,dM,wN ?_⟩;refine ⟨_,oM,hr,wN ?_⟩;refine ⟨dM,dM,wN ?_⟩;refine ⟨_,oM,ef,wN ?_⟩;exact mq11
  by_cases h6:op=6
  ·obtain ⟨t0,pg,g1,g2⟩:=r6 h6;refine pwu [(11,⟨[67],[0,3,5,65,66],fun w σ=>∃(j:Nat),w=[.d (.int .i64 j)]/\σ=⟨Zuc pl p r vs more M++[.cells 25 ((ZF pl (.mk op text num eargs ea)).map .d),.cells 144 ((Zs pl t0).map .d)],[],0⟩/\j<=eargs.length/\V3 p kn (ZaX p (eargs.drop j) (fs.drop j))=X,
    fun w _=>match w with | [.d (.int _ j)]=>((eargs.length:Int) - j).toNat | _=>0⟩)] 10 false ?_
   conv=>whnf
   refine ⟨pl,p,r,vs,more,M,kn,.mk op text num eargs ea,rfl,rfl,hp,lm,fun y hy=>?_⟩;rw [hy] at hX
   cases y with
   | some ae =>
    exact mq172
   | none =>
   simp only [FlK,orF] at hX |-;(conv=>whnf);refine ZGg (fun jb=>absurd (show op=7 by have jb:(op:Int)=7:=jb;omega) h7) (fun jb=>wN ?_);refine ZGg (fun nc=>?_) (fun nc=>absurd (show (op:Int)=6 by omega) nc);(conv=>whnf);refine ⟨pl,p,rfl,hp.bp,hp.ends,fun n6 hn6=>?_⟩;subst hn6;(conv=>whnf);refine ⟨pl,p,r,vs,more,rfl,hp,fun t6 qj=>?_,fun qj=>by rw [pg] at qj;cases qj⟩;obtain rfl:t0=t6:=Option.some.inj (pg.symm.trans qj);obtain ⟨t1,t2,t3,t4,t5,t6⟩:=t0;simp only at g1 g2;obtain rfl:fs=t4:=g1;(conv=>whnf);exact mq11
  skip
  refine pwu [(11,⟨[67],[0,3,5,65,66],fun w σ=>∃(j:Nat),w=[.d (.int .i64 j)]/\σ=⟨Zuc pl p r vs more M++[.cells 25 ((ZF pl (.mk op text num eargs ea)).map .d)],[],0⟩/\j<=eargs.length/\V3 p kn (ZaX p (eargs.drop j) (fs.drop j))=X,
   fun w _=>match w with | [.d (.int _ j)]=>((eargs.length:Int) - j).toNat | _=>0⟩)] 10 false ?_
  conv=>whnf
  refine ⟨pl,p,r,vs,more,M,kn,.mk op text num eargs ea,rfl,rfl,hp,lm,fun y hy=>?_⟩;rw [hy] at hX
  cases y with
  | some ae =>
   exact mq172
  | none =>
  simp only [FlK,orF] at hX |-;(conv=>whnf);refine ZGg (fun jb=>absurd (show op=7 by have jb:(op:Int)=7:=jb;omega) h7) (fun jb=>wN ?_);refine ZGg (fun nc=>absurd (show op=6 by have nc:(op:Int)=6:=nc;omega) h6) (fun nc=>wN ?_);have h0:fs=[]:=r0 h7 h6;subst h0;refine ⟨⟨0,rfl,rfl,oM,hX⟩,?_⟩
  rintro w σ1 ⟨j,rfl,rfl,hj,ha⟩
  have ha:none=X:=by
   exact mq133
  subst ha;exact mq47
 exact h.elim
def knF (x:Ex×Bs):Option (Bs×Bs):=match x with
 | (.mk op text _ _ _,k)=>if op=1 then some (text,k) else none
def Zjj (p:Pr) (l:List Li):Zjd p l=(l.flatMap (VV p)).filterMap knF:=rfl
def Zmp (M:SM) (kn:List (Bs×Bs)):Prop:=∀t,(lkM t M).getD []=(kn.filter fun y=>decide (y.1=t)).map fun y=>Zua y.2
def Zud {M:SM} {kn:List (Bs×Bs)} (h:Zmp M kn) (x:Ex×Bs):Zmp (ZvE M x) (kn++(knF x).toList):=by
 obtain ⟨⟨op,text,_,_,_⟩,k⟩:=x;simp only [ZvE,knF];split
 ·intro t
  rw [JV,List.filter_append,TS]
  by_cases ht:t=text
  ·subst ht;simp [h t]
  have mj:¬text=t:=fun e=>ht e.symm
  simp [ht,mj,h t]
 intro t;simpa using h t
def Zjk:∀(l:List (Ex×Bs)) {M:SM} {kn:List (Bs×Bs)},Zmp M kn->Zmp (Wv M l) (kn++l.filterMap knF)
 | [],M,kn,h=>by simpa [Wv] using h
 | x::l,M,kn,h=>by
  have:=Zjk l (Zud h x);simp only [List.filterMap_cons]
  cases hx:knF x with
  | none=>rw [hx] at this;simpa [Wv] using this
  | some y=>rw [hx] at this;simpa [Wv] using this
def Zgd (p:Pr):∀(l:List Li),(l.flatMap (VV p)).length<=szS szL l
 | []=>sM
 | .mk op rel args body a::l=>by
  have:=Zgd p l;have h2:=Zhz p args (Zn5 p rel);rw [Wq] at h2;rw [List.flatMap_cons,Ta,szS,szL];simp only [VV];split
  ·omega
  rw [Tg];omega
def Zzf (p:Pr) {l:List Li} (h:szS szL l<=1073741824):ZEt (Wv [] (l.flatMap (VV p))) (Zjd p l):=by
 refine ⟨?_,?_⟩
 ·have h1:=Zgd p l;have h2:=List.length_filterMap_le knF (l.flatMap (VV p));rw [Zjj];omega
 have:=Zjk (l.flatMap (VV p)) (M:=[]) (kn:=[]) (fun t=>rfl);rw [Sg,<- Zjj] at this;exact this
def Zjl {p:Pr} {vs:Vs} {name:Bs} {args:List Ex} {a:Nat} {hd:Bool} (h:Zt1 p vs name args a hd=none) :
  ∃(i:Nat) (d:Re),lkM name (JW p)=some (i:Int)/\p.rels[i]?=some d/\d.fields.length=args.length/\ZaW p vs args (ZY p d.fields)=none/\Zn5 p name=d.fields:=by
 unfold Zt1 at h
 cases hl:lkM name (JW p) with
 | none=>rw [hl] at h;cases h
 | some n =>
 obtain ⟨i,d,rfl,h2,h3⟩:=ZcI hl;rw [hl] at h;simp only [Th,h2] at h;split at h
 ·cases h
 split at h
 ·cases h
 rename_i hn
 have hn:d.fields.length=args.length:=Decidable.of_not_not hn;rw [Zbz hl h2,Tj hn] at h;exact ⟨i,d,rfl,h2,hn,h,by simp only [Zn5,hl,Th,h2]⟩
def Zmq {p:Pr} {vs:Vs}:∀{l:List Li} {j:Nat} {x:Li},Zh0 p vs l=none->l[j]?=some x->rtL p vs x=none
 | [],j,x,h,hx=>by simp at hx
 | y::l,j,x,h,hx=>by
  simp only [Zh0] at h
  cases hy:rtL p vs y with
  | some f=>rw [hy] at h;cases h
  | none =>
  rw [hy] at h
  cases j with
  | zero=>simp at hx;subst hx;exact hy
  | succ j=>exact Zmq h (by simpa using hx)
def ZFh (a b:Zk):Zk:=fun args σ K=>a args σ K\/b args σ K
def Zre {G:GE} {g:FuncId} {a b:Zk} (ha:PCalls G g a) (hb:PCalls G g b):PCalls G g (ZFh a b):=⟨ha.enters,fun args σ K h=>h.elim (ha.calls args σ K) (hb.calls args σ K)⟩
abbrev ZEx (pl:Pl) (p:Pr) (r:Ru) (vs:Vs) (more:Bool) (M:SM):List Box:=Zby pl p r vs more++[.cells 101 [.ptr 0 0],.smap 9 M none,.cells 222 [.mp 8]]
def Zed (m:Nat):Zk:=ZaY fun rest pl p r vs more K=>match rest with
 | []=>(Zi0 r<=m/\m<=2097152)/\Zt1 p vs r.head r.args r.at' true=none/\Zh0 p vs r.body=none/\∀x,Zmk p r=x->RtK pl K vs more x
 | _=>False
def Zjm (m:Nat):Zx (Zed m):=Zd7 fun rest pl p r vs more K K' hK h=>by
 split at h
 ·obtain ⟨h1,h2,h3,h4⟩:=h;exact ⟨h1,h2,h3,fun x g=>Zhx hK (h4 x g)⟩
 exact h.elim
def Zmr (m:Nat):Tbl:=[(141,ZFh (Zn8 m) (Zn9 m))]
def Zue {m:Nat} (ht:TO w0 nG (Zmr m)):PC w0 nG 90 (Zed m):=by
 refine Zpn Zr mixed (tbl:=Zmr m) ht Tryz.func90 rfl kR kR ?_;intro args σ K h
 unfold Zed ZaY at h
 split at h
 ·obtain ⟨pl,p,⟨head,ac,body,rat⟩,vs,more,rfl,hp,h⟩:=h;split at h
  ·obtain ⟨⟨hz,hm⟩,i5,zd,h⟩:=h;simp only [Zi0] at hz i5 zd;obtain ⟨hi,hd,ca,cy,dc,ei,iz⟩:=Zjl i5;have qq:=Zu szL body;have j5:(ZL pl body).length=body.length:=by rw [Zq,Td]
   have hlh:(Ze pl ac).length=ac.length:=by rw [Zc,Td]
   have hnh:=Zu szE ac;have lm:=Zzf p (l:=body) oM;obtain ⟨MF,hMF⟩:∃MF,Wv [] (body.flatMap (VV p))=MF:=⟨_,rfl⟩
   rw [hMF] at lm;obtain ⟨X,hX⟩:∃X,Zmk p ⟨head,ac,body,rat⟩=X:=⟨_,rfl⟩
   have h:=h X hX;have hX:V3 p (Zjd p body) (ZaX p ac hd.fields)=X:=by rw [<- hX,Zmk,iz]
   generalize Zjd p body=kn at lm hX;refine ⟨Zg [(3,⟨[16],[1,2,14,15],fun w σ=>∃(j n:Nat) (M:SM),w=[.d (.int .i64 j)]/\σ=⟨ZEx pl p ⟨head,ac,body,rat⟩ vs more M,[],0⟩/\j<=body.length/\(Zq9 M n/\n+szS szL (body.drop j)<=1073741824)/\Wv M ((body.drop j).flatMap (VV p))=MF,
     fun w _=>match w with | [.d (.int _ j)]=>((body.length:Int) - j).toNat | _=>0⟩),
    (7,⟨[45],[1,2,4,14,15,16,43,44],fun w σ=>∃(j i n:Nat) (M:SM) (rel:Bs) (eargs:List Ex) (lbody:List Li) (at':Nat) (fs:List Fi),w=[.ptr 7 0,.ptr 9 0,.ptr 10 0,.d (.sl (ZL pl body)),.d (.int .i64 ((ZL pl body).length:Nat)),.d (.int .i64 j),.d (.sl (fs.map Zn)),.d (.int .i64 ((fs.map Zn).length:Nat)),.d (.int .i64 i)] /\
      σ=⟨ZEx pl p ⟨head,ac,body,rat⟩ vs more M++[.cells 30 ((YQ pl (.mk 1 rel eargs lbody at')).map .d)],[],0⟩/\body[j]?=some (.mk 1 rel eargs lbody at')/\fs=Zn5 p rel/\i<=eargs.length /\
      (Zq9 M n/\n+szS szE (eargs.drop i)+szS szL (body.drop (j+1))<=1073741824)/\Wv (Wv M (ZaX p (eargs.drop i) (fs.drop i))) ((body.drop (j+1)).flatMap (VV p))=MF,
     fun w _=>match w with | [_,_,_,_,_,_,_,.d (.int _ n),.d (.int _ i)]=>(n - i).toNat | _=>0⟩),
    (13,⟨[87],[1,2,85,86],fun w σ=>∃(j:Nat),w=[.d (.int .i64 j)]/\σ=⟨ZEx pl p ⟨head,ac,body,rat⟩ vs more MF,[],0⟩/\j<=ac.length/\V3 p kn (ZaX p (ac.drop j) (hd.fields.drop j))=X,
     fun w _=>match w with | [.d (.int _ j)]=>((ac.length:Int) - j).toNat | _=>0⟩)],Ys [],ZC [7],ZC [9],ZC [],7,false,sM,Tc rfl,?_⟩
   conv=>whnf
   refine ⟨⟨0,0,[],rfl,rfl,oM,⟨(fun t rows hr=>by cases hr),by rw [Sm];omega⟩,hMF⟩,?_⟩
   rintro w σ1 ⟨j,n,M,rfl,rfl,hj,⟨hM,hn⟩,ha⟩
   conv=>whnf
   refine ZGg (fun hc=>?_) (fun hc=>?_);rotate_left
   ·have hc:¬(j:Int)<((ZL pl body).length:Int):=hc;rw [Tp oM] at ha;have ha:M=MF:=ha;subst ha;have hr:(p.rels.map (ZM pl))[(hi:Int).toNat]?=some (ZM pl hd):=by rw [Th,Ti,cy];rfl
    obtain ⟨d1,d2,d3,d4,d5,d6⟩:=hd;simp only at dc ei hX;(conv=>whnf);refine optK.yes (by rw [ZI,ca];rfl) (wN ?_)
    (repeat (refine ⟨rfl,?_⟩;conv=>whnf))
    refine ⟨_,oM,hr,wN ?_⟩;refine ⟨⟨0,rfl,rfl,oM,hX⟩,?_⟩
    rintro w σ1 ⟨i,rfl,rfl,ab,ha⟩
    conv=>whnf
    refine ZGg (fun bj=>?_) (fun bj=>?_);rotate_left
    ·have bj:¬(i:Int)<((d2.map Zn).length:Int):=bj;rw [Td] at bj;rw [Tp oM] at ha;have ha:none=X:=ha;subst ha;exact mq47
    have aa:i<d2.length:=by have bj:(i:Int)<((d2.map Zn).length:Int):=bj;rw [Td] at bj;omega
    have av:i<ac.length:=oM;rw [Tk aa,Tk av] at ha;simp only [ZaX] at ha;have hk:=ZcK ei (Tb av) (by rw [ZY,Ti,Tb aa];rfl);have o4:(d2.map Zn)[(i:Int).toNat]?=some (Zn d2[i]):=by rw [Th,Ti,Tb aa];rfl
    have m9:(Ze pl ac)[(i:Int).toNat]?=some (ZF pl ac[i]):=by rw [Zc,Th,Ti,Tb av];rfl
    have dy:=ZD szE ac i av;have hμ:((ac.length:Int) - ((i:Int)+1)).toNat<((ac.length:Int) - (i:Int)).toNat:=oM;generalize d2[i]=f0 at ha hk o4;generalize ac[i]=x0 at ha hk m9 dy;obtain ⟨f1,f2⟩:=f0;obtain ⟨x1,x2,x3,x4,x5⟩:=x0;(conv=>whnf);refine ⟨_,oM,o4,wN ?_⟩;refine ⟨_,oM,m9,wN ?_⟩;refine .inr ⟨pl,p,⟨head,ac,body,rat⟩,vs,more,.mk x1 x2 x3 x4 x5,M,kn,rfl,rfl,rfl,hp,⟨oM,hm⟩,hk,lm,fun y hy=>?_⟩;rw [WJ,hy] at ha
    cases y with
    | some ae =>
     obtain ⟨a,e⟩:=ae;simp only [orF] at ha;subst ha;simp only [FlK,RtK] at h |-;exact mq47
    | none =>
    simp only [FlK,orF] at ha |-;(conv=>whnf)
    (repeat (refine ⟨rfl,?_⟩;conv=>whnf))
    refine Zi ?_;exact ⟨⟨i+1,rfl,rfl,oM,ha⟩,hμ⟩
   have aa:j<body.length:=by have hc:(j:Int)<((ZL pl body).length:Int):=hc;omega
   have hr:(ZL pl body)[(j:Int).toNat]?=some (YQ pl body[j]):=by rw [Zq,Th,Ti,Tb aa];rfl
   have dy:=ZD szL body j aa;have iw:=ZcL (f:=szL) (Tb aa);have hx:=Zmq zd (Tb aa);rw [Tk aa,List.flatMap_cons,Wv,Sl] at ha;have hμ:((body.length:Int) - ((j:Int)+1)).toNat<((body.length:Int) - (j:Int)).toNat:=oM;have j6:body[j]?=some body[j]:=Tb aa;generalize body[j]=x at ha hr dy iw hx j6;obtain ⟨op,rel,eargs,lbody,at'⟩:=x;simp only [szL,Zbs] at dy iw;simp only [VV] at ha;(conv=>whnf);refine ⟨_,oM,hr,wN ?_⟩;refine ZGi (fun ho=>wN ?_) (fun ho=>?_)
   ·have ho:¬op=1:=fun g=>ho (by simp only [g];rfl)
    rw [Tf ho] at ha;refine Zi ?_;exact ⟨⟨j+1,n,M,rfl,rfl,oM,⟨hM,oM⟩,ha⟩,hμ⟩
   have ho:op=1:=by have ho:(op:Int)=1:=ho;omega
   subst ho;rw [Tj rfl] at ha;simp only [rtL] at hx;rw [Tj dM] at hx;obtain ⟨ri,d,q1,q2,q3,q4,q5⟩:=Zjl hx;have hrr:(p.rels.map (ZM pl))[(ri:Int).toNat]?=some (ZM pl d):=by rw [Th,Ti,q2];rfl
   obtain ⟨d1,d2,d3,d4,d5,d6⟩:=d;simp only at q3 q4 q5;have gd:(Ze pl eargs).length=eargs.length:=by rw [Zc,Td]
   have ai:=Zu szE eargs;rw [q5] at ha;(conv=>whnf);refine optK.yes (by rw [ZI,q1];rfl) (wN ?_)
   (repeat (refine ⟨rfl,?_⟩;conv=>whnf))
   refine ⟨_,oM,hrr,wN ?_⟩;refine ⟨⟨j,0,n,M,rel,eargs,lbody,at',d2,rfl,rfl,j6,q5.symm,oM,⟨hM,by rw [Sm];omega⟩,ha⟩,?_⟩
   clear ha hM hn
   rintro w σ1 ⟨j',i,n2,M2,rel',eargs',lbody',at'',fs',hw,rfl,la,zf,ab,⟨ug,kj⟩,ha⟩
   have ej:(some (PV.d (.int .i64 (j:Int))):Option PV)=some (.d (.int .i64 (j':Int))):=congrArg (fun l:List PV=>l[5]?) hw;obtain rfl:j=j':=by have ej:=Option.some.inj ej;injection ej with ej;injection ej with _ ej;omega
   rw [j6] at la;obtain ⟨_,rfl,rfl,rfl,rfl⟩:=Li.mk.inj (Option.some.inj la);obtain rfl:fs'=d2:=zf.trans q5;have hw:w=[.d (.int .i64 i)]:=congrArg (List.drop 8) hw;subst hw;(conv=>whnf);refine ZGg (fun bj=>?_) (fun bj=>?_);rotate_left
   ·have bj:¬(i:Int)<((fs'.map Zn).length:Int):=bj;rw [Td] at bj;have hii:i=eargs.length:=oM;rw [Tp oM] at ha kj;have ha:Wv M2 ((body.drop (j+1)).flatMap (VV p))=MF:=ha;(conv=>whnf);refine Zi ?_;exact ⟨⟨j+1,n2,M2,rfl,rfl,oM,⟨ug,by simp only [szS] at kj;omega⟩,ha⟩,hμ⟩
   have uh:i<fs'.length:=by have bj:(i:Int)<((fs'.map Zn).length:Int):=bj;rw [Td] at bj;omega
   have av:i<eargs.length:=oM;rw [Tk uh,Tk av] at ha;simp only [ZaX] at ha;have hk:=ZcK q4 (Tb av) (by rw [ZY,Ti,Tb uh];rfl);have o4:(fs'.map Zn)[(i:Int).toNat]?=some (Zn fs'[i]):=by rw [Th,Ti,Tb uh];rfl
   have m9:(Ze pl eargs)[(i:Int).toNat]?=some (ZF pl eargs[i]):=by rw [Zc,Th,Ti,Tb av];rfl
   have tg:=ZD szE eargs i av;have hde:=ZcL (f:=szE) (Tb av);have hμ2:(((fs'.map Zn).length:Int) - ((i:Int)+1)).toNat<(((fs'.map Zn).length:Int) - (i:Int)).toNat:=by rw [Td];omega
   generalize fs'[i]=f0 at ha hk o4;generalize eargs[i]=x0 at ha hk m9 tg hde;obtain ⟨f1,f2⟩:=f0;obtain ⟨x1,x2,x3,x4,x5⟩:=x0;(conv=>whnf);refine ⟨_,oM,o4,wN ?_⟩;refine ⟨_,oM,m9,wN ?_⟩;refine .inl ⟨pl,p,⟨head,ac,body,rat⟩,vs,more,.mk x1 x2 x3 x4 x5,M2,n2,rfl,rfl,rfl,hp,⟨oM,hm⟩,hk,⟨ug,oM⟩,wN ?_⟩;have hM3:=ZaH (wiE p (.mk x1 x2 x3 x4 x5) f2) ug;have hwl:=Zhy p (.mk x1 x2 x3 x4 x5) f2;rw [show Wv M2 (wiE p (.mk x1 x2 x3 x4 x5) f2++ZaX p (List.drop (i+1) eargs) (List.drop (i+1) fs'))=Wv (Wv M2 (wiE p (.mk x1 x2 x3 x4 x5) f2)) (ZaX p (List.drop (i+1) eargs) (List.drop (i+1) fs')) from Sl ..] at ha
   (repeat (refine ⟨rfl,?_⟩;conv=>whnf))
   refine Zi ?_;exact ⟨⟨j,i+1,n2+(wiE p (.mk x1 x2 x3 x4 x5) f2).length,_,rel,eargs,lbody,at',fs',rfl,rfl,j6,zf,oM,⟨hM3,oM⟩,ha⟩,hμ2⟩
  exact h.elim
 exact h.elim
def recOfC:Nat×Nat×Code:=match ZAw (Xd Tryz.f87) with | some x=>x | none=>(0,0,.skip)
def Zzg:List PV->St->(St->Prop)->Prop:=fun args σ K=>args.length<=Tryz.f87.ntmps/\W (ctx VU [] (Zg [])) recOfC.2.2 (ZsR VU Tryz.f87 σ.bx.length K) (Vn (Vn (Zct 0 args) recOfC.1 (.d .nili)) recOfC.2.1 (.d .nili)) σ
def Zzh:PV->List PV->St->(St->Prop)->Prop:=fun pv args σ K=>args.length<=Tryz.f87.ntmps/\W (ctx VU [] (Zg [])) recOfC.2.2 (ZsR VU Tryz.f87 σ.bx.length K) (Vn (Vn (Zct 0 args) recOfC.1 pv) recOfC.2.1 pv) σ
def Zzi:PDef (GG w0 nG) 87 Zzg Zzh :=
 Zkk (a:=recOfC.1) (b:=recOfC.2.1) (rest:=recOfC.2.2) Zr mixed Tryz.func87 rfl kR rfl kR (fun args σ K h=>⟨Zov VU [] (Zg []) (fun _=>0) (fun _=>false),σ.bx.length,CxG.of (tbl:=[]) Zr trivial trivial _ _ _,Tr _,h.1,h.2⟩) (fun pv args σ K h=>⟨Zov VU [] (Zg []) (fun _=>0) (fun _=>false),σ.bx.length,CxG.of (tbl:=[]) Zr trivial trivial _ _ _,Tr _,h.1,h.2⟩)
def ZFI (pl:Pl):Flt->PV
 | none=>.agg [.d (.int .i64 0),.d (.int .i64 0)]
 | some (a,e)=>.agg [.d (.int .i64 (pl a)),.d (.int .i64 e)]
def ZcM (m:Nat):Zk:=ZaY fun rest pl p r vs more K=>match rest with
 | []=>(Zi0 r<=m/\m<=2097152)/\Zck r.body=true/\∀x,Zje p r vs=x->K (.ret (ZFI pl x)) vs more
 | _=>False
def Zjn (m:Nat):Tbl:=[(88,Zgc m),(89,Zec m),(90,Zed m)]
def Zrf {m:Nat} (ht:TO w0 nG (Zjn m)):PC w0 nG 49 (ZcM m):=by
 refine ZcD Zr mixed Tryz.func49 rfl kR kR Zzi ?_;intro args σ K h
 unfold ZcM ZaY at h
 split at h
 ·obtain ⟨pl,p,⟨head,ac,body,rat⟩,vs,more,rfl,hp,h⟩:=h;split at h
  ·obtain ⟨⟨hz,hm⟩,bm,h⟩:=h;simp only [Zi0] at hz bm;refine ⟨Zov VU (Zjn m) (Zg []) (Ys []) (ZC []),7,false,CxG.of Zr ht ⟨ZkU m,ZkV m,Zjm m,trivial⟩ _ _ _,sM,Tc rfl,wN ?_⟩;simp only [Zje] at h;refine ZGg (fun hc=>wN ?_) (fun hc=>wN ?_)
   ·have hc:64<vs.length:=by have hc:(64:Int)<((mvM mvI vs).length:Nat):=hc;rw [ZkJ] at hc;omega
    rw [Tj hc] at h;exact h _ rfl
   have hc:¬64<vs.length:=by have hc:¬(64:Int)<((mvM mvI vs).length:Nat):=hc;rw [ZkJ] at hc;omega
   rw [Tf hc] at h
   (repeat (refine ⟨rfl,?_⟩;conv=>whnf))
   refine ⟨pl,p,⟨head,ac,body,rat⟩,vs,more,rfl,hp,ac,rat,rfl,rfl,⟨oM,hm⟩,fun x hx=>?_⟩;rw [hx] at h
   cases x with
   | some ae =>
    obtain ⟨a,e⟩:=ae;have h:=h _ rfl;exact mq113
   | none =>
   simp only [RtK];(conv=>whnf)
   (repeat (refine ⟨rfl,?_⟩;conv=>whnf))
   refine ⟨pl,p,⟨head,ac,body,rat⟩,vs,more,rfl,hp,body,rfl,⟨oM,hm⟩,bm,fun y hy=>?_⟩;rw [hy] at h
   cases y with
   | some ae =>
    obtain ⟨a,e⟩:=ae;have h:=h _ rfl;exact mq113
   | none =>
   simp only [RtK];(conv=>whnf)
   (repeat (refine ⟨rfl,?_⟩;conv=>whnf))
   refine ⟨pl,p,⟨head,ac,body,rat⟩,vs,more,rfl,hp,⟨by simp only [Zi0];omega,hm⟩,hx,hy,fun z hz=>?_⟩;have h:=h z hz
   cases z with
   | some ae =>
    obtain ⟨a,e⟩:=ae;exact mq113
   | none =>
   exact mq113
  exact h.elim
 exact h.elim
def ZEy:Prop:=∀p:Pr,Zjb p=none->ZCr p
def pig:∀(n:Nat) (f:Nat->Nat),(∀i,i<=n->f i<n)->∃i j,i<j/\j<=n/\f i=f j
 | 0,f,h=>absurd (h 0 (Tr _)) oM
 | n+1,f,h=>by
  by_cases hx:∃i,i<=n/\f i=f (n+1)
  ·obtain ⟨i,h1,h2⟩:=hx;exact ⟨i,n+1,oM,oM,h2⟩
  have ai:∀i,i<=n->f i≠f (n+1):=fun i hi g=>hx ⟨i,hi,g⟩
  have hv:=h (n+1) oM;obtain ⟨i,j,h1,h2,h3⟩:=pig n (fun i=>if f (n+1)<f i then f i - 1 else f i) (fun i hi=>by
   have h1:=h i oM;have h2:=ai i hi;show (if f (n+1)<f i then f i - 1 else f i)<n;split <;> omega)
  refine ⟨i,j,h1,oM,?_⟩;have h4:=ai i oM;have h5:=ai j h2
  change (if f (n+1)<f i then f i - 1 else f i)=(if f (n+1)<f j then f j - 1 else f j) at h3
  split at h3 <;> split at h3 <;> omega
def sN (p:Pr):Nat->Bs->Bs
 | 0,a=>a
 | n+1,a=>sN p n ((XO p a).getD [])
def Zrg (p:Pr):∀(i k:Nat) (a:Bs),sN p (i+k) a=sN p k (sN p i a)
 | 0,k,a=>by rw [Sk];rfl
 | i+1,k,a=>by rw [show i+1+k=(i+k)+1 by omega];exact Zrg p i k _
def Zms {p:Pr}:∀{n:Nat} {a:Bs},Zbw p n a=none->∀i,i<n->(XO p (sN p i a)).isSome=true
 | 0,_,_,i,hi=>oM
 | n+1,a,h,i,hi=>by
  simp only [Zbw] at h;split at h
  ·cases h
  rename_i c hc
  cases i with
  | zero=>simp only [sN,hc];rfl
  | succ i=>simp only [sN,hc];exact Zms h i oM
def Zrh {p:Pr} {s:Bs}:∀{k n:Nat} {a:Bs},(∀i,i<=k->(XO p (sN p i a)).isSome=true)->sN p (k+1) a=s->k<n->Zd6 p s n a=true
 | k,0,_,_,_,h=>oM
 | 0,n+1,a,h,hs,_=>by
  obtain ⟨c,hc⟩:=Sq.1 (h 0 oM);simp only [sN] at hc hs;rw [hc] at hs;simp only [Sn] at hs;simp only [Zd6,hc];rw [Tj hs]
 | k+1,n+1,a,h,hs,hk=>by
  obtain ⟨c,hc⟩:=Sq.1 (h 0 oM);simp only [sN] at hc;simp only [Zd6,hc];split
  ·rfl
  refine Zrh (k:=k) (fun i hi=>?_) ?_ oM
  ·have:=h (i+1) oM;simpa only [sN,hc,Sn] using this
  rw [<- hs];simp only [sN,hc];rfl
def Zge {p:Pr}:∀{l:List Ty},Zcl p l=none->∀t∈l,ZkS p t=false
 | [],_,_,h=>by cases h
 | x::l,h,t,ht=>by
  simp only [Zcl] at h;split at h
  ·cases h
  rename_i hx
  rcases Tu.1 ht with rfl | ht
  ·simpa using hx
  exact Zge h t ht
def Zzj {p:Pr} {a b:Bs} (h:XO p a=some b):∃(k:Nat) (t:Ty),lkM a (ZtH p)=some (k:Int)/\p.types[k]?=some t/\t.name=a/\t.kind=1/\t.base=b:=by
 unfold XO at h
 split at h
 ·cases h
 rename_i i hi
 obtain ⟨k,t,rfl,ht,hn⟩:=ZqN hi;split at h
 ·cases h
 rw [Th,ht] at h;simp only at h;split at h
 ·rename_i hc;cases h;exact ⟨k,t,hi,ht,hn,hc.1,rfl⟩
 cases h
def Zzk {p:Pr} (h:Zcl p p.types=none):ZCr p:=fun s=>by
 cases he:Zvz p s with
 | some r=>rfl
 | none =>
 exfalso;have hs:=Zms he;have zb:∀i,i<=p.types.length->∃(k:Nat) (t:Ty),lkM (sN p i s) (ZtH p)=some (k:Int)/\p.types[k]?=some t/\t.name=sN p i s:=fun i hi=>by
  obtain ⟨b,hb⟩:=Sq.1 (hs i oM);obtain ⟨k,t,h1,h2,h3,_⟩:=Zzj hb;exact ⟨k,t,h1,h2,h3⟩
 obtain ⟨i,j,h1,h2,h3⟩:=pig p.types.length (fun i=>((lkM (sN p i s) (ZtH p)).getD 0).toNat) (fun i hi=>by
  obtain ⟨k,t,g1,g2,_⟩:=zb i hi;simp only [g1,Sn,Th];exact (To.1 g2).1)
 obtain ⟨k1,t1,g1,g2,g3⟩:=zb i oM;obtain ⟨k2,t2,q1,q2,q3⟩:=zb j h2;simp only [g1,q1,Sn,Th] at h3;subst h3;rw [g2] at q2
 cases q2
 have bl:sN p j s=sN p i s:=q3.symm.trans g3;have hr:=Zge h t1 (T1 g2);have:ZkS p t1=true:=by
  unfold ZkS
  rw [g3];refine Zrh (k:=j - i - 1) (fun m hm=>?_) ?_ oM
  ·rw [<- Zrg];exact hs _ oM
  rw [<- Zrg,show i+(j - i - 1+1)=j by omega];exact bl
 rw [this] at hr
 cases hr
def Zuf {p:Pr} (h:Zjb p=none):ZaF p.types Zf6 []=none/\Zht p p.types=none/\Zcl p p.types=none:=by
 unfold Zjb at h
 split at h
 ·cases h
 rename_i h1
 split at h
 ·cases h
 rename_i h2
 split at h
 ·cases h
 rename_i h3;exact ⟨h1,h2,h3⟩
def ZCF:ZEy:=fun p h=>Zzk (Zuf h).2.2
inductive On (p:Pr):Bs->Bs->Prop
 | refl (a:Bs):On p a a
 | step {a c b:Bs} (h:XO p a=some c) (k:On p c b):On p a b
def On.trans {p:Pr} {a b c:Bs} (h:On p a b) (k:On p b c):On p a c:=by
 induction h with
 | refl=>exact k
 | step h _ ih=>exact .step h (ih k)
def NZ (x:Flt):Prop:=∀a e,x=some (a,e)->e≠0
def NZ.none:NZ none:=fun a e h=>by cases h
def NZ.mk {a e:Nat} (h:e≠0):NZ (some (a,e)):=fun _ _ g=>by cases g;exact h
mutual
def ZCG (p:Pr) (vs:Vs):∀(e:Ex) (n:Int),NZ (rtE p vs e n)
 | .mk op text num args a,n=>by
  simp only [rtE];split
  ·exact .mk dM
  split
  ·exact .mk dM
  split
  ·exact .mk dM
  exact Zee p vs args _
def Zee (p:Pr) (vs:Vs):∀(l:List Ex) (ns:List Int),NZ (ZaW p vs l ns)
 | [],_=>.none
 | e::l,[]=>.none
 | e::l,n::ns=>by
  have h:=ZCG p vs e n;simp only [ZaW];split
  ·exact mq144
  exact Zee p vs l ns
end
def Zri (p:Pr) (vs:Vs) (name:Bs) (args:List Ex) (a:Nat) (hd:Bool):NZ (Zt1 p vs name args a hd):=by
 unfold Zt1
 split
 ·exact .mk dM
 split
 ·exact .none
 split
 ·exact .mk dM
 split
 ·exact .mk dM
 exact Zee p vs _ _
mutual
def ZCH (p:Pr) (vs:Vs):∀(x:Li),NZ (rtL p vs x)
 | .mk op rel args body a=>by
  simp only [rtL];split
  ·exact Zri p vs _ _ _ _
  split
  ·have h:=Zee p vs args [Jp p vs args,Jp p vs args];split
   ·exact mq144
   split
   ·exact .mk dM
   exact .none
  have h:=Zee p vs args (List.replicate args.length 0);split
  ·exact mq144
  exact ZkX p vs body
def ZkX (p:Pr) (vs:Vs):∀(l:List Li),NZ (Zh0 p vs l)
 | []=>.none
 | x::l=>by
  have h:=ZCH p vs x;simp only [Zh0];split
  ·exact mq144
  exact ZkX p vs l
end
def Zmt (p:Pr) (kn:List (Bs×Bs)):∀l,NZ (V3 p kn l)
 | []=>.none
 | (.mk op text _ _ a,k)::l=>by
  simp only [V3];split
  ·exact .mk dM
  exact Zmt p kn l
def Zjo (p:Pr) (r:Ru) (vs:Vs):NZ (Zje p r vs):=by
 unfold Zje
 split
 ·exact .mk dM
 have h:=Zri p vs r.head r.args r.at' true;split
 ·exact mq144
 have h:=ZkX p vs r.body;split
 ·exact mq144
 exact Zmt p _ _
def Zrj {p:Pr} (h:(Zi5 (prU p)).2=0) {r:Ru} (hr:r∈p.rules):Zck r.body=true:=by
 have hm:Ze0 (prU p)=true:=by
  cases hm:Ze0 (prU p) with
  | true=>rfl
  | false=>rw [Zi5,hm] at h;simp at h
 simp only [prU,Ze0,Tl,Tm] at hm;have:=hm.2.2.1 r hr;simp only [XL,Tl] at this;rw [Xk];exact this.2.2
def Zef (n:Nat):Zk:=fun args σ K=>match args,σ with
 | [.agg c],⟨[],[],0⟩=>∃pl p,c=(Zn0 pl p).map .d/\(Zhp n (prU p)/\n<=16777216/\Zmf p<=2097152) /\
   ((Zi5 (prU p)).2≠0->K (.ret (.tuple [.d .nilp,.agg [.d (.int .i64 0),.d (.int .i64 (Zi5 (prU p)).2)]])) ⟨[],[],0⟩) /\
   ((Zi5 (prU p)).2=0->∀a e,orF (Zjb p) (Jq p p.rules)=some (a,e)->K (.ret (.tuple [.d .nilp,.agg [.d (.int .i64 (pl a)),.d (.int .i64 e)]])) ⟨[],[],0⟩) /\
   ((Zi5 (prU p)).2=0->orF (Zjb p) (Jq p p.rules)=none->K (.ret (.tuple [.ptr 5 0,.agg [.d (.int .i64 0),.d (.int .i64 0)]])) ⟨ZEq pl p,[],0⟩)
 | _,_=>False
def Zrk (n:Nat):Tbl:=[(45,ZqM X2 Zhp Zi5 n),(46,ZcH),(47,ZtZ),(48,ZcJ 2097152),(49,ZcM 2097152)]
def Zzl {n:Nat} (ht:TO w0 nG (Zrk n)):PC w0 nG 28 (Zef n):=by
 refine YV Zr mixed (tbl:=Zrk n) ht Tryz.func28 rfl kR kR ?_;intro args σ K h
 unfold Zef at h
 split at h
 ·obtain ⟨pl,⟨p1,p2,p3⟩,rfl,⟨hc,hn,hz⟩,h1,h2,h3⟩:=h;have hp:BP ⟨p1,p2,p3⟩:=by unfold BP;omega
  have jh:=@Zrj ⟨p1,p2,p3⟩;obtain ⟨tx,k,ho⟩:∃s k,Zi5 (prU ⟨p1,p2,p3⟩)=(s,k):=⟨_,_,rfl⟩
  rw [ho] at h1 h2 h3 jh;simp only at h1 h2 h3 jh
  by_cases hk:k=0
  ·subst hk;have h2:=h2 rfl;have h3:=h3 rfl;have jh:=@jh rfl
   cases hd:Zjb ⟨p1,p2,p3⟩ with
   | none =>
    rw [hd] at h2 h3;simp only [orF] at h2 h3;have au:OKP ⟨p1,p2,p3⟩:=⟨hp,ZCF _ hd⟩
    have qk:∀r∈p3,Zi0 r<=2097152:=fun r hr=>by have:=Zd3 (f:=Zi0) hr;simp only [Zmf] at hz;omega
    have dc:(p3.map (ZQ pl)).length=p3.length:=Td ..;have ei:p3.length<=2097152:=by have:=Zu Zi0 p3;simp only [Zmf] at hz;omega
    cases hX:Jq ⟨p1,p2,p3⟩ p3 with
    | none =>
     have h3:=h3 hX;refine ⟨Zg [(9,⟨[37],[3,6,35,36],fun w σ=>∃j:Nat,w=[.d (.int .i64 j)]/\σ=⟨ZEq pl ⟨p1,p2,p3⟩++[.cells 71 [.d (.int .i64 0),.d (.int .i64 0)]],[],0⟩/\j<=p3.length/\Jq ⟨p1,p2,p3⟩ (p3.drop j)=none,
      fun w _=>match w with | [.d (.int _ j)]=>((p3.length:Int) - j).toNat | _=>0⟩)],Ys [],ZC [],8,false,sM,Tc rfl,?_⟩
     conv=>whnf
     refine ⟨pl,prU ⟨p1,p2,p3⟩,rfl,⟨hc,hn⟩,fun s k he=>?_⟩;rw [ho] at he
     cases he
     conv=>whnf
     refine ⟨pl,⟨p1,p2,p3⟩,rfl,hp,wN ?_⟩;refine ⟨pl,⟨p1,p2,p3⟩,rfl,hp,fun x hx=>?_⟩;rw [hd] at hx;subst hx;(conv=>whnf);refine ⟨⟨0,rfl,rfl,oM,hX⟩,?_⟩
     rintro w σ1 ⟨j,rfl,rfl,hj,ha⟩
     conv=>whnf
     refine ZGg (fun hq=>?_) (fun hq=>?_);rotate_left
     ·have hq:¬(j:Int)<((p3.map (ZQ pl)).length:Nat):=hq;rw [Tp oM] at ha;have ha:none=none:=ha;(conv=>whnf);exact h3
     have aa:j<p3.length:=by have hq:(j:Int)<((p3.map (ZQ pl)).length:Nat):=hq;omega
     have hr:(p3.map (ZQ pl))[(j:Int).toNat]?=some (ZQ pl p3[j]):=by rw [Th,Ti,Tb aa];rfl
     have jj:=qk _ (TC aa);have ui:=jh (TC aa);rw [Tk aa] at ha;simp only [Jq] at ha;have hμ:((p3.length:Int) - ((j:Int)+1)).toNat<((p3.length:Int) - (j:Int)).toNat:=oM;generalize p3[j]=r at ha hr jj ui;obtain ⟨r1,r2,r3,r4⟩:=r;(conv=>whnf);refine ⟨_,oM,hr,wN ?_⟩;refine ⟨pl,⟨p1,p2,p3⟩,⟨r1,r2,r3,r4⟩,rfl,rfl,au,⟨jj,dM⟩,ui,wN ?_⟩;refine ⟨pl,⟨p1,p2,p3⟩,⟨r1,r2,r3,r4⟩,Zcm ⟨p1,p2,p3⟩ ⟨r1,r2,r3,r4⟩,false,rfl,au,⟨jj,dM⟩,ui,fun x hx=>?_⟩;have hnz:=Zjo ⟨p1,p2,p3⟩ ⟨r1,r2,r3,r4⟩ (Zcm ⟨p1,p2,p3⟩ ⟨r1,r2,r3,r4⟩);rw [hx] at ha hnz
     cases x with
     | none =>
      conv=>whnf
      exact mq48
     | some ae =>
     obtain ⟨a2,e2⟩:=ae
     cases ha
    | some ae =>
    obtain ⟨a,e⟩:=ae;have h2:=h2 a e hX;refine ⟨Zg [(9,⟨[37],[3,6,35,36],fun w σ=>∃j:Nat,w=[.d (.int .i64 j)]/\σ=⟨ZEq pl ⟨p1,p2,p3⟩++[.cells 71 [.d (.int .i64 0),.d (.int .i64 0)]],[],0⟩/\j<=p3.length/\Jq ⟨p1,p2,p3⟩ (p3.drop j)=some (a,e),
     fun w _=>match w with | [.d (.int _ j)]=>((p3.length:Int) - j).toNat | _=>0⟩)],Ys [],ZC [],0,false,sM,Tc rfl,?_⟩
    conv=>whnf
    refine ⟨pl,prU ⟨p1,p2,p3⟩,rfl,⟨hc,hn⟩,fun s k he=>?_⟩;rw [ho] at he
    cases he
    conv=>whnf
    refine ⟨pl,⟨p1,p2,p3⟩,rfl,hp,wN ?_⟩;refine ⟨pl,⟨p1,p2,p3⟩,rfl,hp,fun x hx=>?_⟩;rw [hd] at hx;subst hx;(conv=>whnf);refine ⟨⟨0,rfl,rfl,oM,hX⟩,?_⟩
    rintro w σ1 ⟨j,rfl,rfl,hj,ha⟩
    conv=>whnf
    refine ZGg (fun hq=>?_) (fun hq=>?_);rotate_left
    ·have hq:¬(j:Int)<((p3.map (ZQ pl)).length:Nat):=hq;rw [Tp oM] at ha;have ha:none=some (a,e):=ha
     cases ha
    have aa:j<p3.length:=by have hq:(j:Int)<((p3.map (ZQ pl)).length:Nat):=hq;omega
    have hr:(p3.map (ZQ pl))[(j:Int).toNat]?=some (ZQ pl p3[j]):=by rw [Th,Ti,Tb aa];rfl
    have jj:=qk _ (TC aa);have ui:=jh (TC aa);rw [Tk aa] at ha;simp only [Jq] at ha;have hμ:((p3.length:Int) - ((j:Int)+1)).toNat<((p3.length:Int) - (j:Int)).toNat:=oM;generalize p3[j]=r at ha hr jj ui;obtain ⟨r1,r2,r3,r4⟩:=r;(conv=>whnf);refine ⟨_,oM,hr,wN ?_⟩;refine ⟨pl,⟨p1,p2,p3⟩,⟨r1,r2,r3,r4⟩,rfl,rfl,au,⟨jj,dM⟩,ui,wN ?_⟩;refine ⟨pl,⟨p1,p2,p3⟩,⟨r1,r2,r3,r4⟩,Zcm ⟨p1,p2,p3⟩ ⟨r1,r2,r3,r4⟩,false,rfl,au,⟨jj,dM⟩,ui,fun x hx=>?_⟩;have hnz:=Zjo ⟨p1,p2,p3⟩ ⟨r1,r2,r3,r4⟩ (Zcm ⟨p1,p2,p3⟩ ⟨r1,r2,r3,r4⟩);rw [hx] at ha hnz
    cases x with
    | none =>
     conv=>whnf
     exact mq48
    | some ae =>
    obtain ⟨a2,e2⟩:=ae;have ha:some (a2,e2)=some (a,e):=ha
    cases ha
    conv=>whnf
    refine ZGi (fun _=>wN ?_) (fun g=>absurd (by have g:(e:Int)=0:=g;omega) (hnz _ _ rfl))
    (repeat (refine ⟨rfl,?_⟩;conv=>whnf))
    exact h2
   | some ae =>
   obtain ⟨a,e⟩:=ae;have h2:=h2 a e (by rw [hd];rfl);refine ⟨Zg [],Ys [],ZC [],0,false,sM,Tc rfl,wN ?_⟩;refine ⟨pl,prU ⟨p1,p2,p3⟩,rfl,⟨hc,hn⟩,fun s k he=>?_⟩;rw [ho] at he
   cases he
   conv=>whnf
   refine ⟨pl,⟨p1,p2,p3⟩,rfl,hp,wN ?_⟩;refine ⟨pl,⟨p1,p2,p3⟩,rfl,hp,fun x hx=>?_⟩;rw [hd] at hx;subst hx;(conv=>whnf);refine ZGi (fun _=>wN ?_) (fun g=>absurd (by have g:(e:Int)=0:=g;omega) (Zy2 hd))
   (repeat (refine ⟨rfl,?_⟩;conv=>whnf))
   exact h2
  have h1:=h1 hk;refine ⟨Zg [],Ys [],ZC [],0,false,sM,Tc rfl,wN ?_⟩;refine ⟨pl,prU ⟨p1,p2,p3⟩,rfl,⟨hc,hn⟩,fun s k he=>?_⟩;rw [ho] at he
  cases he
  conv=>whnf
  refine ZGi (fun _=>wN ?_) (fun g=>absurd (by have g:(k:Int)=0:=g;omega) hk);exact h1
 exact h.elim
def ZhA (n:Nat):Zk:=fun args σ K=>match args,σ with
 | [.agg c],⟨[],[],0⟩=>∃pl p,c=(Zn0 pl p).map .d/\(Zhp n (prU p)/\n<=16777216/\Zmf p<=2097152)/\∀a e,Zy3 pl p=(a,e)->K (.ret (.tuple [.d (.int .i64 a),.d (.int .i64 e)])) ⟨[],[],0⟩
 | _,_=>False
def Zzm (pl:Pl) (p:Pr):Zy3 pl p=if (Zi5 (prU p)).2≠0 then ((0:Int),((Zi5 (prU p)).2:Int)) else match orF (Zjb p) (Jq p p.rules) with | some (a,e)=>(pl a,(e:Int)) | none=>(0,0):=by
 unfold Zy3
 split
 ·rfl
 cases Zjb p with
 | some ae=>rfl
 | none=>rfl
def Zug {n:Nat}:OKw w0 nG [(28,Zef n)] 14 (ZhA n):=by
 refine pwo Tryz.func14 fun args σ K h=>?_
 unfold ZhA at h
 split at h
 ·obtain ⟨pl,p,rfl,hc,h⟩:=h;simp only [Zzm] at h;refine pwv [] 0 false ?_;refine ⟨pl,p,rfl,hc,fun g=>?_,fun g a e g2=>?_,fun g g2=>?_⟩
  ·conv=>whnf
   exact h _ _ (by rw [Tj g])
  ·conv=>whnf
   exact h _ _ (by rw [Tf (fun q=>q g),g2])
  conv=>whnf
  exact h _ _ (by rw [Tf (fun q=>q g),g2])
 exact h.elim
end Go.PM.Lex
end

section
namespace Go.PM.Lex
section
variable {ty:List Ty} {re:List Re} {a b:List Ru}
end
end Go.PM.Lex
end

section
namespace Go.PM.Lex
mutual
def prE:Ex->List Ex
 | .mk op t n args a=>.mk op t n args a::Ze4 args
def Ze4:List Ex->List Ex
 | []=>[]
 | e::l=>prE e++Ze4 l
end
abbrev Bv:=List (Bs×Bool)
def txX:Ex->Bs | .mk _ t _ _ _=>t
def atX:Ex->Nat | .mk _ _ _ _ a=>a
def addX (m:Bv) (x:Ex):Bv:=if opE x=1 then Z2 (txX x) true m else m
def addXs (m:Bv) (l:List Ex):Bv:=l.foldl addX m
def Zco (m:Bv) (x:Ex):Bool:=decide (opE x=2) || (decide (opE x=1) && !((lkM (txX x) m).getD false))
def ZeN (m:Bv) (e:Ex):Option Ex:=(prE e).find? (Zco m)
def Xp (m:Bv) (l:List Ex):Option Ex:=(Ze4 l).find? (Zco m)
def Zmu:∀l k:List Ex,Ze4 (l++k)=Ze4 l++Ze4 k
 | [],_=>rfl
 | e::l,k=>by simp only [T9,Ze4,Zmu l k,Tn]
def Zjp {l:List Ex} {j:Nat} (h:j<l.length):Ze4 (l.take (j+1))=Ze4 (l.take j)++prE l[j]:=by
 rw [List.take_add_one,Tb h,Zmu];simp [Ze4]
def Zjq (m:Bv) (l k:List Ex):addXs m (l++k)=addXs (addXs m l) k:=Sl ..
def Zgf {m:Bv} {l:List Ex} {j:Nat} (h:j<l.length):Xp m (l.drop j)=match ZeN m l[j] with | some x=>some x | none=>Xp m (l.drop (j+1)):=by
 rw [Tk h];simp only [Xp,ZeN,Ze4,List.find?_append]
 cases (prE l[j]).find? (Zco m) <;> rfl
mutual
def U7 (m:Bv):Ex->Bool
 | .mk op t n args a=>if 8<=op then (ZeN m (.mk op t n args a)).isSome else WK m args
def WK (m:Bv):List Ex->Bool
 | []=>false
 | e::l=>U7 m e || WK m l
end
def Zoa (m:Bv) (l:List Ex):WK m l=l.any (U7 m):=by induction l with | nil=>rfl | cons x l ih=>simp [WK,ih]
mutual
def ZjI:Ex->Bv->Bv
 | .mk op t _ args _,m=>if op=1 then Z2 t true m else if op=6\/op=7 then Uz args m else m
def Uz:List Ex->Bv->Bv
 | [],m=>m
 | e::l,m=>Uz l (ZjI e m)
end
def ZbB {l:List Ex} {j:Nat} (h:j<l.length) (m:Bv):Uz (l.drop j) m=Uz (l.drop (j+1)) (ZjI l[j] m):=by
 rw [Tk h];rfl
def Z4 (m:Bv) (a b:Ex):Bv:=if (ZeN m b).isNone=true/\U7 m a=false then ZjI a m else m
def Zrl (m:Bv):Li->Bv
 | .mk op _ args _ _=>if op=1 then (if WK m args=false then Uz args m else m)
  else if op=3 then (match args with | [a,b]=>Z4 (Z4 m a b) b a | _=>m) else m
def Zjr (m:Bv) (l:List Li):Bv:=l.foldl Zrl m
def opL:Li->Nat | .mk op _ _ _ _=>op
def bindsT (l:List Li):Nat->Bv->Option Bv
 | 0,_=>none
 | k+1,m=>if m.length<(Zjr m l).length then bindsT l k (Zjr m l) else some (Zjr m l)
mutual
def Zzn (m:Bv):Ex->Option Ex
 | .mk op _ _ args _=>if 8<=op then Xp m args else Zcp m args
def Zcp (m:Bv):List Ex->Option Ex
 | []=>none
 | e::l=>match Zzn m e with | some x=>some x | none=>Zcp m l
end
mutual
def Zzo (m:Bv):Ex->Option Ex
 | .mk op t n args a=>if op=2 then none else if op=6\/op=7 then Zcq m args else ZeN m (.mk op t n args a)
def Zcq (m:Bv):List Ex->Option Ex
 | []=>none
 | e::l=>match Zzo m e with | some x=>some x | none=>Zcq m l
end
def Zgg {m:Bv} {l:List Ex} {j:Nat} (h:j<l.length):Zcp m (l.drop j)=match Zzn m l[j] with | some x=>some x | none=>Zcp m (l.drop (j+1)):=by
 rw [Tk h];rfl
def ZbC {m:Bv} {l:List Ex} {j:Nat} (h:j<l.length):Zcq m (l.drop j)=match Zzo m l[j] with | some x=>some x | none=>Zcq m (l.drop (j+1)):=by
 rw [Tk h];rfl
def unB (X:List Bs) (m:Bv):Nat:=X.countP fun t=>(lkM t m).isNone
def Inc (X:List Bs) (m k:Bv):Prop:=(∀t,(lkM t k).isNone=true->(lkM t m).isNone=true)/\m.length<=k.length/\unB X k+k.length<=unB X m+m.length
def Inc.refl (X:List Bs) (m:Bv):Inc X m m:=⟨fun _ h=>h,Tr _,Tr _⟩
def Inc.trans {X:List Bs} {m k l:Bv} (h:Inc X m k) (g:Inc X k l):Inc X m l:=⟨fun t ht=>h.1 t (g.1 t ht),TN h.2.1 g.2.1,TN g.2.2 h.2.2⟩
def ZvI {X:List Bs} {m k:Bv} (h:∀t,(lkM t k).isNone=true->(lkM t m).isNone=true):unB X k<=unB X m:=List.countP_mono_left fun t _ g=>h t g
def ZvJ {m k:Bv} (h:∀t,(lkM t k).isNone=true->(lkM t m).isNone=true) {t:Bs} (h2:(lkM t m).isNone=true) (h3:(lkM t k).isNone=false):∀{X:List Bs},t∈X->unB X k<unB X m
 | y::Y,ht=>by
  have le:=ZvI (X:=Y) h;unfold unB at le |-
  simp only [List.countP_cons];rcases Tu.1 ht with rfl | ht
  ·rw [h2,h3];simp;omega
  have ih:=ZvJ h h2 h3 ht;unfold unB at ih
  have:(if (lkM y k).isNone=true then 1 else 0)<=(if (lkM y m).isNone=true then 1 else 0):=by
   split
   ·rename_i g;rw [h y g];simp
   exact Sa _
  omega
def Zzp {X:List Bs} {t:Bs} (ht:t∈X) (m:Bv):Inc X m (Z2 t true m):=by
 have h1:∀(m:Bv) s,lkM s (Z2 t true m)=if s=t then some true else lkM s m:=fun m s=>by
  exact mq68
 have h2:∀m:Bv,(Z2 t true m).length=if (lkM t m).isNone=true then m.length+1 else m.length:=fun m=>by
  exact mq95
 have h0:∀s,(lkM s (Z2 t true m)).isNone=true->(lkM s m).isNone=true:=fun s hs=>by
  rw [h1] at hs;split at hs
  ·cases hs
  exact hs
 refine ⟨h0,?_,?_⟩
 ·rw [h2];split <;> omega
 rw [h2];split
 ·rename_i h
  have:=ZvJ h0 h (by rw [h1,Tj rfl];rfl) ht;omega
 have:=ZvI (X:=X) h0;omega
mutual
def ZhB {X:List Bs}:∀(e:Ex) (m:Bv),(∀t∈nvE e,t∈X)->Inc X m (ZjI e m)
 | .mk op t n args a,m,h=>by
  simp only [nvE] at h;simp only [ZjI]
  by_cases h1:op=1
  ·rw [Tj h1] at h |-;exact Zzp (h t sM) m
  rw [Tf h1] at h |-;split
  ·exact ZaI args m h
  exact .refl X m
def ZaI {X:List Bs}:∀(l:List Ex) (m:Bv),(∀t∈Zhw l,t∈X)->Inc X m (Uz l m)
 | [],m,_=>.refl X m
 | e::l,m,h=>by
  simp only [Zhw,TE] at h;exact (ZhB e m fun t g=>h t (.inl g)).trans (ZaI l _ fun t g=>h t (.inr g))
end
def UV {X:List Bs} {a b:Ex} (m:Bv) (h:∀t∈nvE a,t∈X):Inc X m (Z4 m a b):=by
 unfold Z4
 split
 ·exact ZhB a m h
 exact .refl X m
def Zrm {X:List Bs}:∀(x:Li) (m:Bv),(∀t∈nvL x,t∈X)->Inc X m (Zrl m x)
 | .mk op rel args body a,m,h=>by
  simp only [nvL,TE] at h;simp only [Zrl];split
  ·split
   ·exact ZaI args m fun t g=>h t (.inl g)
   exact .refl X m
  split
  ·split
   ·rename_i a b
    simp only [Zhw,TE] at h;exact (UV m fun t g=>h t (.inl (.inl g))).trans (UV _ fun t g=>h t (.inl (.inr (.inl g))))
   exact .refl X m
  exact .refl X m
def Zgh {X:List Bs}:∀(l:List Li) (m:Bv),(∀t∈Vl l,t∈X)->Inc X m (Zjr m l)
 | [],m,_=>.refl X m
 | x::l,m,h=>by
  simp only [Vl,TE] at h;exact (Zrm x m fun t g=>h t (.inl g)).trans (Zgh l _ fun t g=>h t (.inr g))
def Zuh {X:List Bs} {m k:Bv} (h:Inc X m k) (hl:m.length<k.length):unB X k<unB X m:=by
 have:=h.2.2;omega
def Zeg {l:List Li} {X:List Bs} (hX:∀t∈Vl l,t∈X):∀(k:Nat) (m:Bv),unB X m<k->∃r,bindsT l k m=some r
 | 0,m,h=>oM
 | k+1,m,h=>by
  simp only [bindsT];split
  ·rename_i g
   have:=Zuh (Zgh l m hX) g;exact Zeg hX k _ oM
  exact ⟨_,rfl⟩
def bindsF (l:List Li) (m:Bv):Bv:=(bindsT l ((Vl l).length+1) m).getD []
def Zrn (l:List Li) (m:Bv):bindsT l ((Vl l).length+1) m=some (bindsF l m):=by
 obtain ⟨r,h⟩:=Zeg (l:=l) (X:=Vl l) (fun t h=>h) ((Vl l).length+1) m (by
  have:unB (Vl l) m<=(Vl l).length:=List.countP_le_length;omega)
 rw [bindsF,h];rfl
def ZEA (m:Bv):Li->Bv
 | .mk op _ args _ _=>addXs m (Ze4 (if op<9 then args else args.take 1))
def outLs (m:Bv) (l:List Li):Bv:=l.foldl ZEA m
mutual
def Zro:Li->Bv->Bv
 | .mk _ _ args body _,m=>ZkY body (outLs (addXs m (Ze4 (args.drop 1))) body)
def ZkY:List Li->Bv->Bv
 | [],m=>m
 | x::l,m=>ZkY l (if 9<=opL x then Zro x m else m)
end
def ZjJ (o:Bv) (t:Bs):Bool:=(lkM t o).getD false
def JZ (o m:Bv):Bv:=m.filter fun x=>ZjJ o x.1
def V4 (x:Li) (o:Bv):Bv:=JZ o (Zro x [])
def ZaJ (s m:Bv):Bool:=s.all fun x=>ZjJ m x.1
def Zh1 (o m:Bv):Li->Bv
 | .mk op rel args body a=>if op=1 then (if WK m args=false then Uz args m else m)
  else if op=3 then (match args with | [a,b]=>Z4 (Z4 m a b) b a | _=>m)
  else if (op=9/\args.length=1)\/(9<op/\op<=12/\args.length=2) then (match args with
   | e::_=>if ZaJ (V4 (.mk op rel args body a) o) m=true/\U7 m e=false then ZjI e m else m
   | []=>m)
  else m
def Yj (o m:Bv) (l:List Li):Bv:=l.foldl (Zh1 o) m
def Zcr (o:Bv) (l:List Li):Nat->Bv->Option Bv
 | 0,_=>none
 | k+1,m=>if m.length<(Yj o m l).length then Zcr o l k (Yj o m l) else some (Yj o m l)
def VL (o:Bv) (l:List Li) (m:Bv):Bv:=(Zcr o l ((Vl l).length+1) m).getD []
mutual
def Zob:Li->Bv->Bv->Option Ex
 | .mk op rel args body a,m,o=>if op=1 then Zcp m args else if op=2 then Zcq m args else if op<9 then Xp m args
  else match Xp m (args.take 1) with
   | some x=>some x
   | none=>match Xp (VL (outLs (V4 (.mk op rel args body a) o) body) body (JZ m (V4 (.mk op rel args body a) o))) (args.drop 1) with
    | some x=>some x
    | none=>V5 body (VL (outLs (V4 (.mk op rel args body a) o) body) body (JZ m (V4 (.mk op rel args body a) o))) (outLs (V4 (.mk op rel args body a) o) body)
def V5:List Li->Bv->Bv->Option Ex
 | [],_,_=>none
 | x::l,m,o=>match Zob x m o with | some y=>some y | none=>V5 l m o
end
def Zoc {m o:Bv} {l:List Li} {j:Nat} (h:j<l.length):V5 (l.drop j) m o=match Zob l[j] m o with | some x=>some x | none=>V5 (l.drop (j+1)) m o:=by
 rw [Tk h];rfl
def Zui (r:Ru):Bv:=outLs (addXs [] (Ze4 r.args)) r.body
def ZDr (r:Ru):Option Ex:=match Xp (VL (Zui r) r.body []) r.args with | some x=>some x | none=>V5 r.body (VL (Zui r) r.body []) (Zui r)
def Zod:List Ru->Option Ex
 | []=>none
 | r::l=>match ZDr r with | some x=>some x | none=>Zod l
def Zuj (pl:Pl) (p:Pr):Int×Int:=if (Zy3 pl p).2≠0 then Zy3 pl p else match Zod p.rules with | some x=>(pl (atX x),190) | none=>(0,0)
def Zoe {m:Bv} {l:List Li} {j:Nat} (h:j<l.length):ZkY (l.drop j) m=ZkY (l.drop (j+1)) (if 9<=opL l[j] then Zro l[j] m else m):=by
 rw [Tk h];rfl
def Zof {l:List Li} {j:Nat} (h:j<l.length) (m:Bv):outLs m (l.take (j+1))=ZEA (outLs m (l.take j)) l[j]:=by
 unfold outLs
 rw [List.take_add_one,Tb h,Sl];rfl
def Zog {l:List Li} {j:Nat} (h:j<l.length) (o m:Bv):Yj o m (l.take (j+1))=Zh1 o (Yj o m (l.take j)) l[j]:=by
 unfold Yj
 rw [List.take_add_one,Tb h,Sl];rfl
def Zuk {X:List Bs} (o:Bv):∀(x:Li) (m:Bv),(∀t∈nvL x,t∈X)->Inc X m (Zh1 o m x)
 | .mk op rel args body a,m,h=>by
  have hx:∀t∈Zhw args,t∈X:=fun t g=>h t (by simp only [nvL,TE];exact .inl g)
  simp only [Zh1];split
  ·split
   ·exact ZaI args m hx
   exact .refl X m
  split
  ·split
   ·rename_i e f
    simp only [Zhw,TE,TW] at hx;exact (UV m fun t g=>hx t (.inl g)).trans (UV _ fun t g=>hx t (.inr g))
   exact .refl X m
  split
  ·split
   ·split
    ·simp only [Zhw,TE] at hx;exact ZhB _ m fun t g=>hx t (.inl g)
    exact .refl X m
   exact .refl X m
  exact .refl X m
def Zeh {X:List Bs} (o:Bv):∀(l:List Li) (m:Bv),(∀t∈Vl l,t∈X)->Inc X m (Yj o m l)
 | [],m,_=>.refl X m
 | x::l,m,h=>by
  simp only [Vl,TE] at h;exact (Zuk o x m fun t g=>h t (.inl g)).trans (Zeh o l _ fun t g=>h t (.inr g))
def Zgi {o:Bv} {l:List Li} {X:List Bs} (hX:∀t∈Vl l,t∈X):∀(k:Nat) (m:Bv),unB X m<k->∃r,Zcr o l k m=some r
 | 0,m,h=>oM
 | k+1,m,h=>by
  have hi:=Zeh o l m hX;simp only [Zcr];split
  ·exact Zgi hX k _ (by have:=hi.2.2;omega)
  exact ⟨_,rfl⟩
def ZhC (o:Bv) (l:List Li) (m:Bv):Zcr o l ((Vl l).length+1) m=some (VL o l m):=by
 obtain ⟨r,h⟩:=Zgi (o:=o) (l:=l) (X:=Vl l) (fun t h=>h) ((Vl l).length+1) m (by
  have:unB (Vl l) m<=(Vl l).length:=List.countP_le_length;omega)
 rw [VL,h];rfl
end Go.PM.Lex
end

section
namespace Go.PM
def low0 (n:Nat):PV->Bool
 | .d _=>true
 | .ptr b _=>Nat.ble (b+1) n
 | .mp b=>Nat.ble (b+1) n
 | .nilm=>true
 | .raw _=>true
 | _=>false
def ZAD (n:Nat):List PV->Bool
 | []=>true
 | v::l=>low0 n v && ZAD n l
def lowV (n:Nat):PV->Bool
 | .agg cs=>ZAD n cs
 | v=>low0 n v
def Zoh (n:Nat):List PV->Bool
 | []=>true
 | v::l=>lowV n v && Zoh n l
def lowB (n:Nat):Box->Bool
 | .cells _ cs=>ZAD n cs
 | .dmap _=>true
 | .loop _ _ _=>true
 | _=>false
def Zei (n:Nat):List Box->Bool
 | []=>true
 | v::l=>lowB n v && Zei n l
def Zcc:List Box->Bool
 | []=>true
 | .cells _ _::l=>Zcc l
 | .dmap _::l=>Zcc l
 | .loop _ _ _::l=>Zcc l
 | .iter _ _::l=>Zcc l
 | _::_=>false
theorem ZhD {n:Nat}:∀{l:List PV} {i:Nat} {x:PV},ZAD n l=true->l[i]?=some x->low0 n x=true
 | v::l,0,x,h,hx=>by simp [ZAD] at h;simp_all
 | v::l,i+1,x,h,hx=>by simp [ZAD] at h;exact ZhD h.2 (by trivial)
theorem Zjs {n:Nat}:∀{l:List PV} {i:Nat} {x:PV},Zoh n l=true->l[i]?=some x->lowV n x=true
 | v::l,0,x,h,hx=>by simp [Zoh] at h;simp_all
 | v::l,i+1,x,h,hx=>by simp [Zoh] at h;exact Zjs h.2 (by trivial)
theorem Zej {n:Nat}:∀{l:List Box} {i:Nat} {x:Box},Zei n l=true->l[i]?=some x->lowB n x=true
 | v::l,0,x,h,hx=>by simp [Zei] at h;simp_all
 | v::l,i+1,x,h,hx=>by simp [Zei] at h;exact Zej h.2 (by trivial)
def Zgj:∀{l:List Box} {i:Nat} {x:Box},Zcc l=true->l[i]?=some x->Zcc [x]=true
 | v::l,0,x,h,hx=>by simp at hx;subst hx;cases v <;> first | rfl | assumption
 | v::l,i+1,x,h,hx=>by
  refine Zgj (l:=l) ?_ (by trivial)
  cases v <;> first | exact h | trivial
section
variable {G:GE} {e e1 e2:Env} {σ σ1 σ2:St} {w w2:World} {n:Nat}
def VRel.low0 (hβ:∀i,i<n->e2.β i=e.β i) (hn:n<=σ2.bx.length) (hD:∀d v,DRel (okc e σ) w d v->DRel (okc e2 σ2) w2 d v) {x:PV} {u:Value} (hl:low0 n x=true) (h:VRel G e σ w x u):VRel G e2 σ2 w2 x u:=by
 cases h with
 | d x v h=>exact .d _ _ (hD _ _ h)
 | ptr b off h =>
  have hb:=Tc hl;rw [<- hβ b hb];exact .ptr b off oM
 | mp b h =>
  have hb:=Tc hl;rw [<- hβ b hb];exact .mp b oM
 | nilm=>exact .nilm
 | raw=>exact .raw _
 | _=>trivial
def ZGB (hβ:∀i,i<n->e2.β i=e.β i) (hn:n<=σ2.bx.length) (hD:∀d v,DRel (okc e σ) w d v->DRel (okc e2 σ2) w2 d v) {x:PV} {u:Value} (hl:lowV n x=true) (h:VRel G e σ w x u):VRel G e2 σ2 w2 x u:=by
 have gen:∀{x u},PM.low0 n x=true->VRel G e σ w x u->VRel G e2 σ2 w2 x u:=fun hl h=>h.low0 hβ hn hD hl
 cases h with
 | agg cs vs hs h h1=>exact .agg cs vs hs (fun i x u hx hu=>gen (ZhD hl hx) (h i x u hx hu)) h1
 | d x _ h=>exact gen hl (.d x _ h)
 | ptr b off h=>exact gen hl (.ptr b off h)
 | mp b h=>exact gen hl (.mp b h)
 | nilm=>exact .nilm
 | raw=>exact .raw _
 | _=>trivial
def BRel.lowB (hβ:∀i,i<n->e2.β i=e.β i) (hn:n<=σ2.bx.length) (hD:∀d v,DRel (okc e σ) w d v->DRel (okc e2 σ2) w2 d v) {x:Box} {b:Nat} (hb:w2.heap[b]?=w.heap[b]?) (hl:lowB n x=true) (h:BRel G e σ w x b):BRel G e2 σ2 w2 x b:=by
 cases x with
 | cells t cs =>
  obtain ⟨vs,h1,h2,h3⟩:=h;exact ⟨vs,hb.trans h1,h2,fun i x u hx hu=>⟨(h3 i x u hx hu).1.low0 hβ hn hD (ZhD hl hx),(h3 i x u hx hu).2⟩⟩
 | dmap m=>exact h.dmapTo hb hD
 | loop st pd r=>exact Eq.trans hb h
 | _=>trivial
def Env.hide (e:Env) (σ:St) (n:Nat):Env:={ e with X:=fun b off=>e.X b off\/∃i,n<=i/\i<σ.bx.length/\e.β i=b }
def St.low (σ:St) (n:Nat):St:=⟨σ.bx.take n,[],σ.nx⟩
def ZGo (hn:n<=σ.bx.length):(σ.low n).bx.length=n:=by simp [St.low];omega
def ZhE (hn:n<=σ.bx.length) {b off:Nat} (h:okc e σ b off):okc (e.hide σ n) (σ.low n) b off :=
 ⟨fun hx=>hx.elim h.1 fun ⟨i,_,hi,he⟩=>h.2.1 i hi he,fun i hi=>h.2.1 i (by rw [ZGo hn] at hi;omega),fun t ht=>(nomatch ht),h.2.2.2⟩
def DRel.hide (hn:n<=σ.bx.length) {d:D} {v:Value} (h:DRel (okc e σ) w d v):DRel (okc (e.hide σ n) (σ.low n)) w d v:=h.mono fun b off u hu ho=>⟨ZhE hn ho,hu⟩
theorem SRel.hide (hS:SRel G e σ w) (hn:n<=σ.bx.length) (hl:Zei n (σ.bx.take n)=true):SRel G (e.hide σ n) (σ.low n) w where
 inj:=fun i j hi hj=>by rw [ZGo hn] at hi hj;exact hS.inj i j oM oM
 box:=fun i x hx=>by
  have i7:(σ.bx.take n)[i]?=some x:=hx;have hi:=(To.1 i7).1;rw [List.length_take] at hi;have h0:σ.bx[i]?=some x:=by grind
  exact BRel.lowB (e:=e) (σ:=σ) (w:=w) (e2:=e.hide σ n) (σ2:=σ.low n) (w2:=w) (fun _ _=>rfl) (Nat.le_of_eq (ZGo hn).symm) (fun _ _ h=>h.hide hn) rfl (Zej hl i7) (hS.box i x h0)
 low:=fun i hi=>by rw [ZGo hn] at hi;exact hS.low i oM
 tkn:=fun t ht=>(nomatch ht)
 own:=fun t ht=>(nomatch ht)
 dis:=fun t t' ht=>(nomatch ht)
 xlt:=fun b off hx=>hx.elim (hS.xlt b off) fun ⟨i,_,hi,he⟩=>he ▸ hS.lt hi
 xown:=fun t ht=>(nomatch ht)
 hid:=fun b q hq=>by
  obtain ⟨h1,h2,h3,h4,h5⟩:=hS.hid b q hq;exact ⟨h1,h2,fun i hi=>h3 i (by rw [ZGo hn] at hi;omega),fun t ht=>(nomatch ht),fun off ho hx=>hx.elim (h5 off ho) fun ⟨i,_,hi,he⟩=>h3 i hi he⟩
 glob:=hS.glob
 big:=hS.big
def Later.hide {e0:Env} {σ0:St} {w0:World} (h:Later e0 σ0 w0 e σ w) (hn:n<=σ.bx.length) (h0:σ0.bx.length<=n):Later e0 σ0 w0 (e.hide σ n) (σ.low n) w where
 len:=by rw [ZGo hn];exact h0
 beta:=h.beta
 X:=fun b off hx=>.inl (h.X b off hx)
 pres:=fun b off u hu ho=>let ⟨h1,h2⟩:=h.pres b off u hu ho;⟨ZhE hn h1,h2⟩
 blocks:=h.blocks
 size:=h.size
 os:=h.os
 tape:=h.tape
 output:=h.output
 fresh:=fun i h1 h2=>h.fresh i h1 (by rw [ZGo hn] at h2;omega)
 ftok:=fun t ht=>(nomatch ht)
 fhid:=h.fhid
def ArgsRel.hide {args:List PV} {vs:Array Value} (h:ArgsRel G e σ w args vs) (hn:n<=σ.bx.length) (hl:Zoh n args=true):ArgsRel G (e.hide σ n) (σ.low n) w args vs :=
 ⟨h.1,fun i x u hx hu=>ZGB (e:=e) (σ:=σ) (w:=w) (e2:=e.hide σ n) (σ2:=σ.low n) (w2:=w) (fun _ _=>rfl) (Nat.le_of_eq (ZGo hn).symm) (fun _ _ h=>h.hide hn) (Zjs hl hx) (h.2 i x u hx hu)⟩
def Env.show (e e':Env):Env:=⟨e.β,e'.M,e.X,e'.H⟩
def St.show (σ σ':St) (n:Nat):St:=⟨σ'.bx.take n++σ.bx.drop n,[],σ.nx+σ'.nx⟩
def Zul {σ':St} (hn:n<=σ.bx.length) (pb:n<=σ'.bx.length):(σ.show σ' n).bx.length=σ.bx.length:=by simp [St.show];omega
theorem SRel.show {e':Env} {σ':St} {w':World} (hS:SRel G e σ w) (ht:σ.tk=[]) (hn:n<=σ.bx.length) (ha:Zcc (σ.bx.drop n)=true) (hS':SRel G e' σ' w') (hL:Later (e.hide σ n) (σ.low n) w e' σ' w') (hl:Zei n (σ'.bx.take n)=true) :
  SRel G (e.show e') (σ.show σ' n) w'/\Later e σ w (e.show e') (σ.show σ' n) w':=by
 have pb:n<=σ'.bx.length:=by have:=hL.len;rw [ZGo hn] at this;exact this
 have hβ:∀i,i<n->e'.β i=e.β i:=fun i hi=>hL.beta i (by rw [ZGo hn];exact hi)
 have hlen:=Zul (σ':=σ') hn pb;have hX:∀i,n<=i->i<σ.bx.length->∀off,e'.X (e.β i) off:=fun i h1 h2 off=>hL.X _ _ (.inr ⟨i,h1,h2,rfl⟩)
 have au:∀b off,okc e' σ' b off->okc (e.show e') (σ.show σ' n) b off:=fun b off ho=>by
  refine ⟨fun hx=>ho.1 (hL.X _ _ (.inl hx)),fun i hi he=>?_,fun t ht=>(nomatch ht),ho.2.2.2⟩;rw [hlen] at hi
  by_cases h:i<n
  ·exact ho.2.1 i oM ((hβ i h).trans he)
  exact ho.1 (by have:=hX i oM hi off;rw [show e.β i=b from he] at this;exact this)
 have hD:∀d v,DRel (okc e' σ') w' d v->DRel (okc (e.show e') (σ.show σ' n)) w' d v:=fun d v h=>h.mono fun b off u hu ho=>⟨au b off ho,hu⟩
 have hst:Stepped e σ w (e.show e') (σ.show σ' n) w':={
  len:=Nat.le_of_eq hlen.symm
  beta:=fun _ _=>rfl
  X:=fun _ _ h=>h
  pres:=fun b off u hu ho=>let ⟨h1,h2⟩:=hL.pres b off u hu (ZhE hn ho);⟨au _ _ h1,h2⟩
  blocks:=fun b hb hi _ hh=>hL.blocks b hb (fun i h=>hi i (by rw [ZGo hn] at h;omega)) (fun t ht=>(nomatch ht)) hh
  size:=hL.size
  os:=hL.os
  tape:=hL.tape
  output:=hL.output
  fresh:=fun i h1 h2=>oM
  ftok:=fun t ht=>(nomatch ht)
  fhid:=fun b hb=>(hL.fhid b hb).elim .inl fun h=>h.elim (fun ⟨t,ht,_⟩=>nomatch ht) fun h=>.inr (.inr h)
  nx:=Nat.le_add_right _ _
  toks:=fun t _ ht=>(nomatch ht)
  own:=fun t _ ht=>(nomatch ht) }
 refine ⟨{ inj:=fun i j hi hj=>by rw [hlen] at hi hj;exact hS.inj i j hi hj,box:=fun i x hx=>?_,low:=fun i hi=>by rw [hlen] at hi;exact hS.low i hi,tkn:=fun t ht=>(nomatch ht),own:=fun t ht=>(nomatch ht),dis:=fun t t' ht=>(nomatch ht),xlt:=fun b off hx=>(TA (hS.xlt b off hx) hL.size:b<w'.heap.size),xown:=fun t ht=>(nomatch ht),hid:=fun b q hq=>?_,glob:=hS'.glob,big:=hS'.big },hst.toLater⟩
 ·have hx:(σ'.bx.take n++σ.bx.drop n)[i]?=some x:=hx
  by_cases h:i<n
  ·rw [T4 (by grind)] at hx;have h0:σ'.bx[i]?=some x:=by grind
   have:=(hS'.box i x h0).lowB (e2:=e.show e') (σ2:=σ.show σ' n) (w2:=w') (n:=n) (fun i hi=>(hβ i hi).symm) oM hD rfl (Zej hl hx);rw [hβ i h] at this;exact this
  rw [Sc (by grind)] at hx;have gq:(σ'.bx.take n).length=n:=by grind
  have qx:=Zgj ha hx;rw [gq,List.getElem?_drop,show n+(i - n)=i by omega] at hx;have hi:=(To.1 hx).1;have hB:=hS.box i x hx;have gw:w'.heap[e.β i]?=w.heap[e.β i]?:=hL.blocks _ (hS.lt hi) (fun j hj he=>by
   rw [ZGo hn] at hj;have:=hS.inj j i oM hi he;omega) (fun t ht=>nomatch ht) (by
   show e.H (e.β i)=none
   cases hq:e.H (e.β i) with
   | none=>rfl
   | some q=>exact absurd rfl ((hS.hid _ _ hq).2.2.1 i hi))
  cases x with
  | cells t cs =>
   obtain ⟨vs,h1,h2,h3⟩:=hB;exact ⟨vs,gw.trans h1,h2,fun i x u hx hu=>⟨(h3 i x u hx hu).1.step hst,(h3 i x u hx hu).2⟩⟩
  | dmap m=>exact hB.dmapTo gw fun d v h=>h.later hst.toLater
  | loop st pd r=>exact Eq.trans gw hB
  | iter s p=>exact Eq.trans gw hB
  | _=>trivial
 obtain ⟨h1,h2,h3,h4,h5⟩:=hS'.hid b q hq;refine ⟨h1,h2,fun i hi he=>?_,fun t ht=>(nomatch ht),fun off ho hx=>h5 off ho (hL.X _ _ (.inl hx))⟩;rw [hlen] at hi
 by_cases h:i<n
 ·exact h3 i oM ((hβ i h).trans he)
 exact h5 q.2 (Tr _) (by have:=hX i oM hi q.2;rw [show e.β i=b from he] at this;exact this)
end
def Zzq (n:Nat) (σ:St) (K:PEnd->St->Prop) (pe:PEnd) (σ':St):Prop:=∃b:Bool,pe=.ret (.d (.bool b))/\Zei n (σ'.bx.take n)=true/\K (.ret (.d (.bool b))) (σ.show σ' n)
def Zrp (n:Nat) (args:List PV) (σ:St):Prop:=σ.tk=[]/\Nat.ble n σ.bx.length=true/\Zei n (σ.bx.take n)=true/\Zcc (σ.bx.drop n)=true/\Zoh n args=true
def ZvK (n:Nat) (raw:Raw):Raw:=fun v args σ K=>Zrp n args σ/\raw v args (σ.low n) (Zzq n σ K)
def Zrq (n:Nat) (raw:Raw) (it:ZfF):ZfF:=fun g args _ σ K=>Zrp n args σ/\it g args raw (σ.low n) (Zzq n σ K)
section
variable {G:GE} {e0:Env} {σ0:St} {w0:World}
def Zgk {e:Env} {σ:St} {w w':World} {n:Nat} {args:List PV} {K:PEnd->St->Prop} {en:Ending} (hS:SRel G e σ w) (ho:Zrp n args σ) (h:YS G (e.hide σ n) (σ.low n) w (Zzq n σ K) en w'):YS G e σ w K en w':=by
 obtain ⟨pe,σ',e',⟨b,rfl,hl,hK⟩,⟨v,rfl,hv⟩,hS',hL⟩:=h;obtain ⟨h1,h2,h3,h4,h5⟩:=ho;obtain ⟨g1,g2⟩:=hS.show h1 (Tc h2) h4 hS' hL hl;refine ⟨_,_,_,hK,⟨v,rfl,?_⟩,g1,g2⟩
 cases hv with
 | d _ _ hd=>cases hd;exact .d _ _ (.bool b)
def Zoi {raw:Raw} {n:Nat} (h:RawSem G e0 σ0 w0 raw) (hn:σ0.bx.length<=n):RawSem G e0 σ0 w0 (ZvK n raw):=fun v args σ K ⟨ho,hc⟩=>by
 obtain ⟨l,hl,hr⟩:=h v args _ _ hc;refine ⟨l,hl,fun ro k e w vs hS hL ha=>?_⟩;have am:=Tc ho.2.1;obtain ⟨f,tmps,asg,body,hy,hR⟩:=hr ro k _ w vs (hS.hide am ho.2.2.1) (hL.hide am hn) (ha.hide am ho.2.2.2.2);exact ⟨f,tmps,asg,body,hy,hR.mono fun en w' hA=>Zgk hS ho hA⟩
def ZkZ {raw:Raw} {it:ZfF} {n:Nat} (kc:IterSem G it) (h:RawSem G e0 σ0 w0 raw) (hn:σ0.bx.length<=n):IterAt G e0 σ0 w0 (Zrq n raw it):=fun g args _ σ K ⟨ho,hc⟩=>by
 obtain ⟨f5,hr⟩:=kc g args raw _ _ hc;refine ⟨f5,fun k e w vs hS hL ha _=>?_⟩;have am:=Tc ho.2.1;exact (hr k _ w vs (hS.hide am ho.2.2.1) (ha.hide am ho.2.2.2.2) (h.later (hL.hide am hn))).mono fun en w' hA=>Zgk hS ho hA
end
def ZFi (T:Tab) (tbl:Tbl) (n:Nat) (raw:Raw) (it:ZfF) (loops:Nat->LoopAnn):Cx:=⟨T,ZGq tbl,ZvK n raw,Zrq n raw it,loops,fun _=>0,fun _=>false,fun _=>false,true,fun _=>none,fun _=>false,fun _=>false⟩
def Zrr {G : GE} {T : Tab} {tbl : Tbl} (hT : TabOK T G.P) (az : G.P.follows .mixedOrders = true) (ht : TblOK G tbl) (hm : TblM tbl) {it : ZfF} (kc : IterSem G it) {g : FuncId} {fn : Func} {c : Code} (hf : G.P.funcs[g]? = some fn) (hb : fn.body = some c) (ao : (fn.name == "runtime.NumGoroutine") = false)
  (au:ZG fn.ntmps c=true) {ci:ZfF} (h:∀g' args raw σ K,ci g' args raw σ K->g'=g/\args.length<=fn.ntmps/\∃loops,WF (ZFi T tbl σ.bx.length raw it loops) fn σ.bx.length false args σ K):IterSem G ci:=fun g' args raw σ K hc=>by
 obtain ⟨rfl,hlen,loops,hw⟩:=h g' args raw σ K hc;refine ⟨Zf hf ao hb,fun n e w vs hS ac gz=>?_⟩;exact Ue az (C:=ZFi T tbl σ.bx.length raw it loops) ⟨hT,ht.sem,Zoi gz (Tr _),ZkZ kc gz (Tr _),.inl rfl⟩ ⟨fun _ h1 h2=>hT.one h1 h2,hm.mono,fun _ _ _ _ h=>h.elim,fun _ _ _ _ _ h=>h.elim,rfl⟩ hf hb au (Tr _) hlen hw hS ac
end Go.PM
end
