/- A part of the proof: plain logic, contracts and laws over the given program. -/
import Derived.Test.YtbdleclcgopcdaaGreatDoorIter
import Derived.WideShapes
import Derived.Test.YtbdleclcgopcdaaGreatDoorB11
set_option linter.unusedVariables false
set_option linter.unusedSimpArgs false
set_option linter.all false
set_option maxRecDepth 100000
set_option maxHeartbeats 16000000
noncomputable section
section
namespace Go.PM.Lex
open Go.Proofs
variable {w0:World} {nG:Nat}
def Zay:Zn:=fun args σ K=>match args,σ with
 | [.agg c],⟨[],[],0⟩=>∃pl e,c=(ZF pl e).map .d/\K (.ret (.func 60 [] [.ptr 0 0])) ⟨[.cells 36 c],[],0⟩
 | _,_=>False
def Zaz:Zy Zay:=fun args σ K K' hK h=>by
 unfold Zay at h |-
 split at h
 ·obtain ⟨pl,e,h1,h2⟩:=h;exact ⟨pl,e,h1,hK _ _ h2⟩
 exact h.elim
def ZrD:PC w0 nG 38 Zay:=by
 refine pwe Tryz.func38 fun args σ K h=>?_
 unfold Zay at h
 split at h
 ·obtain ⟨pl,⟨a1,a2,a3,a4,a5⟩,rfl,h⟩:=h;refine pwv [] 1 false ?_;exact h
 exact h.elim
structure C5 where
 a:D
 b:D
 c:D
 d:D
 e:D
abbrev C5.cs (x:C5):List PV:=[.d x.a,.d x.b,.d x.c,.d x.d,.d x.e]
abbrev stV (M:Bv) (c2 c3:C5) (r:Loop):List Box:=[.dmap (mvM mvB M),.cells 47 [.mp 0],.cells 36 c2.cs,.cells 36 c3.cs,.loop .ready none r]
def itV (m:Nat):Zfe:=fun g args raw σ K=>∃(pl:Pl) (e:Ex) (y:Nat) (M:Bv) (c2 c3:C5) (r:Loop),g=61/\args=[.agg ((ZF pl e).map .d),.raw (.func (.yield y) #[] #[])]/\σ=⟨stV M c2 c3 r,[],0⟩/\(szE e<m/\m<=4611686018427387904) /\
 (∀(M:Bv) (x:Ex) (K':PEnd->St->Prop),(∀gs,K' (.ret (.d (.bool true))) ⟨stV (ZzT M x) c2 c3 r++gs,[],0⟩)->raw (.func (.yield y) #[] #[]) [.agg ((ZF pl x).map .d)] ⟨stV M c2 c3 r,[],0⟩ K') /\
 K (.ret (.d (.bool true))) ⟨stV (ZkS M (prE e)) c2 c3 r,[],0⟩
def ZrE:∀m,IterSem (GG w0 nG) (itV m)
 | 0=>fun g args raw σ K ⟨_,_,_,_,_,_,_,_,_,_,h,_⟩=>absurd h.1 oM
 | m+1=>by
  refine ZrC (tbl:=[]) Zx mixed trivial trivial (ZrE m) Tryz.func61 rfl kR kR ?_
  rintro g args raw σ K ⟨pl,⟨op,text,num,ea,at'⟩,y,M,c2,c3,r,rfl,rfl,rfl,⟨hm,ew⟩,gw,h⟩
  refine ⟨rfl,Tc rfl,?_⟩;simp only [szE] at hm;have hl:(Zf pl ea).length=ea.length:=by rw [Zb,Td]
  have hsz:=Y1 ea;have j6:∀M,Zd3 5 (stV M c2 c3 r)=true:=fun M=>rfl
  refine ⟨Zj [(4,⟨[14],[1,12,13],fun vs σ=>∃(j:Nat) (M':Bv),vs=[.d (.int .i64 j)]/\σ=⟨stV M' c2 c3 r++[.cells 36 ((ZF pl (.mk op text num ea at')).map .d)],[],0⟩/\j<=ea.length/\M'=ZkS (ZzT M (.mk op text num ea at')) (ZkR (ea.take j)),
   mu1 ea.length⟩)],?_⟩
  conv=>whnf
  refine ⟨⟨rfl,rfl,j6 M,rfl,rfl⟩,gw _ (.mk op text num ea at') _ fun gs=>⟨true,rfl,j6 _,wN ?_⟩⟩;refine ⟨⟨0,_,rfl,rfl,oM,rfl⟩,?_⟩
  rintro vs σ1 ⟨j,M',rfl,rfl,hj,rfl⟩
  conv=>whnf
  refine ZFU (fun hq=>?_) (fun hq=>?_)
  ·have aa:j<ea.length:=by have hq:(j:Int)<((Zf pl ea).length:Nat):=hq;omega
   have hr:(Zf pl ea)[(j:Int).toNat]?=some (ZF pl ea[j]):=by rw [Tj,Zb,Th,Ta aa];rfl
   have hg:=Yv ea j aa;have ht:=Zi2 aa;have hμ:((ea.length:Int) - ((j:Int)+1)).toNat<((ea.length:Int) - (j:Int)).toNat:=oM;generalize ea[j]=x at hr hg ht;obtain ⟨b1,b2,b3,b4,b5⟩:=x;(conv=>whnf);refine ⟨_,oM,hr,wN ?_⟩;refine ⟨⟨rfl,rfl,j6 _,rfl,rfl⟩,pl,.mk b1 b2 b3 b4 b5,y,_,c2,c3,r,rfl,rfl,rfl,⟨oM,oM⟩,gw,true,rfl,j6 _,wN ?_⟩;refine Zl ?_;exact ⟨⟨j+1,_,rfl,rfl,oM,by rw [ht,Zi3]⟩,hμ⟩
  have dl:ea.length<=j:=by have hq:¬(j:Int)<((Zf pl ea).length:Nat):=hq;omega
  rw [List.take_of_length_le dl];exact mq48
def ZFO (m:Nat):Zfe:=ZgD Vq [] (itV m) 60 Tryz.f60
def Zum (m:Nat):IterSem (GG w0 nG) (ZFO m):=Jx (tbl:=[]) Zx mixed trivial trivial (ZrE m) Tryz.func60 rfl kR kR
def Zbp:Zn:=fun args σ K=>match args,σ with
 | [.mp 0,.d (.sl rows)],⟨[.dmap mv],[],0⟩=>∃pl l M,rows=Zf pl l/\mv=mvM mvB M/\Zei l<=1099511627776/\K (.ret (.tuple [])) ⟨[.dmap (mvM mvB (ZkS M (ZkR l)))],[],0⟩
 | _,_=>False
def Zi9:Zy Zbp:=fun args σ K K' hK h=>by
 unfold Zbp at h |-
 split at h
 ·obtain ⟨pl,l,M,h1,h2,h3,h4⟩:=h;exact ⟨pl,l,M,h1,h2,h3,hK _ _ h4⟩
 exact h.elim
def ZCd (M:Bv) (op:Nat) (t:Bs) (n:Int) (l:List Ex) (a:Nat) (h:op=1):mvM mvB (ZzT M (.mk op t n l a))=Z6 t (.one (.bool true)) (mvM mvB M):=by
 unfold ZzT
 rw [Tk (show opE (.mk op t n l a)=1 from h)];exact (XR (f:=mvB) (k:=t) (v:=true) M).symm
def Zms:Tbl:=[(38,Zay)]
def Zmt:PC w0 nG 20 Zbp:=by
 refine Zj2 Zx mixed (tbl:=Zms) ⟨ZrD,trivial⟩ ⟨Zaz,trivial⟩ (Zum 1099511627777) Tryz.func20 rfl kR kR ?_;intro args σ K h
 unfold Zbp at h
 split at h
 ·obtain ⟨pl,l,M,rfl,rfl,hz,h⟩:=h;have hl:(Zf pl l).length=l.length:=by rw [Zb,Td]
  have hsz:=Y1 l;refine ⟨Zj [(2,⟨[9],[2,7,8],fun vs σ=>∃j:Nat,vs=[.d (.int .i64 j)]/\σ=⟨[.dmap (mvM mvB (ZkS M (ZkR (l.take j)))),.cells 47 [.mp 0]],[],0⟩/\j<=l.length,
   mu1 l.length⟩)],1,false,sM,Tc rfl,?_⟩
  conv=>whnf
  refine ⟨⟨0,rfl,rfl,oM⟩,?_⟩
  rintro vs σ1 ⟨j,rfl,rfl,hj⟩
  conv=>whnf
  refine ZFU (fun hq=>?_) (fun hq=>?_);rotate_left
  ·have dl:l.length<=j:=by have hq:¬(j:Int)<((Zf pl l).length:Nat):=hq;omega
   rw [List.take_of_length_le dl];exact mq48
  have aa:j<l.length:=by have hq:(j:Int)<((Zf pl l).length:Nat):=hq;omega
  have hr:(Zf pl l)[(j:Int).toNat]?=some (ZF pl l[j]):=by rw [Tj,Zb,Th,Ta aa];rfl
  have hg:=Yv l j aa;have ht:=Zi2 aa;have hμ:((l.length:Int) - ((j:Int)+1)).toNat<((l.length:Int) - (j:Int)).toNat:=oM;generalize l[j]=x at hr hg ht;obtain ⟨b1,b2,b3,b4,b5⟩:=x;(conv=>whnf);refine ⟨_,oM,hr,wN ?_⟩;refine ⟨pl,.mk b1 b2 b3 b4 b5,rfl,wN ?_⟩;intro y r
  refine ⟨Zj [],rfl,wN ?_⟩;refine ⟨pl,.mk b1 b2 b3 b4 b5,y,_,⟨_,_,_,_,_⟩,⟨_,_,_,_,_⟩,r,rfl,rfl,rfl,⟨oM,oM⟩,fun M x K' hK=>wN ?_,wN ?_⟩
  ·obtain ⟨d1,d2,d3,d4,d5⟩:=x;refine ⟨rfl,rfl,rfl,wN ?_⟩;refine ⟨rfl,wN ?_⟩;refine ZFU (fun h1=>wN ?_) (fun h1=>wN ?_)
   ·have h1:d1=1:=by have h1:(d1:Int)=1:=h1;omega
    have hk:=hK [.cells 36 ((ZF pl (.mk d1 d2 d3 d4 d5)).map .d)];unfold stV at hk
    rw [ZCd M d1 d2 d3 d4 d5 h1] at hk;refine ⟨rfl,wN ?_⟩;exact hk
   have h1:¬d1=1:=by have h1:¬(d1:Int)=1:=h1;omega
   have hk:=hK [.cells 36 ((ZF pl (.mk d1 d2 d3 d4 d5)).map .d)];rw [show ZzT M (.mk d1 d2 d3 d4 d5)=M from Tf h1] at hk;refine ⟨rfl,wN ?_⟩;exact hk
  refine Zl ?_;exact ⟨⟨j+1,rfl,by rw [ht,Zi3];rfl,oM⟩,hμ⟩
 exact h.elim
abbrev stA (M:Bv) (c2 c5:C5) (a:Int) (b:Bool) (lp:Box):List Box:=[.dmap (mvM mvB M),.cells 47 [.mp 0],.cells 36 c2.cs,.cells 3 [.d (.int .i64 a)],.cells 4 [.d (.bool b)],.cells 36 c5.cs,lp]
abbrev goA (M:Bv) (c2 c5:C5) (r:Loop):List Box:=stA M c2 c5 0 false (.loop .ready none r)
abbrev ZC5 (M:Bv) (c2 c5:C5) (a:Int) (r:Loop):List Box:=stA M c2 c5 a true (.loop .done (some .ret) r)
def itA (m:Nat):Zfe:=fun g args raw σ K=>∃(pl:Pl) (e:Ex) (y:Nat) (M:Bv) (c2 c5:C5) (r:Loop),g=61/\args=[.agg ((ZF pl e).map .d),.raw (.func (.yield y) #[] #[])]/\σ=⟨goA M c2 c5 r,[],0⟩/\(szE e<m/\m<=4611686018427387904) /\
 (∀(x:Ex) (K':PEnd->St->Prop),(Zca M x=false->∀gs,K' (.ret (.d (.bool true))) ⟨goA M c2 c5 r++gs,[],0⟩)->(Zca M x=true->∀gs,K' (.ret (.d (.bool false))) ⟨ZC5 M c2 c5 (pl (atX x)) r++gs,[],0⟩)->raw (.func (.yield y) #[] #[]) [.agg ((ZF pl x).map .d)] ⟨goA M c2 c5 r,[],0⟩ K') /\
 (Zcb M e=none->K (.ret (.d (.bool true))) ⟨goA M c2 c5 r,[],0⟩)/\∀x,Zcb M e=some x->K (.ret (.d (.bool false))) ⟨ZC5 M c2 c5 (pl (atX x)) r,[],0⟩
def Zy7 (M:Bv) (op:Nat) (t:Bs) (n:Int) (l:List Ex) (a:Nat):Zcb M (.mk op t n l a)=if Zca M (.mk op t n l a)=true then some (.mk op t n l a) else Uy M l:=by
 simp only [Zcb,prE,List.find?_cons,Uy]
 cases Zca M (.mk op t n l a) <;> rfl
def ZrF:∀m,IterSem (GG w0 nG) (itA m)
 | 0=>fun g args raw σ K ⟨_,_,_,_,_,_,_,_,_,_,h,_⟩=>absurd h.1 oM
 | m+1=>by
  refine ZrC (tbl:=[]) Zx mixed trivial trivial (ZrF m) Tryz.func61 rfl kR kR ?_
  rintro g args raw σ K ⟨pl,⟨op,text,num,ea,at'⟩,y,M,c2,c5,r,rfl,rfl,rfl,⟨hm,ew⟩,gw,hn,hs⟩
  refine ⟨rfl,Tc rfl,?_⟩;simp only [szE] at hm;have hl:(Zf pl ea).length=ea.length:=by rw [Zb,Td]
  have hsz:=Y1 ea;have j6:Zd3 7 (goA M c2 c5 r)=true:=rfl;have aj:∀a,Zd3 7 (ZC5 M c2 c5 a r)=true:=fun a=>rfl
  rw [Zy7] at hn hs;refine ⟨Zj [(4,⟨[14],[1,12,13],fun vs σ=>∃j:Nat,vs=[.d (.int .i64 j)]/\σ=⟨goA M c2 c5 r++[.cells 36 ((ZF pl (.mk op text num ea at')).map .d)],[],0⟩/\j<=ea.length/\(Zca M (.mk op text num ea at')=false/\Uy M ea=Uy M (ea.drop j)),
   mu1 ea.length⟩)],?_⟩
  conv=>whnf
  refine ⟨⟨rfl,rfl,j6,rfl,rfl⟩,gw (.mk op text num ea at') _ (fun hf gs=>⟨true,rfl,j6,?_⟩) fun hf gs=>⟨false,rfl,aj _,?_⟩⟩;rotate_left
  ·have hs:=hs _ (Tk hf);(conv=>whnf);exact hs
  conv=>whnf
  refine ⟨⟨0,rfl,rfl,oM,hf,rfl⟩,?_⟩
  rintro vs σ1 ⟨j,rfl,rfl,hj,hf,ha⟩
  rw [Tf (by rw [hf];simp),ha] at hn hs;(conv=>whnf);refine ZFU (fun hq=>?_) (fun hq=>wN ?_)
  ·have aa:j<ea.length:=by have hq:(j:Int)<((Zf pl ea).length:Nat):=hq;omega
   have hr:(Zf pl ea)[(j:Int).toNat]?=some (ZF pl ea[j]):=by rw [Tj,Zb,Th,Ta aa];rfl
   have hg:=Yv ea j aa;have hd:=ZfN (m:=M) aa;have hμ:((ea.length:Int) - ((j:Int)+1)).toNat<((ea.length:Int) - (j:Int)).toNat:=oM;generalize ea[j]=x at hr hg hd;rw [hd] at hn hs ha;obtain ⟨b1,b2,b3,b4,b5⟩:=x;(conv=>whnf);refine ⟨_,oM,hr,wN ?_⟩;refine ⟨⟨rfl,rfl,j6,rfl,rfl⟩,pl,.mk b1 b2 b3 b4 b5,y,_,c2,c5,r,rfl,rfl,rfl,⟨oM,oM⟩,gw,fun hx=>⟨true,rfl,j6,wN ?_⟩,fun x hx=>⟨false,rfl,aj _,wN ?_⟩⟩
   ·rw [hx] at ha;refine Zl ?_;exact ⟨⟨j+1,rfl,rfl,oM,hf,ha⟩,hμ⟩
   rw [hx] at hs;have hs:=hs _ rfl;exact hs
  have dl:ea.length<=j:=by have hq:¬(j:Int)<((Zf pl ea).length:Nat):=hq;omega
  rw [Tq dl] at hn;have hn:=hn rfl;exact hn
def ZFP (m:Nat):Zfe:=ZgD Vq [] (itA m) 60 Tryz.f60
def Zun (m:Nat):IterSem (GG w0 nG) (ZFP m):=Jx (tbl:=[]) Zx mixed trivial trivial (ZrF m) Tryz.func60 rfl kR kR
def ZFQ (pl:Pl):Option Ex->PV
 | some x=>.tuple [.d (.int .i64 (pl (atX x))),.d (.bool true)]
 | none=>.tuple [.d (.int .i64 0),.d (.bool false)]
def Zhe:Zn:=fun args σ K=>match args,σ with
 | [.mp 0,.agg c],⟨[.dmap mv],[],0⟩=>∃pl e M,c=(ZF pl e).map .d/\mv=mvM mvB M/\szE e<=1099511627776/\∀o,Zcb M e=o->K (.ret (ZFQ pl o)) ⟨[.dmap (mvM mvB M)],[],0⟩
 | _,_=>False
def Zmu:PC w0 nG 44 Zhe:=by
 refine Zj2 Zx mixed (tbl:=Zms) ⟨ZrD,trivial⟩ ⟨Zaz,trivial⟩ (Zun 1099511627777) Tryz.func44 rfl kR kR ?_;intro args σ K h
 unfold Zhe at h
 split at h
 ·obtain ⟨pl,⟨e1,e2,e3,e4,e5⟩,M,rfl,rfl,hz,h⟩:=h;refine ⟨Zj [],1,false,sM,Tc rfl,wN ?_⟩;refine ⟨pl,.mk e1 e2 e3 e4 e5,rfl,wN ?_⟩;intro y r
  refine ⟨Zj [],rfl,wN ?_⟩;refine ⟨pl,.mk e1 e2 e3 e4 e5,y,M,⟨_,_,_,_,_⟩,⟨_,_,_,_,_⟩,r,rfl,rfl,rfl,⟨oM,oM⟩,fun x K' k1 k2=>?_,fun ha=>?_,fun x ha=>?_⟩
  ·obtain ⟨d1,d2,d3,d4,d5⟩:=x;(conv=>whnf);refine ⟨rfl,rfl,rfl,wN ?_⟩;refine ⟨rfl,wN ?_⟩;have hfr:Zca M (.mk d1 d2 d3 d4 d5)=(decide (d1=2) || (decide (d1=1) && !((lkM d2 M).getD false))):=rfl;rw [hfr] at k1 k2;refine ZFU (fun g2=>wN ?_) (fun g2=>wN ?_)
   ·have k2:=k2 (by rw [T3 (show d1=2 by have g2:(d1:Int)=2:=g2;omega)];rfl) [.cells 36 ((ZF pl (.mk d1 d2 d3 d4 d5)).map .d)];refine ⟨rfl,wN ?_⟩;exact k2
   rw [decide_eq_false (show ¬d1=2 by have g2:¬(d1:Int)=2:=g2;omega)] at k1 k2;refine ZFU (fun g1=>wN ?_) (fun g1=>wN ?_)
   ·rw [T3 (show d1=1 by have g1:(d1:Int)=1:=g1;omega)] at k1 k2;have yes:(lkM d2 M).getD false=true->K' (.ret (.d (.bool true))) ⟨goA M ⟨.int .u8 e1,.str e2,.int .i64 e3,.sl (Zf pl e4),.int .i64 (pl e5)⟩ ⟨.int .u8 e1,.str e2,.int .i64 e3,.sl (Zf pl e4),.int .i64 (pl e5)⟩ r++[.cells 36 ((ZF pl (.mk d1 d2 d3 d4 d5)).map .d)],[],0⟩:=fun q=>k1 (by rw [q];rfl) _
    have no:(lkM d2 M).getD false=false->K' (.ret (.d (.bool false))) ⟨ZC5 M ⟨.int .u8 e1,.str e2,.int .i64 e3,.sl (Zf pl e4),.int .i64 (pl e5)⟩ ⟨.int .u8 e1,.str e2,.int .i64 e3,.sl (Zf pl e4),.int .i64 (pl e5)⟩ (pl d5) r++[.cells 36 ((ZF pl (.mk d1 d2 d3 d4 d5)).map .d)],[],0⟩:=fun q=>k2 (by rw [q];rfl) _
    cases hv:lkM d2 M with
    | none =>
     have no:=no (by rw [hv];rfl);refine optK.no (by rw [ZJ,hv];rfl) (wN ?_);refine ⟨rfl,wN ?_⟩;exact no
    | some b =>
    refine optK.yes (a:=.one (.bool b)) (by rw [ZJ,hv];rfl) ?_
    cases b with
    | true =>
     have yes:=yes (by rw [hv];rfl);(conv=>whnf);refine ⟨rfl,wN ?_⟩;exact yes
    | false =>
    have no:=no (by rw [hv];rfl);(conv=>whnf);refine ⟨rfl,wN ?_⟩;exact no
   rw [decide_eq_false (show ¬d1=1 by have g1:¬(d1:Int)=1:=g1;omega)] at k1 k2;have k1:=k1 rfl [.cells 36 ((ZF pl (.mk d1 d2 d3 d4 d5)).map .d)];refine ⟨rfl,wN ?_⟩;exact k1
  ·have h:=h _ ha;exact mq48
  have h:=h _ ha;exact mq48
 exact h.elim
def Jg (C:Pl->Ex->Bv->(PEnd->Bv->Prop)->Prop) (m:Nat):Zn:=fun args σ K=>match args,σ with
 | [.mp 0,.agg c],⟨[.dmap mv],[],0⟩=>∃pl e M,c=(ZF pl e).map .d/\mv=mvM mvB M/\(szE e<m/\m<=1099511627776)/\C pl e M fun pe M'=>K pe ⟨[.dmap (mvM mvB M')],[],0⟩
 | _,_=>False
def ZEf (F:Bv->Ex->Bool):Pl->Ex->Bv->(PEnd->Bv->Prop)->Prop:=fun pl e M K=>∀b,F M e=b->K (.ret (.d (.bool b))) M
def ZC6 (F:Bv->Ex->Option Ex):Pl->Ex->Bv->(PEnd->Bv->Prop)->Prop:=fun pl e M K=>(F M e=none->K (.ret (.tuple [])) M)/\∀x,F M e=some x->K (.panic (.iface 79 (.agg [.d (.int .i64 (pl (atX x)))]))) M
def ZE9:Pl->Ex->Bv->(PEnd->Bv->Prop)->Prop:=fun pl e M K=>K (.ret (.tuple [])) (Zjx e M)
abbrev ZrG:Zn:=Jg (ZEf fun M e=>(Zcb M e).isNone) 1099511627776
abbrev Zja:Nat->Zn:=Jg (ZEf Zbm)
abbrev Zol:Nat->Zn:=Jg ZE9
abbrev Zom:Nat->Zn:=Jg (ZC6 ZC2)
abbrev Zon:Nat->Zn:=Jg (ZC6 ZC3)
def ZCf:OKw w0 nG [(44,Zhe)] 28 ZrG:=by
 refine pwo Tryz.func28 fun args σ K h=>?_
 unfold ZrG Jg at h
 split at h
 ·obtain ⟨pl,⟨e1,e2,e3,e4,e5⟩,M,rfl,rfl,⟨hm,ew⟩,h⟩:=h;refine pwv [] 1 false ?_;refine ⟨pl,.mk e1 e2 e3 e4 e5,M,rfl,rfl,oM,fun o ho=>?_⟩
  cases o with
  | none =>
   have h:=h true (by show (Zcb M _).isNone=true;rw [ho];rfl);exact mq48
  | some x =>
  have h:=h false (by show (Zcb M _).isNone=false;rw [ho];rfl);exact mq48
 exact h.elim
def Zhf (F:Bv->List Ex->D) (m:Nat):Zn:=fun args σ K=>match args,σ with
 | [.d (.sl rows),.func f [.mp 0] []],⟨[.dmap mv],[],0⟩=>∃pl l M,rows=Zf pl l/\mv=mvM mvB M/\(f=26/\Zei l<m/\m<=1099511627776)/\∀d,F M l=d->K (.ret (.d d)) ⟨[.dmap (mvM mvB M)],[],0⟩
 | _,_=>False
abbrev ZrH:Nat->Zn:=Zhf fun M l=>.int .i64 (ZgX (Zbm M) 0 l)
abbrev ZfW:Nat->Zn:=Zhf fun M l=>.bool (Vm M l)
def ZrI {m:Nat}:OKw w0 nG [(26,Zja m)] 43 (ZrH m):=by
 refine pwo Tryz.func43 fun args σ K h=>?_
 unfold ZrH Zhf at h
 split at h
 ·obtain ⟨pl,l,M,rfl,rfl,⟨rfl,hm,ew⟩,h⟩:=h;simp only at h;have hl:(Zf pl l).length=l.length:=by rw [Zb,Td]
  have hsz:=Y1 l;refine pwu [(2,⟨[8],[0,1,7],fun vs σ=>∃j:Nat,vs=[.d (.int .i64 j)]/\σ=⟨[.dmap (mvM mvB M)],[],0⟩/\j<=l.length/\ZgX (Zbm M) j (l.drop j)=ZgX (Zbm M) 0 l,
   mu1 l.length⟩)] 1 false ?_
  conv=>whnf
  refine ⟨⟨0,rfl,rfl,oM,rfl⟩,?_⟩
  rintro vs σ1 ⟨j,rfl,rfl,hj,ha⟩
  conv=>whnf
  refine ZFU (fun hc=>?_) (fun hc=>?_);rotate_left
  ·have dl:l.length<=j:=by have hc:¬(j:Int)<((Zf pl l).length:Nat):=hc;omega
   rw [Tq dl] at ha;(conv=>whnf);exact h (.int .i64 (-1)) (by rw [<- ha];rfl)
  have aa:j<l.length:=by have hc:(j:Int)<((Zf pl l).length:Nat):=hc;omega
  rw [Tm aa] at ha;have hr:(Zf pl l)[(j:Int).toNat]?=some (ZF pl l[j]):=by rw [Tj,Zb,Th,Ta aa];rfl
  have hg:=Yv l j aa;generalize l[j]=x at ha hr hg;obtain ⟨b1,b2,b3,b4,b5⟩:=x;(conv=>whnf);refine ⟨_,oM,hr,wN ?_⟩;refine ⟨pl,.mk b1 b2 b3 b4 b5,M,rfl,rfl,⟨oM,ew⟩,fun b hb=>?_⟩;simp only [ZgX] at ha
  cases b with
  | true =>
   rw [Tk hb] at ha;(conv=>whnf);exact h _ (by rw [<- ha])
  | false =>
  rw [Tf (fun g=>Bool.noConfusion (hb.symm.trans g))] at ha;(conv=>whnf);exact mq193
 exact h.elim
def ZrJ {m:Nat}:OKw w0 nG [(43,ZrH m)] 25 (ZfW m):=by
 refine pwo Tryz.func25 fun args σ K h=>?_
 unfold ZfW Zhf at h
 split at h
 ·obtain ⟨pl,l,M,rfl,rfl,hc,h⟩:=h;simp only at h;refine pwv [] 1 false ?_;refine ⟨pl,l,M,rfl,rfl,hc,fun d hd=>?_⟩;subst hd;(conv=>whnf);exact h _ (by rw [Zoe];congr 1;rw [Bool.eq_iff_iff,decide_eq_true_iff];exact (ZdN l 0).symm)
 exact h.elim
def ZrK {m:Nat}:OKw w0 nG [(28,ZrG),(25,spB ZfW m)] 26 (Zja m):=by
 refine pwo Tryz.func26 fun args σ K h=>?_
 unfold Zja Jg at h
 split at h
 ·obtain ⟨pl,⟨e1,e2,e3,e4,e5⟩,M,rfl,rfl,⟨hm,ew⟩,h⟩:=h;unfold ZEf at h
  simp only [Zbm] at h;have hs:szE (.mk e1 e2 e3 e4 e5)=1+Zei e4:=by simp only [szE]
  refine pwv [] 1 false ?_;refine ZFU (fun g=>wN ?_) (fun g=>wN ?_)
  ·have g:8<=e1:=by have g:(8:Int)<=e1:=g;omega
   rw [Tk g] at h;refine ⟨pl,.mk e1 e2 e3 e4 e5,M,rfl,rfl,⟨oM,oM⟩,fun b hb=>wN ?_⟩;have hb:(Zcb M (.mk e1 e2 e3 e4 e5)).isNone=b:=hb;have h:=h (!b) (by rw [<- hb];cases Zcb M (.mk e1 e2 e3 e4 e5) <;> rfl);exact h
  have g:¬8<=e1:=by have g:¬(8:Int)<=e1:=g;omega
  rw [Tf g] at h;refine ⟨oM,pl,e4,M,rfl,rfl,⟨rfl,oM,oM⟩,fun d hd=>?_⟩;subst hd;have h:=h _ rfl;exact mq48
 exact h.elim
def ZrL:PC w0 nG 28 ZrG:=ZCf ⟨Zmu,trivial⟩
def Zzb:∀m,PC w0 nG 26 (Zja m)
 | 0=>ZrK ⟨ZrL,ZC (Ze Tryz.func25 kR rfl),trivial⟩
 | m+1=>ZrK ⟨ZrL,ZD (sp:=ZfW) (ZrJ ⟨ZrI ⟨Zzb m,trivial⟩,trivial⟩),trivial⟩
def ZEg (m:Nat):PC w0 nG 25 (ZfW m):=ZrJ ⟨ZrI ⟨Zzb m,trivial⟩,trivial⟩
def Zvq {m:Nat}:OKw w0 nG [(27,spB Zol m)] 27 (Zol m):=by
 refine pwo Tryz.func27 fun args σ K h=>?_
 unfold Zol Jg at h
 split at h
 ·obtain ⟨pl,⟨e1,e2,e3,e4,e5⟩,M,rfl,rfl,⟨hm,ew⟩,h⟩:=h;unfold ZE9 at h
  simp only [Zjx] at h;simp only [szE] at hm;have hl:(Zf pl e4).length=e4.length:=by rw [Zb,Td]
  have hsz:=Y1 e4;refine pwu [(7,⟨[19],[0,17,18],fun vs σ=>∃(j:Nat) (M':Bv),vs=[.d (.int .i64 j)]/\σ=⟨[.dmap (mvM mvB M'),.cells 36 ((ZF pl (.mk e1 e2 e3 e4 e5)).map .d)],[],0⟩/\j<=e4.length/\Uz (e4.drop j) M'=Uz e4 M,
   mu1 e4.length⟩)] 1 false ?_
  conv=>whnf
  refine ZFU (fun g=>wN ?_) (fun g=>wN ?_)
  ·have g:e1=1:=by have g:(e1:Int)=1:=g;omega
   rw [Tk g,<- XR] at h;exact h
  have g:¬e1=1:=by have g:¬(e1:Int)=1:=g;omega
  rw [Tf g] at h;have many:e1=6\/e1=7->K (.ret (.tuple [])) ⟨[.dmap (mvM mvB (Uz e4 M))],[],0⟩:=fun q=>by rw [Tk q] at h;exact h
  refine ZFU (fun g6=>wN ?_) (fun g6=>wN ?_)
  ·have h:=many (.inl (by have g6:(e1:Int)=6:=g6;omega));refine ZFU (fun _=>wN ?_) (fun q=>absurd g6 q);exact mq24
  have g6:¬e1=6:=by have g6:¬(e1:Int)=6:=g6;omega
  refine ZFU (fun g7=>wN ?_) (fun g7=>wN ?_)
  ·have h:=many (.inr (by have g7:(e1:Int)=7:=g7;omega));exact mq24
  have g7:¬e1=7:=by have g7:¬(e1:Int)=7:=g7;omega
  rw [Tf (fun q=>q.elim g6 g7)] at h;exact h
 exact h.elim
def ZFa:∀m,PC w0 nG 27 (Zol m)
 | 0=>Zvq ⟨ZC (Ze Tryz.func27 kR rfl),trivial⟩
 | m+1=>Zvq ⟨ZD (sp:=Zol) (ZFa m),trivial⟩
def Zb0:Zn:=fun args σ K=>match args,σ with
 | [.mp 0,.d (.sl rows)],⟨[.dmap mv],[],0⟩=>∃pl l M,rows=Zf pl l/\mv=mvM mvB M/\Zei l<=1099511627776/\(Uy M l=none->K (.ret (.tuple [])) ⟨[.dmap (mvM mvB M)],[],0⟩)/\∀x,Uy M l=some x->K (.panic (.iface 79 (.agg [.d (.int .i64 (pl (atX x)))]))) ⟨[.dmap (mvM mvB M)],[],0⟩
 | _,_=>False
def ZkY:Zy Zb0:=fun args σ K K' hK h=>by
 unfold Zb0 at h |-
 exact mq130
def Zzc:Tbl:=[(44,Zhe)]
def Zbq:PC w0 nG 33 Zb0:=by
 refine pwt (tbl:=Zzc) ⟨Zmu,trivial⟩ Tryz.func33 fun args σ K h=>?_
 unfold Zb0 at h
 split at h
 ·obtain ⟨pl,l,M,rfl,rfl,hz,h1,h2⟩:=h;have hl:(Zf pl l).length=l.length:=by rw [Zb,Td]
  have hsz:=Y1 l;refine pwu [(1,⟨[10],[0,8,9],fun vs σ=>∃j:Nat,vs=[.d (.int .i64 j)]/\σ=⟨[.dmap (mvM mvB M)],[],0⟩/\j<=l.length/\Uy M l=Uy M (l.drop j),
   mu1 l.length⟩)] 1 false ?_
  conv=>whnf
  refine ⟨⟨0,rfl,rfl,oM,rfl⟩,?_⟩
  rintro vs σ1 ⟨j,rfl,rfl,hj,ha⟩
  rw [ha] at h1 h2;(conv=>whnf);refine ZFU (fun hc=>?_) (fun hc=>?_);rotate_left
  ·have dl:l.length<=j:=by have hc:¬(j:Int)<((Zf pl l).length:Nat):=hc;omega
   rw [Tq dl] at h1;have h1:=h1 rfl;(conv=>whnf);exact h1
  have aa:j<l.length:=by have hc:(j:Int)<((Zf pl l).length:Nat):=hc;omega
  have hd:=ZfN (m:=M) aa;have hr:(Zf pl l)[(j:Int).toNat]?=some (ZF pl l[j]):=by rw [Tj,Zb,Th,Ta aa];rfl
  have hg:=Yv l j aa;have hμ:((l.length:Int) - ((j:Int)+1)).toNat<((l.length:Int) - (j:Int)).toNat:=oM;generalize l[j]=x at hd hr hg;rw [hd] at h1 h2 ha;obtain ⟨b1,b2,b3,b4,b5⟩:=x;(conv=>whnf);refine ⟨_,oM,hr,wN ?_⟩;refine ⟨pl,.mk b1 b2 b3 b4 b5,M,rfl,rfl,oM,fun o ho=>?_⟩;rw [ho] at h1 h2 ha
  cases o with
  | none =>
   conv=>whnf
   exact mq49
  | some y =>
  have h2:=h2 _ rfl;(conv=>whnf);exact h2
 exact h.elim
def Zvr {m:Nat}:OKw w0 nG [(33,Zb0),(53,spB Zom m)] 53 (Zom m):=by
 refine pwo Tryz.func53 fun args σ K h=>?_
 unfold Zom Jg at h
 split at h
 ·obtain ⟨pl,⟨e1,e2,e3,e4,e5⟩,M,rfl,rfl,⟨hm,ew⟩,h⟩:=h;unfold ZC6 at h
  simp only [ZC2] at h;simp only [szE] at hm;have hl:(Zf pl e4).length=e4.length:=by rw [Zb,Td]
  have hsz:=Y1 e4;refine pwu [(4,⟨[16],[0,14,15],fun vs σ=>∃j:Nat,vs=[.d (.int .i64 j)]/\σ=⟨[.dmap (mvM mvB M),.cells 36 ((ZF pl (.mk e1 e2 e3 e4 e5)).map .d)],[],0⟩/\j<=e4.length/\Zg5 M e4=Zg5 M (e4.drop j),
   mu1 e4.length⟩)] 1 false ?_
  conv=>whnf
  refine ZFU (fun g=>wN ?_) (fun g=>wN ?_)
  ·have g:8<=e1:=by have g:(8:Int)<=e1:=g;omega
   rw [Tk g] at h;obtain ⟨h1,h2⟩:=h;refine ⟨pl,e4,M,rfl,rfl,oM,fun ho=>wN ?_,fun x ho=>wN ?_⟩
   ·have h1:=h1 ho;exact h1
   have h2:=h2 x ho;exact h2
  have g:¬8<=e1:=by have g:¬(8:Int)<=e1:=g;omega
  rw [Tf g] at h;refine ⟨⟨0,rfl,rfl,oM,rfl⟩,?_⟩
  rintro vs σ1 ⟨j,rfl,rfl,hj,ha⟩
  rw [ha] at h;obtain ⟨h1,h2⟩:=h;(conv=>whnf);refine ZFU (fun hc=>?_) (fun hc=>?_);rotate_left
  ·exact mq74
  have aa:j<e4.length:=by have hc:(j:Int)<((Zf pl e4).length:Nat):=hc;omega
  have hd:=ZfO (m:=M) aa;exact mq14
 exact h.elim
def ZFb:∀m,PC w0 nG 53 (Zom m)
 | 0=>Zvr ⟨Zbq,ZC (Ze Tryz.func53 kR rfl),trivial⟩
 | m+1=>Zvr ⟨Zbq,ZD (sp:=Zom) (ZFb m),trivial⟩
def Zvs {m:Nat}:OKw w0 nG [(33,Zb0),(54,spB Zon m)] 54 (Zon m):=by
 refine pwo Tryz.func54 fun args σ K h=>?_
 unfold Zon Jg at h
 split at h
 ·obtain ⟨pl,⟨e1,e2,e3,e4,e5⟩,M,rfl,rfl,⟨hm,ew⟩,h⟩:=h;unfold ZC6 at h
  simp only [ZC3] at h;simp only [szE] at hm;have hl:(Zf pl e4).length=e4.length:=by rw [Zb,Td]
  have hsz:=Y1 e4;refine pwu [(7,⟨[20],[0,18,19],fun vs σ=>∃j:Nat,vs=[.d (.int .i64 j)]/\σ=⟨[.dmap (mvM mvB M),.cells 36 ((ZF pl (.mk e1 e2 e3 e4 e5)).map .d)],[],0⟩/\j<=e4.length/\Zg6 M e4=Zg6 M (e4.drop j),
   mu1 e4.length⟩)] 1 false ?_
  conv=>whnf
  refine ZFU (fun g=>wN ?_) (fun g=>wN ?_)
  ·have g:e1=2:=by have g:(e1:Int)=2:=g;omega
   rw [Tk g] at h;have h:=h.1 rfl;exact h
  have g:¬e1=2:=by have g:¬(e1:Int)=2:=g;omega
  rw [Tf g] at h;refine ZFU (fun g6=>wN ?_) (fun g6=>wN ?_)
  ·rw [Tk (.inl (by have g6:(e1:Int)=6:=g6;omega))] at h;refine ZFU (fun _=>wN ?_) (fun q=>absurd g6 q);exact mq166
  have g6:¬e1=6:=by have g6:¬(e1:Int)=6:=g6;omega
  refine ZFU (fun g7=>wN ?_) (fun g7=>wN ?_)
  ·rw [Tk (.inr (by have g7:(e1:Int)=7:=g7;omega))] at h;exact mq166
  have g7:¬e1=7:=by have g7:¬(e1:Int)=7:=g7;omega
  rw [Tf (fun q=>q.elim g6 g7)] at h;have ha:Uy M [.mk e1 e2 e3 e4 e5]=Zcb M (.mk e1 e2 e3 e4 e5):=by simp [Uy,Zcb,ZkR]
  rw [<- ha] at h;obtain ⟨h1,h2⟩:=h;refine ⟨pl,[.mk e1 e2 e3 e4 e5],M,rfl,rfl,by simp only [Zei,szE];omega,fun ho=>wN ?_,fun x ho=>wN ?_⟩
  ·have h1:=h1 ho;exact h1
  have h2:=h2 x ho;exact h2
 exact h.elim
def ZFc:∀m,PC w0 nG 54 (Zon m)
 | 0=>Zvs ⟨Zbq,ZC (Ze Tryz.func54 kR rfl),trivial⟩
 | m+1=>Zvs ⟨Zbq,ZD (sp:=Zon) (ZFc m),trivial⟩
def ZkZ:Zn:=fun args σ K=>match args,σ with
 | [.mp 0],⟨[.dmap mv],[],0⟩=>K (.ret (.mp 1)) ⟨[.dmap mv,.dmap mv],[],0⟩
 | _,_=>False
def Zuo:PC w0 nG 24 ZkZ where
 enters:=Ze Tryz.func24 kR rfl
 calls:=fun args σ K hs n e w vs hS ha=>by
  unfold ZkZ at hs
  split at hs
  ·rename_i mv
   obtain ⟨u,rfl,hu⟩:=Zer ha
   cases hu with
   | mp _ ei =>
   obtain ⟨bn,ck,hst,es,h1,h2,h3,h4⟩:=hS.box 0 _ rfl;refine CallsIn.mono (callsIn_wide.2 (AnyW.maps_Clone Tryz.clone24 (e.β 0) es ck w h1)) fun en w' hh=>?_
   obtain ⟨rfl,rfl⟩:=hh;obtain ⟨g1,g2,g3⟩:=W3 hS (.dmap mv) (.map es ck) (fun e1 σ1 w1 acl hh=>⟨bn,ck,hst,es,hh,h2,h3,fun i u hu=>by
    obtain ⟨k1,k,x,k2,k3,k4,k5⟩:=h4 i u hu;exact ⟨k1,k,x,k2,k3,k4,k5.step acl⟩⟩)
   refine ⟨.ret (.mp 1),_,_,hs,⟨_,rfl,?_⟩,g2,g1.toLater⟩;have:=VRel.mp (G:=GG w0 nG) (e:=e.more 1 w.heap.size) (σ:=(⟨[.dmap mv],[],0⟩:St).new (.dmap mv)) (w:=w.alloc (.map es ck)) 1 (by rw [ZF1];exact Nat.lt_succ_self _)
   rwa [show (e.more 1 w.heap.size).β 1=w.heap.size by simp [Env.more]] at this
  exact hs.elim
def Zcx:∀(l:List Li) (i:Nat) (h:i<l.length),szL l[i]<Zai l
 | x::l,0,h=>by simp only [List.getElem_cons_zero,Zai];omega
 | x::l,i+1,h=>by have:=Zcx l i (by simpa using h);simp only [List.getElem_cons_succ,Zai];omega
def Zhg {op:Nat} {rel:Bs} {args:List Ex} {body:List Li} {a:Nat}:Zei args<szL (.mk op rel args body a):=by
 simp only [szL];rw [Xu];omega
def VO:∀l:List Li,l.length<=Zai l
 | []=>Tu _
 | x::l=>by have:=VO l;simp only [Te,Zai];omega
def Zbr:Zn:=fun args σ K=>match args,σ with
 | [.mp 0,.d (.sl rows)],⟨[.dmap mv],[],0⟩=>∃pl l M,rows=Zv pl l/\mv=mvM mvB M/\(XT l/\Zai l<=1099511627776)/\∀M',K (.ret (.tuple [])) ⟨[.dmap (mvM mvB M')],[],0⟩
 | _,_=>False
def Zjb:Zy Zbr:=fun args σ K K' hK h=>by
 unfold Zbr at h |-
 split at h
 ·obtain ⟨pl,l,M,h1,h2,h3,h4⟩:=h;exact ⟨pl,l,M,h1,h2,h3,fun M'=>hK _ _ (h4 M')⟩
 exact h.elim
def Zup:Tbl:=[(20,Zbp)]
def Zmv:PC w0 nG 13 Zbr:=by
 refine pwt (tbl:=Zup) ⟨Zmt,trivial⟩ Tryz.func13 fun args σ K h=>?_
 unfold Zbr at h
 split at h
 ·obtain ⟨pl,l,M,rfl,rfl,⟨eg,hz⟩,h⟩:=h;have hl:(Zv pl l).length=l.length:=by rw [Zi,Td]
  have hsz:=VO l;refine pwu [(1,⟨[8],[0,6,7],fun vs σ=>∃(j:Nat) (M':Bv),vs=[.d (.int .i64 j)]/\σ=⟨[.dmap (mvM mvB M')],[],0⟩/\j<=l.length,
   mu1 l.length⟩)] 1 false ?_
  conv=>whnf
  refine ⟨⟨0,M,rfl,rfl,oM⟩,?_⟩
  rintro vs σ1 ⟨j,M',rfl,rfl,hj⟩
  conv=>whnf
  refine ZFU (fun hc=>?_) (fun hc=>?_);rotate_left
  ·have h:=h M';exact mq48
  have aa:j<l.length:=by have hc:(j:Int)<((Zv pl l).length:Nat):=hc;omega
  have hr:(Zv pl l)[(j:Int).toNat]?=some (YN pl l[j]):=by rw [Tj,Zi,Th,Ta aa];rfl
  have hg:=Zcx l j aa;have em:=eg _ (TC aa);have hμ:((l.length:Int) - ((j:Int)+1)).toNat<((l.length:Int) - (j:Int)).toNat:=oM;generalize l[j]=x at hr hg em;obtain ⟨b1,b2,b3,b4,b5⟩:=x;have em:b1<=8:=em;have qt:=Zhg (op:=b1) (rel:=b2) (args:=b3) (body:=b4) (a:=b5);(conv=>whnf);refine ⟨_,oM,hr,wN ?_⟩;refine ZFU (fun g=>wN ?_) (fun g=>absurd (by show (b1:Int)<9;omega) g);refine ⟨pl,b3,M',rfl,rfl,oM,wN ?_⟩;refine Zl ?_;exact ⟨⟨j+1,_,rfl,rfl,oM⟩,hμ⟩
 exact h.elim
def JO:Zn:=fun args σ K=>match args,σ with
 | [.d (.sl rows),.mp 0,.mp 1],⟨[.dmap mv,.dmap mo],[],0⟩=>∃pl l M,rows=Zv pl l/\mv=mvM mvB M/\(XT l/\Zai l<=1099511627776/\M.length+(Vr l).length<=1099511627776)/\K (.ret (.mp 2)) ⟨[.dmap (mvM mvB M),.dmap mo,.dmap (mvM mvB (bindsF l M))],[],0⟩
 | _,_=>False
def Zjc:Zy JO:=fun args σ K K' hK h=>by
 unfold JO at h |-
 split at h
 ·obtain ⟨pl,l,M,h1,h2,h3,h4⟩:=h;exact ⟨pl,l,M,h1,h2,h3,hK _ _ h4⟩
 exact h.elim
def Zzd (l:List Li) (R:Bv) (N0:Nat) (n:Int) (M':Bv):Prop:=n=(M'.length:Nat)/\(∃k,bindsT l k M'=some R)/\unB (Vr l) M'+M'.length<=N0
def Zk0 {l:List Li} {j:Nat} (h:j<l.length) (m:Bv):ZA m (l.take (j+1))=Vn (ZA m (l.take j)) l[j]:=by
 unfold ZA
 rw [List.take_add_one,Ta h,Sr];rfl
def ZrM (m:Bv):(mvM mvB m).length=m.length:=by unfold mvM;exact Td ..
def Zmw:Tbl:=[(24,ZkZ),(25,ZfW 1099511627776),(27,Zol 1099511627776),(28,ZrG),(26,Zja 1099511627776)]
def Zuq (ht:TO w0 nG Zmw):PC w0 nG 16 JO:=by
 refine XN Zx mixed (tbl:=Zmw) ht Tryz.func16 rfl kR kR ?_;intro args σ K h
 unfold JO at h
 split at h
 ·rename_i mo
  obtain ⟨pl,l,M,rfl,rfl,⟨eg,hz,ew⟩,h⟩:=h;have hl:(Zv pl l).length=l.length:=by rw [Zi,Td]
  have hsz:=VO l;have hR:=Vo l M;generalize bindsF l M=R at h hR;have hN:unB (Vr l) M+M.length<=M.length+(Vr l).length:=by have:unB (Vr l) M<=(Vr l).length:=List.countP_le_length;omega
  generalize M.length+(Vr l).length=N0 at hN ew;refine ⟨Zj [
   (3,⟨[8],[0,2,7],fun vs σ=>∃(n:Int) (M':Bv),vs=[.d (.int .i64 n)]/\σ=⟨[.dmap (mvM mvB M),.dmap mo,.dmap (mvM mvB M')],[],0⟩/\unB (Vr l) M'+M'.length<=N0/\-1<=n/\((n<(M'.length:Nat)/\∃k,bindsT l k M'=some R)\/(n=(M'.length:Nat)/\M'=R)),
    fun vs σ=>match vs,σ.bx with | [.d (.int _ n)],[_,_,.dmap m]=>2 * (N0 - m.length)+(if n<(m.length:Nat) then 1 else 0) | _,_=>0⟩),
   (6,⟨[25],[0,2,7,8,23,24],fun vs σ=>∃(n:Int) (M':Bv) (j:Nat),vs=[.d (.sl (Zv pl l)),.mp 1,.mp 2,.d (.int .i64 n),.d (.sl (Zv pl l)),.d (.int .i64 (Zv pl l).length),.d (.int .i64 j)]/\σ=⟨[.dmap (mvM mvB M),.dmap mo,.dmap (mvM mvB (ZA M' (l.take j)))],[],0⟩/\Zzd l R N0 n M'/\j<=l.length,
    fun vs _=>match vs with | [_,_,_,_,_,_,.d (.int _ j)]=>((l.length:Int) - j).toNat | _=>0⟩),
   (11,⟨[47],[0,2,7,8,23,24,25,45,46],fun vs σ=>∃(n:Int) (M' M2:Bv) (j i:Nat) (rel:Bs) (ar:List Ex) (body:List Li) (a:Nat),vs=[.d (.sl (Zv pl l)),.mp 1,.mp 2,.d (.int .i64 n),.d (.sl (Zv pl l)),.d (.int .i64 (Zv pl l).length),.d (.int .i64 j),.d (.sl (Zf pl ar)),.d (.int .i64 (Zf pl ar).length),.d (.int .i64 i)]/\σ=⟨[.dmap (mvM mvB M),.dmap mo,.dmap (mvM mvB M2),.cells 33 ((YN pl (.mk 1 rel ar body a)).map .d)],[],0⟩/\Zzd l R N0 n M'/\l[j]?=some (.mk 1 rel ar body a)/\Uz (ar.drop i) M2=ZA M' (l.take (j+1))/\i<=ar.length,
    fun vs _=>match vs with | [_,_,_,_,_,_,_,_,.d (.int _ n),.d (.int _ j)]=>(n - j).toNat | _=>0⟩),
   (17,⟨[63],[0,2,7,8,10,23,24,25],fun vs σ=>∃(n:Int) (M' M2:Bv) (j i:Nat) (rel:Bs) (a b:Ex) (body:List Li) (at':Nat),vs=[.d (.sl (Zv pl l)),.mp 1,.mp 2,.d (.int .i64 n),.ptr 3 0,.d (.sl (Zv pl l)),.d (.int .i64 (Zv pl l).length),.d (.int .i64 j),.d (.int .i64 i)]/\σ=⟨[.dmap (mvM mvB M),.dmap mo,.dmap (mvM mvB M2),.cells 33 ((YN pl (.mk 3 rel [a,b] body at')).map .d)],[],0⟩/\Zzd l R N0 n M'/\l[j]?=some (.mk 3 rel [a,b] body at')/\((i=0/\Z7 (Z7 M2 a b) b a=ZA M' (l.take (j+1)))\/(i=1/\Z7 M2 b a=ZA M' (l.take (j+1)))\/(i=2/\M2=ZA M' (l.take (j+1)))),
    fun vs _=>match vs with | [_,_,_,_,_,_,_,_,.d (.int _ j)]=>(2 - j).toNat | _=>0⟩)],Xk [],Yh [6,11,17],3,false,sM,Tc rfl,?_⟩
  conv=>whnf
  refine ⟨⟨-1,M,rfl,rfl,hN,oM,.inl ⟨oM,_,hR⟩⟩,?_⟩
  rintro vs σ1 ⟨n0,M0,rfl,rfl,yw,dl,sj⟩
  have hm0:=ZrM M0;(conv=>whnf);refine ZFU (fun hc=>?_) (fun hc=>?_);rotate_left
  ·have hc:¬n0<((mvM mvB M0).length:Nat):=hc;rcases sj with ⟨q,_⟩ | ⟨_,q⟩
   ·omega
   subst q;exact mq48
  have hc:n0<((mvM mvB M0).length:Nat):=hc;obtain ⟨_,k,hk⟩:n0<(M0.length:Nat)/\∃k,bindsT l k M0=some R:=sj.elim id fun q=>oM
  conv=>whnf
  refine ⟨⟨_,M0,0,rfl,rfl,⟨by rw [hm0],⟨k,hk⟩,yw⟩,oM⟩,?_⟩
  rintro vs2 σ2 ⟨n,M',j,be,rfl,⟨hn,⟨k',gk⟩,o5⟩,hj⟩
  have en:n=((mvM mvB M0).length:Nat):=by
   exact mq91
  have be:vs2=[.d (.int .i64 j)]:=congrArg (List.drop 6) be;subst be;subst en;(conv=>whnf);refine ZFU (fun bl=>?_) (fun bl=>?_);rotate_left
  ·have hje:l.length<=j:=by have bl:¬(j:Int)<((Zv pl l).length:Nat):=bl;omega
   rw [List.take_of_length_le hje];have yx:=UU (X:=Vr l) l M' fun t h=>h
   have qb:=ZrM (ZA M' l);have h1:=yx.2.1;have h2:=yx.2.2
   cases k' with
   | zero=>cases gk
   | succ k' =>
   simp only [bindsT] at gk;generalize ZA M' l=M1 at gk qb h1 h2;(conv=>whnf);refine ⟨⟨_,M1,rfl,rfl,oM,oM,?_⟩,?_⟩
   ·split at gk
    ·exact .inl ⟨oM,k',gk⟩
    exact .inr ⟨oM,Option.some.inj gk⟩
   show 2 * (N0 - (mvM mvB M1).length)+(if (((mvM mvB M0).length:Nat):Int)<((mvM mvB M1).length:Nat) then 1 else 0)<2 * (N0 - (mvM mvB M0).length)+(if n0<((mvM mvB M0).length:Nat) then 1 else 0);rw [Tk hc];split <;> omega
  have aa:j<l.length:=by have bl:(j:Int)<((Zv pl l).length:Nat):=bl;omega
  have hr:(Zv pl l)[(j:Int).toNat]?=some (YN pl l[j]):=by rw [Tj,Zi,Th,Ta aa];rfl
  have hg:=Zcx l j aa;have em:=eg _ (TC aa);have hx:l[j]?=some l[j]:=Ta aa;have hb:=Zk0 aa M';have hμ:((l.length:Int) - ((j:Int)+1)).toNat<((l.length:Int) - (j:Int)).toNat:=oM;generalize l[j]=x at hr hg em hx hb;obtain ⟨b1,b2,b3,b4,b5⟩:=x;have em:b1<=8:=em;have qt:=Zhg (op:=b1) (rel:=b2) (args:=b3) (body:=b4) (a:=b5);have ib:(Zf pl b3).length=b3.length:=by rw [Zb,Td]
  have nw:=Y1 b3;rcases (show b1=1\/b1=3\/(b1=0\/b1=2\/b1=4\/b1=5\/b1=6\/b1=7\/b1=8) by omega) with rfl | rfl | ho
  rotate_left 2
  ·rcases ho with rfl | rfl | rfl | rfl | rfl | rfl | rfl
   all_goals
    rw [show Vn (ZA M' (l.take j)) _=ZA M' (l.take j) from rfl] at hb;(conv=>whnf);refine ⟨_,oM,hr,wN ?_⟩;refine Zl ?_;exact ⟨⟨_,M',j+1,rfl,by rw [hb];rfl,⟨hn,⟨k',gk⟩,o5⟩,oM⟩,hμ⟩
  ·
   conv=>whnf
   refine ⟨_,oM,hr,wN ?_⟩;refine ⟨pl,b3,_,rfl,rfl,⟨rfl,oM,oM⟩,fun d hd=>?_⟩;have hd:D.bool (Vm (ZA M' (l.take j)) b3)=d:=hd;obtain ⟨ob,ux⟩:∃ob,Vm (ZA M' (l.take j)) b3=ob:=⟨_,rfl⟩
   rw [ux] at hd;subst hd
   cases ob with
   | true =>
    rw [show Vn (ZA M' (l.take j)) (.mk 1 b2 b3 b4 b5)=ZA M' (l.take j) by show (if Vm (ZA M' (l.take j)) b3=false then Uz b3 (ZA M' (l.take j)) else ZA M' (l.take j))=_;rw [Tf (by rw [ux];simp)]] at hb;(conv=>whnf);refine Zl ?_;exact ⟨⟨_,M',j+1,rfl,by rw [hb];rfl,⟨hn,⟨k',gk⟩,o5⟩,oM⟩,hμ⟩
   | false =>
   rw [show Vn (ZA M' (l.take j)) (.mk 1 b2 b3 b4 b5)=Uz b3 (ZA M' (l.take j)) by show (if Vm (ZA M' (l.take j)) b3=false then Uz b3 (ZA M' (l.take j)) else ZA M' (l.take j))=_;rw [Tk ux]] at hb;(conv=>whnf);refine ⟨⟨_,M',_,j,0,b2,b3,b4,b5,rfl,rfl,⟨hn,⟨k',gk⟩,o5⟩,hx,hb.symm,oM⟩,?_⟩
   rintro vs3 σ3 ⟨n2,M3,M2,j2,i,rel,ar,bd,a,be,rfl,hP,bm,hp,hi⟩
   have en:n2=((mvM mvB M0).length:Nat):=by
    exact mq91
   have ej:j2=j:=by
    have e:=Option.some.inj (congrArg (fun t:List PV=>t[6]?) be);exact mq146
   subst en ej;rw [hx] at bm
   cases bm
   have be:vs3=[.d (.int .i64 i)]:=congrArg (List.drop 9) be;subst be;(conv=>whnf);refine ZFU (fun ec=>?_) (fun ec=>?_);rotate_left
   ·have sq:b3.length<=i:=by have ec:¬(i:Int)<((Zf pl b3).length:Nat):=ec;omega
    rw [Tq sq] at hp;have hp:M2=ZA M3 (l.take (j2+1)):=hp;subst hp;(conv=>whnf);refine Zl ?_;exact ⟨⟨_,M3,j2+1,rfl,rfl,hP,oM⟩,hμ⟩
   have ll:i<b3.length:=by have ec:(i:Int)<((Zf pl b3).length:Nat):=ec;omega
   rw [Zbn ll] at hp;have pj:(Zf pl b3)[(i:Int).toNat]?=some (ZF pl b3[i]):=by rw [Tj,Zb,Th,Ta ll];rfl
   have hg3:=Yv b3 i ll;generalize b3[i]=y at hp pj hg3;obtain ⟨c1,c2,c3,c4,c5⟩:=y;(conv=>whnf);refine ⟨_,oM,pj,wN ?_⟩;refine ⟨pl,.mk c1 c2 c3 c4 c5,M2,rfl,rfl,⟨oM,oM⟩,wN ?_⟩;refine Zl ?_;refine ⟨⟨_,M3,_,j2,i+1,b2,b3,b4,b5,rfl,rfl,hP,hx,hp,oM⟩,?_⟩;exact mq203
  
  match b3,ib,nw,qt,hg,hr,hx,hb with
  | [],ib,nw,qt,hg,hr,hx,hb =>
   exact mq54
  | [c],ib,nw,qt,hg,hr,hx,hb =>
   exact mq54
  | c::d::e::f,ib,nw,qt,hg,hr,hx,hb =>
   exact mq54
  | [.mk c1 c2 c3 c4 c5,.mk d1 d2 d3 d4 d5],ib,nw,qt,hg,hr,hx,hb =>
   have vu:szE (.mk c1 c2 c3 c4 c5)<1099511627776:=by simp only [Zei] at qt;omega
   have hsb:szE (.mk d1 d2 d3 d4 d5)<1099511627776:=by simp only [Zei] at qt;omega
   rw [show Vn (ZA M' (l.take j)) (.mk 3 b2 [.mk c1 c2 c3 c4 c5,.mk d1 d2 d3 d4 d5] b4 b5)=Z7 (Z7 (ZA M' (l.take j)) (.mk c1 c2 c3 c4 c5) (.mk d1 d2 d3 d4 d5)) (.mk d1 d2 d3 d4 d5) (.mk c1 c2 c3 c4 c5) from rfl] at hb;(conv=>whnf);refine ⟨_,oM,hr,wN ?_⟩;refine ⟨⟨_,M',_,j,0,b2,.mk c1 c2 c3 c4 c5,.mk d1 d2 d3 d4 d5,b4,b5,rfl,rfl,⟨hn,⟨k',gk⟩,o5⟩,hx,.inl ⟨rfl,hb.symm⟩⟩,?_⟩
   rintro vs3 σ3 ⟨n2,M3,M2,j2,i,rel,ea,eb,bd,a,be,rfl,hP,bm,hp⟩
   have en:n2=((mvM mvB M0).length:Nat):=by
    exact mq91
   have ej:j2=j:=by
    have e:=Option.some.inj (congrArg (fun t:List PV=>t[7]?) be);exact mq146
   subst en ej;rw [hx] at bm
   cases bm
   have be:vs3=[.d (.int .i64 i)]:=congrArg (List.drop 8) be;subst be;rcases hp with ⟨rfl,hp⟩ | ⟨rfl,hp⟩ | ⟨rfl,hp⟩
   ·have hN1:∀q,Z7 M2 (.mk c1 c2 c3 c4 c5) (.mk d1 d2 d3 d4 d5)=q->Z7 q (.mk d1 d2 d3 d4 d5) (.mk c1 c2 c3 c4 c5)=ZA M3 (l.take (j2+1)):=fun q e=>by rw [<- e];exact hp
    conv=>whnf
    refine X5 ?_;refine ⟨_,dM,rfl,wN ?_⟩;refine ⟨pl,(.mk d1 d2 d3 d4 d5),M2,rfl,rfl,⟨hsb,oM⟩,fun p j9=>?_⟩;have j9:(Zcb M2 (.mk d1 d2 d3 d4 d5)).isNone=p:=j9
    cases p with
    | false =>
     have e1:Z7 M2 (.mk c1 c2 c3 c4 c5) (.mk d1 d2 d3 d4 d5)=M2:=by unfold Z7;rw [Tf (fun q=>by rw [j9] at q;cases q.1)]
     conv=>whnf
     exact mq58
    | true =>
    conv=>whnf
    refine ⟨_,dM,rfl,wN ?_⟩;refine ⟨pl,(.mk c1 c2 c3 c4 c5),M2,rfl,rfl,⟨vu,oM⟩,fun p pn=>?_⟩;have pn:Zbm M2 (.mk c1 c2 c3 c4 c5)=p:=pn
    cases p with
    | true =>
     have e1:Z7 M2 (.mk c1 c2 c3 c4 c5) (.mk d1 d2 d3 d4 d5)=M2:=by unfold Z7;rw [Tf (fun q=>by rw [pn] at q;cases q.2)]
     conv=>whnf
     exact mq58
    | false =>
    have e1:Z7 M2 (.mk c1 c2 c3 c4 c5) (.mk d1 d2 d3 d4 d5)=Zjx (.mk c1 c2 c3 c4 c5) M2:=by unfold Z7;rw [Tk ⟨j9,pn⟩]
    conv=>whnf
    refine ⟨_,dM,rfl,wN ?_⟩;refine ⟨pl,(.mk c1 c2 c3 c4 c5),M2,rfl,rfl,⟨vu,oM⟩,wN ?_⟩;exact mq58
   ·have hN1:∀q,Z7 M2 (.mk d1 d2 d3 d4 d5) (.mk c1 c2 c3 c4 c5)=q->q=ZA M3 (l.take (j2+1)):=fun q e=>by rw [<- e];exact hp
    conv=>whnf
    refine X5 ?_;refine ⟨_,dM,rfl,wN ?_⟩;refine ⟨pl,(.mk c1 c2 c3 c4 c5),M2,rfl,rfl,⟨vu,oM⟩,fun p j9=>?_⟩;have j9:(Zcb M2 (.mk c1 c2 c3 c4 c5)).isNone=p:=j9
    cases p with
    | false =>
     have e1:Z7 M2 (.mk d1 d2 d3 d4 d5) (.mk c1 c2 c3 c4 c5)=M2:=by unfold Z7;rw [Tf (fun q=>by rw [j9] at q;cases q.1)]
     conv=>whnf
     exact mq57
    | true =>
    conv=>whnf
    refine ⟨_,dM,rfl,wN ?_⟩;refine ⟨pl,(.mk d1 d2 d3 d4 d5),M2,rfl,rfl,⟨hsb,oM⟩,fun p pn=>?_⟩;have pn:Zbm M2 (.mk d1 d2 d3 d4 d5)=p:=pn
    cases p with
    | true =>
     have e1:Z7 M2 (.mk d1 d2 d3 d4 d5) (.mk c1 c2 c3 c4 c5)=M2:=by unfold Z7;rw [Tf (fun q=>by rw [pn] at q;cases q.2)]
     conv=>whnf
     exact mq57
    | false =>
    have e1:Z7 M2 (.mk d1 d2 d3 d4 d5) (.mk c1 c2 c3 c4 c5)=Zjx (.mk d1 d2 d3 d4 d5) M2:=by unfold Z7;rw [Tk ⟨j9,pn⟩]
    conv=>whnf
    refine ⟨_,dM,rfl,wN ?_⟩;refine ⟨pl,(.mk d1 d2 d3 d4 d5),M2,rfl,rfl,⟨hsb,oM⟩,wN ?_⟩;exact mq57
   subst hp;(conv=>whnf);refine Zl ?_;exact ⟨⟨_,M3,j2+1,rfl,rfl,hP,oM⟩,hμ⟩
 exact h.elim
def Zd5:Zn:=fun args σ K=>match args,σ with
 | [.mp 0,.d (.sl rows),.mp 1],⟨[.dmap mv,.dmap mo],[],0⟩=>∃pl l M,rows=Zv pl l/\mv=mvM mvB M/\(XT l/\Zai l<=1099511627776)/\(VX M l=none->K (.ret (.tuple [])) ⟨[.dmap (mvM mvB M),.dmap mo],[],0⟩) /\
   ∀x,VX M l=some x->K (.panic (.iface 79 (.agg [.d (.int .i64 (pl (atX x)))]))) ⟨[.dmap (mvM mvB M),.dmap mo],[],0⟩
 | _,_=>False
def Zjd:Zy Zd5:=fun args σ K K' hK h=>by
 unfold Zd5 at h |-
 exact mq130
def Zmx:Tbl:=[(53,Zom 1099511627776),(54,Zon 1099511627776),(33,Zb0)]
def Zur (ht:TO w0 nG Zmx):PC w0 nG 34 Zd5:=by
 refine XN Zx mixed (tbl:=Zmx) ht Tryz.func34 rfl kR kR ?_;intro args σ K h
 unfold Zd5 at h
 split at h
 ·rename_i mo
  obtain ⟨pl,l,M,rfl,rfl,⟨eg,hz⟩,h1,h2⟩:=h;have hl:(Zv pl l).length=l.length:=by rw [Zi,Td]
  have hsz:=VO l;refine ⟨Zj [(1,⟨[14],[0,2,12,13],fun vs σ=>∃j:Nat,vs=[.d (.int .i64 j)]/\σ=⟨[.dmap (mvM mvB M),.dmap mo],[],0⟩/\j<=l.length/\VX M l=VX M (l.drop j),
    mu1 l.length⟩),
   (7,⟨[36],[0,2,12,13,14,34,35],fun vs σ=>∃(j i:Nat) (rel:Bs) (ar:List Ex) (body:List Li) (a:Nat),vs=[.mp 0,.mp 1,.d (.sl (Zv pl l)),.d (.int .i64 (Zv pl l).length),.d (.int .i64 j),.d (.sl (Zf pl ar)),.d (.int .i64 (Zf pl ar).length),.d (.int .i64 i)]/\σ=⟨[.dmap (mvM mvB M),.dmap mo,.cells 33 ((YN pl (.mk 1 rel ar body a)).map .d)],[],0⟩/\l[j]?=some (.mk 1 rel ar body a)/\i<=ar.length/\VX M l=(match Zg5 M (ar.drop i) with | some x=>some x | none=>VX M (l.drop (j+1))),
    fun vs _=>match vs with | [_,_,_,_,_,_,.d (.int _ n),.d (.int _ i)]=>(n - i).toNat | _=>0⟩),
   (13,⟨[51],[0,2,12,13,14,49,50],fun vs σ=>∃(j i:Nat) (rel:Bs) (ar:List Ex) (body:List Li) (a:Nat),vs=[.mp 0,.mp 1,.d (.sl (Zv pl l)),.d (.int .i64 (Zv pl l).length),.d (.int .i64 j),.d (.sl (Zf pl ar)),.d (.int .i64 (Zf pl ar).length),.d (.int .i64 i)]/\σ=⟨[.dmap (mvM mvB M),.dmap mo,.cells 33 ((YN pl (.mk 2 rel ar body a)).map .d)],[],0⟩/\l[j]?=some (.mk 2 rel ar body a)/\i<=ar.length/\VX M l=(match Zg6 M (ar.drop i) with | some x=>some x | none=>VX M (l.drop (j+1))),
    fun vs _=>match vs with | [_,_,_,_,_,_,.d (.int _ n),.d (.int _ i)]=>(n - i).toNat | _=>0⟩)],Xk [],Yh [7,13],2,false,sM,Tc rfl,?_⟩
  conv=>whnf
  refine ⟨⟨0,rfl,rfl,oM,rfl⟩,?_⟩
  rintro vs σ1 ⟨j,rfl,rfl,hj,ha⟩
  conv=>whnf
  refine ZFU (fun hc=>?_) (fun hc=>?_);rotate_left
  ·have dl:l.length<=j:=by have hc:¬(j:Int)<((Zv pl l).length:Nat):=hc;omega
   rw [Tq dl] at ha;have h1:=h1 ha;(conv=>whnf);exact h1
  have aa:j<l.length:=by have hc:(j:Int)<((Zv pl l).length:Nat):=hc;omega
  have hr:(Zv pl l)[(j:Int).toNat]?=some (YN pl l[j]):=by rw [Tj,Zi,Th,Ta aa];rfl
  have hg:=Zcx l j aa;have em:=eg _ (TC aa);have hx:l[j]?=some l[j]:=Ta aa;have hd:=ZkT (m:=M) aa;have hμ:((l.length:Int) - ((j:Int)+1)).toNat<((l.length:Int) - (j:Int)).toNat:=oM;generalize l[j]=x at hr hg em hx hd;rw [hd] at ha;obtain ⟨b1,b2,b3,b4,b5⟩:=x;have em:b1<=8:=em;have qt:=Zhg (op:=b1) (rel:=b2) (args:=b3) (body:=b4) (a:=b5);have ib:(Zf pl b3).length=b3.length:=by rw [Zb,Td]
  have nw:=Y1 b3;rcases (show b1=1\/b1=2\/(b1=0\/b1=3\/b1=4\/b1=5\/b1=6\/b1=7\/b1=8) by omega) with rfl | rfl | ho
  ·rw [show Zrr M (.mk 1 b2 b3 b4 b5)=Zg5 M b3 from rfl] at ha;(conv=>whnf);refine ⟨_,oM,hr,wN ?_⟩;refine ⟨⟨j,0,b2,b3,b4,b5,rfl,rfl,hx,oM,ha⟩,?_⟩
   rintro vs3 σ3 ⟨j2,i,rel,ar,bd,a,be,rfl,bm,hi,eu⟩
   have ej:j2=j:=by
    have e:=Option.some.inj (congrArg (fun t:List PV=>t[4]?) be);exact mq146
   subst ej;rw [hx] at bm
   cases bm
   have be:vs3=[.d (.int .i64 i)]:=congrArg (List.drop 7) be;subst be;rw [eu] at h1 h2;(conv=>whnf);refine ZFU (fun ec=>?_) (fun ec=>?_);rotate_left
   ·exact mq115
   have ll:i<b3.length:=by have ec:(i:Int)<((Zf pl b3).length:Nat):=ec;omega
   have nv:=ZfO (m:=M) ll;exact mq37
  ·rw [show Zrr M (.mk 2 b2 b3 b4 b5)=Zg6 M b3 from rfl] at ha;(conv=>whnf);refine ⟨_,oM,hr,wN ?_⟩;refine ⟨⟨j,0,b2,b3,b4,b5,rfl,rfl,hx,oM,ha⟩,?_⟩
   rintro vs3 σ3 ⟨j2,i,rel,ar,bd,a,be,rfl,bm,hi,eu⟩
   have ej:j2=j:=by
    have e:=Option.some.inj (congrArg (fun t:List PV=>t[4]?) be);exact mq146
   subst ej;rw [hx] at bm
   cases bm
   have be:vs3=[.d (.int .i64 i)]:=congrArg (List.drop 7) be;subst be;rw [eu] at h1 h2;(conv=>whnf);refine ZFU (fun ec=>?_) (fun ec=>?_);rotate_left
   ·exact mq115
   have ll:i<b3.length:=by have ec:(i:Int)<((Zf pl b3).length:Nat):=ec;omega
   have nv:=Zbo (m:=M) ll;exact mq37
  rcases ho with rfl | rfl | rfl | rfl | rfl | rfl | rfl
  all_goals
   rw [show Zrr M _=Uy M b3 from rfl] at ha;rw [ha] at h1 h2;(conv=>whnf);refine ⟨_,oM,hr,wN ?_⟩;refine ⟨pl,b3,M,rfl,rfl,oM,fun hy=>wN ?_,fun z hy=>wN ?_⟩
   ·rw [hy] at ha;exact mq49
   rw [hy] at h2;have h2:=h2 z rfl;exact h2
 exact h.elim
def Zcy:Zn:=fun args σ K=>match args,σ with
 | [],⟨[],[],0⟩=>K (.ret (.d (.bool true))) ⟨[],[],0⟩
 | _,_=>False
def Zus:PC w0 nG 86 ZfA:=ZyH ⟨Zl8,trivial⟩
def Zvt:PC w0 nG 85 Zaq:=ZqU ⟨Zl8,trivial⟩
def Zb1:PC w0 nG 140 VM:=ZqV ⟨Zus,trivial⟩
def Zvu:PC w0 nG 84 ZdO:=ZtU ⟨ZtS ⟨ZtQ ⟨ZtO ⟨Zvt,trivial⟩,trivial⟩,trivial⟩,trivial⟩
def ZFR:PC w0 nG 50 Zt1:=ZBT ⟨Zt0 ⟨ZtY ⟨ZtW ⟨Zvu,trivial⟩,trivial⟩,trivial⟩,Zvu,Zvt,Zus,trivial⟩
def Zze:PC w0 nG 49 Zcr:=Zq0 ⟨ZkF ⟨ZkD,trivial⟩,ZkI ⟨ZkG,trivial⟩,trivial⟩
def ZCj:PC w0 nG 149 ZgW:=ZqW ⟨Zus,trivial⟩
def Zzf:PC w0 nG 206 Zar:=Zn7 ⟨Zb1,trivial⟩
def ZEh:PC w0 nG 208 Zq2:=ZBW ⟨Zb1,trivial⟩
def Zzg:PC w0 nG 207 ZkL:=ZBX
def Zmy:PC w0 nG 141 ZdS:=Zt5 ⟨Zzf,Zzg,trivial⟩
def Zmz:PC w0 nG 142 ZdT:=Zt7 ⟨ZEh,trivial⟩
def kGv:∀m,PC w0 nG 88 (ZyL m)
 | 0=>ZBY ⟨ZC (Ze Tryz.func88 kR rfl),Zmy,trivial⟩
 | m+1=>ZBY ⟨ZD (sp:=ZyL) (kGv m),Zmy,trivial⟩
def kRt:∀m,PC w0 nG 143 (ZyM m)
 | 0=>Zvf ⟨ZC (Ze Tryz.func143 kR rfl),ZEh,Zmy,Zzg,trivial⟩
 | m+1=>Zvf ⟨ZD (sp:=ZyM) (kRt m),ZEh,Zmy,Zzg,trivial⟩
def ZEi (m:Nat):PC w0 nG 87 (Zq4 m):=ZB0 ⟨kGv m,Zb1,trivial⟩
def ZFS (m:Nat):PC w0 nG 87 (Zub m):=ZB3 ⟨kRt m,Zb1,trivial⟩
def ZCk:∀m,PC w0 nG 89 (ZfJ m)
 | 0=>Zq7 ⟨ZC (Ze Tryz.func89 kR rfl),kGv 0,ZEi 0,Zmz,trivial⟩
 | m+1=>Zq7 ⟨ZD (sp:=ZfJ) (ZCk m),kGv _,ZEi _,Zmz,trivial⟩
def Zzh (m:Nat):PC w0 nG 91 (ZfK m):=ZyP ⟨ZFS m,trivial⟩
def ZCl:∀m,PC w0 nG 92 (ZdV m)
 | 0=>Zre ⟨ZC (Ze Tryz.func92 kR rfl),kRt 0,Zzh 0,Zmz,trivial⟩
 | m+1=>Zre ⟨ZD (sp:=ZdV) (ZCl m),kRt _,Zzh _,Zmz,trivial⟩
def kH1:PC w0 nG 145 ZC0:=ZD7
def kH2:PC w0 nG 146 ZC1:=ZEb ⟨Zus,ZyV ⟨ZyT ⟨ZyR ⟨ZCj,trivial⟩,trivial⟩,trivial⟩,trivial⟩
def ZFd:∀m,PC w0 nG 144 (Zoc m)
 | 0=>Zvj ⟨ZC (Ze Tryz.func144 kR rfl),kH1,Zb1,Zzg,trivial⟩
 | m+1=>Zvj ⟨ZD (sp:=Zoc) (ZFd m),kH1,Zb1,Zzg,trivial⟩
def ZFe:∀m,PC w0 nG 144 (Zod m)
 | 0=>Zvk ⟨ZC (Ze Tryz.func144 kR rfl),kH2,Zb1,Zzg,trivial⟩
 | m+1=>Zvk ⟨ZD (sp:=Zod) (ZFe m),kH2,Zb1,Zzg,trivial⟩
def ZCm (m:Nat):PC w0 nG 93 (ZdW m):=Zug ⟨Zrk (ZFd m) (ZFe m),trivial⟩
def Zzi (m:Nat):PC w0 nG 52 (Zcw m):=Zrl ⟨Zzh m,ZCl m,ZCm m,trivial⟩
def Zzj (m:Nat):PC w0 nG 51 (Zct m):=Zrc ⟨ZEi m,ZCk m,trivial⟩
def ZCn {n:Nat} (hp:PC w0 nG 48 (Zn2 XQ Zez Zfx n)):PC w0 nG 17 (Zg4 n):=Zui ⟨Zy2 ⟨hp,Zze,ZFR,Zzj _,Zzi _,trivial⟩,trivial⟩
mutual
def ZCo:∀e:Ex,(nvE e).length<=szE e
 | .mk op t n args a=>by
  have:=Zk1 args;simp only [nvE,szE];split
  ·simp only [Te,Tg];omega
  omega
def Zk1:∀l:List Ex,(Zjw l).length<=Zei l
 | []=>Tu _
 | e::l=>by
  have h1:=ZCo e;have h2:=Zk1 l;simp only [Zjw,Zei,Tb];omega
end
mutual
def ZCp:∀x:Li,(nvL x).length<=szL x
 | .mk op rel args body a=>by
  have h1:=Zk1 args;have h2:=Zbs body;simp only [nvL,szL,Tb];rw [<- Xu];omega
def Zbs:∀l:List Li,(Vr l).length<=Zai l
 | []=>Tu _
 | x::l=>by
  have h1:=ZCp x;have h2:=Zbs l;simp only [Vr,Zai,Tb];omega
end
def recOfG:Nat×Nat×Code:=match ZzM (YP Tryz.f32) with | some x=>x | none=>(0,0,.skip)
def Zzk:List PV->St->(St->Prop)->Prop:=fun args σ K=>args.length<=Tryz.f32.ntmps/\W (ctx Vq [] (Zj [])) recOfG.2.2 (ZsS Vq Tryz.f32 σ.bx.length K) (WY (WY (Zb3 0 args) recOfG.1 (.d .nili)) recOfG.2.1 (.d .nili)) σ
def Zzl:PV->List PV->St->(St->Prop)->Prop:=fun pv args σ K=>args.length<=Tryz.f32.ntmps/\W (ctx Vq [] (Zj [])) recOfG.2.2 (ZsS Vq Tryz.f32 σ.bx.length K) (WY (WY (Zb3 0 args) recOfG.1 pv) recOfG.2.1 pv) σ
def Zzm:PDef (GG w0 nG) 32 Zzk Zzl :=
 Zkc (a:=recOfG.1) (b:=recOfG.2.1) (rest:=recOfG.2.2) Zx mixed Tryz.func32 rfl kR rfl kR (fun args σ K h=>⟨Zoy Vq [] (Zj []) (fun _=>0) (fun _=>false),σ.bx.length,CxG.of (tbl:=[]) Zx trivial trivial _ _ _,Tu _,h.1,h.2⟩) (fun pv args σ K h=>⟨Zoy Vq [] (Zj []) (fun _=>0) (fun _=>false),σ.bx.length,CxG.of (tbl:=[]) Zx trivial trivial _ _ _,Tu _,h.1,h.2⟩)
def ZEj (pl:Pl):Option Ex->PV
 | some x=>.tuple [.d (.int .i64 (pl (atX x))),.d (.int .i64 190)]
 | none=>.tuple [.d (.int .i64 0),.d (.int .i64 0)]
def Zhh:Zn:=fun args σ K=>match args,σ with
 | [.agg c],⟨[],[],0⟩=>∃pl r,c=(ZW pl r).map .d/\(XT r.body/\ZhE r<=1099511627776)/\∀o,ZC4 r=o->K (.ret (ZEj pl o)) ⟨[],[],0⟩
 | _,_=>False
def ZmA:Tbl:=[(20,Zbp),(13,Zbr),(16,JO),(33,Zb0),(34,Zd5)]
def Zut (ht:TO w0 nG ZmA):PC w0 nG 18 Zhh:=by
 refine Zco Zx mixed Tryz.func18 rfl kR kR Zzm ?_;intro args σ K h
 unfold Zhh at h
 split at h
 ·obtain ⟨pl,⟨r1,r2,r3,r4⟩,rfl,⟨eg,hz⟩,h⟩:=h;have cd:Zei r2<=1099511627776/\Zai r3<=1099511627776:=by
   simp only [ZhE] at hz;rw [<- Xu,<- Wu] at hz;omega
  have hnv:=Zbs r3;unfold ZC4 at h
  simp only at h eg;refine ⟨Zoy Vq ZmA (Zj []) (Xk []) (Yh []),0,false,CxG.of Zx ht ⟨Zi9,Zjb,Zjc,ZkY,Zjd,trivial⟩ _ _ _,sM,Tc rfl,wN ?_⟩;refine ⟨pl,r2,[],rfl,rfl,cd.1,wN ?_⟩;refine ⟨pl,r3,_,rfl,rfl,⟨eg,cd.2⟩,fun M'=>wN ?_⟩;refine ⟨pl,r3,[],rfl,rfl,⟨eg,cd.2,by simp only [Tg];omega⟩,wN ?_⟩;refine ⟨pl,r2,_,rfl,rfl,cd.1,fun ho=>wN ?_,fun x ho=>wN ?_⟩
  ·rw [ho] at h;refine ⟨pl,r3,_,rfl,rfl,⟨eg,cd.2⟩,fun hb=>wN ?_,fun x hb=>wN ?_⟩
   ·have h:=h none hb;refine ⟨Tc rfl,wN ?_⟩;exact h
   have h:=h (some x) hb;refine ⟨Tc rfl,wN ?_⟩;exact h
  rw [ho] at h;have h:=h (some x) rfl;refine ⟨Tc rfl,wN ?_⟩;exact h
 exact h.elim
def Zoo {l:List Ru} {j:Nat} (h:j<l.length):Zof (l.drop j)=match ZC4 l[j] with | some x=>some x | none=>Zof (l.drop (j+1)):=by
 rw [Tm h];rfl
def Zcz (n:Nat):Zn:=fun args σ K=>match args,σ with
 | [.agg c],⟨[],[],0⟩=>∃pl p,c=(ZqR pl p).map .d/\(Zez n (prU p)/\n<=16777216/\Zn4 p<=2097152)/\(∀r∈p.rules,XT r.body)/\∀a e,Zog pl p=(a,e)->K (.ret (.tuple [.d (.int .i64 a),.d (.int .i64 e)])) ⟨[],[],0⟩
 | _,_=>False
def ZrO {n:Nat}:OKw w0 nG [(17,Zg4 n),(18,Zhh)] 11 (Zcz n):=by
 refine pwo Tryz.func11 fun args σ K h=>?_
 unfold Zcz at h
 split at h
 ·obtain ⟨pl,⟨p1,p2,p3⟩,rfl,⟨hc,hn,hz⟩,eg,h⟩:=h;have ib:(p3.map (ZW pl)).length=p3.length:=Td ..;have pn:p3.length<=2097152:=by have:=Zq ZhE p3;simp only [Zn4] at hz;omega
  have qs:∀r∈p3,ZhE r<=2097152:=fun r hr=>by have:=Zbf (f:=ZhE) hr;simp only [Zn4] at hz;omega
  unfold Zog at h
  simp only at eg h;refine pwu [(5,⟨[22],[20,21],fun vs σ=>∃j:Nat,vs=[.d (.int .i64 j)]/\σ=⟨[.cells 44 ((ZqR pl ⟨p1,p2,p3⟩).map .d)],[],0⟩/\j<=p3.length/\(Zt3 pl ⟨p1,p2,p3⟩).2=0/\Zof p3=Zof (p3.drop j),
   mu1 p3.length⟩)] 0 false ?_
  conv=>whnf
  refine ⟨pl,⟨p1,p2,p3⟩,rfl,⟨hc,hn,hz⟩,fun a e hae=>wN ?_⟩;refine ZFX (fun he=>wN ?_) (fun he=>wN ?_)
  ·rw [hae,Tk (show (a,e).2≠0 from he)] at h;have h:=h a e rfl;exact h
  have he:e=0:=he;have hk:(Zt3 pl ⟨p1,p2,p3⟩).2=0:=by rw [hae];exact he
  rw [Tf (fun g=>g hk)] at h;refine ⟨⟨0,rfl,rfl,oM,hk,rfl⟩,?_⟩
  rintro vs σ1 ⟨j,rfl,rfl,hj,_,ha⟩
  rw [ha] at h;(conv=>whnf);refine ZFU (fun hq=>?_) (fun hq=>?_);rotate_left
  ·have dl:p3.length<=j:=by have hq:¬(j:Int)<((p3.map (ZW pl)).length:Nat):=hq;omega
   rw [Tq dl] at h;have h:=h 0 0 rfl;exact mq48
  have aa:j<p3.length:=by have hq:(j:Int)<((p3.map (ZW pl)).length:Nat):=hq;omega
  have hr:(p3.map (ZW pl))[(j:Int).toNat]?=some (ZW pl p3[j]):=by rw [Tj,Th,Ta aa];rfl
  have co:=TC aa;have jj:=qs _ co;have yy:=eg _ co;have hd:=Zoo aa;have hμ:((p3.length:Int) - ((j:Int)+1)).toNat<((p3.length:Int) - (j:Int)).toNat:=oM;generalize p3[j]=r at hr jj yy hd;rw [hd] at h ha;obtain ⟨r1,r2,r3,r4⟩:=r;(conv=>whnf);refine ⟨_,oM,hr,wN ?_⟩;refine ⟨pl,⟨r1,r2,r3,r4⟩,rfl,⟨yy,oM⟩,fun o ho=>?_⟩;rw [ho] at h ha
  cases o with
  | none =>
   conv=>whnf
   refine Zl ?_;exact ⟨⟨j+1,rfl,rfl,oM,hk,ha⟩,hμ⟩
  | some x =>
  have h:=h _ _ rfl;exact mq48
 exact h.elim
def Zvv:PC w0 nG 16 JO:=Zuq ⟨Zuo,ZEg _,ZFa _,ZrL,Zzb _,trivial⟩
def ZEk:PC w0 nG 18 Zhh:=Zut ⟨Zmt,Zmv,Zvv,Zbq,Zur ⟨ZFb _,ZFc _,Zbq,trivial⟩,trivial⟩
def Zzn {n:Nat} (hp:PC w0 nG 48 (Zn2 XQ Zez Zfx n)):PC w0 nG 11 (Zcz n):=ZrO ⟨ZCn hp,ZEk,trivial⟩
end Go.PM.Lex
end

section
namespace Go.PM
def Zop {G:GE} {g:FuncId} {sp:Zn} (gu:Wi G.P g)
  (h:∀args σ K,sp args σ K->∀(e:Env) (w:World) (vs:Array Value),SRel G e σ w->ArgsRel G e σ w args vs->Calls G.P g vs w fun en w'=>∃pv v,en=.returned v/\K (.ret pv) σ/\Grows w w'/\VRel G e σ w' pv v):PCalls G g sp where
 enters:=gu
 calls:=fun args σ K hs n e w vs hS ha=>by
  refine CallsIn.mono (callsIn_wide.2 (h args σ K hs e w vs hS ha)) fun en w' ⟨pv,v,he,hK,hg,hv⟩=>?_
  subst he;exact ⟨.ret pv,σ,e,hK,⟨v,rfl,hv⟩,hS.grow hg,(hg.stepped e σ).toLater⟩
def Zzo {G:GE} {e:Env} {bx:List Box} {w:World} {k b off:Nat} (hS:SRel G e ⟨bx,[],k⟩ w) (hb:w.heap.size<=b):okc e ⟨bx,[],k⟩ b off:=by
 refine ⟨fun h=>?_,fun i hi h=>?_,fun t ht=>(by cases ht),fun q hq=>?_⟩
 ·have:=hS.xlt _ _ h;omega
 ·have:=hS.lt hi;omega
 have:=(hS.hid _ _ hq).2.1;omega
end Go.PM
namespace Go.PM.Lex
open Go.Proofs Go.RowKit Go.Maps Go.Sort
variable {w0:World} {nG:Nat}
abbrev YV (l:List Bs):List (List D):=l.map fun s=>[.str s]
def ZmB:∀{m:List (Bs×MV)} {i:Nat} {k:Bs},(ZaF m)[2 * i]?=some (.d (.str k))->(m.map (·.1))[i]?=some k
 | [],i,k,h=>by simp [ZaF] at h
 | (x,v)::m,0,k,h=>by simp [ZaF] at h;simp [h]
 | (x,v)::m,i+1,k,h=>by
  rw [show 2 * (i+1)=2 * i+2 by omega] at h;have:=ZmB (m:=m) (i:=i) (k:=k) (by simpa [ZaF] using h);simpa using this
def ZrP {G:GE} {e:Env} {σ:St} {w:World} {m:List (Bs×MV)} {b:Nat} {P:Program} {k:TypeId} (hk:P.underlying k=some .string) (hB:BRel G e σ w (.dmap m) b) (hn:(m.map (·.1)).Nodup) (hl:m.length<=1073741824) (hx:∀x∈m.map (·.1),x.length<=1073741824) :
  ∃D0:DataW Unit,w.ownsMap P k (fun _=>some (.nil,[])) b m.length D0/\(strKeys D0).Perm (m.map (·.1))/\Maps.size D0=m.length:=by
 obtain ⟨bn,ck,⟨m9,fb⟩,es,h1,h2,h3,h4⟩:=hB;rw [Zf6] at h3;have hlen:es.toList.length=m.length:=sO;have qg:es.size<=1073741824:=oM;have hb:es.toList.map (·.born)=bn:=List.ext_getElem? fun i=>by
  rw [Th,Tw]
  cases hu:es[i]? with
  | none=>exact (Sd (by have:=Array.getElem?_eq_none_iff.1 hu;omega)).symm
  | some u=>exact (h4 i u hu).1.symm
 have uy:es.toList.map (·.key)=(m.map (·.1)).map fun s=>Value.string ⟨s.toArray⟩:=List.ext_getElem? fun i=>by
  rw [Th,Tw]
  cases hu:es[i]? with
  | none=>exact (Sd (by have:=Array.getElem?_eq_none_iff.1 hu;simp;omega)).symm
  | some u =>
  obtain ⟨_,kk,x,g1,_,g3,_⟩:=h4 i u hu;rw [Th,ZmB g1];simp [g3]
 have acp:∀s:Bs,s∈m.map (·.1)->Go.keyOf P k (.string ⟨s.toArray⟩)=some (.string s):=fun s hs=>by
  have:=hx s hs;have hm:s.length<=maxLen:=TT this dM;simp [Go.keyOf,hk,mapKey,ByteArray.size,hm]
 have co:∀u∈es.toList,∃s,s∈m.map (·.1)/\u.key=.string ⟨s.toArray⟩:=fun u hu=>by
  have:u.key∈es.toList.map (·.key):=List.mem_map_of_mem hu
  rw [uy] at this;obtain ⟨s,h,g⟩:=Sl.1 this;exact ⟨s,h,g.symm⟩
 have xm:∀u∈es.toList,∀s,s∈m.map (·.1)->u.key=.string ⟨s.toArray⟩->WideElems.rd (H:=Unit) P k (fun _=>some (.nil,[])) u=some (.string s,.nil):=fun u hu s hs g=>by
  unfold WideElems.rd
  rw [g,acp s hs];rfl
 have yz:(es.toList.map (WideElems.rg (H:=Unit) P k fun _=>some (.nil,[]))).map (fun p=>strOf p.1)=m.map (·.1):=by
  have q:(es.toList.map (WideElems.rg (H:=Unit) P k fun _=>some (.nil,[]))).map (fun p=>(Value.string ⟨(strOf p.1).toArray⟩))=es.toList.map (·.key):=by
   rw [SN];refine Su fun u hu=>?_
   obtain ⟨s,hs,g⟩:=co u hu;simp only [Function.comp,WideElems.rg,xm u hu s hs g,Sp,strOf,g]
  rw [uy] at q;have q2:=congrArg (List.map fun v:Value=>match v with | .string s=>s.data.toList | _=>[]) q;simpa [SN,Function.comp_def] using q2
 refine ⟨_,⟨es,ck,h1,⟨TT qg dM,⟨fun x hx=>?_,?_,?_⟩,fun x hx=>?_⟩,oM,rfl⟩,?_,?_⟩
 ·exact fb _ (hb ▸ List.mem_map_of_mem hx)
 ·rw [hb];exact m9
 ·rw [uy];exact List.Pairwise.map _ (fun a b g e=>g (by simpa using e)) hn
 ·obtain ⟨s,hs,g⟩:=co x hx;exact ⟨_,xm x hx s hs g⟩
 ·have:=(WideShapes.sorted_perm (es.toList.map (WideElems.rg (H:=Unit) P k fun _=>some (.nil,[])))).map fun p=>strOf p.1
  rw [yz] at this;exact this
 show (List.foldr DataW.insert [] _).length=_;rw [(WideShapes.sorted_perm _).length_eq,Td,hlen]
def ZrQ {G:GE} {e:Env} {bx:List Box} {w w':World} {k base el:Nat} {v:Value} {l:List Bs} (hS:SRel G e ⟨bx,[],k⟩ w) (hb:w.heap.size<=base) (h:w'.ownsRow base el 1 v l.length (l.map encStr)):DRel (okc e ⟨bx,[],k⟩) w' (.sl (YV l)) v:=by
 obtain ⟨_,⟨rfl,h0⟩ | ⟨g,cap,cur,rfl,h1,h2,h3,_,h5,h6⟩⟩:=h
 ·rw [Sy.1 h0];exact .slnil
 have hl:(YV l).length=l.length:=Td ..;rw [<- hl];refine .sl (YV l) g 0 cap 1 (fun i _=>encStr (l.getD i [])) (by rw [hl];exact h3) (fun r hr=>?_) (fun i j hi hj=>?_) (fun i j _ _=>Zzo hS oM) fun i j x hx=>?_
 ·obtain ⟨s,_,rfl⟩:=Sl.1 hr;rfl
 ·obtain rfl:j=0:=by omega
  rw [hl] at hi;have q:=congrArg (fun t=>t[i]?) h6;simp only [Nat.mul_one,SG,Tk hi,Tw,Th,Ta hi,Sc] at q;simp [World.cell?,h2,q,T2,Ta hi]
 rw [Th] at hx
 cases hi:l[i]? with
 | none=>rw [hi] at hx;cases hx
 | some s =>
 rw [hi] at hx
 match j,hx with
 | 0,hx =>
  simp at hx;subst hx;show DRel _ _ _ (encStr (l.getD i []));rw [T2,hi];exact .str s
 | j+1,hx=>simp at hx
end Go.PM.Lex
end

section
namespace Go.PM.Lex
open Go.Proofs Go.RowKit Go.Maps Go.Sort
variable {w0:World} {nG:Nat}
def Zk2:Zn:=fun args σ K=>match args,σ with
 | [.mp 0],⟨[.dmap m],[],0⟩=>K (.ret (.func 23 [] [.ptr 1 0])) ⟨[.dmap m,.cells 47 [.mp 0]],[],0⟩
 | _,_=>False
def Zuu:PC w0 nG 15 Zk2:=by
 refine pwe Tryz.func15 fun args σ K h=>?_
 unfold Zk2 at h
 split at h
 ·refine pwv [] 2 false ?_;exact h
 exact h.elim
def Zd6:Zn:=fun args σ K=>match args,σ with
 | [.func f [] [.ptr 0 0]],⟨[.cells t [.mp 1],.dmap m],[],0⟩=>(f=23/\(m.map (·.1)).Nodup/\m.length<=1073741824/\∀x∈m.map (·.1),x.length<=1073741824) /\
   ∀l:List Bs,l.Perm (m.map (·.1))->K (.ret (.d (.sl (YV l)))) ⟨[.cells t [.mp 1],.dmap m],[],0⟩
 | _,_=>False
def Zoq:PC w0 nG 14 Zd6:=Zop (Ze Tryz.func14 kR rfl) fun args σ K h e w vs hS ha=>by
 unfold Zd6 at h
 split at h
 ·rename_i f t m
  obtain ⟨⟨rfl,hn,hl,hx⟩,h⟩:=h;obtain ⟨u,rfl,hu⟩:=Zer ha
  cases hu with
  | func _ _ _ va vc hva zj _ h2 =>
  obtain ⟨va⟩:=va;obtain rfl:va=[]:=Sy.1 hva;obtain ⟨vc⟩:=vc
  match vc,zj with
  | [pv],_ =>
  have hp:=h2 0 _ pv rfl rfl
  cases hp with
  | ptr _ _ ei =>
  obtain ⟨cs,g1,g2,g3⟩:=hS.box 0 _ rfl;obtain ⟨cs⟩:=cs
  match cs,g2 with
  | [mv],_ =>
  have hm:=(g3 0 _ mv rfl rfl).1
  cases hm with
  | mp _ cm =>
  have ax:w.cell? ⟨e.β 0,0,none⟩=some (.map (some (e.β 1))):=by simp [World.cell?,g1]
  obtain ⟨D0,ho,y3,hsz⟩:=ZrP (P:=Tryz.prog) (k:=9) Tryz.underlying9 (hS.box 1 _ rfl) hn hl hx;have acq:=AnyZ.keys_gives (ρ:=Tryz.iter23_ren) Tryz.iter23 Fence.wide 2 trivial rfl oM (e.β 0) (e.β 1) m.length D0 w (hS.lt ei) ax ho;have hc:=AnyZ.sorted_in Tryz.sorted14 Fence.wide 5 trivial trivial trivial trivial rfl oM ⟨fun blk off cap ss W hH fg hsz=>callsIn_wide.2 (AnyM.slices_Sort_string Tryz.sort22 blk off cap ss W hH fg hsz),fun p cap W=>callsIn_wide.2 (AnyM.slices_Sort_string_none Tryz.sort22 p cap W)⟩ (Ze Tryz.func22 kR rfl) 23 _ trivial (Ze Tryz.func23 kR rfl) _ _ (by rw [hsz];exact TT hl dM) (by rw [hsz];omega) w acq;refine (callsIn_wide.1 hc).mono ?_
  rintro en w' ⟨v,ss,rfl,wj,bz,_,cf⟩
  have hp:(ss.mergeSort fun x y=>decide (x<=y)).Perm (m.map (·.1)):=(List.mergeSort_perm ss _).trans (wj.trans y3)
  rw [<- (List.mergeSort_perm ss fun x y=>decide (x<=y)).length_eq] at bz;exact ⟨_,v,rfl,h _ hp,ZF0 cf,.d _ _ (ZrQ hS (Tu _) bz)⟩
 exact h.elim
def Zhi (v:Bv):(mvM mvB v).map (·.1)=v.map (·.1):=by
 unfold mvM;simp [Function.comp_def]
def Zbt:Zn:=fun args σ K=>match args,σ with
 | [.d (.sl r1),.d (.sl r2)],⟨[],[],0⟩=>∃pl l a,r1=Zv pl l/\r2=YV a/\(XT l/\Zai l<=8388608/\wLs l<=8388608/\a.length<=1000/\∀t∈a,t.length<=8388608)/\∀L:List Bs,L.Perm (Zvo l a)->K (.ret (.d (.sl (YV L)))) ⟨[],[],0⟩
 | _,_=>False
def Zzp:∀(l:List Li) (t:Bs),t∈Vr l->t.length<=wLs l:=fun l t h=>ZkW l t h
def Zuw (ht:TO w0 nG [(13,Zbr),(16,JO),(15,Zk2),(14,Zd6)]):PC w0 nG 7 Zbt:=by
 refine pwt ht Tryz.func7 fun args σ K h=>?_
 unfold Zbt at h
 split at h
 ·obtain ⟨pl,l,a,rfl,rfl,⟨eg,hz,hw,ha,lm⟩,h⟩:=h;have hl:(YV a).length=a.length:=Td ..;have hnv:(Vr l).length<=Zai l:=Zbs l;have hk:Kq (fun t=>t.length<=8388608) (bindsF l (setOf [] a)):=(ZGg a (m:=[]) ⟨.nil,fun _ h=>nomatch h⟩ lm).bindsF fun t h=>TT (Zzp l t h) hw
  have hlen:=ZfT l (setOf [] a);have eo:(setOf [] a).length<=0+a.length:=Zi7 a [];refine pwu [(3,⟨[13],[0,5,6,11,12],fun vs σ=>∃j:Nat,vs=[.d (.int .i64 j)]/\σ=⟨[.dmap (mvM mvB (setOf [] (a.take j))),.dmap (mvM mvB (setOf [] (a.take j)))],[],0⟩/\j<=a.length,
   mu1 a.length⟩)] 0 false ?_
  conv=>whnf
  refine ⟨⟨0,rfl,rfl,oM⟩,?_⟩
  rintro vs σ1 ⟨j,rfl,rfl,hj⟩
  by_cases mg:j=a.length
  rotate_left
  ·conv=>whnf
   refine ZFU (fun hq=>?_) (fun hq=>absurd (by have hq:¬(j:Int)<((YV a).length:Nat):=hq;omega) mg);have aa:j<a.length:=oM;have hr:(YV a)[(j:Int).toNat]?=some [.str a[j]]:=by rw [Tj,Th,Ta aa];rfl
   have ht:mvM mvB (setOf [] (a.take (j+1)))=Z6 a[j] (.one (.bool true)) (mvM mvB (setOf [] (a.take j))):=by rw [Zoi aa];exact (XR (f:=mvB) (k:=a[j]) (v:=true) _).symm
   have hμ:((a.length:Int) - ((j:Int)+1)).toNat<((a.length:Int) - (j:Int)).toNat:=oM;generalize a[j]=s at hr ht;(conv=>whnf);refine ⟨_,oM,hr,wN ?_⟩;refine Zl ?_;exact ⟨⟨j+1,rfl,by rw [ht];rfl,oM⟩,hμ⟩
  subst mg;rw [Si];(conv=>whnf);refine ZFU (fun hq=>absurd hq (by show ¬(a.length:Int)<((YV a).length:Nat);omega)) (fun hq=>wN ?_);refine ⟨pl,l,_,rfl,rfl,⟨eg,oM⟩,fun M'=>wN ?_⟩;refine ⟨pl,l,_,rfl,rfl,⟨eg,oM,oM⟩,wN ?_⟩;refine ⟨⟨rfl,by rw [Zhi];exact hk.1,by rw [ZrM];omega,fun x hx=>by rw [Zhi] at hx;have:=hk.2 x hx;omega⟩,fun L hL=>wN ?_⟩;rw [Zhi] at hL;have h:=h L hL;exact h
 exact h.elim
def Zux:Zn:=fun args σ K=>match args,σ with
 | [.d (.sl rows),.d (.str s)],⟨[],[],0⟩=>∃L:List Bs,rows=YV L/\L.length<=1099511627776/\∀b,decide (s∈L)=b->K (.ret (.d (.bool b))) ⟨[],[],0⟩
 | _,_=>False
def Zvw:PC w0 nG 9 Zux:=by
 refine pwe Tryz.func9 fun args σ K h=>?_
 unfold Zux at h
 split at h
 ·rename_i s
  obtain ⟨L,rfl,hz,h⟩:=h;have hl:(YV L).length=L.length:=Td ..;refine pwu [(2,⟨[5],[0,1],fun vs σ=>∃j:Nat,vs=[.d (.int .i64 j)]/\σ=⟨[],[],0⟩/\j<=L.length/\(s∈L↔s∈L.drop j),
   mu1 L.length⟩)] 0 false ?_
  conv=>whnf
  refine ⟨⟨0,rfl,rfl,oM,Iff.rfl⟩,?_⟩
  rintro vs σ1 ⟨j,rfl,rfl,hj,ha⟩
  conv=>whnf
  refine ZFU (fun hc=>?_) (fun hc=>?_);rotate_left
  ·have dl:L.length<=j:=by have hc:¬(j:Int)<((YV L).length:Nat):=hc;omega
   rw [Tq dl] at ha;have h:=h false (decide_eq_false fun g=>by have:=ha.1 g;cases this);exact mq48
  have aa:j<L.length:=by have hc:(j:Int)<((YV L).length:Nat):=hc;omega
  have hr:(YV L)[(j:Int).toNat]?=some [.str L[j]]:=by rw [Tj,Th,Ta aa];rfl
  have hμ:((L.length:Int) - ((j:Int)+1)).toNat<((L.length:Int) - (j:Int)).toNat:=oM;rw [Tm aa,Tt] at ha;generalize L[j]=t at hr ha;(conv=>whnf);refine ⟨_,oM,hr,wN ?_⟩;refine ZFU (fun g=>wN ?_) (fun g=>wN ?_)
  ·have h:=h true (T3 (ha.2 (.inl (Eq.symm g))));exact h
  refine Zl ?_;exact ⟨⟨j+1,rfl,rfl,oM,ha.trans ⟨fun q=>q.elim (fun e=>absurd (Eq.symm e) g) id,.inr⟩⟩,hμ⟩
 exact h.elim
def Zhj:Zn:=fun args σ K=>match args,σ with
 | [.d (.sl r1),.d (.sl r2)],⟨[],[],0⟩=>∃L M:List Bs,r1=YV L/\r2=YV M/\(L.length<=1099511627776/\M.length<=1099511627776)/\∀b,(L.all fun s=>decide (s∈M))=b->K (.ret (.d (.bool b))) ⟨[],[],0⟩
 | _,_=>False
def ZrR:Tbl:=[(9,Zux)]
def ZrS:PC w0 nG 8 Zhj:=by
 refine pwt (tbl:=ZrR) ⟨Zvw,trivial⟩ Tryz.func8 fun args σ K h=>?_
 unfold Zhj at h
 split at h
 ·obtain ⟨L,M,rfl,rfl,⟨hz,cd⟩,h⟩:=h;have hl:(YV L).length=L.length:=Td ..;refine pwu [(2,⟨[5],[0,1],fun vs σ=>∃j:Nat,vs=[.d (.int .i64 j)]/\σ=⟨[],[],0⟩/\j<=L.length/\(L.all fun s=>decide (s∈M))=((L.drop j).all fun s=>decide (s∈M)),
   mu1 L.length⟩)] 0 false ?_
  conv=>whnf
  refine ⟨⟨0,rfl,rfl,oM,rfl⟩,?_⟩
  rintro vs σ1 ⟨j,rfl,rfl,hj,ha⟩
  conv=>whnf
  refine ZFU (fun hc=>?_) (fun hc=>?_);rotate_left
  ·have dl:L.length<=j:=by have hc:¬(j:Int)<((YV L).length:Nat):=hc;omega
   rw [Tq dl] at ha;have h:=h true ha;exact mq48
  have aa:j<L.length:=by have hc:(j:Int)<((YV L).length:Nat):=hc;omega
  have hr:(YV L)[(j:Int).toNat]?=some [.str L[j]]:=by rw [Tj,Th,Ta aa];rfl
  have hμ:((L.length:Int) - ((j:Int)+1)).toNat<((L.length:Int) - (j:Int)).toNat:=oM;rw [Tm aa,List.all_cons] at ha;generalize L[j]=t at hr ha;(conv=>whnf);refine ⟨_,oM,hr,wN ?_⟩;refine ⟨M,rfl,cd,fun b hb=>?_⟩;rw [hb] at ha
  cases b with
  | false =>
   have h:=h false ha;exact mq48
  | true =>
  conv=>whnf
  exact mq49
 exact h.elim
def Zk3:Zn:=fun args σ K=>match args,σ with
 | [.d (.sl rows)],⟨[],[],0⟩=>∃pl l,rows=Zv pl l/\Zai l<=1099511627776/\(XT l->K (.ret (.d (.bool true))) ⟨[],[],0⟩)/\(¬XT l->K (.ret (.d (.bool false))) ⟨[],[],0⟩)
 | _,_=>False
def Zuy:PC w0 nG 5 Zk3:=by
 refine pwe Tryz.func5 fun args σ K h=>?_
 unfold Zk3 at h
 split at h
 ·obtain ⟨pl,l,rfl,hz,h1,h2⟩:=h;have hl:(Zv pl l).length=l.length:=by rw [Zi,Td]
  have hsz:=VO l;refine pwu [(2,⟨[3],[0],fun vs σ=>∃j:Nat,vs=[.d (.int .i64 j)]/\σ=⟨[],[],0⟩/\j<=l.length/\(XT l↔XT (l.drop j)),
   mu1 l.length⟩)] 0 false ?_
  conv=>whnf
  refine ⟨⟨0,rfl,rfl,oM,Iff.rfl⟩,?_⟩
  rintro vs σ1 ⟨j,rfl,rfl,hj,ha⟩
  conv=>whnf
  refine ZFU (fun hc=>?_) (fun hc=>?_);rotate_left
  ·have dl:l.length<=j:=by have hc:¬(j:Int)<((Zv pl l).length:Nat):=hc;omega
   rw [Tq dl] at ha;have h1:=h1 (ha.2 fun x hx=>nomatch hx);(conv=>whnf);exact h1
  have aa:j<l.length:=by have hc:(j:Int)<((Zv pl l).length:Nat):=hc;omega
  have hr:(Zv pl l)[(j:Int).toNat]?=some (YN pl l[j]):=by rw [Tj,Zi,Th,Ta aa];rfl
  have hμ:((l.length:Int) - ((j:Int)+1)).toNat<((l.length:Int) - (j:Int)).toNat:=oM;rw [Tm aa] at ha;generalize l[j]=x at hr ha;obtain ⟨b1,b2,b3,b4,b5⟩:=x;(conv=>whnf);refine ⟨_,oM,hr,wN ?_⟩;refine ZFU (fun g=>wN ?_) (fun g=>wN ?_)
  ·have g:9<=b1:=by have g:(9:Int)<=b1:=g;omega
   have h2:=h2 fun q=>by
    have q:b1<=8:=ha.1 q (.mk b1 b2 b3 b4 b5) List.mem_cons_self;omega
   exact h2
  have g:¬9<=b1:=by have g:¬(9:Int)<=b1:=g;omega
  refine Zl ?_;exact ⟨⟨j+1,rfl,rfl,oM,ha.trans ⟨fun q x hx=>q x (Tx _ hx),fun q x hx=>(Tt.1 hx).elim (fun e=>by subst e;show b1<=8;omega) (q x)⟩⟩,hμ⟩
 exact h.elim
end Go.PM.Lex
end

section
namespace Go.PM.Lex
open Go.Proofs
variable {w0:World} {nG:Nat}
def Zk4:Zn:=fun args σ K=>match args,σ with
 | [.d (.sl r1),.d (.sl r2),.d (.sl r3),.d (.str s)],⟨[],[],0⟩=>(∃pl l k a,r1=Zv pl l/\r2=Zv pl k/\r3=YV a/\(Zai l<=2097152/\Zai k<=2097152)/\(wLs l<=2097152/\wLs k<=2097152)/\(∀t∈a,t.length<=2097152)/\a.length<=2097152/\s.length<=2097152)/\K (.ret (.d (.bool true))) ⟨[],[],0⟩
 | _,_=>False
def ZmC:Zn:=fun args σ K=>Zbt args σ K\/(σ.bx=[]/\∃ar,ZCa args=some ar/\Zbt ar ⟨[],[],0⟩ fun pe σ'=>K pe σ')
def ZrT (h:PC w0 nG 7 Zbt):PC w0 nG 7 ZmC :=
 ⟨h.enters,fun args σ K hs n e w vs hS hA=>hs.elim (fun q=>h.calls args σ K q n e w vs hS hA) fun q=>(Zoh h).calls args σ K q n e w vs hS hA⟩
def ZmD:Tbl:=[(4,Zn3 YN szL bd2 6000),(6,Zcy),(5,Zk3),(7,ZmC),(8,Zhj),(9,Zux)]
def Zk5 (l:List Li) (a:List Bs):(Zvo l a).length<=(Vr l).length+a.length:=by
 unfold Zvo
 rw [Td];have h1:=ZfT l (setOf [] a);have h2:=Zi7 a [];simp only [Tg] at h2;omega
def Zuz (ht:TO w0 nG ZmD):PC w0 nG 3 Zk4:=by
 refine XN Zx mixed (tbl:=ZmD) ht Tryz.func3 rfl kR kR ?_;intro args σ K h
 unfold Zk4 at h
 split at h
 ·rename_i s
  obtain ⟨⟨pl,l,k,a,rfl,rfl,rfl,⟨vh,cd⟩,⟨ef,ox⟩,lm,xa,hs⟩,h⟩:=h;have dv:(Zv pl l).length=l.length:=by rw [Zi,Td]
  have gy:(Zv pl k).length=k.length:=by rw [Zi,Td]
  have ib:(YV a).length=a.length:=Td ..;have m9:=VO l;have fb:=VO k;have bz:∀(m:List Li),∀r∈Zv pl m,r.length=5:=fun m r hr=>by
   rw [Zi] at hr;obtain ⟨x,_,rfl⟩:=Sl.1 hr
   cases x;rfl
  refine ⟨Zj [],Xk [],Yh [],0,false,sM,Tc rfl,wN ?_⟩;refine ⟨pl,l,1073741824,Zi pl l,⟨⟨dM,dM⟩,dM,by rw [<- Wu];omega,dM⟩,fun r ol ca=>wN ?_⟩;refine ZFU (fun hc=>wN ?_) (fun hc=>wN ?_)
  ·exact h
  refine ⟨pl,k,1073741824,Zi pl k,⟨⟨dM,dM⟩,dM,by rw [<- Wu];omega,dM⟩,fun r2 dy pj=>wN ?_⟩;refine ZFU (fun bl=>wN ?_) (fun bl=>wN ?_)
  ·exact h
  refine ZFU (fun ec=>wN ?_) (fun ec=>wN ?_)
  ·exact h
  have aj:a.length<=100:=by have ec:¬(100:Int)<((YV a).length:Nat):=ec;omega
  refine ⟨pl,l,rfl,oM,fun l5=>?_,fun _=>?_⟩;rotate_left
  ·exact mq48
  conv=>whnf
  refine ⟨pl,k,rfl,oM,fun j9=>?_,fun _=>?_⟩;rotate_left
  ·exact mq48
  conv=>whnf
  refine .inl ⟨pl,l,a,rfl,rfl,⟨l5,oM,oM,oM,fun t ht=>by have:=lm t ht;omega⟩,fun A hA=>wN ?_⟩;refine ⟨bz l,by show (Zv pl l).length * 80<=2 ^ 47;omega,by show (Zv pl l).length<=2 ^ 47;omega,wN ?_⟩;refine ⟨bz k,by show ((Zv pl l).length+(Zv pl k).length) * 80<=2 ^ 47;omega,by show (Zv pl l).length+(Zv pl k).length<=2 ^ 47;omega,wN ?_⟩;refine ⟨fun r hr=>by obtain ⟨x,_,rfl⟩:=Sl.1 hr;rfl,by show (YV a).length * 16<=2 ^ 47;omega,by show (YV a).length<=2 ^ 47;omega,wN ?_⟩;refine ⟨fun r hr=>by simp at hr;subst hr;rfl,by show ((YV a).length+1) * 16<=2 ^ 47;omega,by show (YV a).length+1<=2 ^ 47;omega,wN ?_⟩;have acr:Zv pl l++Zv pl k=Zv pl (l++k):=by rw [Zi,Zi,Zi,Ss]
  have y4:YV a++[[.str s]]=YV (a++[s]):=by simp [YV]
  have hpa:XT (l++k):=fun x hx=>(TD.1 hx).elim (l5 x) (j9 x)
  refine .inr ⟨rfl,_,rfl,pl,l++k,a,acr,rfl,⟨hpa,by rw [Zhb];omega,by rw [Zrz];omega,oM,fun t ht=>by have:=lm t ht;omega⟩,fun B hB=>wN ?_⟩;refine .inr ⟨rfl,_,rfl,pl,l,a++[s],rfl,y4,⟨l5,oM,oM,by simp only [Tb,Te,Tg];omega,fun t ht=>(TD.1 ht).elim (fun q=>by have:=lm t q;omega) fun q=>by simp at q;subst q;omega⟩,fun C hC=>wN ?_⟩;have nA:=Zbs l;have nB:=Zbs (l++k);have bA:=Zk5 l a;have bB:=Zk5 (l++k) a;have bC:=Zk5 l (a++[s]);rw [Zhb] at nB;simp only [Tb,Te,Tg] at bC;have lA:=hA.length_eq;have lB:=hB.length_eq;have lC:=hC.length_eq;have all:∀{L M:List Bs},(∀t∈L,t∈M)->(L.all fun s=>decide (s∈M))=true:=fun g=>Tr.2 fun t ht=>T3 (g t ht)
  refine ⟨a,A,rfl,rfl,⟨oM,oM⟩,fun b hb=>?_⟩;rw [all fun t ht=>hA.mem_iff.2 (Zi6 ht)] at hb;subst hb;(conv=>whnf);refine ⟨A,B,rfl,rfl,⟨oM,oM⟩,fun b hb=>?_⟩;rw [all fun t ht=>hB.mem_iff.2 (Zmq (fun x hx=>List.mem_append_left _ hx) (fun t ht=>ht) (hA.mem_iff.1 ht))] at hb;subst hb;(conv=>whnf);refine ⟨A,C,rfl,rfl,⟨oM,oM⟩,fun b hb=>?_⟩;rw [all fun t ht=>hC.mem_iff.2 (Zmq (fun x hx=>hx) (fun t ht=>List.mem_append_left _ ht) (hA.mem_iff.1 ht))] at hb;subst hb;(conv=>whnf);refine ⟨C,rfl,oM,fun b hb=>?_⟩;rw [T3 (hC.mem_iff.2 (Zi6 sM))] at hb;subst hb;exact mq48
 exact h.elim
def ZCq:PC w0 nG 7 Zbt:=Zuw ⟨Zmv,Zvv,Zuu,Zoq,trivial⟩
end Go.PM.Lex
end

section
namespace Go.PM
structure T8 (α:Type) where
 (a0 a1 a2 a3 a4 a5 a6 a7:α)
section
variable {α:Type}
def T8.get (d:α) (t:T8 α):Nat->α
 | 0=>t.a0
 | 1=>t.a1
 | 2=>t.a2
 | 3=>t.a3
 | 4=>t.a4
 | 5=>t.a5
 | 6=>t.a6
 | 7=>t.a7
 | _=>d
def T8.set (t:T8 α) (x:α):Nat->T8 α
 | 0=>⟨x,t.a1,t.a2,t.a3,t.a4,t.a5,t.a6,t.a7⟩
 | 1=>⟨t.a0,x,t.a2,t.a3,t.a4,t.a5,t.a6,t.a7⟩
 | 2=>⟨t.a0,t.a1,x,t.a3,t.a4,t.a5,t.a6,t.a7⟩
 | 3=>⟨t.a0,t.a1,t.a2,x,t.a4,t.a5,t.a6,t.a7⟩
 | 4=>⟨t.a0,t.a1,t.a2,t.a3,x,t.a5,t.a6,t.a7⟩
 | 5=>⟨t.a0,t.a1,t.a2,t.a3,t.a4,x,t.a6,t.a7⟩
 | 6=>⟨t.a0,t.a1,t.a2,t.a3,t.a4,t.a5,x,t.a7⟩
 | 7=>⟨t.a0,t.a1,t.a2,t.a3,t.a4,t.a5,t.a6,x⟩
 | _=>t
def lt8 {P:Nat->Prop} {i:Nat} (h:i<8) (h0:P 0) (h1:P 1) (h2:P 2) (h3:P 3) (h4:P 4) (h5:P 5) (h6:P 6) (h7:P 7):P i:=by
 match i,h with
 | 0,_=>exact h0
 | 1,_=>exact h1
 | 2,_=>exact h2
 | 3,_=>exact h3
 | 4,_=>exact h4
 | 5,_=>exact h5
 | 6,_=>exact h6
 | 7,_=>exact h7
def ZF9 (d:α) (t:T8 α) (x:α) {i j:Nat} (hi:i<8) (hj:j<8):(t.set x i).get d j=(match Nat.beq i j with | true=>x | false=>t.get d j):=by
 refine lt8 (P:=fun i=>(t.set x i).get d j=(match Nat.beq i j with | true=>x | false=>t.get d j)) hi ?_ ?_ ?_ ?_ ?_ ?_ ?_ ?_ <;> exact lt8 (P:=fun j=>T8.get d (T8.set t x _) j=(match Nat.beq _ j with | true=>x | false=>t.get d j)) hj rfl rfl rfl rfl rfl rfl rfl rfl
end
abbrev T64:=T8 (T8 PV)
def no8:T8 PV:=⟨.undef,.undef,.undef,.undef,.undef,.undef,.undef,.undef⟩
def no64:T64:=⟨no8,no8,no8,no8,no8,no8,no8,no8⟩
def Zzq (j:Nat):no8.get .undef j=.undef:=by unfold T8.get;split <;> rfl
def ZuA (j:Nat):no64.get no8 j=no8:=by unfold T8.get;split <;> rfl
def Zk6 (h:T64) (n:Nat):PV:=(h.get no8 (Nat.div n 8)).get .undef (Nat.mod n 8)
def ZuB (h:T64) (x:PV) (n:Nat):T64:=h.set ((h.get no8 (Nat.div n 8)).set x (Nat.mod n 8)) (Nat.div n 8)
def d8 {n:Nat} (h:n<64):Nat.div n 8<8:=Nat.div_lt_of_lt_mul h
def m8 (n:Nat):Nat.mod n 8<8:=Nat.mod_lt _ dM
def m64 (n:Nat):Nat.mod n 64<64:=Nat.mod_lt _ dM
def Zvx {k i j:Nat} (hk:0<k):Nat.beq i j=(match Nat.beq (Nat.div i k) (Nat.div j k) with | true=>Nat.beq (Nat.mod i k) (Nat.mod j k) | false=>false):=by
 have hi:k * Nat.div i k+Nat.mod i k=i:=Nat.div_add_mod i k;have hj:k * Nat.div j k+Nat.mod j k=j:=Nat.div_add_mod j k
 cases hb:Nat.beq (Nat.div i k) (Nat.div j k) with
 | false =>
  cases hc:Nat.beq i j with
  | false=>rfl
  | true=>rw [Tl hc,Nat.beq_refl] at hb;cases hb
 | true =>
 have h1:=Tl hb;simp only;rw [Bool.eq_iff_iff,Nat.beq_eq,Nat.beq_eq]
 constructor
 ·intro h;rw [h]
 intro h;rw [<- hi,<- hj,h1,h]
def Zd7 (h:T64) (x:PV) {i j:Nat} (hi:i<64) (hj:j<64):Zk6 (ZuB h x i) j=(match Nat.beq i j with | true=>x | false=>Zk6 h j):=by
 unfold Zk6 ZuB
 rw [ZF9 _ _ _ (d8 hi) (d8 hj),Zvx (k:=8) (i:=i) (j:=j) dM]
 cases hb:Nat.beq (Nat.div i 8) (Nat.div j 8) with
 | false=>rfl
 | true =>
 simp only;rw [ZF9 _ _ _ (m8 i) (m8 j),Tl hb]
structure FT where
 h:T64
 r:List T64
def FT.leaf:FT:=⟨no64,[]⟩
def FT.blk (t:FT) (k:Nat):T64:=match k with
 | 0=>t.h
 | k+1=>match t.r[k]? with | some m=>m | none=>no64
def FT.get (t:FT) (n:Nat):PV:=Zk6 (t.blk (Nat.div n 64)) (Nat.mod n 64)
def FT.put (x:PV) (t:FT) (n:Nat):Option FT:=match Nat.div n 64 with
 | 0=>some ⟨ZuB t.h x (Nat.mod n 64),t.r⟩
 | k+1=>match t.r[k]? with
  | some m=>some ⟨t.h,t.r.set k (ZuB m x (Nat.mod n 64))⟩
  | none=>none
def FT.full (n:Nat):FT:=⟨no64,List.replicate n no64⟩
def ZGf (k:Nat):(FT.full k).get=fun _=>.undef:=by
 funext n
 have:(FT.full k).blk (Nat.div n 64)=no64:=by
  unfold FT.blk FT.full
  split
  ·rfl
  simp only [Sf];split <;> rename_i h <;> split at h <;> first | (cases h;rfl) | (cases h;done) | rfl
 unfold FT.get Zk6
 rw [this,ZuA,Zzq]
def ZGa {x:PV} {t:FT} {n:Nat} {t':FT} (h:t.put x n=some t'):t'.get=WY t.get n x:=by
 funext j
 show Zk6 (t'.blk _) _=(match Nat.beq n j with | true=>x | false=>Zk6 (t.blk _) _);rw [Zvx (k:=64) (i:=n) (j:=j) dM];unfold FT.put at h
 split at h
 ·rename_i hk
  cases h
  rw [hk]
  cases hj:Nat.div j 64 with
  | zero=>exact Zd7 _ _ (m64 n) (m64 j)
  | succ k=>rfl
 rename_i k hk
 split at h
 ·rename_i m hm
  cases h
  rw [hk]
  cases hj:Nat.div j 64 with
  | zero=>rfl
  | succ k' =>
  have aa:k<t.r.length:=(Ti.1 hm).1
  cases hb:Nat.beq (k+1) (k'+1) with
  | true =>
   have:=Tl hb;have:k=k':=oM;subst this;simp only [FT.blk,SB aa,hm];exact Zd7 _ _ (m64 n) (m64 j)
  | false =>
  have ah:k≠k':=fun he=>by subst he;rw [Nat.beq_refl] at hb;cases hb
  simp only [FT.blk,SJ ah]
 cases h
def argT:Nat->List PV->FT->Option FT
 | _,[],t=>some t
 | i,v::vs,t=>match argT (i+1) vs t with | some t=>t.put v i | none=>none
def ZmE {t0:FT} (h0:t0.get=fun _=>.undef):∀{vs:List PV} {i:Nat} {t:FT},argT i vs t0=some t->t.get=Zb3 i vs
 | [],i,t,h=>by simp only [argT,Option.some.injEq] at h;subst h;rw [h0];rfl
 | v::vs,i,t,h=>by
  simp only [argT] at h;split at h
  ·rename_i t1 h1;rw [ZGa h,ZmE h0 h1];rfl
  cases h
section
variable {α β:Type}
def Zor (n:Nat) (k:Nat->Option α):Option α:=match n with
 | 0=>k 0
 | m+1=>k (Nat.succ m)
def ZEl (n:Int) (k:Int->Option α):Option α:=match n with
 | .ofNat m=>Zor m fun m=>k (.ofNat m)
 | .negSucc m=>Zor m fun m=>k (.negSucc m)
def ZFf (b:Bool) (k:Bool->Option α):Option α:=match b with | true=>k true | false=>k false
def ZzV (l:List β) (k:List β->Option α):Option α:=match l with
 | []=>k []
 | x::l=>ZzV l fun l=>k (x::l)
def ZEm (x:D) (k:D->Option α):Option α:=match x with
 | .int q n=>ZEl n fun n=>k (.int q n)
 | .bool b=>ZFf b fun b=>k (.bool b)
 | .str s=>ZzV s fun s=>k (.str s)
 | .sl rows=>ZzV rows fun rows=>k (.sl rows)
 | .nilp=>k .nilp
 | .nilf=>k .nilf
 | .nili=>k .nili
def ZC7 (v:PV) (k:PV->Option α):Option α:=match v with
 | .d x=>ZEm x fun x=>k (.d x)
 | .undef=>k .undef
 | .ptr b off=>Zor b fun b=>Zor off fun off=>k (.ptr b off)
 | .elem r off=>Zor off fun off=>k (.elem r off)
 | .sl t e rows=>Zor t fun t=>ZzV rows fun rows=>k (.sl t e rows)
 | .nils e=>k (.nils e)
 | .asl b off n=>k (.asl b off n)
 | .func f a c=>k (.func f a c)
 | .iface t v=>k (.iface t v)
 | .agg cs=>k (.agg cs)
 | .tuple vs=>k (.tuple vs)
 | .raw v=>k (.raw v)
 | .mp b=>Zor b fun b=>k (.mp b)
 | .nilm=>k .nilm
def ZzW (l:List PV) (k:List PV->Option α):Option α:=match l with
 | []=>k []
 | v::l=>ZC7 v fun v=>ZzW l fun l=>k (v::l)
def ZzX (l:List Nat) (k:List Nat->Option α):Option α:=match l with
 | []=>k []
 | n::l=>Zor n fun n=>ZzX l fun l=>k (n::l)
def Zoz (l:List Box) (k:List Box->Option α):Option α:=match l with
 | []=>k []
 | .cells t cs::l=>ZzW cs fun cs=>Zoz l fun l=>k (.cells t cs::l)
 | .iter s p::l=>Zor p fun p=>Zoz l fun l=>k (.iter s p::l)
 | .map cs bn ck::l=>ZzW cs fun cs=>ZzX bn fun bn=>Zor ck fun ck=>Zoz l fun l=>k (.map cs bn ck::l)
 | x::l=>Zoz l fun l=>k (x::l)
def ZrU (σ:St) (k:St->Option α):Option α:=Zoz σ.bx fun bx=>ZzX σ.tk fun tk=>Zor σ.nx fun nx=>k ⟨bx,tk,nx⟩
def JP (n:Nat) (k:Nat->Option α):Zor n k=k n:=by cases n <;> rfl
def Zzr (n:Int) (k:Int->Option α):ZEl n k=k n:=by cases n <;> simp only [ZEl,JP]
def Zzs (n:Bool) (k:Bool->Option α):ZFf n k=k n:=by cases n <;> rfl
def Zk7:∀(l:List β) (k:List β->Option α),ZzV l k=k l
 | [],_=>rfl
 | x::l,k=>by simp only [ZzV,Zk7 l]
def Zzt (x:D) (k:D->Option α):ZEm x k=k x:=by cases x <;> simp only [ZEm,Zzr,Zzs,Zk7]
def ZrV (v:PV) (k:PV->Option α):ZC7 v k=k v:=by cases v <;> simp only [ZC7,Zzt,JP,Zk7]
def Zd8:∀(l:List PV) (k:List PV->Option α),ZzW l k=k l
 | [],_=>rfl
 | v::l,k=>by simp only [ZzW,ZrV,Zd8 l]
def Zd9:∀(l:List Nat) (k:List Nat->Option α),ZzX l k=k l
 | [],_=>rfl
 | n::l,k=>by simp only [ZzX,JP,Zd9 l]
def JQ:∀(l:List Box) (k:List Box->Option α),Zoz l k=k l
 | [],_=>rfl
 | .cells t cs::l,k=>by simp only [Zoz,Zd8,JQ l]
 | .iter s p::l,k=>by simp only [Zoz,JP,JQ l]
 | .loop a b c::l,k=>by simp only [Zoz,JQ l]
 | .dmap m::l,k=>by simp only [Zoz,JQ l]
 | .smap el m fo::l,k=>by simp only [Zoz,JQ l]
 | .map cs bn ck::l,k=>by simp only [Zoz,Zd8,Zd9,JP,JQ l]
def Zhk (σ:St) (k:St->Option α):ZrU σ k=k σ:=by simp only [ZrU,JQ,Zd9,JP]
end
end Go.PM
end

section
namespace Go.PM
def ieq:Int->Int->Bool
 | .ofNat m,.ofNat n=>Nat.beq m n
 | .negSucc m,.negSucc n=>Nat.beq m n
 | _,_=>false
def ilt:Int->Int->Bool
 | .ofNat m,.ofNat n=>Nat.ble (m+1) n
 | .negSucc m,.negSucc n=>Nat.ble (n+1) m
 | .negSucc _,.ofNat _=>true
 | .ofNat _,.negSucc _=>false
def ZrW (a b:Int):ieq a b=decide (a=b):=by
 cases a <;> cases b <;> simp only [ieq]
 ·rw [Bool.eq_iff_iff,Nat.beq_eq,decide_eq_true_iff,Int.ofNat_eq_natCast,Int.ofNat_eq_natCast];omega
 ·simp
 ·simp
 rw [Bool.eq_iff_iff,Nat.beq_eq,decide_eq_true_iff];simp
def Zje (a b:Int):ilt a b=decide (a<b):=by
 cases a <;> cases b <;> simp only [ilt]
 ·rw [Bool.eq_iff_iff,SQ,decide_eq_true_iff,Int.ofNat_eq_natCast,Int.ofNat_eq_natCast];omega
 ·symm;rw [decide_eq_false_iff_not,Int.ofNat_eq_natCast];omega
 ·symm;rw [decide_eq_true_iff,Int.ofNat_eq_natCast];omega
 rw [Bool.eq_iff_iff,SQ,decide_eq_true_iff];omega
def ZCr (a b:Int):(!ilt a b)=decide (b<=a):=by
 rw [Zje,<- decide_not];congr 1;rw [eq_iff_iff];omega
def ZFg:IntKind->Nat
 | .i8=>127 | .i16=>32767 | .i32=>2147483647 | .i64=>9223372036854775807 | .u8=>255 | .u16=>65535 | .u32=>4294967295 | .u64=>18446744073709551615
def Zhl (k:IntKind) (n:Int):Int:=match n with
 | .ofNat m=>match Nat.ble m (ZFg k) with | true=>.ofNat m | false=>k.wrap (.ofNat m)
 | .negSucc m=>k.wrap (.negSucc m)
def Zhm (k:IntKind) (n:Int):Zhl k n=k.wrap n:=by
 cases n with
 | negSucc m=>rfl
 | ofNat m =>
 simp only [Zhl];split
 ·rename_i h
  have h:=Tc h
  symm
  cases k <;> simp only [ZFg] at h <;> simp [IntKind.wrap,IntKind.bits,IntKind.signed] <;> omega
 rfl
def ZeD:List UInt8->List UInt8->Bool
 | [],[]=>true
 | a::x,b::y=>match Nat.beq a.toNat b.toNat with | true=>ZeD x y | false=>false
 | _,_=>false
def Zhn:∀(a b:List UInt8),ZeD a b=decide (a=b)
 | [],[]=>rfl
 | [],_::_=>by simp [ZeD]
 | _::_,[]=>by simp [ZeD]
 | a::x,b::y=>by
  simp only [ZeD];split
  ·rename_i h
   have:a=b:=UInt8.toNat_inj.1 (Tl h);subst this;rw [Zhn x y];simp
  rename_i h
  symm;rw [decide_eq_false_iff_not]
  intro he;cases he;simp at h
def Zzu (op:BinOp) (k:IntKind) (a b:Int):Option PV:=match op with
 | .add=>some (.d (.int k (Zhl k (a+b)))) | .sub=>some (.d (.int k (Zhl k (a - b)))) | .mul=>some (.d (.int k (Zhl k (a * b))))
 | .quo=>match ieq b 0 with | true=>none | false=>some (.d (.int k (Zhl k (a.tdiv b))))
 | .rem=>match ieq b 0 with | true=>none | false=>some (.d (.int k (a.tmod b)))
 | .and=>some (.d (.int k (Vu .and k a b))) | .or=>some (.d (.int k (Vu .or k a b))) | .xor=>some (.d (.int k (Vu .xor k a b))) | .andNot=>some (.d (.int k (Vu .andNot k a b)))
 | .eql=>some (.d (.bool (ieq a b))) | .neq=>some (.d (.bool (!ieq a b))) | .lss=>some (.d (.bool (ilt a b))) | .leq=>some (.d (.bool (!ilt b a)))
 | .gtr=>some (.d (.bool (ilt b a))) | .geq=>some (.d (.bool (!ilt a b)))
 | _=>none
def ZuC {op:BinOp} {k:IntKind} {a b:Int} {v:PV} {K:PV->Prop} (h:Zzu op k a b=some v) (hK:K v):ZuS op k a b K:=by
 have hw:∀n,K (.d (.int k (Zhl k n)))->Zb2 k n K:=fun n h=>.inr (by rw [<- Zhm];exact h)
 cases op <;> simp only [Zzu,ZuS,Yl] at h |- <;> first
  | (cases h;first | exact hw _ hK | exact hK | (rw [ZCr] at hK;exact hK) | (simp only [ZrW,Zje] at hK;exact hK))
  | (rw [ZrW] at h
     split at h
     ·cases h
     rename_i hd;cases h;exact ⟨of_decide_eq_false hd,by first | exact hw _ hK | exact hK⟩)
  | (cases h;done)
def ZFh (op:BinOp) (a b:List UInt8):Option PV:=match op with
 | .add=>match Nat.ble (a.length+b.length+1) 4611686018427387904 with | true=>some (.d (.str (a++b))) | false=>none
 | .eql=>some (.d (.bool (ZeD a b))) | .neq=>some (.d (.bool (!ZeD a b)))
 | .lss=>some (.d (.bool (Op.bytesLess a b))) | .geq=>some (.d (.bool (!Op.bytesLess a b)))
 | .leq=>some (.d (.bool (Op.bytesLess a b || ZeD a b))) | .gtr=>some (.d (.bool (!(Op.bytesLess a b || ZeD a b))))
 | _=>none
def shR (op:BinOp) (k:IntKind) (a b:Int):Option PV:=match op with
 | .shl=>match ilt b 0 with | true=>none | false=>some (.d (.int k (Zhl k (a * 2 ^ (min b.toNat k.bits)))))
 | .shr=>match ilt b 0 with | true=>none | false=>some (.d (.int k (a.fdiv (2 ^ (min b.toNat k.bits)))))
 | _=>none
def ZC8:BinOp->Bool | .shl=>true | .shr=>true | _=>false
def Zzv (T:Tab) (op:BinOp) (t:TypeId) (x y:Operand) (px py:PV):Option PV :=
 match px,py with
 | .d (.int k a),.d (.int k' b)=>match ZC8 op with
  | true=>shR op k a b
  | false=>match keq k k' with | true=>Zzu op k a b | false=>none
 | .d (.str a),.d (.str b)=>ZFh op a b
 | _,_=>none
def ZuD {T:Tab} {op:BinOp} {t:TypeId} {x y:Operand} {px py v:PV} {K:PV->Prop} (h:Zzv T op t x y px py=some v) (hK:K v):Zsi T op t x y px py K:=by
 unfold Zzv at h
 unfold Zsi
 split at h
 ·rename_i k a k' b
  cases hs:ZC8 op with
  | true =>
   rw [hs] at h;simp only [shR] at h
   cases op <;> simp only [ZC8] at hs <;> first | (cases hs;done) | skip
   all_goals
    simp only [Zje] at h |-;split at h
    ·cases h
    rename_i h1;cases h
    refine ⟨by have:=of_decide_eq_false h1;omega,?_⟩
    first | exact hK | (exact .inr (by rw [<- Zhm];exact hK))
  | false =>
  rw [hs] at h;simp only at h;split at h
  ·rename_i hq
   cases op <;> simp only [ZC8] at hs <;> first | (cases hs;done) | (simp only [hq];exact ZuC h hK)
  cases h
 ·rename_i a b
  simp only [ZFh] at h
  cases op <;> simp only [<- Zhn] at h |- <;> first
   | (cases h;exact hK)
   | (split at h
      ·rename_i hl;cases h;exact ⟨by have:=Tc hl;omega,hK⟩
      cases h)
   | (cases h;done)
 split
 ·exact False.elim (by solve_by_elim)
 ·exact False.elim (by solve_by_elim)
 cases op <;> simp only at h |- <;> first
  | (split at h
     ·rename_i hr;cases h;exact peqR_ok hr hK
     cases h)
  | (cases h;done)
end Go.PM
end

section
namespace Go.PM
def Zea (lo hi:Option PV) (len:Nat):Option (Nat×Nat) :=
 match lo,hi with
 | none,none=>some (0,len)
 | some x,none=>match x with
  | .d (.int _ (.ofNat n))=>match Nat.ble n len with | true=>some (n,len) | false=>none
  | _=>none
 | none,some y=>match y with
  | .d (.int _ (.ofNat m))=>match Nat.ble m len with | true=>some (0,m) | false=>none
  | _=>none
 | some x,some y=>match x,y with
  | .d (.int _ (.ofNat n)),.d (.int _ (.ofNat m))=>match Nat.ble n m,Nat.ble m len with | true,true=>some (n,m) | _,_=>none
  | _,_=>none
def Zjf {lo hi:Option PV} {len:Nat} {a b:Nat} {K:Nat->Nat->Prop} (h:Zea lo hi len=some (a,b)) (hK:K a b):XX lo hi len K:=by
 unfold Zea at h
 unfold XX
 split at h
 ·cases h;exact hK
 ·exact mq129
 ·exact mq129
 split at h
 ·split at h
  ·rename_i cm ga;cases h;have:=Tc cm;have h2:=Tc ga;exact ⟨Int.natCast_nonneg _,Int.ofNat_le.2 this,Int.ofNat_le.2 h2,hK⟩
  cases h
 cases h
def ZmF (sz:Nat):List (List D)->Bool
 | []=>true
 | r::l=>match Nat.beq r.length sz with | true=>ZmF sz l | false=>false
def Zeb {sz:Nat}:∀{l:List (List D)},ZmF sz l=true->∀r∈l,r.length=sz
 | [],_,r,hr=>by cases hr
 | x::l,h,r,hr=>by
  simp only [ZmF] at h;split at h
  ·rename_i hb
   rcases Tt.1 hr with rfl | hr
   ·exact Tl hb
   exact Zeb h r hr
  cases h
def WV:TK->Bool | .other=>true | _=>false
def ZmG (x:PV) (lo hi:Option PV):Option PV:=match x with
 | .d (.str s)=>match Zea lo hi s.length with | some (a,b)=>some (.d (.str (cut s a b))) | none=>none
 | _=>none
def Zk8 (T:Tab) (t:TypeId) (x:PV) (lo hi:Option PV):Option PV:=match (T.get t).kind with
 | .string=>ZmG x lo hi
 | _=>none
def UV {k:TK} (h:WV k=false) {X:Prop}:X->(match (generalizing:=false) k with | .other=>False | _=>X):=fun x=>by
 cases k <;> first | exact x | (cases h;done)
def Zos {T:Tab} {t:TypeId} {x:PV} {lo hi:Option PV} {v:PV} {K:PV->Prop} (h:Zk8 T t x lo hi=some v) (hK:K v):VQ T t x lo hi K:=by
 unfold Zk8 at h
 unfold VQ
 split at h
 ·rename_i hk
  simp only [hk];unfold ZmG at h
  split at h
  ·split at h
   ·rename_i hb;cases h;exact Zjf hb hK
   cases h
  cases h
 cases h
def ZCs (T:Tab) (t:TypeId) (cs:List PV) (off:Nat):Option PV:=match (T.get t).kind.isAgg with
 | true=>match WZ (T.get t).size (cs.drop off) with | some l=>some (.agg l) | none=>none
 | false=>match WV (T.get t).kind with | true=>none | false=>cs[off]?
def ZCt (T:Tab) (t:TypeId) (r:List D) (off:Nat):Option PV:=match (T.get t).kind.isAgg with
 | true=>match WZ (T.get t).size (r.drop off) with | some l=>some (.agg (l.map .d)) | none=>none
 | false=>match WV (T.get t).kind with | true=>none | false=>match r[off]? with | some v=>some (.d v) | none=>none
def ZmH (T:Tab) (t:TypeId) (x:PV) (bx:List Box):Option PV:=match x with
 | .ptr b off=>match bx[b]? with
  | some (.cells _ cs)=>ZCs T t cs off
  | _=>none
 | .elem r off=>ZCt T t r off
 | _=>none
def Zjg {T:Tab} {t:TypeId} {x:PV} {bx:List Box} {v:PV} {K:PV->Prop} (h:ZmH T t x bx=some v) (hK:K v):Jh T t x bx K:=by
 unfold ZmH at h
 unfold Jh
 split at h
 ·split at h
  ·rename_i hb
   simp only [hb];unfold ZCs at h
   split at h <;> rename_i hk <;> simp only [hk]
   ·split at h
    ·rename_i h1;cases h;simp only [h1];exact hK
    cases h
   split at h
   ·cases h
   rename_i ho;refine UV ho ?_;rw [h];exact hK
  cases h
 ·unfold ZCt at h
  split at h <;> rename_i hk <;> simp only [hk]
  ·split at h
   ·rename_i h1;cases h;simp only [h1];exact hK
   cases h
  split at h
  ·cases h
  rename_i ho
  refine UV ho ?_;split at h
  ·rename_i h1;cases h;rw [h1];exact hK
  cases h
 cases h
def Vp (T:Tab) (fs:List (Nat×Nat)) (ρ:Operand->PV):List (Nat×Operand)->List PV->Option (List PV)
 | [],cs=>some cs
 | (i,x)::ps,cs=>match fs[i]?,(ρ x).cells with
  | some (o,t),some l=>match Nat.beq l.length (T.get t).size,Nat.ble (o+l.length) cs.length,WV (T.get t).kind with
   | true,true,false=>Vp T fs ρ ps (ZT cs o l)
   | _,_,_=>none
  | _,_=>none
def ZaA {T:Tab} {fs:List (Nat×Nat)} {ρ:Operand->PV}:∀{ps:List (Nat×Operand)} {cs r:List PV} {K:List PV->Prop},Vp T fs ρ ps cs=some r->K r->Yb T fs ρ ps cs K
 | [],cs,r,K,h,hK=>by simp only [Vp,Option.some.injEq] at h;subst h;exact hK
 | (i,x)::ps,cs,r,K,h,hK=>by
  unfold Vp at h
  unfold Yb
  split at h
  ·rename_i o t l h1 h2
   simp only [h1,h2];split at h
   ·rename_i h3 h4 h5
    simp only [h3,h4];split
    ·rename_i he;rw [he] at h5;cases h5
    ·exact ZaA h hK
    rename_i hn _;exact (hn rfl rfl).elim
   cases h
  cases h
end Go.PM
end

section
namespace Go.PM
def ZuE (T:Tab) (ty:TypeId) (v:PV):Option PV:=match v with
 | .nils _=>match (T.get ty).kind with | .slice e=>some (.nils e) | _=>some (.nils 0)
 | v=>some v
def ZmI {T:Tab} {ty:TypeId} {v u:PV} {K:PV->Prop} (h:ZuE T ty v=some u) (hK:K u):(match (generalizing:=false) v with | .nils _=>(match (T.get ty).kind with | .slice e=>K (.nils e) | _=>K (.nils 0)) | v=>K v):=by
 cases v <;> simp only [ZuE] at h |- <;> first
  | (cases h;exact hK)
  | (cases hk:(T.get ty).kind <;> rw [hk] at h <;> cases h <;> exact hK)
def ZCu (c a b:PV):Option PV:=match c with | .d (.bool true)=>some a | .d (.bool false)=>some b | _=>none
def Zvy (T:Tab) (t:TypeId) (ρ:Operand->PV) (ps:List (Nat×Operand)):Option PV:=match (T.get t).kind with
 | .struct fs=>match Vp T fs ρ ps (T.get t).zero with | some cs=>some (.agg cs) | none=>none
 | _=>none
def Zjh (v:PV):Option PV:=match v with
 | .ptr b off=>some (.ptr b off)
 | .elem r off=>some (.elem r off)
 | _=>none
def unR (op:UnOp) (v:PV):Option PV:=match op,v with
 | .not,.d (.bool b)=>some (.d (.bool (!b)))
 | _,_=>none
def ZCv (T:Tab) (s d:TypeId) (v:PV):Option PV:=match (T.get s).kind with
 | .other=>none
 | .slice e=>none
 | _=>match (T.get d).kind,v with
  | .int k,.d (.int _ n)=>some (.d (.int k (Zhl k n)))
  | .string,.d (.str s)=>some (.d (.str s))
  | _,_=>none
def ZfX (T:Tab) (s:TypeId) (v:PV) (i:Nat):Option PV:=match (T.get s).kind with
 | .struct fs=>match fs[i]?,v with
  | some (o,_),.ptr b off=>some (.ptr b (off+o))
  | some (o,_),.elem r off=>some (.elem r (off+o))
  | _,_=>none
 | _=>none
def Zvz (T:Tab) (t:TypeId) (v i:PV):Option PV:=match i with
 | .d (.int _ (.ofNat n))=>match (T.get t).kind,v with
  | .string,.d (.str s)=>(match s[n]? with | some b=>some (.d (.int .u8 b.toNat)) | none=>none)
  | _,_=>none
 | _=>none
def ZfY (T:Tab) (t:TypeId) (v i:PV):Option PV:=match i with
 | .d (.int _ (.ofNat n))=>match (T.get t).kind with
  | .slice e=>match WV (T.get e).kind with
   | true=>none
   | false=>match v with
    | .d (.sl rows)=>(match rows[n]? with | some r=>(match Nat.beq r.length (T.get e).size with | true=>some (.elem r 0) | false=>none) | none=>none)
    | .sl _ _ rows=>(match rows[n]? with | some r=>(match Nat.beq r.length (T.get e).size with | true=>some (.elem r 0) | false=>none) | none=>none)
    | _=>none
  | _=>none
 | _=>none
def ZmJ (v:PV) (i:Nat):Option PV:=match v with
 | .tuple vs=>vs[i]?
 | _=>none
def ZFi (T:Tab) (t:TypeId) (v:PV) (bx:List Box):Option PV:=match (T.get t).kind with
 | .string=>(match v with | .d (.str s)=>some (.d (.int .i64 s.length)) | _=>none)
 | .slice _=>match v with
  | .asl _ _ n=>none
  | v=>(match toD v with | some (.sl rows)=>some (.d (.int .i64 rows.length)) | _=>none)
 | _=>none
def ZFj (a b:PV):Option PV:=match a,b with
 | .d (.int k a),.d (.int k' b)=>(match keq k k',ilt b a with | true,true=>some (.d (.int k b)) | true,false=>some (.d (.int k a)) | _,_=>none)
 | _,_=>none
def ZmK (T:Tab) (b:Builtin) (ts:List TypeId) (vs:List PV) (bx:List Box):Option PV:=match b,ts,vs with
 | .len,t::_,[v]=>ZFi T t v bx
 | .min,_,[a,b]=>ZFj a b
 | _,_,_=>none
def ZvA (T:Tab) (ρ:Operand->PV) (bx:List Box) (c:Call):Option PV:=match c with
 | { callee:=.builtin b,args,argTypes }=>ZmK T b argTypes.toList (args.toList.map ρ) bx
 | _=>none
def ZEn (T:Tab) (o:Op) (ty:TypeId) (ρ:Operand->PV) (bx:List Box):Option PV:=match o with
 | .move x=>ZuE T ty (ρ x)
 | .assign x=>ZuE T ty (ρ x)
 | .pick c a b=>ZCu (ρ c) (ρ a) (ρ b)
 | .build t ps=>Zvy T t ρ ps.toList
 | .load t a=>ZmH T t (ρ a) bx
 | .nilCheck x=>Zjh (ρ x)
 | .binOp op t x y _=>Zzv T op t x y (ρ x) (ρ y)
 | .unOp op _ x=>unR op (ρ x)
 | .convert s d x=>ZCv T s d (ρ x)
 | .fieldAddr s x i=>ZfX T s (ρ x) i
 | .index t x i=>Zvz T t (ρ x) (ρ i)
 | .indexAddr t x i=>ZfY T t (ρ x) (ρ i)
 | .slice t x lo hi none=>Zk8 T t (ρ x) (lo.map ρ) (hi.map ρ)
 | .extract x i=>ZmJ (ρ x) i
 | .call c=>ZvA T ρ bx c
 | _=>none
def Zzw {T:Tab} {o:Op} {ty:TypeId} {ρ:Operand->PV} {bx:List Box} {v:PV} {K:PV->Prop} (h:ZEn T o ty ρ bx=some v) (hK:K v):qop T o ty ρ bx K:=by
 unfold ZEn at h
 split at h
 ·exact ZmI h hK
 ·exact ZmI h hK
 ·unfold ZCu at h
  exact mq159
 ·unfold Zvy at h
  simp only [qop];split at h
  ·rename_i hk
   simp only [hk];split at h
   ·rename_i h1;cases h;exact ZaA h1 hK
   cases h
  cases h
 ·exact Zjg h hK
 ·unfold Zjh at h
  exact mq159
 ·exact ZuD h hK
 ·unfold unR at h
  simp only [qop];split at h
  ·rename_i hx;cases h;simp only [hx];exact hK
  cases h
 ·unfold ZCv at h
  simp only [qop];split at h
  ·cases h
  ·cases h
  rename_i gc ip
  split
  ·rename_i hk;exact (gc hk).elim
  ·rename_i hk;exact (ip _ hk).elim
  split at h
  ·rename_i h1 h2;cases h;simp only [h1,h2];exact .inr (by rw [<- Zhm];exact hK)
  ·exact mq151
  cases h
 ·unfold ZfX at h
  simp only [qop];split at h
  ·rename_i hk
   simp only [hk];split at h
   ·exact mq151
   ·exact mq151
   cases h
  cases h
 ·unfold Zvz at h
  simp only [qop];split at h
  ·rename_i n hi
   simp only [hi];split at h
   ·rename_i s h1 h2
    simp only [h1,h2];split at h
    ·rename_i b hb
     cases h
     have aa:=(Ti.1 hb).1;refine ⟨Int.natCast_nonneg _,Int.ofNat_lt.2 aa,?_⟩;have:List.getD s (Int.ofNat n).toNat 0=b:=by show List.getD s n 0=b;rw [T2,hb];rfl
     rw [this];exact hK
    cases h
   cases h
  cases h
 ·unfold ZfY at h
  simp only [qop];split at h
  ·rename_i n hi
   simp only [hi];split at h
   ·rename_i hk
    simp only [hk];split at h
    ·cases h
    rename_i ho
    refine UV ho ?_;split at h
    ·exact mq107
    ·exact mq107
    cases h
   cases h
  cases h
 ·exact Zos h hK
 ·unfold ZmJ at h
  simp only [qop];split at h
  ·rename_i hx;simp only [hx,h];exact hK
  cases h
 ·unfold ZvA at h
  split at h
  ·unfold ZmK at h
   simp only [qop];split at h
   ·rename_i h1 h2
    simp only [h1,h2];unfold ZFi at h
    split at h
    ·rename_i hk;simp only [hk];split at h
     ·cases h;exact hK
     cases h
    ·rename_i hk
     simp only [hk];split at h
     ·cases h
     rename_i hn
     split at h
     ·rename_i hd
      cases h
      split
      ·exact (hn _ _ _ rfl).elim
      simp only [hd];exact hK
     cases h
    cases h
   ·rename_i h1
    simp only [h1];unfold ZFj at h
    split at h
    ·split at h
     ·rename_i hq hl
      cases h
      simp only [hq];rw [Zje] at hl;have hl:=Sk hl;rw [Int.min_eq_right oM];exact hK
     ·rename_i hq hl
      cases h
      simp only [hq];rw [Zje] at hl;have hl:=of_decide_eq_false hl;rw [Int.min_eq_left oM];exact hK
     cases h
    cases h
   cases h
  cases h
 cases h
end Go.PM
end

section
namespace Go.PM
def ZrX (T:Tab) (e:Nat):Option (List D):=match WV (T.get e).kind,ZmS (T.get e).zero with
 | false,some z=>(match Nat.ble 1 z.length with | true=>some z | false=>none)
 | _,_=>none
def ZrY {T:Tab} {e:Nat} {z:List D} (h:ZrX T e=some z):WV (T.get e).kind=false/\ZmS (T.get e).zero=some z/\Nat.ble 1 z.length=true:=by
 unfold ZrX at h
 split at h
 ·rename_i h1 h2
  split at h
  ·rename_i h3;cases h;exact ⟨h1,h2,h3⟩
  cases h
 cases h
def ZmL (T:Tab) (t:TypeId) (n:Nat) (ρ:Operand->PV) (ps:List (Nat×Operand)):Option (Nat×List (List D)):=match (T.get t).kind with
 | .slice e=>match ZrX T e with
  | some z=>(match Nat.ble (n * z.length) 16777216,ZaG z ρ n ps with | true,some rows=>some (e,rows) | _,_=>none)
  | none=>none
 | _=>none
def Zzx (T:Tab) (o:Op) (ty:TypeId) (ρ:Operand->PV) (bx:List Box):Option PV:=match Zjz T o with
 | some x=>none
 | none=>match o with
  | .buildSlice t n ps=>(match ZmL T t n ρ ps.toList with | some (_,rows)=>some (.d (.sl rows)) | none=>none)
  | .makeSlice t l c=>none
  | o=>ZEn T o ty ρ bx
def ZuF {T:Tab} {o:Op} {ty:TypeId} {ρ:Operand->PV} {bx:List Box} {v:PV} {K:PV->Prop} (h:Zzx T o ty ρ bx=some v) (hK:K v):Zf1 T o ty ρ bx K:=by
 unfold Zzx at h
 unfold Zf1
 split at h
 ·rename_i x hx
  cases h
 rename_i hx
 simp only [hx];split at h
 ·rename_i t n ps _
  simp only;split at h
  ·rename_i rows hb
   cases h
   unfold ZmL at hb
   split at hb
   ·rename_i hk
    simp only [hk];split at hb
    ·rename_i z hz
     obtain ⟨h1,h2,h3⟩:=ZrY hz;refine UV h1 ?_;simp only [h2];split at hb
     ·rename_i h4 h5;cases hb;simp only [h3,h4,h5];exact hK
     cases hb
    cases hb
   cases hb
  cases h
 ·cases h
 rename_i gc ip
 have:=Zzw h hK;split
 ·exact (gc _ _ _ rfl).elim
 ·exact (ip _ _ _ rfl).elim
 exact this
def ZvB (T:Tab) (e:Nat) (σ:St):Option (PV×St):=match WV (T.get e).kind with
 | true=>none
 | false=>some (.ptr σ.bx.length 0,σ.new (.cells e (T.get e).zero))
def ZFk (e:Nat) (v:PV) (σ:St):Option (PV×St):=match v.cells with
 | some l=>some (.ptr σ.bx.length 0,σ.new (.cells e l))
 | none=>none
def ZvC (T:Tab) (t:TypeId) (a v:PV) (σ:St):Option (PV×St):=match a with
 | .ptr b off=>match σ.bx[b]?,v.cells with
  | some (.cells ty cs),some l=>(match Nat.beq l.length (T.get t).size,Nat.ble (off+l.length) cs.length,WV (T.get t).kind with
   | true,true,false=>some (.undef,σ.set b (.cells ty (ZT cs off l)))
   | _,_,_=>none)
  | _,_=>none
 | _=>none
def ZvD (T:Tab) (t:TypeId) (v:PV) (σ:St):Option (PV×St):=match (T.get t).kind,v with
 | .string,.d (.str s)=>some (.ptr σ.bx.length 0,σ.new (.iter s 0))
 | _,_=>none
def ZCw (v:PV) (σ:St):Option (PV×St):=match v with
 | .ptr b 0=>match σ.bx[b]? with
  | some (.iter s pos)=>(match Nat.ble (pos+1) s.length with
   | true=>some (.tuple [.d (.bool true),.d (.int .i64 pos),.d (.int .i32 (decodeL s pos).1)],σ.set b (.iter s (pos+(decodeL s pos).2)))
   | false=>some (.tuple [.d (.bool false)],σ))
  | _=>none
 | _=>none
def ZFl (T:Tab) (el:Nat) (s:PV) (more:List (List D)) (σ:St):Option (PV×St):=match WV (T.get el).kind,Nat.ble 1 (T.get el).size,ZmF (T.get el).size more with
 | false,true,true=>match s with
  | .nils _=>(match Nat.ble (more.length * (T.get el).bytes) 140737488355328,Nat.ble more.length 140737488355328 with
   | true,true=>some (.sl σ.nx el more,{ σ with tk:=σ.nx::σ.tk,nx:=σ.nx+1 })
   | _,_=>none)
  | .sl tok e2 rows=>(match Zej tok σ.tk,Nat.beq e2 el,Nat.ble ((rows.length+more.length) * (T.get el).bytes) 140737488355328,Nat.ble (rows.length+more.length) 140737488355328 with
   | true,true,true,true=>some (.sl σ.nx el (rows++more),{ σ with tk:=σ.nx::UB tok σ.tk,nx:=σ.nx+1 })
   | _,_,_,_=>none)
  | _=>none
 | _,_,_=>none
def ZrZ (T:Tab) (ts:List TypeId) (vs:List PV) (σ:St):Option (PV×St):=match ts,vs with
 | [t,tx],[s,x]=>match (T.get t).kind with
  | .slice el=>(match WD T tx el x with | some more=>ZFl T el s more σ | none=>none)
  | _=>none
 | _,_=>none
def ZEo (T:Tab) (o:Op) (ρ:Operand->PV) (σ:St):Option (PV×St):=match o with
 | .alloc e=>ZvB T e σ
 | .box e x=>ZFk e (ρ x) σ
 | .store t a x=>ZvC T t (ρ a) (asT T t (ρ x)) σ
 | .range t x=>ZvD T t (ρ x) σ
 | .next x true=>ZCw (ρ x) σ
 | .call { callee:=.builtin .append,args,argTypes }=>ZrZ T argTypes.toList (args.toList.map ρ) σ
 | _=>none
def Zzy {T:Tab} {o:Op} {ρ:Operand->PV} {σ σ':St} {v:PV} {K:PV->St->Prop} (h:ZEo T o ρ σ=some (v,σ')) (hK:K v σ'):eop T o ρ σ K:=by
 unfold ZEo at h
 unfold eop
 split at h
 ·unfold ZvB at h
  split at h
  ·cases h
  rename_i ho;cases h;exact UV ho hK
 ·unfold ZFk at h
  simp only;split at h
  ·rename_i hc;cases h;simp only [hc];exact hK
  cases h
 ·unfold ZvC at h
  simp only;split at h
  ·rename_i ha
   simp only [ha];split at h
   ·rename_i hb hc
    simp only [hb,hc];split at h
    ·rename_i h1 h2 h3
     cases h
     simp only [h1,h2];split
     ·rename_i he;rw [he] at h3;cases h3
     ·exact hK
     rename_i hn _;exact (hn rfl rfl).elim
    cases h
   cases h
  cases h
 ·unfold ZvD at h
  simp only;split at h
  ·exact mq151
  cases h
 ·unfold ZCw at h
  simp only;split at h
  ·rename_i ha
   simp only [ha];split at h
   ·rename_i s pos hb
    simp only [hb];split at h
    ·rename_i hl
     cases h
     rw [T3 (show pos<s.length from Tc hl)];exact hK
    rename_i hl
    cases h
    rw [decide_eq_false (show ¬pos<s.length from fun g=>by rw [Nat.ble_eq_true_of_le g] at hl;cases hl)];exact hK
   cases h
  cases h
 ·unfold ZrZ at h
  simp only;split at h
  ·rename_i h1 h2
   simp only [h1,h2];split at h
   ·rename_i hk
    simp only [hk];split at h
    ·rename_i hm
     unfold ZFl at h
     split at h
     ·rename_i ho hs hr
      refine UV ho ?_;simp only [hs,hm];split at h
      ·split at h
       ·rename_i h3 h4
        cases h
        exact ⟨Zeb hr,Tc h3,Tc h4,hK⟩
       cases h
      ·split at h
       ·rename_i h3 h4 h5 h6
        cases h
        simp only [h3,h4];exact ⟨Zeb hr,Tc h5,Tc h6,hK⟩
       cases h
      cases h
     cases h
    cases h
   cases h
  cases h
 cases h
end Go.PM
end

section
namespace Go.PM
abbrev TS:=FT×St
abbrev ZCx:=PExit×FT×St
abbrev WX:=FuncId->List PV->St->Option (PEnd×St)
def ZzY (t:FT) (d:Option Nat) (v:PV) (σ:St):Option TS:=match d with
 | some i=>ZC7 v fun v=>match t.put v i with | some t=>some (t,σ) | none=>none
 | none=>some (t,σ)
def Zbu {t:FT} {d:Option Nat} {v:PV} {σ:St} {s:TS} {K:Frame->St->Prop} (h:ZzY t d v σ=some s) (hK:K s.1.get s.2):ZhG t.get d v fun f=>K f σ:=by
 rw [ZU];unfold ZzY at h
 cases d with
 | none=>cases h;exact hK
 | some i =>
 simp only [ZrV] at h;split at h
 ·rename_i t' ht
  cases h
  have:=ZGa ht;simp only at hK;rw [this] at hK;exact hK
 cases h
def Zr0 (call:WX) (fv:PV) (args:List PV) (σ:St):Option (PV×St):=match fv with
 | .func g first caps=>(match ZoD args,call g (first++args++caps) σ with | false,some (.ret v,σ)=>some (v,σ) | _,_=>none)
 | _=>none
def ZvE (t:FT) (d:Option Nat) (r:Option (PV×St)):Option TS:=match r with
 | some (v,σ)=>ZrU σ fun σ=>ZzY t d v σ
 | none=>none
def ZFm (call:WX) (T:Tab) (o:Oper) (t:FT) (σ:St):Option (PV×St):=match o.op with
 | .call { callee:=.value x,args,.. }=>Zr0 call (ev t.get x) (args.toList.map (ev t.get)) σ
 | .panic x=>none
 | op=>ZEo T op (ev t.get) σ
def Zji (call:WX) (T:Tab) (o:Oper) (t:FT) (σ:St):Option TS:=match YS o.op with
 | false=>(match Zzx T o.op o.type (ev t.get) σ.bx with | some v=>ZzY t o.dst v σ | none=>none)
 | true=>ZvE t o.dst (ZFm call T o t σ)
structure CxR (C:Cx) (call:WX) (T:Tab) (N:Nat):Prop where
 T:C.T=T
 call:∀{g args σ pe σ'} {K:PEnd->St->Prop},call g args σ=some (pe,σ')->K pe σ'->C.call g args σ K
 bsl:C.bsl=fun _=>false
 unr:C.unr=fun _=>N+1
 cut:C.cut=fun _=>none
 foc:C.foc=fun _=>false
def CxR.calm {C:Cx} {call:WX} {T:Tab} {N:Nat} (h:CxR C call T N):CxR C.calm call T N:=⟨h.T,h.call,h.bsl,h.unr,h.cut,h.foc⟩
section
variable {C:Cx} {call:WX} {T:Tab} {N:Nat} {Q:PQ} {K:Frame->St->Prop}
def Zec (hC:CxR C call T N) {o:Oper} {t:FT} {σ:St} {s:TS} (h:Zji call T o t σ=some s) (hK:K s.1.get s.2):XM C o t.get σ Q K:=by
 unfold Zji at h
 unfold XM
 split at h
 ·rename_i he
  simp only [he,hC.T];split at h
  ·rename_i hq;exact ZuF hq (Zbu h hK)
  cases h
 rename_i he
 simp only [he];unfold ZvE at h
 split at h
 ·rename_i v σ1 hq
  rw [Zhk] at h;unfold ZFm at hq
  split at hq
  ·rename_i x args _ ho
   simp only [ho];unfold Zr0 at hq
   unfold ZcD
   split at hq
   ·rename_i hf
    simp only [hf];split at hq
    ·rename_i hr hc
     cases hq
     simp only [hr];refine hC.call hc ?_;simp only [ZM];exact Zbu h hK
    cases hq
   cases hq
  ·cases hq
  rename_i gc ip
  split
  ·rename_i ho;exact (gc _ _ _ ho).elim
  ·rename_i ho;exact (ip _ ho).elim
  rw [hC.T];refine Zzy hq ?_;simp only [ZM];exact Zbu h hK
 cases h
def ZmM (call:WX) (T:Tab) (all:List Oper) (o:Oper) (t:FT) (σ:St):Option TS:=match o.guard with
 | none=>Zji call T o t σ
 | some (j,want)=>match We all j with
  | some s=>(match t.get s with
   | .d (.bool b)=>(match b,want with
    | true,true=>Zji call T o t σ
    | false,false=>Zji call T o t σ
    | _,_=>ZzY t o.dst (.raw Go.undef) σ)
   | .raw (.tuple _)=>ZzY t o.dst (.raw Go.undef) σ
   | _=>none)
  | none=>none
def Zjj (hC:CxR C call T N) {all:List Oper} {o:Oper} {t:FT} {σ:St} {s:TS} (h:ZmM call T all o t σ=some s) (hK:K s.1.get s.2):W0 C all Q o t.get σ K:=by
 unfold ZmM at h
 unfold W0
 split at h
 ·rename_i hg;simp only [hg];exact Zec hC h hK
 rename_i j want hg
 simp only [hg];split at h
 ·rename_i hs
  simp only [hs];split at h
  ·rename_i b hb
   simp only [hb]
   cases b <;> cases want <;> simp only at h
   ·exact ZGc (by simp only [Xd hb];exact Zec hC h hK)
   ·exact ZGc (by simp only [Xd hb];exact Zbu h hK)
   ·exact ZGb (by simp only [Xd hb];exact Zbu h hK)
   exact ZGb (by simp only [Xd hb];exact Zec hC h hK)
  ·rename_i hb;simp only [hb];exact Zbu h hK
  cases h
 cases h
def ZuG (call:WX) (T:Tab) (all:List Oper):List Oper->FT->St->Option TS
 | [],t,σ=>some (t,σ)
 | o::rest,t,σ=>match ZmM call T all o t σ with
  | some (t,σ)=>ZuG call T all rest t σ
  | none=>none
def ZmN (hC:CxR C call T N) {all:List Oper}:∀{l:List Oper} {t:FT} {σ:St} {s:TS},ZuG call T all l t σ=some s->Q .normal s.1.get s.2->Zox C all Q l t.get σ
 | [],t,σ,s,h,hQ=>by cases h;exact hQ
 | o::rest,t,σ,s,h,hQ=>by
  unfold ZuG at h
  unfold Zox ZhJ
  have ho:ZeT C o=false:=by
   unfold ZeT
   rw [hC.bsl]
   cases o.dst <;> cases o.guard <;> rfl
  rw [ho];split at h
  ·rename_i hs
   exact Zjj hC hs (ZmN hC h hQ)
  cases h
end
end Go.PM
end

section
namespace Go.PM
def ZCy {k k':IntKind} (h:keq k k'=true):k=k':=by cases k <;> cases k' <;> first | rfl | (cases h;done)
mutual
def Zsn:D->D->Bool
 | .bool a,.bool b=>(match a,b with | true,true=>true | false,false=>true | _,_=>false)
 | .int k a,.int k' b=>(match keq k k' with | true=>ieq a b | false=>false)
 | .str a,.str b=>ZeD a b
 | .sl a,.sl b=>ZfZ a b
 | .nilp,.nilp=>true
 | .nilf,.nilf=>true
 | .nili,.nili=>true
 | _,_=>false
def Zot:List D->List D->Bool
 | [],[]=>true
 | x::l,y::m=>(match Zsn x y with | true=>Zot l m | false=>false)
 | _,_=>false
def ZfZ:List (List D)->List (List D)->Bool
 | [],[]=>true
 | x::l,y::m=>(match Zot x y with | true=>ZfZ l m | false=>false)
 | _,_=>false
end
mutual
def Zr1:∀{x y:D},Zsn x y=true->x=y
 | .bool a,y,h=>by
  cases y <;> simp only [Zsn] at h <;> first | (cases h;done) | skip
  rename_i b;cases a <;> cases b <;> first | rfl | (cases h;done)
 | .int k a,y,h=>by
  cases y <;> simp only [Zsn] at h <;> first | (cases h;done) | skip
  split at h
  ·rename_i hk;rw [ZrW] at h;rw [ZCy hk,Sk h]
  cases h
 | .str a,y,h=>by
  cases y <;> simp only [Zsn] at h <;> first | (cases h;done) | skip
  rw [Zhn] at h;rw [Sk h]
 | .sl a,y,h=>by
  cases y <;> simp only [Zsn] at h <;> first | (cases h;done) | skip
  rw [Zed h]
 | .nilp,y,h=>by cases y <;> simp only [Zsn] at h <;> first | rfl | (cases h;done)
 | .nilf,y,h=>by cases y <;> simp only [Zsn] at h <;> first | rfl | (cases h;done)
 | .nili,y,h=>by cases y <;> simp only [Zsn] at h <;> first | rfl | (cases h;done)
def Zho:∀{x y:List D},Zot x y=true->x=y
 | [],y,h=>by cases y <;> simp only [Zot] at h <;> first | rfl | (cases h;done)
 | x::l,y,h=>by
  cases y <;> simp only [Zot] at h <;> first | (cases h;done) | skip
  split at h
  ·rename_i h1;rw [Zr1 h1,Zho h]
  cases h
def Zed:∀{x y:List (List D)},ZfZ x y=true->x=y
 | [],y,h=>by cases y <;> simp only [ZfZ] at h <;> first | rfl | (cases h;done)
 | x::l,y,h=>by
  cases y <;> simp only [ZfZ] at h <;> first | (cases h;done) | skip
  split at h
  ·rename_i h1;rw [Zho h1,Zed h]
  cases h
end
mutual
def ZC9:PV->PV->Bool
 | .d x,.d y=>Zsn x y
 | .undef,.undef=>true
 | .ptr a b,.ptr c d=>(match Nat.beq a c with | true=>Nat.beq b d | false=>false)
 | .nils a,.nils b=>Nat.beq a b
 | .sl a b r,.sl c d q=>(match Nat.beq a c,Nat.beq b d with | true,true=>ZfZ r q | _,_=>false)
 | .elem r a,.elem q b=>(match Nat.beq a b with | true=>Zot r q | false=>false)
 | .agg x,.agg y=>Zk9 x y
 | .tuple x,.tuple y=>Zk9 x y
 | _,_=>false
def Zk9:List PV->List PV->Bool
 | [],[]=>true
 | x::l,y::m=>(match ZC9 x y with | true=>Zk9 l m | false=>false)
 | _,_=>false
end
mutual
def Zla:∀{x y:PV},ZC9 x y=true->x=y
 | x,y,h=>by
  cases x <;> cases y <;> simp only [ZC9] at h <;> first
   | (cases h;done)
   | rfl
   | rw [Zr1 h]
   | rw [Tl h]
   | rw [Zhp h]
   | (split at h <;> first
     | (cases h;done)
     | (rename_i h1 h2;rw [Tl h1,Tl h2,Zed h])
     | (rename_i h1;rw [Tl h1,Tl h])
     | (rename_i h1;rw [Tl h1,Zho h])
     | (rename_i h1;rw [Tl h1,Zla h]))
def Zhp:∀{x y:List PV},Zk9 x y=true->x=y
 | [],y,h=>by cases y <;> simp only [Zk9] at h <;> first | rfl | (cases h;done)
 | x::l,y,h=>by
  cases y <;> simp only [Zk9] at h <;> first | (cases h;done) | skip
  split at h
  ·rename_i h1;rw [Zla h1,Zhp h]
  cases h
end
def ZEp:Option (Nat×List PV×List (List UInt8×MV))->Option (Nat×List PV×List (List UInt8×MV))->Bool
 | some (n,a,[]),some (m,b,[])=>(match Nat.beq n m,Zk9 a b with | true,true=>true | _,_=>false)
 | none,none=>true
 | _,_=>false
def Zzz {x y:Option (Nat×List PV×List (List UInt8×MV))} (h:ZEp x y=true):x=y:=by
 unfold ZEp at h
 split at h
 ·split at h
  ·rename_i h1 h2;rw [Tl h1,Zhp h2]
  cases h
 ·rfl
 cases h
def Zr2 (ms:List Nat) (j:Nat) (pre post:List Box):List Ld->Bool
 | []=>true
 | ⟨i,b,off,n⟩::l=>match anc ms i j with
  | true=>Zr2 ms j pre post l
  | false=>match ZEp (ZY pre b off n) (ZY post b off n) with | true=>Zr2 ms j pre post l | false=>false
def Zhq {ms:List Nat} {j:Nat} {pre post:List Box} {X:Prop} (hX:X):∀{l:List Ld},Zr2 ms j pre post l=true->ZoE ms j pre post l X
 | [],_=>hX
 | ⟨i,b,off,n⟩::l,h=>by
  unfold Zr2 at h
  unfold ZoE
  split at h
  ·rename_i h1;simp only [h1];exact Zhq hX h
  rename_i h1
  simp only [h1];split at h
  ·rename_i h2;exact ⟨Zzz h2,Zhq hX h⟩
  cases h
def Zjk (call:WX) (T:Tab) (all:List Oper) (ms:List Nat):List (Nat×Oper)->List Ld->FT->St->Option TS
 | [],_,t,σ=>some (t,σ)
 | (i,o)::rest,ctx,t,σ=>match ZmM call T all o t σ with
  | some (t',σ')=>(match YS o.op with
   | true=>(match Zr2 ms i σ.bx σ'.bx ctx with | true=>Zjk call T all ms rest ctx t' σ' | false=>none)
   | false=>Zjk call T all ms rest (VY T o i t.get ctx) t' σ')
  | none=>none
def Zee {C:Cx} {call:WX} {T:Tab} {N:Nat} {Q:PQ} (hC:CxR C call T N) {all:List Oper} {ms:List Nat}:∀{l:List (Nat×Oper)} {ctx:List Ld} {t:FT} {σ:St} {s:TS},Zjk call T all ms l ctx t σ=some s->Q .normal s.1.get s.2->X0 C all ms Q l ctx t.get σ
 | [],_,t,σ,s,h,hQ=>by cases h;exact hQ
 | (i,o)::rest,ctx,t,σ,s,h,hQ=>by
  unfold Zjk at h
  unfold X0 XZ
  split at h
  ·rename_i t1 σ1 hs
   refine Zjj hC hs ?_;simp only;split at h
   ·rename_i he
    simp only [he];split at h
    ·rename_i hc;exact Zhq (Zee hC h hQ) hc
    cases h
   rename_i he
   simp only [he,hC.T];exact Zee hC h hQ
  cases h
def ZuH (S:FT->St->Option ZCx):Nat->FT->St->Option ZCx
 | 0,_,_=>none
 | n+1,t,σ=>match S t σ with
  | some (.normal,t,σ)=>ZuH S n t σ
  | r=>r
def ZFn (call:WX) (T:Tab) (ops:List Oper) (draw:Bool) (t:FT) (σ:St):Option TS:=match draw with
 | false=>ZuG call T ops ops t σ
 | true=>(match ZcG ops,ZeU (Wf ops []) none (ZG 0 ops) with
  | none,true=>Zjk call T ops (Wf ops []) (Zf3 ops) [] t σ
  | _,_=>none)
def Zjl (call:WX) (T:Tab) (N:Nat):Code->FT->St->Option ZCx
 | .skip,t,σ=>some (.normal,t,σ)
 | .region _ ops draw,t,σ=>(match ZFn call T ops.toList draw t σ with | some (t,σ)=>some (.normal,t,σ) | none=>none)
 | .seq a b,t,σ=>(match Zjl call T N a t σ with
  | some (.normal,t,σ)=>Zjl call T N b t σ
  | r=>r)
 | .cond c x y,t,σ=>(match ev t.get c with
  | .d (.bool true)=>Zjl call T N x t σ
  | .d (.bool false)=>Zjl call T N y t σ
  | _=>none)
 | .block id b,t,σ=>(match Zjl call T N b t σ with
  | some (.exit i,t,σ)=>(match Nat.beq i id with | true=>some (.normal,t,σ) | false=>some (.exit i,t,σ))
  | r=>r)
 | .scope b,t,σ=>(match Zjl call T N b t σ with
  | some (.goto _,_,_)=>none
  | r=>r)
 | .exit id,t,σ=>some (.exit id,t,σ)
 | .ret,t,σ=>some (.ret,t,σ)
 | .loop b,t,σ=>ZuH (fun t σ=>Zjl call T N b t σ) (N+1) t σ
 | _,_,_=>none
def ZmO {S:FT->St->Option ZCx} {W:PQ->Frame->St->Prop} (hS:∀{Q t σ e t' σ'},S t σ=some (e,t',σ')->Q e t'.get σ'->W Q t.get σ):∀{n:Nat} {Q:PQ} {t:FT} {σ:St} {e:PExit} {t':FT} {σ':St},ZuH S n t σ=some (e,t',σ')->Q e t'.get σ'->Zbw W Q n t.get σ
 | 0,_,_,_,_,_,_,h,_=>by cases h
 | n+1,Q,t,σ,e,t',σ',h,hQ=>by
  unfold ZuH at h
  unfold Zbw
  split at h
  ·rename_i t1 σ1 hs
   exact hS hs (ZmO hS h hQ)
  rename_i hn
  refine hS h ?_;split
  ·exact (hn _ _ h).elim
  exact hQ
def ZzA {C:Cx} {call:WX} {T:Tab} {N:Nat} (hC:CxR C call T N):∀(c:Code) {Q:PQ} {t:FT} {σ:St} {e:PExit} {t':FT} {σ':St},Zjl call T N c t σ=some (e,t',σ')->Q e t'.get σ'->W C c Q t.get σ:=by
 intro c
 induction c with
 | region id ops draw =>
  intro Q t σ e t' σ' h hQ
  simp only [Zjl] at h;simp only [W,hC.foc,WR];split at h
  ·rename_i t1 σ1 hr
   cases h
   unfold ZFn at hr
   split at hr
   ·exact ZmN hC hr hQ
   split at hr
   ·rename_i h1 h2
    simp only [h1,h2];exact Zee hC.calm hr hQ
   cases hr
  cases h
 | seq a b iha ihb =>
  intro Q t σ e t' σ' h hQ
  simp only [Zjl] at h;simp only [W,hC.cut];split at h
  ·rename_i t1 σ1 h1
   exact iha h1 (ihb h hQ)
  rename_i hn
  refine iha h ?_;split
  ·exact (hn _ _ h).elim
  exact hQ
 | cond c x y ihx ihy =>
  intro Q t σ e t' σ' h hQ
  simp only [Zjl] at h;simp only [W];split at h
  ·rename_i hc;simp only [hc];exact ZGb (ihx h hQ)
  ·rename_i hc;simp only [hc];exact ZGc (ihy h hQ)
  cases h
 | block id b ih =>
  intro Q t σ e t' σ' h hQ
  simp only [Zjl] at h;simp only [W];split at h
  ·rename_i i t1 σ1 h1
   refine ih h1 ?_;simp only;split at h
   ·rename_i hb;cases h;simp only [hb];exact hQ
   rename_i hb;cases h;simp only [hb];exact hQ
  rename_i hn
  refine ih h ?_;split
  ·exact (hn _ _ _ h).elim
  exact hQ
 | scope b ih =>
  intro Q t σ e t' σ' h hQ
  simp only [Zjl] at h;simp only [W];split at h
  ·cases h
  rename_i hn
  refine ih h ?_;split
  ·exact (hn _ _ _ h).elim
  exact hQ
 | loop b ih =>
  intro Q t σ e t' σ' h hQ
  simp only [Zjl] at h;simp only [W,hC.unr];exact ZmO (W:=fun Q f σ=>W C b Q f σ) (fun h hQ=>ih h hQ) h hQ
 | skip=>intro Q t σ e t' σ' h hQ;cases h;exact hQ
 | exit id=>intro Q t σ e t' σ' h hQ;cases h;exact hQ
 | ret=>intro Q t σ e t' σ' h hQ;cases h;exact hQ
 | _=>intro Q t σ e t' σ' h hQ;cases h
end Go.PM
end

section
namespace Go.PM
abbrev N1:=List Nat->Nat->PV->PV×List Nat×Nat
def VP (cl:PV->PV) (n:Nat):N1:=fun tk k v=>match v with
 | .sl t e rows=>(match Zej t tk with
  | true=>(.sl k e rows,UB t tk,k+1)
  | false=>(.d (.sl rows),tk,k))
 | .nils e=>(.sl k e [],tk,k+1)
 | v=>(match bnd n v with
  | true=>(cl v,tk,k)
  | false=>(.undef,tk,k))
def JR (f:N1):List PV->List Nat->Nat->List PV×List Nat×Nat
 | [],tk,k=>([],tk,k)
 | v::l,tk,k=>match f tk k v with
  | (v,tk,k)=>match JR f l tk k with
   | (l,tk,k)=>(v::l,tk,k)
def ZaB (n:Nat):N1:=fun tk k v=>match v with
 | .agg cs=>(match JR (VP cleanN n) cs tk k with | (cs,tk,k)=>(.agg cs,tk,k))
 | v=>VP cleanN n tk k v
def ZuI {n:Nat} {tk:List Nat} {k:Nat} {v:PV} {K:PV->List Nat->Nat->Prop} (h:K (VP clean n tk k v).1 (VP clean n tk k v).2.1 (VP clean n tk k v).2.2):Zso n tk k v K:=by
 cases v <;> simp only [VP,Zso,ZO] at h |- <;> first
  | exact h
  | (split at h <;> rename_i hb <;> simp only [hb] <;> exact h)
def Zjm {n:Nat} {tk:List Nat} {k:Nat} {v:PV} {K:PV->List Nat->Nat->Prop} (h:K (VP cleanN n tk k v).1 (VP cleanN n tk k v).2.1 (VP cleanN n tk k v).2.2):ZcE n tk k v K:=by
 cases v <;> simp only [VP,ZcE,ZO] at h |- <;> first
  | exact h
  | (split at h <;> rename_i hb <;> simp only [hb] <;> exact h)
def Zhr {n:Nat}:∀{l:List PV} {tk:List Nat} {k:Nat} {K:List PV->List Nat->Nat->Prop},K (JR (VP clean n) l tk k).1 (JR (VP clean n) l tk k).2.1 (JR (VP clean n) l tk k).2.2->Zsp n l tk k K
 | [],_,_,_,h=>h
 | v::l,tk,k,K,h=>ZuI (Zhr h)
def Zjn {n:Nat}:∀{l:List PV} {tk:List Nat} {k:Nat} {K:List PV->List Nat->Nat->Prop},K (JR (VP cleanN n) l tk k).1 (JR (VP cleanN n) l tk k).2.1 (JR (VP cleanN n) l tk k).2.2->ZjB n l tk k K
 | [],_,_,_,h=>h
 | v::l,tk,k,K,h=>Zjm (Zjn h)
def Zr3 {n:Nat} {tk:List Nat} {k:Nat} {v:PV} {K:PV->List Nat->Nat->Prop} (h:K (ZaB n tk k v).1 (ZaB n tk k v).2.1 (ZaB n tk k v).2.2):ZhK n tk k v K:=by
 unfold ZhK
 split
 ·exact Zjn h
 rename_i hn
 refine Zjm ?_;have:ZaB n tk k v=VP cleanN n tk k v:=by cases v <;> first | rfl | exact (hn _ rfl).elim
 rw [this] at h;exact h
def Zef {n:Nat}:∀{l:List PV} {tk:List Nat} {k:Nat} {K:List PV->List Nat->Nat->Prop},K (JR (ZaB n) l tk k).1 (JR (ZaB n) l tk k).2.1 (JR (ZaB n) l tk k).2.2->ZjC n l tk k K
 | [],_,_,_,h=>h
 | v::l,tk,k,K,h=>Zr3 (Zef h)
def Zr4 (n:Nat):Nat->List Box->List Nat->Nat->Option (List Box×List Nat×Nat)
 | 0,_,tk,k=>some ([],tk,k)
 | m+1,.cells t cs::l,tk,k=>(match JR (VP clean n) cs tk k with
  | (cs,tk,k)=>match Zr4 n m l tk k with | some (l,tk,k)=>some (.cells t cs::l,tk,k) | none=>none)
 | _,_,_,_=>none
def Zhs {n:Nat}:∀{m:Nat} {bs:List Box} {tk:List Nat} {k:Nat} {r:List Box×List Nat×Nat} {K:List Box->List Nat->Nat->Prop},Zr4 n m bs tk k=some r->K r.1 r.2.1 r.2.2->ZcF n m bs tk k K
 | 0,_,_,_,_,_,h,hK=>by cases h;exact hK
 | m+1,[],tk,k,r,K,h,hK=>by cases h
 | m+1,x::l,tk,k,r,K,h,hK=>by
  cases x with
  | cells t cs =>
   simp only [Zr4] at h;simp only [ZcF];refine Zhr ?_;split at h
   ·rename_i hb;cases h;exact Zhs hb hK
   cases h
  | _=>cases h
def ZuJ (bs:List Nat) (bx:List Box):List Nat->Option (List Box)
 | []=>some []
 | b::l=>match bx[b]? with
  | some (.cells t cs)=>(match ZuJ bs bx l with | some r=>some (.cells t (Zgm bs cs)::r) | none=>none)
  | _=>none
def ZmP {bs:List Nat} {bx:List Box}:∀{l:List Nat} {r:List Box} {K:List Box->Prop},ZuJ bs bx l=some r->K r->Znf bs bx l K
 | [],r,K,h,hK=>by cases h;exact hK
 | b::l,r,K,h,hK=>by
  unfold ZuJ at h
  unfold Znf
  split at h
  ·rename_i hb
   simp only [hb];split at h
   ·rename_i hs;cases h;exact ZmP hs hK
   cases h
  cases h
def Zr5 (bb:Box->Box):List Nat->List Box->List Box->Option (List Box)
 | [],xs,acc=>some (acc++xs.map bb)
 | b::l,x::xs,acc=>Zr5 bb l xs (acc.set b (bb x))
 | _::_,[],_=>none
def Zjo {bb:Box->Box}:∀{l:List Nat} {xs acc r:List Box} {K:List Box->Prop},Zr5 bb l xs acc=some r->K r->Zen bb l xs acc K
 | [],xs,acc,r,K,h,hK=>by cases h;exact hK
 | b::l,x::xs,acc,r,K,h,hK=>Zjo (l:=l) h hK
 | _::_,[],_,_,_,h,_=>by cases h
abbrev RFn:=List PV->St->Option (PEnd×St)
def Zr6 (r:RFn):Zn:=fun args σ K=>∃pe σ',r args σ=some (pe,σ')/\K pe σ'
def ZzB (own:Bool) (n:Nat) (args:List PV) (tk:List Nat):List PV×List Nat×Nat:=match own with
 | true=>JR (ZaB n) args tk 0
 | false=>JR (VP clean n) args tk 0
def UW (own:Bool) (r:RFn) (args:List PV) (σ:St):Option (PEnd×St) :=
 ZzX (J4 σ.bx (σ.bx.length+1) 0 (ZaU args [])) fun bs=>match Zh4 bs,ZuJ bs σ.bx bs,ZzB own bs.length (Zgm bs args) σ.tk with
  | true,some cb,(args',tk,k)=>(match Zr4 bs.length bs.length cb tk k with
   | some (cb',rest,k)=>ZzW args' fun args'=>ZrU ⟨cb',toks k,k⟩ fun σ2=>(match r args' σ2 with
    | some (pe,σ3)=>(match Zr5 (ZaW bs bs.length σ.bx.length σ.nx) bs σ3.bx σ.bx with
     | some bx=>ZrU ⟨bx,rest++σ3.tk.map (σ.nx+·),σ.nx+σ3.nx⟩ fun σ4=>some (ZsH bs bs.length σ.bx.length σ.nx pe,σ4)
     | none=>none)
    | none=>none)
   | none=>none)
  | _,_,_=>none
def mdR:Bool->Nat | true=>2 | false=>0
def Zeg {own:Bool} {r:RFn} {args:List PV} {σ:St} {pe:PEnd} {σ':St} {K:PEnd->St->Prop} (h:UW own r args σ=some (pe,σ')) (hK:K pe σ'):VA (mdR own) (Zr6 r) args σ K:=by
 unfold UW at h
 unfold VA
 simp only [J5,J6,Wk];simp only [Zd9] at h;split at h
 ·rename_i cb args' tk k h1 h2 h3
  simp only [h1];refine ZmP h2 ?_;have key:∀{X:List PV->List Nat->Nat->Prop},X args' tk k->ZoF (mdR own) (J4 σ.bx (σ.bx.length+1) 0 (ZaU args [])).length (Zgm (J4 σ.bx (σ.bx.length+1) 0 (ZaU args [])) args) σ.tk 0 X:=by
   intro X hX
   cases own with
   | true=>exact Zef (by simp only [ZzB] at h3;rw [h3];exact hX)
   | false=>exact Zhr (by simp only [ZzB] at h3;rw [h3];exact hX)
  refine key ?_;split at h
  ·rename_i hb
   refine Zhs hb ?_;simp only [Zd8,Zhk] at h;split at h
   ·rename_i hr
    refine ⟨_,_,hr,?_⟩;split at h
    ·rename_i j7;cases h;exact Zjo j7 hK
    cases h
   cases h
  cases h
 cases h
def Zlb (T:Tab) (t:FT) (bx:List Box):List ResultVar->Option (List PV)
 | []=>some []
 | .tmp i::l=>(match Zlb T t bx l with | some vs=>some (t.get i::vs) | none=>none)
 | .cell a ty::l=>(match ZmH T ty (t.get a) bx,Zlb T t bx l with | some v,some vs=>some (v::vs) | _,_=>none)
def ZcA {T:Tab} {t:FT} {bx:List Box}:∀{l:List ResultVar} {vs:List PV} {K:List PV->Prop},Zlb T t bx l=some vs->K vs->pres T t.get bx l K
 | [],vs,K,h,hK=>by cases h;exact hK
 | .tmp i::l,vs,K,h,hK=>by
  simp only [Zlb] at h;simp only [pres,ZO];split at h
  ·rename_i h1;cases h;exact ZcA h1 hK
  cases h
 | .cell a ty::l,vs,K,h,hK=>by
  simp only [Zlb] at h;simp only [pres];split at h
  ·rename_i h1 h2;cases h;refine Zjg h1 ?_;rw [ZO];exact ZcA h2 hK
  cases h
def Zht (n:Nat):Nat->List Box->Bool
 | 0,_=>true
 | _,[]=>true
 | m+1,.cells _ cs::l=>(match ZoC n cs with | true=>Zht n m l | false=>false)
 | m+1,_::l=>Zht n m l
def ZEq (k0:Nat) (v:PV) (σ:St):Nat:=match bnd k0 v,Zht k0 k0 σ.bx with
 | true,true=>k0
 | _,_=>σ.bx.length
def Zr7 (keep:Nat) (v:PV) (σ:St):Option (PV×St):=match bnd keep v,JR (ZaB keep) [v] σ.tk 0 with
 | true,([v],tk,k)=>(match Zr4 keep keep σ.bx tk k with
  | some (bs,_,k)=>some (v,⟨bs,toks k,k⟩)
  | none=>none)
 | _,_=>none
def Zr8 {keep:Nat} {v v':PV} {σ σ':St} {K:PV->St->Prop} (h:Zr7 keep v σ=some (v',σ')) (hK:K v' σ'):JT true keep true v σ K:=by
 unfold Zr7 at h
 unfold JT
 split at h
 ·rename_i h1 h2
  simp only [h1];unfold V6
  simp only;refine Zef ?_;rw [h2];split at h
  ·rename_i hb;cases h;exact Zhs hb hK
  cases h
 cases h
def Zr9 (p:PV->PEnd) (k0:Nat) (v:PV) (σ:St):Option (PEnd×St):=Zor (ZEq k0 v σ) fun keep=>match Nat.ble k0 keep,Zr7 keep v σ with
 | true,some (v,σ)=>some (p v,σ)
 | _,_=>none
def Zhu {p:PV->PEnd} {k0:Nat} {v:PV} {σ:St} {pe:PEnd} {σ':St} (h:Zr9 p k0 v σ=some (pe,σ')):∃keep,k0<=keep/\∀{K:PEnd->St->Prop},K pe σ'->JT true keep true v σ fun v σ=>K (p v) σ:=by
 unfold Zr9 at h
 simp only [JP] at h;split at h
 ·rename_i h1 h2;cases h;exact ⟨_,Tc h1,fun hK=>Zr8 h2 hK⟩
 cases h
def ZCz (T:Tab) (fn:Func) (k0:Nat) (r:Option ZCx):Option (PEnd×St):=match r with
 | some (.normal,t,σ)=>(match Zlb T t σ.bx fn.results.toList with | some vs=>Zr9 .ret k0 (V7 vs) σ | none=>none)
 | some (.ret,t,σ)=>(match Zlb T t σ.bx fn.results.toList with | some vs=>Zr9 .ret k0 (V7 vs) σ | none=>none)
 | some (.panic v,_,σ)=>Zr9 .panic k0 v σ
 | _=>none
end Go.PM
end
