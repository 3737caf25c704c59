/- A part of the proof: plain logic, contracts and laws over the given program. -/
import Derived.Test.YtljpldmdmdhdaaaGreatDoorIter
import Derived.WideShapes
import Derived.WalkKit
import Derived.Maps.Ext
import Derived.Maps.RangeWalk
import Derived.Laws.IdiomRangeMap
import Derived.Deep.LoopGhost
import Derived.Shelf.SlMaps.DeleteFunc
import Derived.Test.YtljpldmdmdhdaaaGreatDoorB09
set_option linter.unusedVariables false
set_option linter.unusedSimpArgs false
set_option linter.all false
set_option maxRecDepth 100000
set_option maxHeartbeats 16000000
noncomputable section
section
namespace Go.PM.Lex
open Go.Proofs
variable {w0:World} {nG:Nat}
def ZaG:Zh:=fun args σ K=>match args,σ with
 | [.agg c],⟨[],[],0⟩=>∃pl e,c=(ZD pl e).map .d/\K (.ret (.func 88 [] [.ptr 0 0])) ⟨[.cells 67 c],[],0⟩
 | _,_=>False
def ZaH:Zy ZaG:=fun args σ K K' hK h=>by
 unfold ZaG at h |-
 split at h
 ·obtain ⟨pl,e,h1,h2⟩:=h;exact ⟨pl,e,h1,hK _ _ h2⟩
 exact h.elim
def Zr1:PC w0 nG 46 ZaG:=by
 refine pwe Tryz.func46 fun args σ K h=>?_
 unfold ZaG at h
 split at h
 ·obtain ⟨pl,⟨a1,a2,a3,a4,a5⟩,rfl,h⟩:=h;refine pwv [] 1 false ?_;exact h
 exact h.elim
structure C5 where
 a:D
 b:D
 c:D
 d:D
 e:D
abbrev C5.cs (x:C5):List PV:=[.d x.a,.d x.b,.d x.c,.d x.d,.d x.e]
abbrev stV (M:Bv) (c2 c3:C5) (r:Loop):List Box:=[.dmap (mvM mvB M),.cells 87 [.mp 0],.cells 67 c2.cs,.cells 67 c3.cs,.loop .ready none r]
def itV (m:Nat):ZfB:=fun g args raw σ K=>∃(pl:Pl) (e:Ex) (y:Nat) (M:Bv) (c2 c3:C5) (r:Loop),g=89/\args=[.agg ((ZD pl e).map .d),.raw (.func (.yield y) #[] #[])]/\σ=⟨stV M c2 c3 r,[],0⟩/\(szE e<m/\m<=4611686018427387904) /\
 (∀(M:Bv) (x:Ex) (K':PEnd->St->Prop),(∀gs,K' (.ret (.d (.bool true))) ⟨stV (addX M x) c2 c3 r++gs,[],0⟩)->raw (.func (.yield y) #[] #[]) [.agg ((ZD pl x).map .d)] ⟨stV M c2 c3 r,[],0⟩ K') /\
 K (.ret (.d (.bool true))) ⟨stV (addXs M (prE e)) c2 c3 r,[],0⟩
def Zr2:∀m,IterSem (GG w0 nG) (itV m)
 | 0=>fun g args raw σ K ⟨_,_,_,_,_,_,_,_,_,_,h,_⟩=>absurd h.1 oM
 | m+1=>by
  refine Zr0 (tbl:=[]) Zr mixed trivial trivial (Zr2 m) Tryz.func89 rfl kR kR ?_
  rintro g args raw σ K ⟨pl,⟨op,text,num,ea,at'⟩,y,M,c2,c3,r,rfl,rfl,rfl,⟨hm,f9⟩,ia,h⟩
  refine ⟨rfl,Tb rfl,?_⟩;simp only [szE] at hm;have hl:(Ze pl ea).length=ea.length:=by rw [Zc,Td]
  have hsz:=YA ea;have kh:∀M,Zei 5 (stV M c2 c3 r)=true:=fun M=>rfl
  refine ⟨Zg [(4,⟨[14],[1,12,13],fun vs σ=>∃(j:Nat) (M':Bv),vs=[.d (.int .i64 j)]/\σ=⟨stV M' c2 c3 r++[.cells 67 ((ZD pl (.mk op text num ea at')).map .d)],[],0⟩/\j<=ea.length/\M'=addXs (addX M (.mk op text num ea at')) (Ze0 (ea.take j)),
   mu1 ea.length⟩)],?_⟩
  conv=>whnf
  refine ⟨⟨rfl,rfl,kh M,rfl,rfl⟩,ia _ (.mk op text num ea at') _ fun gs=>⟨true,rfl,kh _,wN ?_⟩⟩;refine ⟨⟨0,_,rfl,rfl,oM,rfl⟩,?_⟩
  rintro vs σ1 ⟨j,M',rfl,rfl,hj,rfl⟩
  conv=>whnf
  refine ZGr (fun hq=>?_) (fun hq=>?_)
  ·have aa:j<ea.length:=by have hq:(j:Int)<((Ze pl ea).length:Nat):=hq;omega
   have hr:(Ze pl ea)[(j:Int).toNat]?=some (ZD pl ea[j]):=by rw [Tg,Zc,Th,Ta aa];rfl
   have hg:=YB ea j aa;have ht:=Zjw aa;have hμ:((ea.length:Int) - ((j:Int)+1)).toNat<((ea.length:Int) - (j:Int)).toNat:=oM;generalize ea[j]=x at hr hg ht;obtain ⟨b1,b2,b3,b4,b5⟩:=x;(conv=>whnf);refine ⟨_,oM,hr,wN ?_⟩;refine ⟨⟨rfl,rfl,kh _,rfl,rfl⟩,pl,.mk b1 b2 b3 b4 b5,y,_,c2,c3,r,rfl,rfl,rfl,⟨oM,oM⟩,ia,true,rfl,kh _,wN ?_⟩;refine Zk ?_;exact ⟨⟨j+1,_,rfl,rfl,oM,by rw [ht,Zjx]⟩,hμ⟩
  have ey:ea.length<=j:=by have hq:¬(j:Int)<((Ze pl ea).length:Nat):=hq;omega
  rw [List.take_of_length_le ey];exact mq35
def ZGe (m:Nat):ZfB:=Zg1 VE [] (itV m) 88 Tryz.f88
def Zu0 (m:Nat):IterSem (GG w0 nG) (ZGe m):=JC (tbl:=[]) Zr mixed trivial trivial (Zr2 m) Tryz.func88 rfl kR kR
def JU:Zh:=fun args σ K=>match args,σ with
 | [.mp 0,.d (.sl rows)],⟨[.dmap mv],[],0⟩=>∃pl l M,rows=Ze pl l/\mv=mvM mvB M/\VF l<=1099511627776/\K (.ret (.tuple [])) ⟨[.dmap (mvM mvB (addXs M (Ze0 l)))],[],0⟩
 | _,_=>False
def ZjA:Zy JU:=fun args σ K K' hK h=>by
 unfold JU at h |-
 split at h
 ·obtain ⟨pl,l,M,h1,h2,h3,h4⟩:=h;exact ⟨pl,l,M,h1,h2,h3,hK _ _ h4⟩
 exact h.elim
def ZCP (M:Bv) (op:Nat) (t:Bs) (n:Int) (l:List Ex) (a:Nat) (h:op=1):mvM mvB (addX M (.mk op t n l a))=Z2 t (.one (.bool true)) (mvM mvB M):=by
 unfold addX
 rw [Ti (show opE (.mk op t n l a)=1 from h)];exact (WC (f:=mvB) (k:=t) (v:=true) M).symm
def ZmU:Tbl:=[(46,ZaG)]
def ZhC:PC w0 nG 32 JU:=by
 refine Zkm Zr mixed (tbl:=ZmU) ⟨Zr1,trivial⟩ ⟨ZaH,trivial⟩ (Zu0 1099511627777) Tryz.func32 rfl kR kR ?_;intro args σ K h
 unfold JU at h
 split at h
 ·obtain ⟨pl,l,M,rfl,rfl,hz,h⟩:=h;have hl:(Ze pl l).length=l.length:=by rw [Zc,Td]
  have hsz:=YA l;refine ⟨Zg [(2,⟨[9],[2,7,8],fun vs σ=>∃j:Nat,vs=[.d (.int .i64 j)]/\σ=⟨[.dmap (mvM mvB (addXs M (Ze0 (l.take j)))),.cells 87 [.mp 0]],[],0⟩/\j<=l.length,
   mu1 l.length⟩)],1,false,sM,Tb rfl,?_⟩
  conv=>whnf
  refine ⟨⟨0,rfl,rfl,oM⟩,?_⟩
  rintro vs σ1 ⟨j,rfl,rfl,hj⟩
  conv=>whnf
  refine ZGr (fun hq=>?_) (fun hq=>?_);rotate_left
  ·have ey:l.length<=j:=by have hq:¬(j:Int)<((Ze pl l).length:Nat):=hq;omega
   rw [List.take_of_length_le ey];exact mq35
  have aa:j<l.length:=by have hq:(j:Int)<((Ze pl l).length:Nat):=hq;omega
  have hr:(Ze pl l)[(j:Int).toNat]?=some (ZD pl l[j]):=by rw [Tg,Zc,Th,Ta aa];rfl
  have hg:=YB l j aa;have ht:=Zjw aa;have hμ:((l.length:Int) - ((j:Int)+1)).toNat<((l.length:Int) - (j:Int)).toNat:=oM;generalize l[j]=x at hr hg ht;obtain ⟨b1,b2,b3,b4,b5⟩:=x;(conv=>whnf);refine ⟨_,oM,hr,wN ?_⟩;refine ⟨pl,.mk b1 b2 b3 b4 b5,rfl,wN ?_⟩;intro y r
  refine ⟨Zg [],rfl,wN ?_⟩;refine ⟨pl,.mk b1 b2 b3 b4 b5,y,_,⟨_,_,_,_,_⟩,⟨_,_,_,_,_⟩,r,rfl,rfl,rfl,⟨oM,oM⟩,fun M x K' hK=>wN ?_,wN ?_⟩
  ·obtain ⟨d1,d2,d3,d4,d5⟩:=x;refine ⟨rfl,rfl,rfl,wN ?_⟩;refine ⟨rfl,wN ?_⟩;refine ZGr (fun h1=>wN ?_) (fun h1=>wN ?_)
   ·have h1:d1=1:=by have h1:(d1:Int)=1:=h1;omega
    have hk:=hK [.cells 67 ((ZD pl (.mk d1 d2 d3 d4 d5)).map .d)];unfold stV at hk
    rw [ZCP M d1 d2 d3 d4 d5 h1] at hk;refine ⟨rfl,wN ?_⟩;exact hk
   have h1:¬d1=1:=by have h1:¬(d1:Int)=1:=h1;omega
   have hk:=hK [.cells 67 ((ZD pl (.mk d1 d2 d3 d4 d5)).map .d)];rw [show addX M (.mk d1 d2 d3 d4 d5)=M from Te h1] at hk;refine ⟨rfl,wN ?_⟩;exact hk
  refine Zk ?_;exact ⟨⟨j+1,rfl,by rw [ht,Zjx];rfl,oM⟩,hμ⟩
 exact h.elim
abbrev stA (M:Bv) (c2 c5:C5) (a:Int) (b:Bool) (lp:Box):List Box:=[.dmap (mvM mvB M),.cells 87 [.mp 0],.cells 67 c2.cs,.cells 3 [.d (.int .i64 a)],.cells 4 [.d (.bool b)],.cells 67 c5.cs,lp]
abbrev goA (M:Bv) (c2 c5:C5) (r:Loop):List Box:=stA M c2 c5 0 false (.loop .ready none r)
abbrev ZDP (M:Bv) (c2 c5:C5) (a:Int) (r:Loop):List Box:=stA M c2 c5 a true (.loop .done (some .ret) r)
def itA (m:Nat):ZfB:=fun g args raw σ K=>∃(pl:Pl) (e:Ex) (y:Nat) (M:Bv) (c2 c5:C5) (r:Loop),g=89/\args=[.agg ((ZD pl e).map .d),.raw (.func (.yield y) #[] #[])]/\σ=⟨goA M c2 c5 r,[],0⟩/\(szE e<m/\m<=4611686018427387904) /\
 (∀(x:Ex) (K':PEnd->St->Prop),(Zcd M x=false->∀gs,K' (.ret (.d (.bool true))) ⟨goA M c2 c5 r++gs,[],0⟩)->(Zcd M x=true->∀gs,K' (.ret (.d (.bool false))) ⟨ZDP M c2 c5 (pl (atX x)) r++gs,[],0⟩)->raw (.func (.yield y) #[] #[]) [.agg ((ZD pl x).map .d)] ⟨goA M c2 c5 r,[],0⟩ K') /\
 (ZeL M e=none->K (.ret (.d (.bool true))) ⟨goA M c2 c5 r,[],0⟩)/\∀x,ZeL M e=some x->K (.ret (.d (.bool false))) ⟨ZDP M c2 c5 (pl (atX x)) r,[],0⟩
def Zzv (M:Bv) (op:Nat) (t:Bs) (n:Int) (l:List Ex) (a:Nat):ZeL M (.mk op t n l a)=if Zcd M (.mk op t n l a)=true then some (.mk op t n l a) else Xi M l:=by
 simp only [ZeL,prE,List.find?_cons,Xi]
 cases Zcd M (.mk op t n l a) <;> rfl
def Zr3:∀m,IterSem (GG w0 nG) (itA m)
 | 0=>fun g args raw σ K ⟨_,_,_,_,_,_,_,_,_,_,h,_⟩=>absurd h.1 oM
 | m+1=>by
  refine Zr0 (tbl:=[]) Zr mixed trivial trivial (Zr3 m) Tryz.func89 rfl kR kR ?_
  rintro g args raw σ K ⟨pl,⟨op,text,num,ea,at'⟩,y,M,c2,c5,r,rfl,rfl,rfl,⟨hm,f9⟩,ia,hn,hs⟩
  refine ⟨rfl,Tb rfl,?_⟩;simp only [szE] at hm;have hl:(Ze pl ea).length=ea.length:=by rw [Zc,Td]
  have hsz:=YA ea;have kh:Zei 7 (goA M c2 c5 r)=true:=rfl;have aw:∀a,Zei 7 (ZDP M c2 c5 a r)=true:=fun a=>rfl
  rw [Zzv] at hn hs;refine ⟨Zg [(4,⟨[14],[1,12,13],fun vs σ=>∃j:Nat,vs=[.d (.int .i64 j)]/\σ=⟨goA M c2 c5 r++[.cells 67 ((ZD pl (.mk op text num ea at')).map .d)],[],0⟩/\j<=ea.length/\(Zcd M (.mk op text num ea at')=false/\Xi M ea=Xi M (ea.drop j)),
   mu1 ea.length⟩)],?_⟩
  conv=>whnf
  refine ⟨⟨rfl,rfl,kh,rfl,rfl⟩,ia (.mk op text num ea at') _ (fun hf gs=>⟨true,rfl,kh,?_⟩) fun hf gs=>⟨false,rfl,aw _,?_⟩⟩;rotate_left
  ·have hs:=hs _ (Ti hf);(conv=>whnf);exact hs
  conv=>whnf
  refine ⟨⟨0,rfl,rfl,oM,hf,rfl⟩,?_⟩
  rintro vs σ1 ⟨j,rfl,rfl,hj,hf,ha⟩
  rw [Te (by rw [hf];simp),ha] at hn hs;(conv=>whnf);refine ZGr (fun hq=>?_) (fun hq=>wN ?_)
  ·have aa:j<ea.length:=by have hq:(j:Int)<((Ze pl ea).length:Nat):=hq;omega
   have hr:(Ze pl ea)[(j:Int).toNat]?=some (ZD pl ea[j]):=by rw [Tg,Zc,Th,Ta aa];rfl
   have hg:=YB ea j aa;have hd:=Zf7 (m:=M) aa;have hμ:((ea.length:Int) - ((j:Int)+1)).toNat<((ea.length:Int) - (j:Int)).toNat:=oM;generalize ea[j]=x at hr hg hd;rw [hd] at hn hs ha;obtain ⟨b1,b2,b3,b4,b5⟩:=x;(conv=>whnf);refine ⟨_,oM,hr,wN ?_⟩;refine ⟨⟨rfl,rfl,kh,rfl,rfl⟩,pl,.mk b1 b2 b3 b4 b5,y,_,c2,c5,r,rfl,rfl,rfl,⟨oM,oM⟩,ia,fun hx=>⟨true,rfl,kh,wN ?_⟩,fun x hx=>⟨false,rfl,aw _,wN ?_⟩⟩
   ·rw [hx] at ha;refine Zk ?_;exact ⟨⟨j+1,rfl,rfl,oM,hf,ha⟩,hμ⟩
   rw [hx] at hs;have hs:=hs _ rfl;exact hs
  have ey:ea.length<=j:=by have hq:¬(j:Int)<((Ze pl ea).length:Nat):=hq;omega
  rw [Tm ey] at hn;have hn:=hn rfl;exact hn
def ZGf (m:Nat):ZfB:=Zg1 VE [] (itA m) 88 Tryz.f88
def Zu1 (m:Nat):IterSem (GG w0 nG) (ZGf m):=JC (tbl:=[]) Zr mixed trivial trivial (Zr3 m) Tryz.func88 rfl kR kR
def ZGg (pl:Pl):Option Ex->PV
 | some x=>.tuple [.d (.int .i64 (pl (atX x))),.d (.bool true)]
 | none=>.tuple [.d (.int .i64 0),.d (.bool false)]
def ZhD:Zh:=fun args σ K=>match args,σ with
 | [.mp 0,.agg c],⟨[.dmap mv],[],0⟩=>∃pl e M,c=(ZD pl e).map .d/\mv=mvM mvB M/\szE e<=1099511627776/\∀o,ZeL M e=o->K (.ret (ZGg pl o)) ⟨[.dmap (mvM mvB M)],[],0⟩
 | _,_=>False
def ZmV:PC w0 nG 53 ZhD:=by
 refine Zkm Zr mixed (tbl:=ZmU) ⟨Zr1,trivial⟩ ⟨ZaH,trivial⟩ (Zu1 1099511627777) Tryz.func53 rfl kR kR ?_;intro args σ K h
 unfold ZhD at h
 split at h
 ·obtain ⟨pl,⟨e1,e2,e3,e4,e5⟩,M,rfl,rfl,hz,h⟩:=h;refine ⟨Zg [],1,false,sM,Tb rfl,wN ?_⟩;refine ⟨pl,.mk e1 e2 e3 e4 e5,rfl,wN ?_⟩;intro y r
  refine ⟨Zg [],rfl,wN ?_⟩;refine ⟨pl,.mk e1 e2 e3 e4 e5,y,M,⟨_,_,_,_,_⟩,⟨_,_,_,_,_⟩,r,rfl,rfl,rfl,⟨oM,oM⟩,fun x K' k1 k2=>?_,fun ha=>?_,fun x ha=>?_⟩
  ·obtain ⟨d1,d2,d3,d4,d5⟩:=x;(conv=>whnf);refine ⟨rfl,rfl,rfl,wN ?_⟩;refine ⟨rfl,wN ?_⟩;have hfr:Zcd M (.mk d1 d2 d3 d4 d5)=(decide (d1=2) || (decide (d1=1) && !((lkM d2 M).getD false))):=rfl;rw [hfr] at k1 k2;refine ZGr (fun g2=>wN ?_) (fun g2=>wN ?_)
   ·have k2:=k2 (by rw [TY (show d1=2 by have g2:(d1:Int)=2:=g2;omega)];rfl) [.cells 67 ((ZD pl (.mk d1 d2 d3 d4 d5)).map .d)];refine ⟨rfl,wN ?_⟩;exact k2
   rw [decide_eq_false (show ¬d1=2 by have g2:¬(d1:Int)=2:=g2;omega)] at k1 k2;refine ZGr (fun g1=>wN ?_) (fun g1=>wN ?_)
   ·rw [TY (show d1=1 by have g1:(d1:Int)=1:=g1;omega)] at k1 k2;have yes:(lkM d2 M).getD false=true->K' (.ret (.d (.bool true))) ⟨goA M ⟨.int .u8 e1,.str e2,.int .i64 e3,.sl (Ze pl e4),.int .i64 (pl e5)⟩ ⟨.int .u8 e1,.str e2,.int .i64 e3,.sl (Ze pl e4),.int .i64 (pl e5)⟩ r++[.cells 67 ((ZD pl (.mk d1 d2 d3 d4 d5)).map .d)],[],0⟩:=fun q=>k1 (by rw [q];rfl) _
    have no:(lkM d2 M).getD false=false->K' (.ret (.d (.bool false))) ⟨ZDP M ⟨.int .u8 e1,.str e2,.int .i64 e3,.sl (Ze pl e4),.int .i64 (pl e5)⟩ ⟨.int .u8 e1,.str e2,.int .i64 e3,.sl (Ze pl e4),.int .i64 (pl e5)⟩ (pl d5) r++[.cells 67 ((ZD pl (.mk d1 d2 d3 d4 d5)).map .d)],[],0⟩:=fun q=>k2 (by rw [q];rfl) _
    cases hv:lkM d2 M with
    | none =>
     have no:=no (by rw [hv];rfl);refine optK.no (by rw [ZJ,hv];rfl) (wN ?_);refine ⟨rfl,wN ?_⟩;exact no
    | some b =>
    refine optK.yes (a:=.one (.bool b)) (by rw [ZJ,hv];rfl) ?_
    cases b with
    | true =>
     have yes:=yes (by rw [hv];rfl);(conv=>whnf);refine ⟨rfl,wN ?_⟩;exact yes
    | false =>
    have no:=no (by rw [hv];rfl);(conv=>whnf);refine ⟨rfl,wN ?_⟩;exact no
   rw [decide_eq_false (show ¬d1=1 by have g1:¬(d1:Int)=1:=g1;omega)] at k1 k2;have k1:=k1 rfl [.cells 67 ((ZD pl (.mk d1 d2 d3 d4 d5)).map .d)];refine ⟨rfl,wN ?_⟩;exact k1
  ·have h:=h _ ha;exact mq35
  have h:=h _ ha;exact mq35
 exact h.elim
def Jj (C:Pl->Ex->Bv->(PEnd->Bv->Prop)->Prop) (m:Nat):Zh:=fun args σ K=>match args,σ with
 | [.mp 0,.agg c],⟨[.dmap mv],[],0⟩=>∃pl e M,c=(ZD pl e).map .d/\mv=mvM mvB M/\(szE e<m/\m<=1099511627776)/\C pl e M fun pe M'=>K pe ⟨[.dmap (mvM mvB M')],[],0⟩
 | _,_=>False
def ZE3 (F:Bv->Ex->Bool):Pl->Ex->Bv->(PEnd->Bv->Prop)->Prop:=fun pl e M K=>∀b,F M e=b->K (.ret (.d (.bool b))) M
def ZDQ (F:Bv->Ex->Option Ex):Pl->Ex->Bv->(PEnd->Bv->Prop)->Prop:=fun pl e M K=>(F M e=none->K (.ret (.tuple [])) M)/\∀x,F M e=some x->K (.panic (.iface 85 (.agg [.d (.int .i64 (pl (atX x)))]))) M
def ZFF:Pl->Ex->Bv->(PEnd->Bv->Prop)->Prop:=fun pl e M K=>K (.ret (.tuple [])) (ZjQ e M)
abbrev Zr4:Zh:=Jj (ZE3 fun M e=>(ZeL M e).isNone) 1099511627776
abbrev ZjB:Nat->Zh:=Jj (ZE3 UW)
abbrev ZoI:Nat->Zh:=Jj ZFF
abbrev ZoJ:Nat->Zh:=Jj (ZDQ Zzo)
abbrev ZoK:Nat->Zh:=Jj (ZDQ Zzp)
def ZCR:OKw w0 nG [(53,ZhD)] 50 Zr4:=by
 refine pwo Tryz.func50 fun args σ K h=>?_
 unfold Zr4 Jj at h
 split at h
 ·obtain ⟨pl,⟨e1,e2,e3,e4,e5⟩,M,rfl,rfl,⟨hm,f9⟩,h⟩:=h;refine pwv [] 1 false ?_;refine ⟨pl,.mk e1 e2 e3 e4 e5,M,rfl,rfl,oM,fun o ho=>?_⟩
  cases o with
  | none =>
   have h:=h true (by show (ZeL M _).isNone=true;rw [ho];rfl);exact mq35
  | some x =>
  have h:=h false (by show (ZeL M _).isNone=false;rw [ho];rfl);exact mq35
 exact h.elim
def ZhE (F:Bv->List Ex->D) (m:Nat):Zh:=fun args σ K=>match args,σ with
 | [.d (.sl rows),.func f [.mp 0] []],⟨[.dmap mv],[],0⟩=>∃pl l M,rows=Ze pl l/\mv=mvM mvB M/\(f=48/\VF l<m/\m<=1099511627776)/\∀d,F M l=d->K (.ret (.d d)) ⟨[.dmap (mvM mvB M)],[],0⟩
 | _,_=>False
abbrev Zr5:Nat->Zh:=ZhE fun M l=>.int .i64 (ZfX (UW M) 0 l)
abbrev Zgd:Nat->Zh:=ZhE fun M l=>.bool (Wq M l)
def Zr6 {m:Nat}:OKw w0 nG [(48,ZjB m)] 29 (Zr5 m):=by
 refine pwo Tryz.func29 fun args σ K h=>?_
 unfold Zr5 ZhE at h
 split at h
 ·obtain ⟨pl,l,M,rfl,rfl,⟨rfl,hm,f9⟩,h⟩:=h;simp only at h;have hl:(Ze pl l).length=l.length:=by rw [Zc,Td]
  have hsz:=YA l;refine pwu [(2,⟨[8],[0,1,7],fun vs σ=>∃j:Nat,vs=[.d (.int .i64 j)]/\σ=⟨[.dmap (mvM mvB M)],[],0⟩/\j<=l.length/\ZfX (UW M) j (l.drop j)=ZfX (UW M) 0 l,
   mu1 l.length⟩)] 1 false ?_
  conv=>whnf
  refine ⟨⟨0,rfl,rfl,oM,rfl⟩,?_⟩
  rintro vs σ1 ⟨j,rfl,rfl,hj,ha⟩
  conv=>whnf
  refine ZGr (fun hc=>?_) (fun hc=>?_);rotate_left
  ·exact mq115
  have aa:j<l.length:=by have hc:(j:Int)<((Ze pl l).length:Nat):=hc;omega
  rw [Tk aa] at ha;have hr:(Ze pl l)[(j:Int).toNat]?=some (ZD pl l[j]):=by rw [Tg,Zc,Th,Ta aa];rfl
  have hg:=YB l j aa;generalize l[j]=x at ha hr hg;obtain ⟨b1,b2,b3,b4,b5⟩:=x;(conv=>whnf);refine ⟨_,oM,hr,wN ?_⟩;refine ⟨pl,.mk b1 b2 b3 b4 b5,M,rfl,rfl,⟨oM,f9⟩,fun b hb=>?_⟩;exact mq163
 exact h.elim
def Zr7 {m:Nat}:OKw w0 nG [(29,Zr5 m)] 21 (Zgd m):=by
 refine pwo Tryz.func21 fun args σ K h=>?_
 unfold Zgd ZhE at h
 split at h
 ·obtain ⟨pl,l,M,rfl,rfl,hc,h⟩:=h;simp only at h;refine pwv [] 1 false ?_;refine ⟨pl,l,M,rfl,rfl,hc,fun d hd=>?_⟩;subst hd;(conv=>whnf);exact h _ (by rw [Zox];congr 1;rw [Bool.eq_iff_iff,decide_eq_true_iff];exact (Zd5 l 0).symm)
 exact h.elim
def Zr8 {m:Nat}:OKw w0 nG [(50,Zr4),(21,spB Zgd m)] 48 (ZjB m):=by
 refine pwo Tryz.func48 fun args σ K h=>?_
 unfold ZjB Jj at h
 split at h
 ·obtain ⟨pl,⟨e1,e2,e3,e4,e5⟩,M,rfl,rfl,⟨hm,f9⟩,h⟩:=h;unfold ZE3 at h
  simp only [UW] at h;have hs:szE (.mk e1 e2 e3 e4 e5)=1+VF e4:=by simp only [szE]
  refine pwv [] 1 false ?_;refine ZGr (fun g=>wN ?_) (fun g=>wN ?_)
  ·have g:8<=e1:=by have g:(8:Int)<=e1:=g;omega
   rw [Ti g] at h;refine ⟨pl,.mk e1 e2 e3 e4 e5,M,rfl,rfl,⟨oM,oM⟩,fun b hb=>wN ?_⟩;have hb:(ZeL M (.mk e1 e2 e3 e4 e5)).isNone=b:=hb;have h:=h (!b) (by rw [<- hb];cases ZeL M (.mk e1 e2 e3 e4 e5) <;> rfl);exact h
  have g:¬8<=e1:=by have g:¬(8:Int)<=e1:=g;omega
  rw [Te g] at h;refine ⟨oM,pl,e4,M,rfl,rfl,⟨rfl,oM,oM⟩,fun d hd=>?_⟩;subst hd;have h:=h _ rfl;exact mq35
 exact h.elim
def Zr9:PC w0 nG 50 Zr4:=ZCR ⟨ZmV,trivial⟩
def Zzz:∀m,PC w0 nG 48 (ZjB m)
 | 0=>Zr8 ⟨Zr9,Zz (Zf Tryz.func21 kR rfl),trivial⟩
 | m+1=>Zr8 ⟨Zr9,ZA (sp:=Zgd) (Zr7 ⟨Zr6 ⟨Zzz m,trivial⟩,trivial⟩),trivial⟩
def ZE4 (m:Nat):PC w0 nG 21 (Zgd m):=Zr7 ⟨Zr6 ⟨Zzz m,trivial⟩,trivial⟩
def Zwp {m:Nat}:OKw w0 nG [(49,spB ZoI m)] 49 (ZoI m):=by
 refine pwo Tryz.func49 fun args σ K h=>?_
 unfold ZoI Jj at h
 split at h
 ·obtain ⟨pl,⟨e1,e2,e3,e4,e5⟩,M,rfl,rfl,⟨hm,f9⟩,h⟩:=h;unfold ZFF at h
  simp only [ZjQ] at h;simp only [szE] at hm;have hl:(Ze pl e4).length=e4.length:=by rw [Zc,Td]
  have hsz:=YA e4;refine pwu [(7,⟨[19],[0,17,18],fun vs σ=>∃(j:Nat) (M':Bv),vs=[.d (.int .i64 j)]/\σ=⟨[.dmap (mvM mvB M'),.cells 67 ((ZD pl (.mk e1 e2 e3 e4 e5)).map .d)],[],0⟩/\j<=e4.length/\Uo (e4.drop j) M'=Uo e4 M,
   mu1 e4.length⟩)] 1 false ?_
  conv=>whnf
  refine ZGr (fun g=>wN ?_) (fun g=>wN ?_)
  ·have g:e1=1:=by have g:(e1:Int)=1:=g;omega
   rw [Ti g,<- WC] at h;exact h
  have g:¬e1=1:=by have g:¬(e1:Int)=1:=g;omega
  rw [Te g] at h;have many:e1=6\/e1=7->K (.ret (.tuple [])) ⟨[.dmap (mvM mvB (Uo e4 M))],[],0⟩:=fun q=>by rw [Ti q] at h;exact h
  refine ZGr (fun g6=>wN ?_) (fun g6=>wN ?_)
  ·have h:=many (.inl (by have g6:(e1:Int)=6:=g6;omega));refine ZGr (fun _=>wN ?_) (fun q=>absurd g6 q);exact mq21
  have g6:¬e1=6:=by have g6:¬(e1:Int)=6:=g6;omega
  refine ZGr (fun g7=>wN ?_) (fun g7=>wN ?_)
  ·have h:=many (.inr (by have g7:(e1:Int)=7:=g7;omega));exact mq21
  have g7:¬e1=7:=by have g7:¬(e1:Int)=7:=g7;omega
  rw [Te (fun q=>q.elim g6 g7)] at h;exact h
 exact h.elim
def ZFG:∀m,PC w0 nG 49 (ZoI m)
 | 0=>Zwp ⟨Zz (Zf Tryz.func49 kR rfl),trivial⟩
 | m+1=>Zwp ⟨ZA (sp:=ZoI) (ZFG m),trivial⟩
def ZaI:Zh:=fun args σ K=>match args,σ with
 | [.mp 0,.d (.sl rows)],⟨[.dmap mv],[],0⟩=>∃pl l M,rows=Ze pl l/\mv=mvM mvB M/\VF l<=1099511627776/\(Xi M l=none->K (.ret (.tuple [])) ⟨[.dmap (mvM mvB M)],[],0⟩)/\∀x,Xi M l=some x->K (.panic (.iface 85 (.agg [.d (.int .i64 (pl (atX x)))]))) ⟨[.dmap (mvM mvB M)],[],0⟩
 | _,_=>False
def Zle:Zy ZaI:=fun args σ K K' hK h=>by
 unfold ZaI at h |-
 split at h
 ·obtain ⟨pl,l,M,h1,h2,h3,h4,h5⟩:=h;exact ⟨pl,l,M,h1,h2,h3,fun g=>hK _ _ (h4 g),fun x g=>hK _ _ (h5 x g)⟩
 exact h.elim
def ZzA:Tbl:=[(53,ZhD)]
def Ur:PC w0 nG 35 ZaI:=by
 refine pwt (tbl:=ZzA) ⟨ZmV,trivial⟩ Tryz.func35 fun args σ K h=>?_
 unfold ZaI at h
 split at h
 ·obtain ⟨pl,l,M,rfl,rfl,hz,h1,h2⟩:=h;have hl:(Ze pl l).length=l.length:=by rw [Zc,Td]
  have hsz:=YA l;refine pwu [(1,⟨[10],[0,8,9],fun vs σ=>∃j:Nat,vs=[.d (.int .i64 j)]/\σ=⟨[.dmap (mvM mvB M)],[],0⟩/\j<=l.length/\Xi M l=Xi M (l.drop j),
   mu1 l.length⟩)] 1 false ?_
  conv=>whnf
  refine ⟨⟨0,rfl,rfl,oM,rfl⟩,?_⟩
  rintro vs σ1 ⟨j,rfl,rfl,hj,ha⟩
  rw [ha] at h1 h2;(conv=>whnf);refine ZGr (fun hc=>?_) (fun hc=>?_);rotate_left
  ·have ey:l.length<=j:=by have hc:¬(j:Int)<((Ze pl l).length:Nat):=hc;omega
   rw [Tm ey] at h1;have h1:=h1 rfl;(conv=>whnf);exact h1
  have aa:j<l.length:=by have hc:(j:Int)<((Ze pl l).length:Nat):=hc;omega
  have hd:=Zf7 (m:=M) aa;have hr:(Ze pl l)[(j:Int).toNat]?=some (ZD pl l[j]):=by rw [Tg,Zc,Th,Ta aa];rfl
  have hg:=YB l j aa;have hμ:((l.length:Int) - ((j:Int)+1)).toNat<((l.length:Int) - (j:Int)).toNat:=oM;generalize l[j]=x at hd hr hg;rw [hd] at h1 h2 ha;obtain ⟨b1,b2,b3,b4,b5⟩:=x;(conv=>whnf);refine ⟨_,oM,hr,wN ?_⟩;refine ⟨pl,.mk b1 b2 b3 b4 b5,M,rfl,rfl,oM,fun o ho=>?_⟩;rw [ho] at h1 h2 ha
  cases o with
  | none =>
   conv=>whnf
   exact mq43
  | some y =>
  have h2:=h2 _ rfl;(conv=>whnf);exact h2
 exact h.elim
def Zwq {m:Nat}:OKw w0 nG [(35,ZaI),(54,spB ZoJ m)] 54 (ZoJ m):=by
 refine pwo Tryz.func54 fun args σ K h=>?_
 unfold ZoJ Jj at h
 split at h
 ·obtain ⟨pl,⟨e1,e2,e3,e4,e5⟩,M,rfl,rfl,⟨hm,f9⟩,h⟩:=h;unfold ZDQ at h
  simp only [Zzo] at h;simp only [szE] at hm;have hl:(Ze pl e4).length=e4.length:=by rw [Zc,Td]
  have hsz:=YA e4;refine pwu [(4,⟨[16],[0,14,15],fun vs σ=>∃j:Nat,vs=[.d (.int .i64 j)]/\σ=⟨[.dmap (mvM mvB M),.cells 67 ((ZD pl (.mk e1 e2 e3 e4 e5)).map .d)],[],0⟩/\j<=e4.length/\Zce M e4=Zce M (e4.drop j),
   mu1 e4.length⟩)] 1 false ?_
  conv=>whnf
  refine ZGr (fun g=>wN ?_) (fun g=>wN ?_)
  ·have g:8<=e1:=by have g:(8:Int)<=e1:=g;omega
   rw [Ti g] at h;obtain ⟨h1,h2⟩:=h;refine ⟨pl,e4,M,rfl,rfl,oM,fun ho=>wN ?_,fun x ho=>wN ?_⟩
   ·have h1:=h1 ho;exact h1
   have h2:=h2 x ho;exact h2
  have g:¬8<=e1:=by have g:¬(8:Int)<=e1:=g;omega
  rw [Te g] at h;refine ⟨⟨0,rfl,rfl,oM,rfl⟩,?_⟩
  rintro vs σ1 ⟨j,rfl,rfl,hj,ha⟩
  rw [ha] at h;obtain ⟨h1,h2⟩:=h;(conv=>whnf);refine ZGr (fun hc=>?_) (fun hc=>?_);rotate_left
  ·exact mq70
  have aa:j<e4.length:=by have hc:(j:Int)<((Ze pl e4).length:Nat):=hc;omega
  have hd:=Zf8 (m:=M) aa;exact mq13
 exact h.elim
def ZE5:∀m,PC w0 nG 54 (ZoJ m)
 | 0=>Zwq ⟨Ur,Zz (Zf Tryz.func54 kR rfl),trivial⟩
 | m+1=>Zwq ⟨Ur,ZA (sp:=ZoJ) (ZE5 m),trivial⟩
def Zwr {m:Nat}:OKw w0 nG [(35,ZaI),(55,spB ZoK m)] 55 (ZoK m):=by
 refine pwo Tryz.func55 fun args σ K h=>?_
 unfold ZoK Jj at h
 split at h
 ·obtain ⟨pl,⟨e1,e2,e3,e4,e5⟩,M,rfl,rfl,⟨hm,f9⟩,h⟩:=h;unfold ZDQ at h
  simp only [Zzp] at h;simp only [szE] at hm;have hl:(Ze pl e4).length=e4.length:=by rw [Zc,Td]
  have hsz:=YA e4;refine pwu [(7,⟨[20],[0,18,19],fun vs σ=>∃j:Nat,vs=[.d (.int .i64 j)]/\σ=⟨[.dmap (mvM mvB M),.cells 67 ((ZD pl (.mk e1 e2 e3 e4 e5)).map .d)],[],0⟩/\j<=e4.length/\Zcf M e4=Zcf M (e4.drop j),
   mu1 e4.length⟩)] 1 false ?_
  conv=>whnf
  refine ZGr (fun g=>wN ?_) (fun g=>wN ?_)
  ·have g:e1=2:=by have g:(e1:Int)=2:=g;omega
   rw [Ti g] at h;have h:=h.1 rfl;exact h
  have g:¬e1=2:=by have g:¬(e1:Int)=2:=g;omega
  rw [Te g] at h;refine ZGr (fun g6=>wN ?_) (fun g6=>wN ?_)
  ·rw [Ti (.inl (by have g6:(e1:Int)=6:=g6;omega))] at h;refine ZGr (fun _=>wN ?_) (fun q=>absurd g6 q);exact mq151
  have g6:¬e1=6:=by have g6:¬(e1:Int)=6:=g6;omega
  refine ZGr (fun g7=>wN ?_) (fun g7=>wN ?_)
  ·rw [Ti (.inr (by have g7:(e1:Int)=7:=g7;omega))] at h;exact mq151
  have g7:¬e1=7:=by have g7:¬(e1:Int)=7:=g7;omega
  rw [Te (fun q=>q.elim g6 g7)] at h;have ha:Xi M [.mk e1 e2 e3 e4 e5]=ZeL M (.mk e1 e2 e3 e4 e5):=by simp [Xi,ZeL,Ze0]
  rw [<- ha] at h;obtain ⟨h1,h2⟩:=h;refine ⟨pl,[.mk e1 e2 e3 e4 e5],M,rfl,rfl,by simp only [VF,szE];omega,fun ho=>wN ?_,fun x ho=>wN ?_⟩
  ·have h1:=h1 ho;exact h1
  have h2:=h2 x ho;exact h2
 exact h.elim
def ZE6:∀m,PC w0 nG 55 (ZoK m)
 | 0=>Zwr ⟨Ur,Zz (Zf Tryz.func55 kR rfl),trivial⟩
 | m+1=>Zwr ⟨Ur,ZA (sp:=ZoK) (ZE6 m),trivial⟩
def ZhF:Zh:=fun args σ K=>match args,σ with
 | [.mp 0],⟨[.dmap mv],[],0⟩=>K (.ret (.mp 1)) ⟨[.dmap mv,.dmap mv],[],0⟩
 | _,_=>False
def ZmW:PC w0 nG 47 ZhF where
 enters:=Zf Tryz.func47 kR rfl
 calls:=fun args σ K hs n e w vs hS ha=>by
  unfold ZhF at hs
  split at hs
  ·rename_i mv
   obtain ⟨u,rfl,hu⟩:=ZgR ha
   cases hu with
   | mp _ jp =>
   obtain ⟨bn,ck,hst,es,h1,h2,h3,h4⟩:=hS.box 0 _ rfl;refine CallsIn.mono (callsIn_wide.2 (AnyW.maps_Clone Tryz.clone47 (e.β 0) es ck w h1)) fun en w' hh=>?_
   obtain ⟨rfl,rfl⟩:=hh;obtain ⟨g1,g2,g3⟩:=WM hS (.dmap mv) (.map es ck) (fun e1 σ1 w1 aeg hh=>⟨bn,ck,hst,es,hh,h2,h3,fun i u hu=>by
    obtain ⟨k1,k,x,k2,k3,k4,k5⟩:=h4 i u hu;exact ⟨k1,k,x,k2,k3,k4,k5.step aeg⟩⟩)
   refine ⟨.ret (.mp 1),_,_,hs,⟨_,rfl,?_⟩,g2,g1.toLater⟩;have:=VRel.mp (G:=GG w0 nG) (e:=e.more 1 w.heap.size) (σ:=(⟨[.dmap mv],[],0⟩:St).new (.dmap mv)) (w:=w.alloc (.map es ck)) 1 (by rw [ZGy];exact Nat.lt_succ_self _)
   rwa [show (e.more 1 w.heap.size).β 1=w.heap.size by simp [Env.more]] at this
  exact hs.elim
def Ws:∀(l:List Li) (i:Nat) (h:i<l.length),szL l[i]<ZdT l
 | x::l,0,h=>by simp only [List.getElem_cons_zero,ZdT];omega
 | x::l,i+1,h=>by have:=Ws l i (by simpa using h);simp only [List.getElem_cons_succ,ZdT];omega
def UO {op:Nat} {rel:Bs} {args:List Ex} {body:List Li} {a:Nat}:VF args<szL (.mk op rel args body a):=by
 simp only [szL];rw [XG];omega
def Wt:∀l:List Li,l.length<=ZdT l
 | []=>Tt _
 | x::l=>by have:=Wt l;simp only [Tf,ZdT];omega
def Zu2:Tbl:=[(32,JU)]
def ZoL (pl:Pl) (l:List Ex) (k:Nat):Ze pl (l.take k)=(Ze pl l).take k:=by rw [Zc,Zc,List.map_take]
def Zge (pl:Pl) (l:List Ex) (k:Nat):Ze pl (l.drop k)=(Ze pl l).drop k:=by rw [Zc,Zc,List.map_drop]
def Zsa (l:List Ex) (k:Nat):VF (l.take k)<=VF l:=by
 induction l generalizing k with
 | nil=>simp
 | cons e l ih=>cases k with
  | zero=>simp [VF]
  | succ k=>have:=ih k;simp only [List.take_succ_cons,VF];omega
def ZjC (l:List Ex) (k:Nat):VF (l.drop k)<=VF l:=by
 induction l generalizing k with
 | nil=>simp
 | cons e l ih=>cases k with
  | zero=>exact Tt _
  | succ k=>have:=ih k;simp only [List.drop_succ_cons,VF];omega
def ZCV {α:Type} (l:List α):cut l 0 (min (l.length:Int) 1).toNat=l.take 1:=by
 cases l with
 | nil=>rfl
 | cons x l =>
 have:(min ((x::l).length:Int) 1).toNat=1:=by simp only [Tf];omega
 rw [this];rfl
def ZCW {α:Type} (l:List α):cut l (min (l.length:Int) 1).toNat l.length=l.drop 1:=by
 cases l with
 | nil=>rfl
 | cons x l =>
 have:(min ((x::l).length:Int) 1).toNat=1:=by simp only [Tf];omega
 rw [this,cut,Sn]
def encEs_w (pl:Pl) (l:List Ex):∀r∈Ze pl l,r.length=5:=fun r hr=>by
 rw [Zc] at hr;obtain ⟨⟨a,b,c,d,e⟩,_,rfl⟩:=Sr.1 hr;rfl
def Zek:Zh:=fun args σ K=>match args,σ with
 | [.mp 0,.d (.sl rows)],⟨[.dmap mv],[],0⟩=>∃pl l M,rows=Zx pl l/\mv=mvM mvB M/\ZdT l<=1099511627776/\K (.ret (.tuple [])) ⟨[.dmap (mvM mvB (outLs M l))],[],0⟩
 | _,_=>False
def Zlf:PC w0 nG 33 Zek:=by
 refine pwt (tbl:=Zu2) ⟨ZhC,trivial⟩ Tryz.func33 fun args σ K h=>?_
 unfold Zek at h
 split at h
 ·obtain ⟨pl,l,M,rfl,rfl,hz,h⟩:=h;have hl:(Zx pl l).length=l.length:=by rw [Zn,Td]
  have hsz:=Wt l;refine pwu [(1,⟨[8],[0,6,7],fun vs σ=>∃j:Nat,vs=[.d (.int .i64 j)]/\σ=⟨[.dmap (mvM mvB (outLs M (l.take j)))],[],0⟩/\j<=l.length,
   mu1 l.length⟩)] 1 false ?_
  conv=>whnf
  refine ⟨⟨0,rfl,rfl,oM⟩,?_⟩
  rintro vs σ1 ⟨j,rfl,rfl,hj⟩
  conv=>whnf
  refine ZGr (fun hc=>?_) (fun hc=>?_);rotate_left
  ·have hc:¬(j:Int)<((Zx pl l).length:Nat):=hc;rw [List.take_of_length_le oM];exact mq35
  have aa:j<l.length:=by have hc:(j:Int)<((Zx pl l).length:Nat):=hc;omega
  have hr:(Zx pl l)[(j:Int).toNat]?=some (YC pl l[j]):=by rw [Tg,Zn,Th,Ta aa];rfl
  have hg:=Ws l j aa;have ht:=ZoC aa M;have hμ:((l.length:Int) - ((j:Int)+1)).toNat<((l.length:Int) - (j:Int)).toNat:=oM;generalize l[j]=x at hr hg ht;generalize outLs M (l.take j)=M1 at ht;obtain ⟨b1,b2,b3,b4,b5⟩:=x;have n4:=UO (op:=b1) (rel:=b2) (args:=b3) (body:=b4) (a:=b5);have ct:(Ze pl b3).length=b3.length:=by rw [Zc,Td]
  have mn:=Zsa b3 1;simp only [ZE2] at ht;(conv=>whnf);refine ⟨_,oM,hr,wN ?_⟩;refine ZGr (fun g=>wN ?_) (fun g=>wN ?_)
  ·rw [Ti (by have g:(b1:Int)<9:=g;omega)] at ht;refine ⟨pl,b3,M1,rfl,rfl,oM,wN ?_⟩;refine Zk ?_;exact ⟨⟨j+1,rfl,by rw [ht];rfl,oM⟩,hμ⟩
  rw [Te (by have g:¬(b1:Int)<9:=g;omega)] at ht;refine ⟨encEs_w pl b3,wN ?_⟩;refine ⟨oM,oM,wN ?_⟩;refine ⟨pl,b3.take 1,M1,(ZCV _).trans (ZoL ..).symm,rfl,oM,wN ?_⟩;refine Zk ?_;exact ⟨⟨j+1,rfl,by rw [ht];rfl,oM⟩,hμ⟩
 exact h.elim
def ZcG {op:Nat} {rel:Bs} {args:List Ex} {body:List Li} {a:Nat}:ZdT body<szL (.mk op rel args body a):=by
 simp only [szL]
 first | omega | (rw [Vt];omega)
def Zel (n:Nat):Zh:=fun args σ K=>match args,σ with
 | [.mp 0,.agg c],⟨[.dmap mv],[],0⟩=>∃pl x M,c=(YC pl x).map .d/\mv=mvM mvB M/\(szL x<n/\n<=1099511627776)/\K (.ret (.tuple [])) ⟨[.dmap (mvM mvB (ZrR x M))],[],0⟩
 | _,_=>False
def Zsb {n:Nat} (hi:PC w0 nG 91 (spB Zel n)):PC w0 nG 91 (Zel n):=by
 refine pwt (tbl:=[(32,JU),(33,Zek),(91,spB Zel n)]) ⟨ZhC,Zlf,hi,trivial⟩ Tryz.func91 fun args σ K h=>?_
 unfold Zel at h
 split at h
 ·obtain ⟨pl,⟨b1,b2,b3,b4,b5⟩,M,rfl,rfl,⟨hz,hn⟩,h⟩:=h;have hl:(Zx pl b4).length=b4.length:=by rw [Zn,Td]
  have hsz:=Wt b4;have n4:=UO (op:=b1) (rel:=b2) (args:=b3) (body:=b4) (a:=b5);have z6:=ZcG (op:=b1) (rel:=b2) (args:=b3) (body:=b4) (a:=b5);have ct:(Ze pl b3).length=b3.length:=by rw [Zc,Td]
  have mn:=ZjC b3 1;rw [ZrR] at h;generalize hM1:outLs (addXs M (Ze0 (b3.drop 1))) b4=M1 at h;refine pwu [(4,⟨[22],[0,20,21],fun vs σ=>∃(j:Nat) (M':Bv),vs=[.d (.int .i64 j)]/\σ=⟨[.dmap (mvM mvB M'),.cells 65 ((YC pl (.mk b1 b2 b3 b4 b5)).map .d)],[],0⟩/\j<=b4.length/\Zk9 (b4.drop j) M'=Zk9 b4 M1,
   mu1 b4.length⟩)] 1 false ?_
  conv=>whnf
  refine ⟨encEs_w pl b3,wN ?_⟩;refine ⟨oM,oM,wN ?_⟩;refine ⟨pl,b3.drop 1,M,(ZCW _).trans (Zge ..).symm,rfl,oM,wN ?_⟩;refine ⟨pl,b4,_,rfl,rfl,oM,?_⟩;rw [hM1];(conv=>whnf);refine ⟨⟨0,M1,rfl,rfl,oM,rfl⟩,?_⟩
  rintro vs σ1 ⟨j,M',rfl,rfl,hj,ha⟩
  conv=>whnf
  refine ZGr (fun hc=>?_) (fun hc=>?_);rotate_left
  ·have ey:b4.length<=j:=by have hc:¬(j:Int)<((Zx pl b4).length:Nat):=hc;omega
   rw [Tm ey] at ha;rw [<- ha] at h;exact mq35
  have aa:j<b4.length:=by have hc:(j:Int)<((Zx pl b4).length:Nat):=hc;omega
  have hr:(Zx pl b4)[(j:Int).toNat]?=some (YC pl b4[j]):=by rw [Tg,Zn,Th,Ta aa];rfl
  have hg:=Ws b4 j aa;rw [ZoB aa] at ha;have hμ:((b4.length:Int) - ((j:Int)+1)).toNat<((b4.length:Int) - (j:Int)).toNat:=oM;generalize b4[j]=x at hr hg ha;obtain ⟨c1,c2,c3,c4,c5⟩:=x
  change Zk9 _ (if 9<=c1 then _ else _)=_ at ha
  conv=>whnf
  refine ⟨_,oM,hr,wN ?_⟩;refine ZGr (fun g=>wN ?_) (fun g=>wN ?_)
  ·rw [Ti (show 9<=c1 by have g:(c1:Int)>=9:=g;omega)] at ha;refine ⟨oM,pl,.mk c1 c2 c3 c4 c5,M',rfl,rfl,⟨oM,oM⟩,wN ?_⟩;refine Zk ?_;exact ⟨⟨j+1,_,rfl,rfl,oM,ha⟩,hμ⟩
  rw [Te (show ¬9<=c1 by have g:¬(c1:Int)>=9:=g;omega)] at ha;refine Zk ?_;exact ⟨⟨j+1,_,rfl,rfl,oM,ha⟩,hμ⟩
 exact h.elim
def Sub (M N:Bv):Prop:=∀t,lkM t M=some true->lkM t N=some true
def ZFH (M:Bv):Prop:=∀t v,lkM t M=some v->v=true
def Sub.refl (M:Bv):Sub M M:=fun _ h=>h
def Sub.trans {M N P:Bv} (h:Sub M N) (g:Sub N P):Sub M P:=fun t ht=>g t (h t ht)
def ZjD (k:Bs):∀v:Bv,(Z2 k true v).map (·.1)=if k∈v.map (·.1) then v.map (·.1) else v.map (·.1)++[k]
 | []=>rfl
 | (x,u)::v=>by
  have ih:=ZjD k v;exact mq125
structure Up (M N:Bv):Prop where
 sub:Sub M N
 pre:M.map (·.1) <+: N.map (·.1)
 allT:ZFH M->ZFH N
def Up.refl (M:Bv):Up M M:=⟨.refl M,List.prefix_refl _,id⟩
def Up.trans {M N P:Bv} (h:Up M N) (g:Up N P):Up M P:=⟨h.sub.trans g.sub,h.pre.trans g.pre,fun x=>g.allT (h.allT x)⟩
def setOf (m:Bv) (l:List Bs):Bv:=l.foldl (fun m t=>Z2 t true m) m
def bndT (l:List Li) (ahead:List Bs):List Bs:=(bindsF l (setOf [] ahead)).map (·.1)
end Go.PM.Lex
end

section
namespace Go.PM
end Go.PM
namespace Go.PM.Lex
def Kq (P:Bs->Prop) (m:Bv):Prop:=(m.map (·.1)).Nodup/\∀t∈m.map (·.1),P t
def Kq.put {P:Bs->Prop} {t:Bs} {m:Bv} (h:Kq P m) (ht:P t):Kq P (Z2 t true m):=by
 unfold Kq
 rw [ZjD];exact mq74
mutual
def Kq.pat {P:Bs->Prop}:∀(e:Ex) {m:Bv},Kq P m->(∀t∈nvE e,P t)->Kq P (ZjQ e m)
 | .mk op t n args a,m,h,ht=>by
  simp only [nvE] at ht;simp only [ZjQ]
  by_cases h1:op=1
  ·rw [Ti h1] at ht |-;exact h.put (ht t sM)
  rw [Te h1] at ht |-;split
  ·exact Kq.pats args h ht
  exact h
def Kq.pats {P:Bs->Prop}:∀(l:List Ex) {m:Bv},Kq P m->(∀t∈Zhr l,P t)->Kq P (Uo l m)
 | [],_,h,_=>h
 | e::l,m,h,ht=>by
  simp only [Zhr,Tw] at ht;exact Kq.pats l (Kq.pat e h fun t g=>ht t (.inl g)) fun t g=>ht t (.inr g)
end
def Kq.side {P:Bs->Prop} {a b:Ex} {m:Bv} (h:Kq P m) (ht:∀t∈nvE a,P t):Kq P (Z3 m a b):=by
 unfold Z3
 split
 ·exact Kq.pat a h ht
 exact h
def Kq.bind {P:Bs->Prop}:∀(x:Li) {m:Bv},Kq P m->(∀t∈nvL x,P t)->Kq P (ZrO m x)
 | .mk op rel args body a,m,h,ht=>by
  simp only [nvL,Tw] at ht;simp only [ZrO];split
  ·split
   ·exact Kq.pats args h fun t g=>ht t (.inl g)
   exact h
  split
  ·split
   ·rename_i a b
    simp only [Zhr,Tw] at ht;exact (h.side fun t g=>ht t (.inl (.inl g))).side fun t g=>ht t (.inl (.inr (.inl g)))
   exact h
  exact h
def Kq.binds {P:Bs->Prop}:∀(l:List Li) {m:Bv},Kq P m->(∀t∈Vb l,P t)->Kq P (Zjy m l)
 | [],_,h,_=>h
 | x::l,m,h,ht=>by
  simp only [Vb,Tw] at ht;exact Kq.binds l (Kq.bind x h fun t g=>ht t (.inl g)) fun t g=>ht t (.inr g)
def Kq.bindsT {P:Bs->Prop} {l:List Li} (ht:∀t∈Vb l,P t):∀(k:Nat) {m r:Bv},Kq P m->bindsT l k m=some r->Kq P r
 | 0,_,_,_,h=>by cases h
 | k+1,m,r,hm,h=>by
  simp only [Lex.bindsT] at h;have h1:=hm.binds l ht;split at h
  ·exact Kq.bindsT ht k h1 h
  cases h;exact h1
def Kq.bindsF {P:Bs->Prop} {l:List Li} {m:Bv} (hm:Kq P m) (ht:∀t∈Vb l,P t):Kq P (bindsF l m):=Kq.bindsT ht _ hm (ZrQ l m)
def Kq.setOf {P:Bs->Prop}:∀(l:List Bs) {m:Bv},Kq P m->(∀t∈l,P t)->Kq P (setOf m l)
 | [],_,h,_=>h
 | t::l,m,h,ht=>Kq.setOf l (h.put (ht t sM)) fun s hs=>ht s (TF _ hs)
end Go.PM.Lex
end

section
namespace Go.PM
def Zgf {G:GE} {g:FuncId} {sp:Zh} (ga:XK G.P g)
  (h:∀args σ K,sp args σ K->∀(e:Env) (w:World) (vs:Array Value),SRel G e σ w->ArgsRel G e σ w args vs->Calls G.P g vs w fun en w'=>∃pv v,en=.returned v/\K (.ret pv) σ/\Grows w w'/\VRel G e σ w' pv v):PCalls G g sp where
 enters:=ga
 calls:=fun args σ K hs n e w vs hS ha=>by
  refine CallsIn.mono (callsIn_wide.2 (h args σ K hs e w vs hS ha)) fun en w' ⟨pv,v,he,hK,hg,hv⟩=>?_
  subst he;exact ⟨.ret pv,σ,e,hK,⟨v,rfl,hv⟩,hS.grow hg,(hg.stepped e σ).toLater⟩
end Go.PM
namespace Go.PM.Lex
open Go.Proofs Go.RowKit Go.Maps Go.Sort
variable {w0:World} {nG:Nat}
abbrev VQ (l:List Bs):List (List D):=l.map fun s=>[.str s]
def ZmX:∀{m:List (Bs×MV)} {i:Nat} {k:Bs},(J1 m)[2 * i]?=some (.d (.str k))->(m.map (·.1))[i]?=some k
 | [],i,k,h=>by simp [J1] at h
 | (x,v)::m,0,k,h=>by simp [J1] at h;simp [h]
 | (x,v)::m,i+1,k,h=>by
  rw [show 2 * (i+1)=2 * i+2 by omega] at h;have:=ZmX (m:=m) (i:=i) (k:=k) (by simpa [J1] using h);simpa using this
def Zem {G:GE} {e:Env} {σ:St} {w:World} {m:List (Bs×MV)} {b:Nat} {P:Program} {k:TypeId} (hk:P.underlying k=some .string) (hB:BRel G e σ w (.dmap m) b) (hn:(m.map (·.1)).Nodup) (hl:m.length<=1073741824) (hx:∀x∈m.map (·.1),x.length<=1073741824) :
  ∃D0:DataW Unit,w.ownsMap P k (fun _=>some (.nil,[])) b m.length D0/\(strKeys D0).Perm (m.map (·.1))/\Maps.size D0=m.length:=by
 obtain ⟨bn,ck,⟨lw,fj⟩,es,h1,h2,h3,h4⟩:=hB;rw [J3] at h3;have hlen:es.toList.length=m.length:=sO;have hes:es.size<=1073741824:=oM;have hb:es.toList.map (·.born)=bn:=List.ext_getElem? fun i=>by
  exact mq117
 have j8:es.toList.map (·.key)=(m.map (·.1)).map fun s=>Value.string ⟨s.toArray⟩:=List.ext_getElem? fun i=>by
  rw [Th,TG]
  cases hu:es[i]? with
  | none=>exact (Sv (by have:=Array.getElem?_eq_none_iff.1 hu;simp;omega)).symm
  | some u =>
  obtain ⟨_,kk,x,g1,_,g3,_⟩:=h4 i u hu;rw [Th,ZmX g1];simp [g3]
 have aeh:∀s:Bs,s∈m.map (·.1)->Go.keyOf P k (.string ⟨s.toArray⟩)=some (.string s):=fun s hs=>by
  have:=hx s hs;have hm:s.length<=maxLen:=TP this dM;simp [Go.keyOf,hk,mapKey,ByteArray.size,hm]
 have dh:∀u∈es.toList,∃s,s∈m.map (·.1)/\u.key=.string ⟨s.toArray⟩:=fun u hu=>by
  have:u.key∈es.toList.map (·.key):=List.mem_map_of_mem hu
  rw [j8] at this;obtain ⟨s,h,g⟩:=Sr.1 this;exact ⟨s,h,g.symm⟩
 have zy:∀u∈es.toList,∀s,s∈m.map (·.1)->u.key=.string ⟨s.toArray⟩->WideElems.rd (H:=Unit) P k (fun _=>some (.nil,[])) u=some (.string s,.nil):=fun u hu s hs g=>by
  unfold WideElems.rd
  rw [g,aeh s hs];rfl
 have aas:(es.toList.map (WideElems.rg (H:=Unit) P k fun _=>some (.nil,[]))).map (fun p=>strOf p.1)=m.map (·.1):=by
  have q:(es.toList.map (WideElems.rg (H:=Unit) P k fun _=>some (.nil,[]))).map (fun p=>(Value.string ⟨(strOf p.1).toArray⟩))=es.toList.map (·.key):=by
   rw [Sj];refine Su fun u hu=>?_
   obtain ⟨s,hs,g⟩:=dh u hu;simp only [Function.comp,WideElems.rg,zy u hu s hs g,Ss,strOf,g]
  rw [j8] at q;have q2:=congrArg (List.map fun v:Value=>match v with | .string s=>s.data.toList | _=>[]) q;simpa [Sj,Function.comp_def] using q2
 refine ⟨_,⟨es,ck,h1,⟨TP hes dM,⟨fun x hx=>?_,?_,?_⟩,fun x hx=>?_⟩,oM,rfl⟩,?_,?_⟩
 ·exact fj _ (hb ▸ List.mem_map_of_mem hx)
 ·rw [hb];exact lw
 ·rw [j8];exact List.Pairwise.map _ (fun a b g e=>g (by simpa using e)) hn
 ·obtain ⟨s,hs,g⟩:=dh x hx;exact ⟨_,zy x hx s hs g⟩
 ·have:=(WideShapes.sorted_perm (es.toList.map (WideElems.rg (H:=Unit) P k fun _=>some (.nil,[])))).map fun p=>strOf p.1
  rw [aas] at this;exact this
 show (List.foldr DataW.insert [] _).length=_;rw [(WideShapes.sorted_perm _).length_eq,Td,hlen]
end Go.PM.Lex
end

section
namespace Go.PM.Lex
open Go.Proofs Go.RowKit Go.Maps
variable {w0:World} {nG:Nat}
def Zlg:Zh:=fun args σ K=>match args,σ with
 | [.mp 0,.mp 1],⟨[.dmap s,.dmap m],[],0⟩=>∃S M,s=mvM mvB S/\m=mvM mvB M/\((s.map (·.1)).Nodup/\s.length<=1073741824/\∀x∈s.map (·.1),x.length<=1073741824)/\∀b,ZaD S M=b->K (.ret (.d (.bool b))) ⟨[.dmap s,.dmap m],[],0⟩
 | _,_=>False
def Xs (v:Bv):(mvM mvB v).map (·.1)=v.map (·.1):=by
 unfold mvM;simp [Function.comp_def]
def Zsc {e:Env} {σ:St} {w W:World} {M:Bv} {b:Nat} (hB:BRel (GG w0 nG) e σ w (.dmap (mvM mvB M)) b) (hW:W.heap[b]?=w.heap[b]?) (s:Bs) :
  (Instr.lookup 87 (.map (some b)) (.string ⟨s.toArray⟩) false).run Tryz.prog W=.ok (.bool (Zcg M s)) W:=by
 obtain ⟨bn,ck,_,hB⟩:=hB.of_dmap;obtain ⟨es,g1,g2,_⟩:=hB.mrel;have hr:=fun (q:Option (Nat×Value)) (hq:Instr.findNow .string (.string ⟨s.toArray⟩) es.toList 0=some q)=>Yl (w:=W) Tryz.underlying87 Tryz.underlying9 (Tryz.zeroValue4 W) (ok:=false) (hW.trans g1) hq
 unfold Zcg
 rcases Yo (n:=0) (key:=s) g2 with ⟨x,v,j,q1,q2,q3,_⟩ | ⟨q1,q2,_⟩
 ·exact mq100
 exact mq139
theorem ZhG {H:Type} {P:Program} {k:TypeId} {R:Value->Option (DataW H×List MemPlace)} {w:World} {b n:Nat} {D:DataW H} (ho:w.ownsMap P k R b n D) {x:Bs} (h:Maps.has D (.string x)=true):x∈strKeys D:=by
 obtain ⟨es,rfl,_⟩:=ho.keysOf;simp only [Maps.has,List.any_eq_true] at h;obtain ⟨p,hp,hs⟩:=h;refine Sr.2 ⟨p,hp,?_⟩
 cases yo:p.1 <;> rw [yo] at hs <;> simp_all [Lit.sameKey,strOf]
def Zu3:PC w0 nG 52 Zlg:=Zgf (Zf Tryz.func52 kR rfl) fun args σ K h e w vs hS ha=>by
 unfold Zlg at h
 split at h
 ·rename_i s m
  obtain ⟨S,M,rfl,rfl,⟨hn,hl,hx⟩,h⟩:=h;obtain ⟨u,v,rfl,hu,hv⟩:=ZgS ha;have hv0:=hv
  cases hu with
  | mp _ jp =>
  cases hv with
  | mp _ bq =>
  obtain ⟨D0,ho,fq,hsz⟩:=Zem (P:=Tryz.prog) (k:=9) Tryz.underlying9 (hS.box 0 _ rfl) hn hl hx;have aat:∀W,Grows w W->∀s:Bs,(Instr.lookup 87 (.map (some (e.β 1))) (.string ⟨s.toArray⟩) false).run Tryz.prog W=.ok (.bool (Zcg M s)) W:=fun W hg s=>Zsc (hS.box 1 _ rfl) (hg.old _ (hS.lt bq)) s
  have Kd:=string_keyed Tryz.underlying9
  suffices hc:Calls Tryz.prog 52 #[.map (some (e.β 0)),.map (some (e.β 1))] w fun en w'=>en=.returned (.bool (ZaD S M))/\w.grownBy w' none by
   exact mq116
  go_enter Tryz.func52,Tryz.ntmps52
  go_wp2_with (first
   | (at_range;refine wpList_range_own _ rfl _ 87 rfl 9 4 Kd Tryz.underlying87 _ _ _ _ rfl ho ?_;intro w0 pz hg0 qg)
   | go_in)
  go_loopw [5] (fun _ wr=>∃(left:Lit->Bool) (cnt:Nat) (ss:List Bs),wr.ranges Tryz.prog 9 (fun _=>some (.nil,[])) (e.β 0) w.heap.size (mvM mvB S).length D0 left cnt/\w.grownBy wr none/\Collected D0 left ss/\∀s∈ss,Zcg M s=true)
   (fun _ wr=>wr.rangeLeft (e.β 0) w.heap.size)
  case atStart=>exact ⟨_,_,[],pz,hg0,Collected.start D0,fun s hs=>by cases hs⟩
  case round =>
   obtain ⟨left,cnt,ss,rv,rx,hC,co⟩:=hrel
   go_wp2_with (first
    | (at_next;refine wpList_next_ranges _ rfl _ rfl 9 Kd _ encStr id (fun key kl hk=>by obtain ⟨x,hx,_⟩:=Maps.keyOf_str Tryz.underlying9 hk;exact ⟨x,hx⟩) (fun v _ _=>⟨v,rfl⟩) (e.β 0) w.heap.size _ _ _ _ rfl rv ?_ ?_)
    | go_in)
   ·intro ik l9
    have hp:=(hC.perm ho Kd Tryz.underlying9 l9).trans fq;have hw:ZaD S M=true:=Tn.2 fun x hx=>co _ (hp.mem_iff.2 (by rw [Xs];exact List.mem_map_of_mem hx))
    go_wp2
    go_ret
    rw [hw];exact ⟨rfl,rx⟩
   intro x c kl yd yp w2 cnt2 j8 qa ou t8 ly jh aa pt fj vt
   obtain ⟨x',ex,rfl,_⟩:=Maps.keyOf_str Tryz.underlying9 j8;obtain rfl:x=x':=encStr_inj ex;have mi:=rx.andThen pt (fun j hj=>by cases hj;exact Or.inl (Tt _));have hst:=hC.step qa ly;have hlx:=aat w2 ⟨mi.os,mi.tape,mi.output,mi.size,fun b hb=>mi.block b hb sM⟩ x
   cases hb:Zcg M x with
   | false =>
    rw [hb] at hlx;have hw:ZaD S M=false:=by
     have du:x∈(mvM mvB S).map (·.1):=fq.mem_iff.1 (ZhG ho ((hst.2 x).1 sM).1)
     rw [Xs] at du;obtain ⟨p,hp,rfl⟩:=Sr.1 du;exact List.all_eq_false.2 ⟨p,hp,by rw [hb];simp⟩
    go_wp2
    go_ret
    exact ⟨rfl,mi⟩
   | true =>
   rw [hb] at hlx
   go_wp2
   go_roundw
   case rel=>exact ⟨_,cnt2,ss++[x],jh,mi,hst,fun s hs=>by rcases Tw.1 hs with hs | hs;exact co s hs;simp at hs;subst hs;exact hb⟩
   case measure=>rw [jh.left_eq,rv.left_eq];exact aa
 exact h.elim
end Go.PM.Lex
end

section
namespace Go.PM.Lex
open Go.Proofs Go.RowKit Go.Maps Go.WideElems
variable {w0:World} {nG:Nat}
def ZhH:∀(M:Bv) (i:Nat),(J1 (mvM mvB M))[2 * i]?=(M[i]?).map (fun x=>PV.d (.str x.1))/\(J1 (mvM mvB M))[2 * i+1]?=(M[i]?).map fun x=>PV.d (.bool x.2)
 | [],i=>by simp [mvM,J1]
 | (k,v)::M,0=>⟨rfl,rfl⟩
 | (k,v)::M,i+1=>by
  have:=ZhH M i;rw [show 2 * (i+1)=2 * i+2 by omega];simpa [mvM,J1] using this
def JV (m:Bv):(mvM mvB m).length=m.length:=by unfold mvM;exact Td ..
abbrev Zu4 (x:Bs×Bool):Value×Value:=(encStr x.1,.bool x.2)
def ZcH {e:Env} {σ:St} {w:World} {M:Bv} {b:Nat} (hB:BRel (GG w0 nG) e σ w (.dmap (mvM mvB M)) b):∃es ck,w.heap[b]?=some (.map es ck)/\((es.toList.map (·.born)).Nodup/\∀x∈es.toList,x.born<ck)/\es.toList.map (fun u=>(u.key,u.val))=M.map Zu4:=by
 obtain ⟨bn,ck,⟨lw,fj⟩,es,h1,h2,h3,h4⟩:=hB;rw [J3,JV] at h3;have hb:es.toList.map (·.born)=bn:=List.ext_getElem? fun i=>by
  exact mq117
 refine ⟨es,ck,h1,⟨hb ▸ lw,fun x hx=>fj _ (hb ▸ List.mem_map_of_mem hx)⟩,List.ext_getElem? fun i=>?_⟩;rw [Th,Th,TG]
 cases hu:es[i]? with
 | none=>rw [Sv (by have:=Array.getElem?_eq_none_iff.1 hu;omega)];rfl
 | some u =>
 obtain ⟨_,kk,x,g1,g2,g3,g4⟩:=h4 i u hu;obtain ⟨q1,q2⟩:=ZhH M i;rw [q1] at g1;rw [q2] at g2
 cases hm:M[i]? with
 | none=>rw [hm] at g1;cases g1
 | some y =>
 rw [hm] at g1 g2
 cases g1
 cases g2
 have g5:=g4.dbool;simp only [TX,Zu4,encStr,g3,g5]
def ZcI {e:Env} {σ:St} {w:World} {M:Bv} {b:Nat} {es:Array MapEntry} {ck:Nat} (h1:w.heap[b]?=some (.map es ck)) (h2:(es.toList.map (·.born)).Nodup) (h3:∀x∈es.toList,x.born<ck) (h:es.toList.map (fun u=>(u.key,u.val))=M.map Zu4):BRel (GG w0 nG) e σ w (.dmap (mvM mvB M)) b:=by
 have hl:es.size=M.length:=by have:=congrArg List.length h;simpa using this
 refine ⟨es.toList.map (·.born),ck,⟨h2,fun x hx=>by obtain ⟨u,hu,rfl⟩:=Sr.1 hx;exact h3 u hu⟩,es,h1,sM,by rw [J3,JV];simp [hl],fun i u hu=>?_⟩
 have q:=congrArg (fun t=>t[i]?) h;simp only [Th,TG,hu,TX] at q;obtain ⟨q1,q2⟩:=ZhH M i
 cases hm:M[i]? with
 | none=>rw [hm] at q;cases q
 | some y =>
 rw [hm] at q q1 q2;simp only [TX,Option.some.injEq,Zu4,Prod.mk.injEq] at q;refine ⟨by simp [hu],y.1,_,q1,q2,q.1,?_⟩;rw [q.2];exact .d _ _ (.bool _)
def rdB:Value->Option (DataW Unit×List MemPlace)
 | .bool b=>some (.lit (.bool b),[])
 | _=>none
def Zsd (x:Bs×Bool):Lit×DataW Unit:=(.string x.1,.lit (.bool x.2))
def Zu5 {l k:Bv} (h:(l.map Zsd).Perm (k.map Zsd)):l.Perm k:=by
 have q:=h.map fun p:Lit×DataW Unit=>(strOf p.1,match p.2 with | .lit (.bool b)=>b | _=>false)
 rw [Sj,Sj] at q;have hid:(fun p:Lit×DataW Unit=>(strOf p.1,match p.2 with | .lit (.bool b)=>b | _=>false))∘Zsd=id:=rfl;rw [hid,List.map_id,List.map_id] at q;exact q
def ZzC {W:World} {b1 b2:Nat} {O:Bv} (hc:W.cell? ⟨b1,0,none⟩=some (.map (some b2))) (s:Bs) (v:Value) (hl:(Instr.lookup 87 (.map (some b2)) (.string ⟨s.toArray⟩) false).run Tryz.prog W=.ok (.bool (Zcg O s)) W) :
  Calls Tryz.prog 93 #[encStr s,v,.pointer (some ⟨b1,0,none⟩)] W fun e w'=>e=.returned (.bool (!Zcg O s))/\W.grownBy w' none:=by
 unfold encStr
 go_enter Tryz.func93,Tryz.ntmps93
 go_wp2
 go_ret
 exact ⟨rfl,rfl,rfl,rfl,Tt _,fun _ _ _=>rfl⟩
def ZzD {W:World} {b1 b2:Nat} {O:Bv} (hc:W.cell? ⟨b1,0,none⟩=some (.map (some b2))) (s:Bs) (v:Value) (hl:(Instr.lookup 87 (.map (some b2)) (.string ⟨s.toArray⟩) false).run Tryz.prog W=.ok (.bool (Zcg O s)) W) :
  Calls Tryz.prog 94 #[encStr s,v,.pointer (some ⟨b1,0,none⟩)] W fun e w'=>e=.returned (.bool (!Zcg O s))/\W.grownBy w' none:=by
 unfold encStr
 go_enter Tryz.func94,Tryz.ntmps94
 go_wp2
 go_ret
 exact ⟨rfl,rfl,rfl,rfl,Tt _,fun _ _ _=>rfl⟩
def ZCX {u:MapEntry} {x:Bs×Bool} (h:(u.key,u.val)=Zu4 x) (hx:x.1.length<=1073741824):rd Tryz.prog 9 rdB u=some (Zsd x):=by
 simp only [Zu4,Prod.mk.injEq] at h;have hm:x.1.length<=maxLen:=TP hx dM;unfold rd
 rw [h.1,h.2];simp [Go.keyOf,Tryz.underlying9,mapKey,encStr,ByteArray.size,hm,rdB,Zsd]
def ZzE {es:Array MapEntry} {M:Bv} (h:es.toList.map (fun u=>(u.key,u.val))=M.map Zu4) (hx:∀x∈M.map (·.1),x.length<=1073741824):(∀u∈es.toList,∃y,rd (H:=Unit) Tryz.prog 9 rdB u=some y)/\es.toList.map (rg Tryz.prog 9 rdB)=M.map Zsd:=by
 have key:∀(i:Nat) (u:MapEntry),es.toList[i]?=some u->∃x,M[i]?=some x/\rd Tryz.prog 9 rdB u=some (Zsd x):=fun i u hu=>by
  have q:=congrArg (fun t=>t[i]?) h;simp only [Th,hu,TX] at q
  cases hm:M[i]? with
  | none=>rw [hm] at q;cases q
  | some x =>
  rw [hm] at q;exact ⟨x,rfl,ZCX (Option.some.inj q) (hx _ (List.mem_map_of_mem (TW hm)))⟩
 have hl:es.toList.length=M.length:=by have:=congrArg List.length h;simpa using this
 refine ⟨fun u hu=>?_,List.ext_getElem? fun i=>?_⟩
 ·obtain ⟨i,hi⟩:=List.getElem?_of_mem hu;obtain ⟨x,_,g⟩:=key i u hi;exact ⟨_,g⟩
 rw [Th,Th]
 cases hu:es.toList[i]? with
 | none=>rw [Sv (by have:=List.getElem?_eq_none_iff.1 hu;omega)];rfl
 | some u =>
 obtain ⟨x,g1,g2⟩:=key i u hu;rw [g1];simp only [TX,rg,g2,Ss]
def ZzF {es:Array MapEntry} (h:∀u∈es.toList,∃y,rd (H:=Unit) Tryz.prog 9 rdB u=some y):∃M:Bv,es.toList.map (fun u=>(u.key,u.val))=M.map Zu4/\es.toList.map (rg Tryz.prog 9 rdB)=M.map Zsd:=by
 generalize es.toList=l at h
 induction l with
 | nil=>exact ⟨[],rfl,rfl⟩
 | cons u l ih =>
 obtain ⟨M,g1,g2⟩:=ih fun v hv=>h v (TF _ hv)
 obtain ⟨y,hy⟩:=h u (List.mem_cons_self ..);have hy2:=hy;unfold rd at hy
 obtain ⟨kl,hk,hy⟩:=Option.bind_eq_some_iff.1 hy;obtain ⟨y2,hr,rfl⟩:=TD.1 hy;obtain ⟨x,e1,rfl,_⟩:=Maps.keyOf_str Tryz.underlying9 hk
 cases hv:u.val with
 | bool b =>
  rw [hv] at hr
  cases hr
  exact ⟨(x,b)::M,by simp [Zu4,g1,e1,hv],by simp [rg,hy2,Zsd,g2]⟩
 | _=>rw [hv] at hr;cases hr
def ZmY:Zh:=fun args σ K=>match args,σ with
 | [.mp 0,.func f [] [.ptr 1 0]],⟨[.dmap s,.cells t [.mp 2],.dmap o],[],0⟩=>∃S O,s=mvM mvB S/\o=mvM mvB O/\((f=93\/f=94)/\(S.map (·.1)).Nodup/\S.length<=1073741824/\∀x∈S.map (·.1),x.length<=1073741824) /\
   ∀S',S'.Perm (JS O S)->K (.ret (.tuple [])) ⟨[.dmap (mvM mvB S'),.cells t [.mp 2],.dmap (mvM mvB O)],[],0⟩
 | _,_=>False
def Zws:PC w0 nG 92 ZmY where
 enters:=Zf Tryz.func92 kR rfl
 calls:=fun args σ K hs n e w vs hS ha=>by
  unfold ZmY at hs
  split at hs
  ·rename_i f s t o
   obtain ⟨S,O,rfl,rfl,⟨hf,hn,hl,hx⟩,h⟩:=hs;obtain ⟨u,v,rfl,hu,hv⟩:=ZgS ha
   cases hu with
   | mp _ jp =>
   cases hv with
   | func _ _ _ va vc hva xc _ h2 =>
   obtain ⟨va⟩:=va;obtain rfl:va=[]:=Sp.1 hva;obtain ⟨vc⟩:=vc
   match vc,xc with
   | [pv],_ =>
   have hp:=h2 0 _ pv rfl rfl
   cases hp with
   | ptr _ _ bq =>
   obtain ⟨cs,q1,q2,q3⟩:=hS.box 1 _ rfl;obtain ⟨cs⟩:=cs
   match cs,q2 with
   | [mv],_ =>
   have hm:=(q3 0 _ mv rfl rfl).1
   cases hm with
   | mp _ dj =>
   have az:w.cell? ⟨e.β 1,0,none⟩=some (.map (some (e.β 2))):=by simp [World.cell?,q1]
   obtain ⟨es,ck,g1,⟨g2,g3⟩,g4⟩:=ZcH (hS.box 0 _ rfl);obtain ⟨r1,r2⟩:=ZzE g4 hx;have hes:es.size=S.length:=by have:=congrArg List.length g4;simpa using this
   have l4:(es.toList.map (·.key)).Nodup:=by
    have q:=congrArg (List.map Prod.fst) g4;rw [Sj,Sj] at q;have q:es.toList.map (·.key)=(S.map (·.1)).map encStr:=by rw [Sj];exact q
    rw [q];exact List.Pairwise.map _ (fun a b g e=>g (encStr_inj e)) hn
   have ho:w.ownsMap Tryz.prog 9 rdB (e.β 0) es.size (.map ((es.toList.map (rg Tryz.prog 9 rdB)).foldr DataW.insert [])):=⟨es,ck,g1,⟨TP oM (show 1073741824<=maxLen by decide),⟨g3,g2,l4⟩,r1⟩,Tt _,rfl⟩
   have w6:e.β 1≠e.β 0:=fun g=>absurd (hS.inj 1 0 bq jp g) dM
   have wc:e.β 2≠e.β 0:=fun g=>absurd (hS.inj 2 0 dj jp g) dM
   have aei:=hS.lt bq;have av:=hS.lt dj;have aej:∀(W:World) (key val:Value) (kl:Lit) (yd:DataW Unit) (yp:List MemPlace),w.grownBy W (some (e.β 0))->Go.keyOf Tryz.prog 9 key=some kl->rdB val=some (yd,yp) ->
     Calls Tryz.prog f (#[key,val]++#[.pointer (some ⟨e.β 1,0,none⟩)]) W fun e w'=>e=.returned (.bool (!Zcg O (strOf kl)))/\W.grownBy w' none:=fun W key val kl yd yp hg hk hr=>by
    obtain ⟨x,rfl,rfl,_⟩:=Maps.keyOf_str Tryz.underlying9 hk;have hcW:W.cell? ⟨e.β 1,0,none⟩=some (.map (some (e.β 2))):=by rw [<- az];simp [World.cell?,hg.block _ aei (by simpa using w6)]
    have hlW:=Zsc (W:=W) (hS.box 2 _ rfl) (hg.block _ av (by simpa using wc)) x;rcases hf with rfl | rfl
    ·exact ZzC hcW x val hlW
    exact ZzD hcW x val hlW
   have ga:XK Tryz.prog f:=by
    rcases hf with rfl | rfl
    ·exact Zf Tryz.func93 kR rfl
    exact Zf Tryz.func94 kR rfl
   have hc:=AnyDf.maps_DeleteFunc Tryz.del92 (string_keyed Tryz.underlying9) rdB (fun kl _=>!Zcg O (strOf kl)) f _ (e.β 0) es.size _ w ga ho aej;refine CallsIn.mono (callsIn_wide.2 hc) fun en w' hh=>?_
   obtain ⟨rfl,⟨es',ck',p1,p2,p3,p4⟩,hg⟩:=hh;obtain ⟨S',t1,t2⟩:=ZzF p2.reads;have fq:S'.Perm (JS O S):=by
    have e1:((es.toList.map (rg Tryz.prog 9 rdB)).foldr DataW.insert []).Perm (S.map Zsd):=by rw [<- r2];exact WideShapes.sorted_perm _
    have e2:=WideShapes.sorted_perm (es'.toList.map (rg Tryz.prog 9 rdB));rw [Lib.deleteFuncD,DataW.map.injEq] at p4
    change _=(es'.toList.map (rg Tryz.prog 9 rdB)).foldr DataW.insert [] at p4
    rw [<- p4,t2] at e2;have e3:=e2.symm.trans (e1.filter _);rw [List.filter_map] at e3;have e4:=Zu5 e3;refine e4.trans (.of_eq (List.filter_congr fun x _=>?_));simp [Zsd,strOf]
   have aau:=hS.lt jp;obtain ⟨hst,fi⟩:=Wv (x':=.dmap (mvM mvB S')) (b:=0) hS rfl (w1:=w.putObj (e.β 0) (.map es' ck')) rfl rfl rfl (by simp [World.putObj]) (fun k hk=>World.putObj_heap_other hk) fun _=>ZcI (World.putObj_heap_same aau) p2.stamped.2.1 p2.stamped.1 t1
   have ja:Grows (w.putObj (e.β 0) (.map es' ck')) w':=⟨hg.os,hg.tape,hg.output,by simpa [World.putObj] using hg.size,fun b hb=>by
    by_cases wi:b=e.β 0
    ·subst wi;rw [p1,World.putObj_heap_same aau]
    rw [World.putObj_heap_other wi];exact hg.block b (by simpa [World.putObj] using hb) (by simpa using wi)⟩
   exact ⟨.ret (.tuple []),_,e,h S' fq,⟨_,rfl,.tuple _ _ rfl (fun i x u hx=>by simp at hx)⟩,fi.grow ja,hst.toLater.trans (ja.stepped e _).toLater⟩
  exact hs.elim
end Go.PM.Lex
end

section
namespace Go.PM.Lex
open Go.Proofs Go.RowKit Go.Maps
variable {w0:World} {nG:Nat}
def eT:Env:=⟨fun _=>0,fun _=>none,fun _ _=>True,fun _=>some ((0,[]),0)⟩
def sT:St:=⟨[],[],0⟩
def stT {w w1:World} (h1:w1.os=w.os) (h2:w1.tape=w.tape) (h3:w1.output=w.output) (h4:w1.heap.size=w.heap.size):Stepped eT sT w eT sT w1 where
 len:=Tt _
 beta:=fun _ _=>rfl
 X:=fun _ _ h=>h
 pres:=fun b off u hc ho=>absurd trivial ho.1
 blocks:=fun b _ _ _ h=>by cases h
 size:=Nat.le_of_eq h4.symm
 os:=h1
 tape:=h2
 output:=h3
 fresh:=fun i _ h=>absurd h (Nat.not_lt_zero _)
 ftok:=fun t ht=>by cases ht
 fhid:=fun b h=>.inr (.inr h)
 nx:=Tt _
 toks:=fun t ht=>absurd ht (Nat.not_lt_zero _)
 own:=fun t ht=>absurd ht (Nat.not_lt_zero _)
def Holds (bs:Nat) (S:List Bs) (W:World):Prop:=BRel (GG W 0) eT sT W (.dmap (mvM mvB (Y2 S))) bs
def ZcJ {w0:World} {nG:Nat} {e:Env} {σ:St} {w W:World} {S:List Bs} {b:Nat} (h:BRel (GG w0 nG) e σ w (.dmap (mvM mvB (Y2 S))) b) (hW:W.heap[b]?=w.heap[b]?):Holds b S W:=by
 obtain ⟨es,ck,h1,⟨h2,h3⟩,h4⟩:=ZcH h;exact ZcI (hW.trans h1) h2 h3 h4
def Holds.to {w0:World} {nG:Nat} {e:Env} {σ:St} {W:World} {S:List Bs} {b:Nat} (h:Holds b S W):BRel (GG w0 nG) e σ W (.dmap (mvM mvB (Y2 S))) b:=by
 obtain ⟨es,ck,h1,⟨h2,h3⟩,h4⟩:=ZcH h;exact ZcI h1 h2 h3 h4
def Zen {w0:World} {nG:Nat} {e:Env} {σ:St} {w W:World} {M:Bv} {b:Nat} (hB:BRel (GG w0 nG) e σ w (.dmap (mvM mvB M)) b) (hW:W.heap[b]?=w.heap[b]?) (s:Bs) :
  (Instr.lookup 50 (.map (some b)) (.string ⟨s.toArray⟩) false).run Tryz.prog W=.ok (.bool (Zcg M s)) W:=by
 obtain ⟨bn,ck,_,hB⟩:=hB.of_dmap;obtain ⟨es,g1,g2,_⟩:=hB.mrel;have hr:=fun (q:Option (Nat×Value)) (hq:Instr.findNow .string (.string ⟨s.toArray⟩) es.toList 0=some q)=>Yl (w:=W) Tryz.underlying50 Tryz.underlying9 (Tryz.zeroValue4 W) (ok:=false) (hW.trans g1) hq
 unfold Zcg
 rcases Yo (n:=0) (key:=s) g2 with ⟨x,v,j,q1,q2,q3,_⟩ | ⟨q1,q2,_⟩
 ·exact mq100
 exact mq139
def ZoM {w0:World} {nG:Nat} {e:Env} {σ:St} {w W:World} {cs:List PV} {bn:List Nat} {ck b i:Nat} {x:Bs} (hB:BRel (GG w0 nG) e σ w (.map cs bn ck) b) (hf:findM x cs=some (.mp i)) (hW:W.heap[b]?=w.heap[b]?) :
  (Instr.lookup 41 (.map (some b)) (.string ⟨x.toArray⟩) false).run Tryz.prog W=.ok (.map (some (e.β i))) W:=by
 obtain ⟨es,g1,g2,_⟩:=hB.mrel;have hr:=fun (q:Option (Nat×Value)) (hq:Instr.findNow .string (.string ⟨x.toArray⟩) es.toList 0=some q)=>Yl (w:=W) Tryz.underlying41 Tryz.underlying9 (Tryz.zeroValue50 W) (ok:=false) (hW.trans g1) hq
 rcases Yo (n:=0) (key:=x) g2 with ⟨y,v,j,q1,q2,q3,_⟩ | ⟨q1,_⟩
 ·rw [hf] at q1
  cases q1
  cases q3
  exact hr _ q2
 rw [hf] at q1;cases q1
def Zse {W:World} {bs:Nat} {S:List Bs} (h:Holds bs S W) (x:Bs):∃w1,(Instr.mapUpdate 50 (.map (some bs)) (.string ⟨x.toArray⟩) (.bool true)).run Tryz.prog W=.ok () w1/\W.grownBy w1 (some bs)/\Holds bs (ZaR S x) w1:=by
 obtain ⟨bn,ck,qg,hB⟩:=BRel.of_dmap h;obtain ⟨w1,aj,⟨r1,r2,r3,r4,r5⟩,hc,_⟩:=UA (G:=GG W 0) (px:=(mvB true).pv) Tryz.underlying50 Tryz.underlying9 (key:=x) hB (.d _ _ (.bool true));refine ⟨w1,aj,⟨r1,r2,r3,Nat.le_of_eq r4.symm,fun b _ ai=>r5 b (by simpa using ai)⟩,?_⟩;have hst:=stT r1 r2 r3 r4;refine ZcJ (w0:=W) (nG:=0) (e:=eT) (σ:=sT) (w:=w1) ?_ rfl;rw [<- ZmT,<- WC];rcases ZcY (k:=x) (y:=mvB true) (mvM mvB (Y2 S)) with g1 | ⟨g1,g2⟩
 ·rcases hc with ⟨cs',q1,q2⟩ | ⟨q1,q2⟩
  ·rw [g1] at q1;cases q1;exact (q2 _ hst).to_dmap qg
  rw [g1] at q1;cases q1
 rcases hc with ⟨cs',q1,q2⟩ | ⟨q1,q2⟩
 ·rw [g1] at q1;cases q1
 have:=q2 _ hst;rw [<- g2] at this;exact this.to_dmap qg.more
def ZjE {P:Program} {w w1:World} {ops:Array Oper} {rest:List Oper} {o:Oper} {a:Act} {Q:Exit->Act->World->Prop} (hg:o.guard=none) (m x v:Operand) (t:TypeId) (dx:o.op=Op.mapUpdate t m x v) {vm vx vv:Value} (hm:a.eval m=vm) (hx:a.eval x=vx) (hv:a.eval v=vv)
  (aj:(Instr.mapUpdate t vm vx vv).run P w=.ok () w1) (hK:wpList P ops Q rest (a.put o.dst undef) w1):wpList P ops Q (o::rest) a w:=by
 refine wpList_plain hg fun K' zc=>?_
 unfold Oper.wp
 simp [execOp,dx,hm,hx,hv,aj,Result.andThen];exact zc _ _ hK
def Zsf {P:Program} {k:TypeId} {R:Value->Option (DataW Unit×List MemPlace)} {w W:World} {b n:Nat} {D0:DataW Unit} (ho:w.ownsMap P k R b n D0) (h:W.heap[b]?=w.heap[b]?):W.ownsMap P k R b n D0:=by
 obtain ⟨es,ck,h1,h2⟩:=ho;exact ⟨es,ck,h.trans h1,h2⟩
def unS (S:List Bs):Nat:=abcN.countP fun x=>!decide (x∈S)
def Zsg {S T:List Bs} (h:∀x∈S,x∈T):unS T<=unS S:=List.countP_mono_left fun x _ g=>by
 simp only [TV,decide_eq_false_iff_not] at g |-;exact fun k=>g (h x k)
def Zwt {S:List Bs} {x:Bs} (hx:x∈abcN) (h:x∉S):unS (ZaR S x)<unS S:=by
 have hk:∀y:Bs,y∈ZaR S x↔y∈S\/y=x:=fun y=>mem_addN
 simp only [Tr,TT,SC] at hx;have h1:unS S=(if [97]∈S then 0 else 1)+(if [98]∈S then 0 else 1)+(if [99]∈S then 0 else 1):=by
  unfold unS;by_cases g1:[97]∈S <;> by_cases g2:[98]∈S <;> by_cases g3:[99]∈S <;> simp [g1,g2,g3]
 have h2:unS (ZaR S x)=(if [97]∈ZaR S x then 0 else 1)+(if [98]∈ZaR S x then 0 else 1)+(if [99]∈ZaR S x then 0 else 1):=by
  unfold unS;by_cases g1:[97]∈ZaR S x <;> by_cases g2:[98]∈ZaR S x <;> by_cases g3:[99]∈ZaR S x <;> simp [g1,g2,g3]
 rw [h1,h2];simp only [hk];rcases hx with rfl | rfl | rfl <;> simp [h] <;> split <;> split <;> omega
def Zlh {D:Tri} (hd:okD D=true) {w:World} {c0 c1 c2 bs bd:Nat} {bx:Bs->Nat}
  (h0:w.cell? ⟨c0,0,none⟩=some (.map (some bs))) (h1:w.cell? ⟨c1,0,none⟩=some (.map (some bd)))
  (h2:w.cell? ⟨c2,0,none⟩=some (.func (.func 25) #[] #[.pointer (some ⟨c0,0,none⟩),.pointer (some ⟨c1,0,none⟩),.pointer (some ⟨c2,0,none⟩)]))
  (n0:c0≠bs) (n1:c1≠bs) (n2:c2≠bs) (ql:bd<w.heap.size) (nd:bd≠bs) (nk:bs<w.heap.size)
  (hx:∀x∈abcN,bx x<w.heap.size/\bx x≠bs/\∃(n:Nat) (D0:DataW Unit),w.ownsMap Tryz.prog 9 (fun _=>some (.nil,[])) (bx x) n D0/\(strKeys D0).Perm (Uq D x))
  (hl:∀W:World,W.heap[bd]?=w.heap[bd]?->∀x∈abcN,(Instr.lookup 41 (.map (some bd)) (.string ⟨x.toArray⟩) false).run Tryz.prog W=.ok (.map (some (bx x))) W) :
  ∀(k:Nat) (S:List Bs) (x:Bs) (W:World),x∈abcN->unS S<k->S.Nodup->w.grownBy W (some bs)->Holds bs S W ->
   Calls Tryz.prog 25 #[encStr x,.pointer (some ⟨c0,0,none⟩),.pointer (some ⟨c1,0,none⟩),.pointer (some ⟨c2,0,none⟩)] W fun en W'=>en=.returned (.tuple #[])/\∃S',Vis D S x S'/\Holds bs S' W'/\W.grownBy W' (some bs):=by
 intro k
 induction k with
 | zero=>exact fun S x W jb hk=>absurd hk (Nat.not_lt_zero _)
 | succ k ih =>
 intro S x W jb hk hn hg hS
 have ik:=hg.cell h0 (by simpa using n0);have ke:=Zen hS rfl x;rw [ZaF] at ke
 by_cases hm:x∈S
 ·rw [List.contains_iff_mem.2 hm] at ke;unfold encStr
  go_enter Tryz.func25,Tryz.ntmps25
  go_wp2
  go_end0
  exact ⟨rfl,S,Vis.seen hn hm,hS,World.grownBy.refl _ _⟩
 have aa:=Zwt jb hm;rw [show S.contains x=false by simpa using hm] at ke;obtain ⟨w1,aj,ja,fi⟩:=Zse hS x;have n5:=hg.andThen ja (fun j hj=>.inr hj);have dv:=n5.cell h1 (by simpa using n1);have cf:=hl w1 (n5.block bd ql (by simpa using nd)) x jb;obtain ⟨bq,dj,n,D0,ye,fq⟩:=hx x jb;have ho:=Zsf ye (n5.block _ bq (by simpa using dj))
 clear ye
 have Kd:=string_keyed Tryz.underlying9;unfold encStr
 go_enter Tryz.func25,Tryz.ntmps25
 go_wp2_with (first
  | (at_mapUpdate;refine ZjE rfl _ _ _ 50 rfl rfl rfl rfl aj ?_)
  | (at_range;refine wpList_range_own _ rfl _ 50 rfl 9 4 Kd Tryz.underlying50 _ _ _ _ rfl ho ?_;intro w2 pz pt fj)
  | go_in)
 go_frame
 go_loopw [5] (fun _ wr=>∃(left:Lit->Bool) (cnt:Nat) (ss S':List Bs),wr.ranges Tryz.prog 9 (fun _=>some (.nil,[])) (bx x) w1.heap.size n D0 left cnt/\w1.grownBy wr (some bs)/\Holds bs S' wr/\Collected D0 left ss/\Mid D S x ss S')
  (fun _ wr=>wr.rangeLeft (bx x) w1.heap.size)
 case atStart=>exact ⟨_,_,[],_,pz,pt.but _,ZcJ fi (pt.block bs (by have:=n5.size;omega) sM),Collected.start D0,Mid.start hn hm⟩
 case round =>
  obtain ⟨left,cnt,ss,S',rv,rx,hH,hC,hM⟩:=hrel
  go_wp2_with (first
   | (at_next;refine wpList_next_ranges _ rfl _ rfl 9 Kd _ encStr id (fun key kl hk=>by obtain ⟨x,hx,_⟩:=Maps.keyOf_str Tryz.underlying9 hk;exact ⟨x,hx⟩) (fun v _ _=>⟨v,rfl⟩) (bx x) w1.heap.size _ _ _ _ rfl rv ?_ ?_)
   | go_in)
  ·intro ik l9
   have hp:=(hC.perm ho Kd Tryz.underlying9 l9).trans fq
   go_wp2
   go_end0
   exact ⟨rfl,S',hM.done (fun z hz=>hp.mem_iff.2 hz),hH,ja.andThen rx (fun j hj=>.inr hj)⟩
  intro z c kl yd yp w3 cnt2 j8 qa ou t8 ly jh lk tq mn vt
  obtain ⟨z',ez,rfl,_⟩:=Maps.keyOf_str Tryz.underlying9 j8;obtain rfl:z=z':=encStr_inj ez;have hst:=hC.step qa ly;have hz:z∈Uq D x:=fq.mem_iff.1 (ZhG ho ((hst.2 z).1 sM).1);have wj:=ZuY hd jb hz;have hbw:=n5.size;have hbr:=rx.size;have mj:w1.grownBy w3 (some bs):=rx.andThen tq (fun j hj=>by cases hj;exact .inl (Tt _));have iw:=n5.andThen mj (fun j hj=>.inr hj);have hH3:=ZcJ (W:=w3) hH (tq.block bs oM (by simp only [ne_eq,Option.some.injEq];omega));have bw:=iw.cell h2 (by simpa using n2);have aw:=Zsg hM.sub;have f7:unS S'<=unS (ZaR S x):=Zsg fun y hy=>(mem_addN.1 hy).elim (hM.sub y) fun g=>g ▸ hM.inn
  go_wp2_with (first
   | (go_at_call 25;refine (ih S' z w3 wj oM hM.nd iw hH3).mono ?_;rintro en w4 ⟨rfl,S4,hV,hH4,hg4⟩)
   | go_in)
  go_roundw
  case rel=>exact ⟨_,cnt2,ss++[z],S4,jh.kept hg4 (by simpa using dj) (by simp only [ne_eq,Option.some.injEq];omega),mj.andThen hg4 (fun j hj=>.inr hj),hH4,hst,hM.step hz hV⟩
  case measure=>rw [(jh.kept hg4 (by simpa using dj) (by simp only [ne_eq,Option.some.injEq];omega)).left_eq,rv.left_eq];exact lk
def ZE7 {G:GE} {e:Env} {σ:St} {w:World} {vs:Array Value} {x y z t:PV} (h:ArgsRel G e σ w [x,y,z,t] vs):∃u v a b,vs=#[u,v,a,b]/\VRel G e σ w x u/\VRel G e σ w y v/\VRel G e σ w z a/\VRel G e σ w t b:=by
 obtain ⟨hs,hr⟩:=h;obtain ⟨l⟩:=vs
 match l,hs with
 | [u,v,a,b],_=>exact ⟨u,v,a,b,rfl,hr 0 x u rfl rfl,hr 1 y v rfl rfl,hr 2 z a rfl rfl,hr 3 t b rfl rfl⟩
def ZhI {G:GE} {e:Env} {σ:St} {w:World} {b i:Nat} {t:TypeId} (h:BRel G e σ w (.cells t [.mp i]) b):w.cell? ⟨b,0,none⟩=some (.map (some (e.β i))):=by
 obtain ⟨u,hc,hm,_⟩:=h.cell (o:=0) rfl
 cases hm
 exact hc
def Zs4 (x:Bs) (a b c:Nat):Nat:=if x=[97] then a else if x=[98] then b else c
def ZzG:Zh:=fun args σ K=>match args,σ with
 | [.d (.str x),.ptr 0 0,.ptr 1 0,.ptr 2 0],⟨[.cells t0 [.mp 3],.cells t1 [.mp 4],.cells t2 [.func f [] [.ptr 0 0,.ptr 1 0,.ptr 2 0]],.dmap [],.map [.d (.str k1),.mp 5,.d (.str k2),.mp 6,.d (.str k3),.mp 7] bn ck,.dmap a1,.dmap a2,.dmap a3],[],0⟩ =>
  (f=25/\k1=[97]/\k2=[98]/\k3=[99]/\bn=[0,1,2]/\ck=3)/\∃D:Tri,a1=mvM mvB D.1/\a2=mvM mvB D.2.1/\a3=mvM mvB D.2.2/\(okD D=true/\x∈abcN) /\
   ∀S,Vis D [] x S->K (.ret (.tuple [])) ⟨[.cells t0 [.mp 3],.cells t1 [.mp 4],.cells t2 [.func f [] [.ptr 0 0,.ptr 1 0,.ptr 2 0]],.dmap (mvM mvB (Y2 S)),.map [.d (.str k1),.mp 5,.d (.str k2),.mp 6,.d (.str k3),.mp 7] bn ck,.dmap a1,.dmap a2,.dmap a3],[],0⟩
 | _,_=>False
def Zu6:PC w0 nG 25 ZzG where
 enters:=Zf Tryz.func25 kR rfl
 calls:=fun args σ K hs n e w vs hS ha=>by
  unfold ZzG at hs
  split at hs
  ·rename_i x t0 t1 t2 f k1 k2 k3 bn ck a1 a2 a3
   obtain ⟨⟨rfl,rfl,rfl,rfl,rfl,rfl⟩,⟨D1,D2,D3⟩,rfl,rfl,rfl,⟨hd,jb⟩,h⟩:=hs;obtain ⟨u0,u1,u2,u3,rfl,qx,yu,n9,hu3⟩:=ZE7 ha;obtain rfl:=qx.dstr;have hi:∀i,i<8->i≠3->e.β i≠e.β 3:=fun i hi ai g=>ai (hS.inj i 3 hi sM g)
   have aa:∀i,i<8->e.β i<w.heap.size:=fun i hi=>hS.lt hi
   cases yu
   cases n9
   cases hu3
   obtain ⟨uf,bw,hf,_⟩:=(hS.box 2 _ rfl).cell (o:=0) rfl
   cases hf with
   | func _ _ _ va vc hva xc _ h2 =>
   obtain ⟨va⟩:=va;obtain rfl:va=[]:=Sp.1 hva;obtain ⟨vc⟩:=vc
   match vc,xc with
   | [q0,q1,q2],_ =>
   have g0:=h2 0 _ q0 rfl rfl;have g1:=h2 1 _ q1 rfl rfl;have g2:=h2 2 _ q2 rfl rfl
   cases g0
   cases g1
   cases g2
   have hx:∀y∈abcN,Zs4 y (e.β 5) (e.β 6) (e.β 7)<w.heap.size/\Zs4 y (e.β 5) (e.β 6) (e.β 7)≠e.β 3/\∃(n:Nat) (D0:DataW Unit),w.ownsMap Tryz.prog 9 (fun _=>some (.nil,[])) (Zs4 y (e.β 5) (e.β 6) (e.β 7)) n D0/\(strKeys D0).Perm (Uq (D1,D2,D3) y):=fun y hy=>by
    have ak:=ZmS hd hy;have own:∀{σ:St} {M:Bv} {b:Nat},BRel (GG w0 nG) e σ w (.dmap (mvM mvB M)) b->ZAS (D1,D2,D3) y=M->∃(n:Nat) (D0:DataW Unit),w.ownsMap Tryz.prog 9 (fun _=>some (.nil,[])) b n D0/\(strKeys D0).Perm (Uq (D1,D2,D3) y):=fun {σ M b} hB hM=>by
     unfold Uq at ak |-
     rw [hM] at ak |-;obtain ⟨D0,h1,h2,_⟩:=Zem (P:=Tryz.prog) (k:=9) Tryz.underlying9 hB (by rw [Xs];exact ak.2.1) (by rw [JV];omega) (fun z hz=>by
      rw [Xs] at hz;obtain ⟨p,hp,rfl⟩:=Sr.1 hz;exact ZrX (ak.1.2 p hp))
     exact ⟨_,D0,h1,by rw [Xs] at h2;exact h2⟩
    simp only [Tr,TT,SC] at hy;rcases hy with rfl | rfl | rfl
    ·exact ⟨aa 5 dM,hi 5 dM dM,own (hS.box 5 _ rfl) rfl⟩
    ·exact ⟨aa 6 dM,hi 6 dM dM,own (hS.box 6 _ rfl) rfl⟩
    exact ⟨aa 7 dM,hi 7 dM dM,own (hS.box 7 _ rfl) rfl⟩
   have hl:∀W:World,W.heap[e.β 4]?=w.heap[e.β 4]?->∀y∈abcN,(Instr.lookup 41 (.map (some (e.β 4))) (.string ⟨y.toArray⟩) false).run Tryz.prog W=.ok (.map (some (Zs4 y (e.β 5) (e.β 6) (e.β 7)))) W:=fun W hW y hy=>by
    simp only [Tr,TT,SC] at hy;rcases hy with rfl | rfl | rfl
    ·exact ZoM (hS.box 4 _ rfl) rfl hW
    ·exact ZoM (hS.box 4 _ rfl) rfl hW
    exact ZoM (hS.box 4 _ rfl) rfl hW
   have hc:=Zlh hd (ZhI (hS.box 0 _ rfl)) (ZhI (hS.box 1 _ rfl)) bw (hi 0 dM dM) (hi 1 dM dM) (hi 2 dM dM) (aa 4 dM) (hi 4 dM dM) (aa 3 dM) hx hl 4 [] x w jb dM List.nodup_nil (World.grownBy.refl _ _) (ZcJ (S:=[]) (hS.box 3 _ rfl) rfl);refine CallsIn.mono (callsIn_wide.2 hc) fun en w' hh=>?_
   obtain ⟨rfl,S',hV,hH,hg⟩:=hh;obtain ⟨es',ck',p1,⟨p2,p3⟩,p4⟩:=ZcH hH;obtain ⟨hst,fi⟩:=Wv (x':=.dmap (mvM mvB (Y2 S'))) (b:=3) hS rfl (w1:=w.putObj (e.β 3) (.map es' ck')) rfl rfl rfl (by simp [World.putObj]) (fun k hk=>World.putObj_heap_other hk) fun _=>ZcI (World.putObj_heap_same (aa 3 dM)) p2 p3 p4
   have ja:Grows (w.putObj (e.β 3) (.map es' ck')) w':=⟨hg.os,hg.tape,hg.output,by simpa [World.putObj] using hg.size,fun b hb=>by
    by_cases wi:b=e.β 3
    ·subst wi;rw [p1,World.putObj_heap_same (aa 3 dM)]
    rw [World.putObj_heap_other wi];exact hg.block b (by simpa [World.putObj] using hb) (by simpa using wi)⟩
   exact ⟨.ret (.tuple []),_,e,h S' hV,⟨_,rfl,.tuple _ _ rfl (fun i x u hx=>by simp at hx)⟩,fi.grow ja,hst.toLater.trans (ja.stepped e _).toLater⟩
  exact hs.elim
end Go.PM.Lex
end

section
namespace Go.PM.Lex
open Go.Proofs
variable {w0:World} {nG:Nat}
def ZFI:∀m,PC w0 nG 91 (Zel m)
 | 0=>Zsb (Zz (Zf Tryz.func91 kR rfl))
 | m+1=>Zsb (ZA (sp:=Zel) (ZFI m))
def ZmZ:Zh:=fun args σ K=>match args,σ with
 | [.agg c,.mp 0],⟨[.dmap mo],[],0⟩=>∃pl x O,c=(YC pl x).map .d/\mo=mvM mvB O/\(szL x<1099511627776/\okS (ZrR x [])=true)/\∀S,S.Perm (VO x O)->K (.ret (.mp 3)) ⟨[.dmap (mvM mvB O),.cells 65 c,.cells 87 [.mp 0],.dmap (mvM mvB S)],[],0⟩
 | _,_=>False
def ZzH:Tbl:=[(91,Zel 1099511627776),(92,ZmY)]
def Zsh:PC w0 nG 51 ZmZ:=by
 refine pwt (tbl:=ZzH) ⟨ZFI _,Zws,trivial⟩ Tryz.func51 fun args σ K h=>?_
 unfold ZmZ at h
 split at h
 ·obtain ⟨pl,⟨b1,b2,b3,b4,b5⟩,O,rfl,rfl,⟨hz,hs⟩,h⟩:=h;refine pwv [] 4 false ?_;refine ⟨pl,.mk b1 b2 b3 b4 b5,[],rfl,rfl,⟨hz,dM⟩,wN ?_⟩;have hk:=ZrU hs;refine ⟨ZrR (.mk b1 b2 b3 b4 b5) [],O,rfl,rfl,⟨.inl rfl,hk.1,TP hk.2.1 dM,fun x hx=>TP (hk.2.2 x hx) dM⟩,fun S hS=>wN ?_⟩;have h:=h S hS;exact h
 exact h.elim
def ZFJ (l:List Li):Bool:=l.all fun x=>decide (opL x<9) || okS (ZrR x [])
def JW:Zh:=fun args σ K=>match args,σ with
 | [.d (.sl rows),.mp 0,.mp 1],⟨[.dmap mv,.dmap mo],[],0⟩=>∃pl l M O,rows=Zx pl l/\mv=mvM mvB M/\mo=mvM mvB O/\(ZFJ l=true/\ZdT l<=1099511627776/\M.length+(Vb l).length<=1099511627776)/\K (.ret (.mp 2)) ⟨[.dmap (mvM mvB M),.dmap (mvM mvB O),.dmap (mvM mvB (UX O l M))],[],0⟩
 | _,_=>False
def ZjF:Zy JW:=fun args σ K K' hK h=>by
 unfold JW at h |-
 split at h
 ·obtain ⟨pl,l,M,O,h1,h2,h3,h4,h5⟩:=h;exact ⟨pl,l,M,O,h1,h2,h3,h4,hK _ _ h5⟩
 exact h.elim
def ZzI (O:Bv) (l:List Li) (R:Bv) (N0:Nat) (n:Int) (M':Bv):Prop:=n=(M'.length:Nat)/\(∃k,Zch O l k M'=some R)/\unB (Vb l) M'+M'.length<=N0
def ZzJ {o m:Bv} {op:Nat} {rel:Bs} {e:Ex} {r:List Ex} {body:List Li} {a:Nat} (h:(op=9/\r.length=0)\/(9<op/\op<=12/\r.length=1)):Zh1 o m (.mk op rel (e::r) body a)=if ZaD (VO (.mk op rel (e::r) body a) o) m=true/\UW m e=false then ZjQ e m else m:=by
 simp only [Zh1];rw [Te oM,Te oM,Ti (by simp only [Tf];omega)]
def Zli {o m:Bv} {op:Nat} {rel:Bs} {args:List Ex} {body:List Li} {a:Nat} (h1:op≠1) (h3:op≠3) (h:¬((op=9/\args.length=1)\/(9<op/\op<=12/\args.length=2))):Zh1 o m (.mk op rel args body a)=m:=by
 simp only [Zh1];rw [Te h1,Te h3,Te h]
def Zm0:Tbl:=[(47,ZhF),(21,Zgd 1099511627776),(49,ZoI 1099511627776),(50,Zr4),(48,ZjB 1099511627776),(51,ZmZ),(52,Zlg)]
def Zu7 (ht:TO w0 nG Zm0):PC w0 nG 34 JW:=by
 refine Yn Zr mixed (tbl:=Zm0) ht Tryz.func34 rfl kR kR ?_;intro args σ K h
 unfold JW at h
 split at h
 ·obtain ⟨pl,l,M,O,rfl,rfl,rfl,⟨eg,hz,f9⟩,h⟩:=h;have hl:(Zx pl l).length=l.length:=by rw [Zn,Td]
  have hsz:=Wt l;have hR:=Zhx O l M;generalize UX O l M=R at h hR;have hN:unB (Vb l) M+M.length<=M.length+(Vb l).length:=by have:unB (Vb l) M<=(Vb l).length:=List.countP_le_length;omega
  generalize M.length+(Vb l).length=N0 at hN f9;refine ⟨Zg [
   (3,⟨[8],[0,2,7],fun vs σ=>∃(n:Int) (M':Bv),vs=[.d (.int .i64 n)]/\σ=⟨[.dmap (mvM mvB M),.dmap (mvM mvB O),.dmap (mvM mvB M')],[],0⟩/\unB (Vb l) M'+M'.length<=N0/\-1<=n/\((n<(M'.length:Nat)/\∃k,Zch O l k M'=some R)\/(n=(M'.length:Nat)/\M'=R)),
    fun vs σ=>match vs,σ.bx with | [.d (.int _ n)],[_,_,.dmap m]=>2 * (N0 - m.length)+(if n<(m.length:Nat) then 1 else 0) | _,_=>0⟩),
   (6,⟨[25],[0,2,7,8,23,24],fun vs σ=>∃(n:Int) (M':Bv) (j:Nat),vs=[.d (.sl (Zx pl l)),.mp 1,.mp 2,.d (.int .i64 n),.d (.sl (Zx pl l)),.d (.int .i64 (Zx pl l).length),.d (.int .i64 j)]/\σ=⟨[.dmap (mvM mvB M),.dmap (mvM mvB O),.dmap (mvM mvB (Yh O M' (l.take j)))],[],0⟩/\ZzI O l R N0 n M'/\j<=l.length,
    fun vs _=>match vs with | [_,_,_,_,_,_,.d (.int _ j)]=>((l.length:Int) - j).toNat | _=>0⟩),
   (11,⟨[47],[0,2,7,8,23,24,25,45,46],fun vs σ=>∃(n:Int) (M' M2:Bv) (j i:Nat) (rel:Bs) (ar:List Ex) (body:List Li) (a:Nat),vs=[.d (.sl (Zx pl l)),.mp 1,.mp 2,.d (.int .i64 n),.d (.sl (Zx pl l)),.d (.int .i64 (Zx pl l).length),.d (.int .i64 j),.d (.sl (Ze pl ar)),.d (.int .i64 (Ze pl ar).length),.d (.int .i64 i)]/\σ=⟨[.dmap (mvM mvB M),.dmap (mvM mvB O),.dmap (mvM mvB M2),.cells 65 ((YC pl (.mk 1 rel ar body a)).map .d)],[],0⟩/\ZzI O l R N0 n M'/\l[j]?=some (.mk 1 rel ar body a)/\Uo (ar.drop i) M2=Yh O M' (l.take (j+1))/\i<=ar.length,
    fun vs _=>match vs with | [_,_,_,_,_,_,_,_,.d (.int _ n),.d (.int _ j)]=>(n - j).toNat | _=>0⟩),
   (17,⟨[63],[0,2,7,8,10,23,24,25],fun vs σ=>∃(n:Int) (M' M2:Bv) (j i:Nat) (rel:Bs) (a b:Ex) (body:List Li) (at':Nat),vs=[.d (.sl (Zx pl l)),.mp 1,.mp 2,.d (.int .i64 n),.ptr 3 0,.d (.sl (Zx pl l)),.d (.int .i64 (Zx pl l).length),.d (.int .i64 j),.d (.int .i64 i)]/\σ=⟨[.dmap (mvM mvB M),.dmap (mvM mvB O),.dmap (mvM mvB M2),.cells 65 ((YC pl (.mk 3 rel [a,b] body at')).map .d)],[],0⟩/\ZzI O l R N0 n M'/\l[j]?=some (.mk 3 rel [a,b] body at')/\((i=0/\Z3 (Z3 M2 a b) b a=Yh O M' (l.take (j+1)))\/(i=1/\Z3 M2 b a=Yh O M' (l.take (j+1)))\/(i=2/\M2=Yh O M' (l.take (j+1)))),
    fun vs _=>match vs with | [_,_,_,_,_,_,_,_,.d (.int _ j)]=>(2 - j).toNat | _=>0⟩)],ZV [],ZC [6,11,17],3,false,sM,Tb rfl,?_⟩
  conv=>whnf
  refine ⟨⟨-1,M,rfl,rfl,hN,oM,.inl ⟨oM,_,hR⟩⟩,?_⟩
  rintro vs σ1 ⟨n0,M0,rfl,rfl,aav,ey,tu⟩
  have hm0:=JV M0;(conv=>whnf);refine ZGr (fun hc=>?_) (fun hc=>?_);rotate_left
  ·have hc:¬n0<((mvM mvB M0).length:Nat):=hc;rcases tu with ⟨q,_⟩ | ⟨_,q⟩
   ·omega
   subst q;exact mq35
  have hc:n0<((mvM mvB M0).length:Nat):=hc;obtain ⟨_,k,hk⟩:n0<(M0.length:Nat)/\∃k,Zch O l k M0=some R:=tu.elim id fun q=>oM
  conv=>whnf
  refine ⟨⟨_,M0,0,rfl,rfl,⟨by rw [hm0],⟨k,hk⟩,aav⟩,oM⟩,?_⟩
  rintro vs2 σ2 ⟨n,M',j,bh,rfl,⟨hn,⟨k',gw⟩,qb⟩,hj⟩
  have en:n=((mvM mvB M0).length:Nat):=by
   exact mq84
  have bh:vs2=[.d (.int .i64 j)]:=congrArg (List.drop 6) bh;subst bh;subst en;(conv=>whnf);refine ZGr (fun bw=>?_) (fun bw=>?_);rotate_left
  ·have hje:l.length<=j:=by have bw:¬(j:Int)<((Zx pl l).length:Nat):=bw;omega
   rw [List.take_of_length_le hje];have aaw:=Zeg (X:=Vb l) O l M' fun t h=>h
   have xe:=JV (Yh O M' l);have h1:=aaw.2.1;have h2:=aaw.2.2
   cases k' with
   | zero=>cases gw
   | succ k' =>
   simp only [Zch] at gw;generalize Yh O M' l=M1 at gw xe h1 h2;(conv=>whnf);refine ⟨⟨_,M1,rfl,rfl,oM,oM,?_⟩,?_⟩
   ·split at gw
    ·exact .inl ⟨oM,k',gw⟩
    exact .inr ⟨oM,Option.some.inj gw⟩
   show 2 * (N0 - (mvM mvB M1).length)+(if (((mvM mvB M0).length:Nat):Int)<((mvM mvB M1).length:Nat) then 1 else 0)<2 * (N0 - (mvM mvB M0).length)+(if n0<((mvM mvB M0).length:Nat) then 1 else 0);rw [Ti hc];split <;> omega
  have aa:j<l.length:=by have bw:(j:Int)<((Zx pl l).length:Nat):=bw;omega
  have hr:(Zx pl l)[(j:Int).toNat]?=some (YC pl l[j]):=by rw [Tg,Zn,Th,Ta aa];rfl
  have hg:=Ws l j aa;have dx:=Tn.1 eg _ (TA aa);have hx:l[j]?=some l[j]:=Ta aa;have hb:=ZoD aa O M';have hμ:((l.length:Int) - ((j:Int)+1)).toNat<((l.length:Int) - (j:Int)).toNat:=oM;generalize l[j]=x at hr hg dx hx hb;obtain ⟨b1,b2,b3,b4,b5⟩:=x;have n4:=UO (op:=b1) (rel:=b2) (args:=b3) (body:=b4) (a:=b5);have ct:(Ze pl b3).length=b3.length:=by rw [Zc,Td]
  have mn:=YA b3;rcases (show b1=1\/b1=3\/(b1=0\/b1=2\/b1=4\/b1=5\/b1=6\/b1=7\/b1=8)\/(b1=9\/b1=10\/b1=11\/b1=12)\/13<=b1 by omega) with rfl | rfl | ho | ho | ho
  rotate_left 2
  ·rcases ho with rfl | rfl | rfl | rfl | rfl | rfl | rfl
   all_goals
    rw [show Zh1 O (Yh O M' (l.take j)) _=Yh O M' (l.take j) from rfl] at hb;(conv=>whnf);refine ⟨_,oM,hr,wN ?_⟩;refine Zk ?_;exact ⟨⟨_,M',j+1,rfl,by rw [hb];rfl,⟨hn,⟨k',gw⟩,qb⟩,oM⟩,hμ⟩
  ·
   have ak:okS (ZrR (.mk b1 b2 b3 b4 b5) [])=true:=by
    simp only [Sk,TH] at dx;exact dx.resolve_left (show ¬b1<9 by omega)
   have dr:szL (.mk b1 b2 b3 b4 b5)<1099511627776:=oM;generalize Yh O M' (l.take j)=M1 at hb
   cases b3 with
   | nil =>
    rw [Zli oM oM sM] at hb;rcases ho with rfl | rfl | rfl | rfl
    all_goals
     conv=>whnf
     refine ⟨_,oM,hr,wN ?_⟩;refine Zk ?_;exact ⟨⟨_,M',j+1,rfl,by rw [hb];rfl,⟨hn,⟨k',gw⟩,qb⟩,oM⟩,hμ⟩
   | cons e r =>
   have hlr:(Ze pl r).length=r.length:=by rw [Zc,Td]
   have hse:szE e<1099511627776:=by simp only [VF] at n4;omega
   have hw:∀S,S.Perm (VO (.mk b1 b2 (e::r) b4 b5) O)->ZaD S M1=ZaD (VO (.mk b1 b2 (e::r) b4 b5) O) M1:=fun S hS=>ZrT hS M1
   rcases ho with rfl | rfl | rfl | rfl
   all_goals
    conv=>whnf
    refine ⟨_,oM,hr,wN ?_⟩;refine ZGr (fun d0=>?_) (fun d0=>?_);rotate_left
    ·rw [Zli oM oM (fun q=>d0 (by show (((Ze pl r).length+1:Nat):Int)=_;simp only [Tf] at q;omega))] at hb;(conv=>whnf);exact mq31
    rw [ZzJ (by have d0:(((Ze pl r).length+1:Nat):Int)=_:=d0;omega)] at hb;(conv=>whnf)
    try (refine ZGr (fun _=>?_) (fun q=>absurd d0 q);conv=>whnf)
    refine ⟨pl,.mk _ b2 (e::r) b4 b5,O,rfl,rfl,⟨dr,ak⟩,fun S hS=>wN ?_⟩;rw [<- hw S hS] at hb;have cp:=Zlb (Zhy (ZrU ak)) hS;refine ⟨S,M1,rfl,rfl,⟨by rw [Xs];exact cp.1,by rw [JV];exact TP cp.2.1 dM,fun x hx=>by rw [Xs] at hx;exact TP (cp.2.2 x hx) dM⟩,fun p hp=>?_⟩;rw [hp] at hb
    cases p with
    | false =>
     rw [Te sM] at hb;(conv=>whnf);exact mq31
    | true =>
    obtain ⟨c1,c2,c3,c4,c5⟩:=e;(conv=>whnf);refine ⟨_,dM,rfl,wN ?_⟩;refine ⟨pl,(.mk c1 c2 c3 c4 c5),M1,rfl,rfl,⟨hse,dM⟩,fun p j9=>?_⟩;have j9:UW M1 (.mk c1 c2 c3 c4 c5)=p:=j9
    cases p with
    | true =>
     rw [Te (by rw [j9];simp)] at hb;(conv=>whnf);exact mq31
    | false =>
    rw [Ti ⟨rfl,j9⟩] at hb;(conv=>whnf);refine ⟨_,dM,rfl,wN ?_⟩;refine ⟨pl,(.mk c1 c2 c3 c4 c5),M1,rfl,rfl,⟨hse,dM⟩,wN ?_⟩;exact mq31
  ·
   rw [Zli oM oM oM] at hb;(conv=>whnf);refine ⟨_,oM,hr,wN ?_⟩;refine ZGr (fun q=>absurd q (show ¬(b1:Int)=1 by omega)) (fun _=>wN ?_);refine ZGr (fun q=>absurd q (show ¬(b1:Int)=3 by omega)) (fun _=>wN ?_);refine ZGr (fun q=>absurd q (show ¬(b1:Int)=9 by omega)) (fun _=>wN ?_);refine ZGr (fun _=>?_) (fun q=>absurd (show (b1:Int)>9 by omega) q);(conv=>whnf);refine ZGr (fun q=>absurd q (show ¬(b1:Int)<=12 by omega)) (fun _=>wN ?_);exact mq31
  ·
   conv=>whnf
   refine ⟨_,oM,hr,wN ?_⟩;refine ⟨pl,b3,_,rfl,rfl,⟨rfl,oM,oM⟩,fun d hd=>?_⟩;have hd:D.bool (Wq (Yh O M' (l.take j)) b3)=d:=hd;obtain ⟨ob,wl⟩:∃ob,Wq (Yh O M' (l.take j)) b3=ob:=⟨_,rfl⟩
   rw [wl] at hd;subst hd
   cases ob with
   | true =>
    rw [show Zh1 O (Yh O M' (l.take j)) (.mk 1 b2 b3 b4 b5)=Yh O M' (l.take j) by show (if Wq (Yh O M' (l.take j)) b3=false then Uo b3 (Yh O M' (l.take j)) else Yh O M' (l.take j))=_;rw [Te (by rw [wl];simp)]] at hb;(conv=>whnf);exact mq31
   | false =>
   rw [show Zh1 O (Yh O M' (l.take j)) (.mk 1 b2 b3 b4 b5)=Uo b3 (Yh O M' (l.take j)) by show (if Wq (Yh O M' (l.take j)) b3=false then Uo b3 (Yh O M' (l.take j)) else Yh O M' (l.take j))=_;rw [Ti wl]] at hb;(conv=>whnf);refine ⟨⟨_,M',_,j,0,b2,b3,b4,b5,rfl,rfl,⟨hn,⟨k',gw⟩,qb⟩,hx,hb.symm,oM⟩,?_⟩
   rintro vs3 σ3 ⟨n2,M3,M2,j2,i,rel,ar,bd,a,bh,rfl,hP,bo,hp,hi⟩
   have en:n2=((mvM mvB M0).length:Nat):=by
    exact mq84
   have ej:j2=j:=by
    have e:=Option.some.inj (congrArg (fun t:List PV=>t[6]?) bh);exact mq52
   subst en ej;rw [hx] at bo
   cases bo
   have bh:vs3=[.d (.int .i64 i)]:=congrArg (List.drop 9) bh;subst bh;(conv=>whnf);refine ZGr (fun d0=>?_) (fun d0=>?_);rotate_left
   ·have w9:b3.length<=i:=by have d0:¬(i:Int)<((Ze pl b3).length:Nat):=d0;omega
    rw [Tm w9] at hp;have hp:M2=Yh O M3 (l.take (j2+1)):=hp;subst hp;(conv=>whnf);refine Zk ?_;exact ⟨⟨_,M3,j2+1,rfl,rfl,hP,oM⟩,hμ⟩
   have mc:i<b3.length:=by have d0:(i:Int)<((Ze pl b3).length:Nat):=d0;omega
   rw [Zbr mc] at hp;have vq:(Ze pl b3)[(i:Int).toNat]?=some (ZD pl b3[i]):=by rw [Tg,Zc,Th,Ta mc];rfl
   have tq:=YB b3 i mc;generalize b3[i]=y at hp vq tq;obtain ⟨c1,c2,c3,c4,c5⟩:=y;(conv=>whnf);refine ⟨_,oM,vq,wN ?_⟩;refine ⟨pl,.mk c1 c2 c3 c4 c5,M2,rfl,rfl,⟨oM,oM⟩,wN ?_⟩;refine Zk ?_;refine ⟨⟨_,M3,_,j2,i+1,b2,b3,b4,b5,rfl,rfl,hP,hx,hp,oM⟩,?_⟩;exact mq188
  
  match b3,ct,mn,n4,hg,hr,hx,hb with
  | [],ct,mn,n4,hg,hr,hx,hb =>
   exact mq159
  | [c],ct,mn,n4,hg,hr,hx,hb =>
   exact mq159
  | c::d::e::f,ct,mn,n4,hg,hr,hx,hb =>
   exact mq159
  | [.mk c1 c2 c3 c4 c5,.mk d1 d2 d3 d4 d5],ct,mn,n4,hg,hr,hx,hb =>
   have xy:szE (.mk c1 c2 c3 c4 c5)<1099511627776:=by simp only [VF] at n4;omega
   have hsb:szE (.mk d1 d2 d3 d4 d5)<1099511627776:=by simp only [VF] at n4;omega
   rw [show Zh1 O (Yh O M' (l.take j)) (.mk 3 b2 [.mk c1 c2 c3 c4 c5,.mk d1 d2 d3 d4 d5] b4 b5)=Z3 (Z3 (Yh O M' (l.take j)) (.mk c1 c2 c3 c4 c5) (.mk d1 d2 d3 d4 d5)) (.mk d1 d2 d3 d4 d5) (.mk c1 c2 c3 c4 c5) from rfl] at hb;(conv=>whnf);refine ⟨_,oM,hr,wN ?_⟩;refine ⟨⟨_,M',_,j,0,b2,.mk c1 c2 c3 c4 c5,.mk d1 d2 d3 d4 d5,b4,b5,rfl,rfl,⟨hn,⟨k',gw⟩,qb⟩,hx,.inl ⟨rfl,hb.symm⟩⟩,?_⟩
   rintro vs3 σ3 ⟨n2,M3,M2,j2,i,rel,ea,eb,bd,a,bh,rfl,hP,bo,hp⟩
   have en:n2=((mvM mvB M0).length:Nat):=by
    exact mq84
   have ej:j2=j:=by
    have e:=Option.some.inj (congrArg (fun t:List PV=>t[7]?) bh);exact mq52
   subst en ej;rw [hx] at bo
   cases bo
   have bh:vs3=[.d (.int .i64 i)]:=congrArg (List.drop 8) bh;subst bh;rcases hp with ⟨rfl,hp⟩ | ⟨rfl,hp⟩ | ⟨rfl,hp⟩
   ·have hN1:∀q,Z3 M2 (.mk c1 c2 c3 c4 c5) (.mk d1 d2 d3 d4 d5)=q->Z3 q (.mk d1 d2 d3 d4 d5) (.mk c1 c2 c3 c4 c5)=Yh O M3 (l.take (j2+1)):=fun q e=>by rw [<- e];exact hp
    conv=>whnf
    refine V4 ?_;refine ⟨_,dM,rfl,wN ?_⟩;refine ⟨pl,(.mk d1 d2 d3 d4 d5),M2,rfl,rfl,⟨hsb,oM⟩,fun p mt=>?_⟩;have mt:(ZeL M2 (.mk d1 d2 d3 d4 d5)).isNone=p:=mt
    cases p with
    | false =>
     have e1:Z3 M2 (.mk c1 c2 c3 c4 c5) (.mk d1 d2 d3 d4 d5)=M2:=by unfold Z3;rw [Te (fun q=>by rw [mt] at q;cases q.1)]
     conv=>whnf
     exact mq55
    | true =>
    conv=>whnf
    refine ⟨_,dM,rfl,wN ?_⟩;refine ⟨pl,(.mk c1 c2 c3 c4 c5),M2,rfl,rfl,⟨xy,oM⟩,fun p j9=>?_⟩;have j9:UW M2 (.mk c1 c2 c3 c4 c5)=p:=j9
    cases p with
    | true =>
     have e1:Z3 M2 (.mk c1 c2 c3 c4 c5) (.mk d1 d2 d3 d4 d5)=M2:=by unfold Z3;rw [Te (fun q=>by rw [j9] at q;cases q.2)]
     conv=>whnf
     exact mq55
    | false =>
    have e1:Z3 M2 (.mk c1 c2 c3 c4 c5) (.mk d1 d2 d3 d4 d5)=ZjQ (.mk c1 c2 c3 c4 c5) M2:=by unfold Z3;rw [Ti ⟨mt,j9⟩]
    conv=>whnf
    refine ⟨_,dM,rfl,wN ?_⟩;refine ⟨pl,(.mk c1 c2 c3 c4 c5),M2,rfl,rfl,⟨xy,oM⟩,wN ?_⟩;exact mq55
   ·have hN1:∀q,Z3 M2 (.mk d1 d2 d3 d4 d5) (.mk c1 c2 c3 c4 c5)=q->q=Yh O M3 (l.take (j2+1)):=fun q e=>by rw [<- e];exact hp
    conv=>whnf
    refine V4 ?_;refine ⟨_,dM,rfl,wN ?_⟩;refine ⟨pl,(.mk c1 c2 c3 c4 c5),M2,rfl,rfl,⟨xy,oM⟩,fun p mt=>?_⟩;have mt:(ZeL M2 (.mk c1 c2 c3 c4 c5)).isNone=p:=mt
    cases p with
    | false =>
     have e1:Z3 M2 (.mk d1 d2 d3 d4 d5) (.mk c1 c2 c3 c4 c5)=M2:=by unfold Z3;rw [Te (fun q=>by rw [mt] at q;cases q.1)]
     conv=>whnf
     exact mq54
    | true =>
    conv=>whnf
    refine ⟨_,dM,rfl,wN ?_⟩;refine ⟨pl,(.mk d1 d2 d3 d4 d5),M2,rfl,rfl,⟨hsb,oM⟩,fun p j9=>?_⟩;have j9:UW M2 (.mk d1 d2 d3 d4 d5)=p:=j9
    cases p with
    | true =>
     have e1:Z3 M2 (.mk d1 d2 d3 d4 d5) (.mk c1 c2 c3 c4 c5)=M2:=by unfold Z3;rw [Te (fun q=>by rw [j9] at q;cases q.2)]
     conv=>whnf
     exact mq54
    | false =>
    have e1:Z3 M2 (.mk d1 d2 d3 d4 d5) (.mk c1 c2 c3 c4 c5)=ZjQ (.mk d1 d2 d3 d4 d5) M2:=by unfold Z3;rw [Ti ⟨mt,j9⟩]
    conv=>whnf
    refine ⟨_,dM,rfl,wN ?_⟩;refine ⟨pl,(.mk d1 d2 d3 d4 d5),M2,rfl,rfl,⟨hsb,oM⟩,wN ?_⟩;exact mq54
   subst hp;(conv=>whnf);refine Zk ?_;exact ⟨⟨_,M3,j2+1,rfl,rfl,hP,oM⟩,hμ⟩
 exact h.elim
mutual
def ZzK:∀e:Ex,(nvE e).length<=szE e
 | .mk op t n args a=>by
  have:=ZhJ args;simp only [nvE,szE];split
  ·simp only [Tf,Tj];omega
  omega
def ZhJ:∀l:List Ex,(Zhr l).length<=VF l
 | []=>Tt _
 | e::l=>by
  have h1:=ZzK e;have h2:=ZhJ l;simp only [Zhr,VF,Tc];omega
end
mutual
def ZzL:∀x:Li,(nvL x).length<=szL x
 | .mk op rel args body a=>by
  have h1:=ZhJ args;have h2:=ZcK body;simp only [nvL,szL,Tc];rw [<- XG];omega
def ZcK:∀l:List Li,(Vb l).length<=ZdT l
 | []=>Tt _
 | x::l=>by
  have h1:=ZzL x;have h2:=ZcK l;simp only [Vb,ZdT,Tc];omega
end
def EqS.symm {m k:Bv} (h:EqS m k):EqS k m:=⟨fun t=>(h.1 t).symm,h.2.symm⟩
def ZzM {α:Type} (l:List α):cut l (Int.toNat 1) l.length=l.drop 1:=by
 rw [cut,Sn];rfl
def Zwu:PC w0 nG 34 JW:=Zu7 ⟨ZmW,ZE4 _,ZFG _,Zr9,Zzz _,Zsh,Zu3,trivial⟩
def ZoN (args:List Ex) (body:List Li) (m o s:Bv):Option Ex:=match Xi (UX (outLs s body) body (JS m s)) (args.drop 1) with
 | some x=>some x
 | none=>VP body (UX (outLs s body) body (JS m s)) (outLs s body)
def ZzN {m o:Bv} {op:Nat} {rel:Bs} {args:List Ex} {body:List Li} {a:Nat} (h:9<=op):Zoy (.mk op rel args body a) m o=match Xi m (args.take 1) with | some x=>some x | none=>ZoN args body m o (VO (.mk op rel args body a) o):=by
 simp only [Zoy,ZoN];rw [Te oM,Te oM,Te oM]
 cases Xi m (args.take 1) <;> rfl
def ZzO {m o:Bv} {op:Nat} {rel:Bs} {args:List Ex} {body:List Li} {a:Nat} (h:op<9) (h1:op≠1) (h2:op≠2):Zoy (.mk op rel args body a) m o=Xi m args:=by
 simp only [Zoy];rw [Te h1,Te h2,Ti h]
def ZjG {l:List Li} (h:Zbt l=true):∀{i:Nat} (hi:i<l.length),ZCM l[i]=true:=by
 induction l with
 | nil=>intro i hi;cases hi
 | cons x l ih =>
 simp only [Zbt,Tl] at h;intro i hi
 cases i with
 | zero=>exact h.1
 | succ i=>exact ih h.2 (by simpa using hi)
def Zlj {op:Nat} {rel:Bs} {args:List Ex} {body:List Li} {a:Nat} (h:ZCM (.mk op rel args body a)=true) (ho:9<=op):args≠[]/\okS (ZrR (.mk op rel args body a) [])=true/\Zbt body=true:=by
 simp only [ZCM,Sk,TH,Tl] at h;have h:=h.resolve_left oM;exact ⟨fun g=>by rw [g] at h;simp at h,h.2.1,h.2.2⟩
def Zm1 {l:List Li} (h:Zbt l=true):ZFJ l=true:=Tn.2 fun x hx=>by
 obtain ⟨i,hi,rfl⟩:=T5 hx;have g:=ZjG h hi;generalize l[i]=x at g;obtain ⟨op,rel,args,body,a⟩:=x;simp only [Sk,TH,opL]
 by_cases ho:op<9
 ·exact .inl (TY ho)
 exact .inr (Zlj g oM).2.1
def JX (n:Nat):Zh:=fun args σ K=>match args,σ with
 | [.mp 0,.d (.sl rows),.mp 1],⟨[.dmap mv,.dmap mo],[],0⟩=>∃pl l M O,rows=Zx pl l/\mv=mvM mvB M/\mo=mvM mvB O/\(Zbt l=true/\ZdT l<n/\n<=1000000000000)/\(VP l M O=none->K (.ret (.tuple [])) ⟨[.dmap (mvM mvB M),.dmap (mvM mvB O)],[],0⟩) /\
   ∀x,VP l M O=some x->K (.panic (.iface 85 (.agg [.d (.int .i64 (pl (atX x)))]))) ⟨[.dmap (mvM mvB M),.dmap (mvM mvB O)],[],0⟩
 | _,_=>False
def ZjH (n:Nat):Zy (JX n):=fun args σ K K' hK h=>by
 unfold JX at h |-
 split at h
 ·obtain ⟨pl,l,M,O,h1,h2,h3,h4,h5,h6⟩:=h;exact ⟨pl,l,M,O,h1,h2,h3,h4,fun g=>hK _ _ (h5 g),fun x g=>hK _ _ (h6 x g)⟩
 exact h.elim
def Zm2 (n:Nat):Zh:=fun args σ K=>match args,σ with
 | [.mp 0,.agg c,.mp 1],⟨[.dmap mv,.dmap mo],[],0⟩=>∃pl op rel args body a M O,c=(YC pl (.mk op rel args body a)).map .d/\mv=mvM mvB M/\mo=mvM mvB O/\((9<=op/\ZCM (.mk op rel args body a)=true)/\szL (.mk op rel args body a)<n/\n<=1000000000000)/\(ZoN args body M O (VO (.mk op rel args body a) O)=none->K (.ret (.tuple [])) ⟨[.dmap (mvM mvB M),.dmap (mvM mvB O)],[],0⟩) /\
   ∀x,ZoN args body M O (VO (.mk op rel args body a) O)=some x->K (.panic (.iface 85 (.agg [.d (.int .i64 (pl (atX x)))]))) ⟨[.dmap (mvM mvB M),.dmap (mvM mvB O)],[],0⟩
 | _,_=>False
def ZzQ {n:Nat}:OKw w0 nG [(51,ZmZ),(47,ZhF),(92,ZmY),(33,Zek),(34,JW),(35,ZaI),(36,JX n)] 56 (Zm2 n):=by
 refine pwo Tryz.func56 fun args σ K h=>?_
 unfold Zm2 at h
 split at h
 ·obtain ⟨pl,b1,b2,b3,b4,b5,M,O,rfl,rfl,rfl,⟨⟨ho,hf⟩,hz,hn⟩,h1,h2⟩:=h;obtain ⟨ai,ak,hfb⟩:=Zlj hf ho;have n4:=UO (op:=b1) (rel:=b2) (args:=b3) (body:=b4) (a:=b5);have z6:=ZcG (op:=b1) (rel:=b2) (args:=b3) (body:=b4) (a:=b5);have mn:=ZjC b3 1;have ct:(Ze pl b3).length=b3.length:=by rw [Zc,Td]
  have ais:=YA b3;have hnv:=ZcK b4;have j9:0<b3.length:=List.length_pos_iff.2 ai;refine pwv [] 2 false ?_;refine ⟨pl,.mk b1 b2 b3 b4 b5,O,rfl,rfl,⟨oM,ak⟩,fun S hS=>?_⟩;have x7:=Zhy (o:=O) (ZrU ak);have cp:=Zlb x7 hS;have eS:EqS S (VO (.mk b1 b2 b3 b4 b5) O):=.perm hS x7.1;generalize VO (.mk b1 b2 b3 b4 b5) O=S0 at h1 h2 hS eS;(conv=>whnf);(conv=>whnf);refine ⟨S,M,rfl,rfl,⟨.inr rfl,cp.1,TP cp.2.1 dM,fun x hx=>TP (cp.2.2 x hx) dM⟩,fun A hA=>wN ?_⟩;have lm:=Zhy (o:=M) cp;have eA:EqS A (JS M S0):=.perm (hA.trans (hS.filter _)) (Zhy (Zlb cp hS.symm)).1;have vu:=hA.length_eq;refine ⟨pl,b4,S,rfl,rfl,oM,?_⟩;have eO:=eS.outLs b4;have eB:=eO.bndF b4 eA;generalize outLs S b4=O2 at eO eB;(conv=>whnf);refine ⟨pl,b4,A,O2,rfl,rfl,rfl,⟨Zm1 hfb,oM,by have:=lm.2.1;omega⟩,?_⟩;have eq:ZoN b3 b4 M O S0=match Xi (UX O2 b4 A) (b3.drop 1) with | some x=>some x | none=>VP b4 (UX O2 b4 A) O2:=by
   unfold ZoN
   rw [<- eB.asks,eB.symm.askAs eO.symm]
  rw [eq] at h1 h2;generalize UX O2 b4 A=R at h1 h2;(conv=>whnf);refine ⟨encEs_w pl b3,wN ?_⟩;refine ⟨oM,oM,wN ?_⟩;refine ⟨pl,b3.drop 1,R,(ZzM _).trans (Zge ..).symm,rfl,oM,fun hy=>wN ?_,fun y hy=>wN ?_⟩
  ·rw [hy] at h1 h2;refine ⟨pl,b4,R,O2,rfl,rfl,rfl,⟨hfb,oM,hn⟩,fun hb=>wN ?_,fun y hb=>wN ?_⟩
   ·have h1:=h1 hb;exact h1
   have h2:=h2 y hb;exact h2
  rw [hy] at h2;have h2:=h2 y rfl;exact h2
 exact h.elim
def Zm3 (n:Nat):Tbl:=[(54,ZoJ 1099511627776),(55,ZoK 1099511627776),(35,ZaI),(56,spB Zm2 n)]
def Zm4 {n:Nat} (ht:TO w0 nG (Zm3 n)):PC w0 nG 36 (JX n):=by
 refine Yn Zr mixed (tbl:=Zm3 n) ht Tryz.func36 rfl kR kR ?_;intro args σ K h
 unfold JX at h
 split at h
 ·obtain ⟨pl,l,M,O,rfl,rfl,rfl,⟨eg,hz,hn⟩,h1,h2⟩:=h;have hl:(Zx pl l).length=l.length:=by rw [Zn,Td]
  have hsz:=Wt l;refine ⟨Zg [(1,⟨[14],[0,2,12,13],fun vs σ=>∃j:Nat,vs=[.d (.int .i64 j)]/\σ=⟨[.dmap (mvM mvB M),.dmap (mvM mvB O)],[],0⟩/\j<=l.length/\VP l M O=VP (l.drop j) M O,
    mu1 l.length⟩),
   (7,⟨[36],[0,2,12,13,14,34,35],fun vs σ=>∃(j i:Nat) (rel:Bs) (ar:List Ex) (body:List Li) (a:Nat),vs=[.mp 0,.mp 1,.d (.sl (Zx pl l)),.d (.int .i64 (Zx pl l).length),.d (.int .i64 j),.d (.sl (Ze pl ar)),.d (.int .i64 (Ze pl ar).length),.d (.int .i64 i)]/\σ=⟨[.dmap (mvM mvB M),.dmap (mvM mvB O),.cells 65 ((YC pl (.mk 1 rel ar body a)).map .d)],[],0⟩/\l[j]?=some (.mk 1 rel ar body a)/\i<=ar.length/\VP l M O=(match Zce M (ar.drop i) with | some x=>some x | none=>VP (l.drop (j+1)) M O),
    fun vs _=>match vs with | [_,_,_,_,_,_,.d (.int _ n),.d (.int _ i)]=>(n - i).toNat | _=>0⟩),
   (13,⟨[51],[0,2,12,13,14,49,50],fun vs σ=>∃(j i:Nat) (rel:Bs) (ar:List Ex) (body:List Li) (a:Nat),vs=[.mp 0,.mp 1,.d (.sl (Zx pl l)),.d (.int .i64 (Zx pl l).length),.d (.int .i64 j),.d (.sl (Ze pl ar)),.d (.int .i64 (Ze pl ar).length),.d (.int .i64 i)]/\σ=⟨[.dmap (mvM mvB M),.dmap (mvM mvB O),.cells 65 ((YC pl (.mk 2 rel ar body a)).map .d)],[],0⟩/\l[j]?=some (.mk 2 rel ar body a)/\i<=ar.length/\VP l M O=(match Zcf M (ar.drop i) with | some x=>some x | none=>VP (l.drop (j+1)) M O),
    fun vs _=>match vs with | [_,_,_,_,_,_,.d (.int _ n),.d (.int _ i)]=>(n - i).toNat | _=>0⟩)],ZV [],ZC [7,13],2,false,sM,Tb rfl,?_⟩
  conv=>whnf
  refine ⟨⟨0,rfl,rfl,oM,rfl⟩,?_⟩
  rintro vs σ1 ⟨j,rfl,rfl,hj,ha⟩
  conv=>whnf
  refine ZGr (fun hc=>?_) (fun hc=>?_);rotate_left
  ·have ey:l.length<=j:=by have hc:¬(j:Int)<((Zx pl l).length:Nat):=hc;omega
   rw [Tm ey] at ha;have h1:=h1 ha;(conv=>whnf);exact h1
  have aa:j<l.length:=by have hc:(j:Int)<((Zx pl l).length:Nat):=hc;omega
  have hr:(Zx pl l)[(j:Int).toNat]?=some (YC pl l[j]):=by rw [Tg,Zn,Th,Ta aa];rfl
  have hg:=Ws l j aa;have dx:=ZjG eg aa;have hx:l[j]?=some l[j]:=Ta aa;have hd:=Zoz (m:=M) (o:=O) aa;have hμ:((l.length:Int) - ((j:Int)+1)).toNat<((l.length:Int) - (j:Int)).toNat:=oM;generalize l[j]=x at hr hg dx hx hd;rw [hd] at ha;obtain ⟨b1,b2,b3,b4,b5⟩:=x;have n4:=UO (op:=b1) (rel:=b2) (args:=b3) (body:=b4) (a:=b5);have ct:(Ze pl b3).length=b3.length:=by rw [Zc,Td]
  have mn:=YA b3;rcases (show b1=1\/b1=2\/(b1=0\/b1=3\/b1=4\/b1=5\/b1=6\/b1=7\/b1=8)\/9<=b1 by omega) with rfl | rfl | ho | ho
  ·rw [show Zoy (.mk 1 b2 b3 b4 b5) M O=Zce M b3 from by simp [Zoy]] at ha;(conv=>whnf);refine ⟨_,oM,hr,wN ?_⟩;refine ⟨⟨j,0,b2,b3,b4,b5,rfl,rfl,hx,oM,ha⟩,?_⟩
   rintro vs3 σ3 ⟨j2,i,rel,ar,bd,a,bh,rfl,bo,hi,iv⟩
   have ej:j2=j:=by
    have e:=Option.some.inj (congrArg (fun t:List PV=>t[4]?) bh);exact mq52
   subst ej;rw [hx] at bo
   cases bo
   have bh:vs3=[.d (.int .i64 i)]:=congrArg (List.drop 7) bh;subst bh;rw [iv] at h1 h2;(conv=>whnf);refine ZGr (fun d0=>?_) (fun d0=>?_);rotate_left
   ·exact mq106
   have mc:i<b3.length:=by have d0:(i:Int)<((Ze pl b3).length:Nat):=d0;omega
   have ow:=Zf8 (m:=M) mc;exact mq34
  ·rw [show Zoy (.mk 2 b2 b3 b4 b5) M O=Zcf M b3 from by simp [Zoy]] at ha;(conv=>whnf);refine ⟨_,oM,hr,wN ?_⟩;refine ⟨⟨j,0,b2,b3,b4,b5,rfl,rfl,hx,oM,ha⟩,?_⟩
   rintro vs3 σ3 ⟨j2,i,rel,ar,bd,a,bh,rfl,bo,hi,iv⟩
   have ej:j2=j:=by
    have e:=Option.some.inj (congrArg (fun t:List PV=>t[4]?) bh);exact mq52
   subst ej;rw [hx] at bo
   cases bo
   have bh:vs3=[.d (.int .i64 i)]:=congrArg (List.drop 7) bh;subst bh;rw [iv] at h1 h2;(conv=>whnf);refine ZGr (fun d0=>?_) (fun d0=>?_);rotate_left
   ·exact mq106
   have mc:i<b3.length:=by have d0:(i:Int)<((Ze pl b3).length:Nat):=d0;omega
   have ow:=Zbs (m:=M) mc;exact mq34
  ·rcases ho with rfl | rfl | rfl | rfl | rfl | rfl | rfl
   all_goals
    rw [ZzO oM oM oM] at ha;rw [ha] at h1 h2;(conv=>whnf);refine ⟨_,oM,hr,wN ?_⟩;refine ⟨pl,b3,M,rfl,rfl,oM,fun hy=>wN ?_,fun z hy=>wN ?_⟩
    ·rw [hy] at ha;exact mq43
    rw [hy] at h2;have h2:=h2 z rfl;exact h2
  obtain ⟨ai,_,_⟩:=Zlj dx ho;rw [ZzN ho] at ha;have hw:=fun (h9:(9:Nat)<=b1)=>ho
  cases b3 with
  | nil=>exact absurd rfl ai
  | cons e r =>
  obtain ⟨c1,c2,c3,c4,c5⟩:=e;have oi:Xi M ((Ex.mk c1 c2 c3 c4 c5::r).take 1)=Xi M [.mk c1 c2 c3 c4 c5]:=rfl;rw [oi] at ha;have qh:VF [.mk c1 c2 c3 c4 c5]<=1099511627776:=by simp only [VF] at n4 |-;omega
  conv=>whnf
  refine ⟨_,oM,hr,wN ?_⟩;refine ZGr (fun q=>absurd q (show ¬(b1:Int)=1 by omega)) (fun _=>wN ?_);refine ZGr (fun q=>absurd q (show ¬(b1:Int)=2 by omega)) (fun _=>wN ?_);refine ZGr (fun q=>absurd q (show ¬(b1:Int)<9 by omega)) (fun _=>wN ?_);refine ⟨_,dM,rfl,wN ?_⟩;refine ⟨pl,[.mk c1 c2 c3 c4 c5],M,rfl,rfl,qh,fun hy=>wN ?_,fun z hy=>wN ?_⟩
  ·rw [hy] at ha;refine ⟨oM,pl,b1,b2,(.mk c1 c2 c3 c4 c5::r),b4,b5,M,O,rfl,rfl,rfl,⟨⟨ho,dx⟩,oM,oM⟩,fun hb=>wN ?_,fun z hb=>wN ?_⟩
   ·rw [hb] at ha;exact mq43
   rw [ha,hb] at h2;have h2:=h2 z rfl;exact h2
  rw [ha,hy] at h2;have h2:=h2 z rfl;exact h2
 exact h.elim
def Zwv:∀n,PC w0 nG 36 (JX n)
 | 0=>Zm4 ⟨ZE5 _,ZE6 _,Ur,Zz (Zf Tryz.func56 kR rfl),trivial⟩
 | n+1=>Zm4 ⟨ZE5 _,ZE6 _,Ur,ZA (sp:=Zm2) (ZzQ ⟨Zsh,ZmW,Zws,Zlf,Zwu,Ur,Zwv n,trivial⟩),trivial⟩
def UP:Zh:=fun args σ K=>match args,σ with
 | [],⟨[],[],0⟩=>K (.ret (.d (.bool true))) ⟨[],[],0⟩
 | _,_=>False
def ZzR:PC w0 nG 80 Zjf:=Zy1 ⟨ZmC,trivial⟩
def ZCY:PC w0 nG 79 Zcy:=Zri ⟨ZmC,trivial⟩
def Zb5:PC w0 nG 135 Vw:=Zrj ⟨ZzR,trivial⟩
def ZCZ:PC w0 nG 78 Zho:=ZuA ⟨Zuy ⟨Zuw ⟨Zuu ⟨ZCY,trivial⟩,trivial⟩,trivial⟩,trivial⟩
def ZGh:PC w0 nG 43 ZuC:=ZCw ⟨ZCZ,trivial⟩
def ZzS:PC w0 nG 42 Zcz:=Zro ⟨Zk0 ⟨ZkY,trivial⟩,Zk3 ⟨Zk1,trivial⟩,trivial⟩
def ZC0:PC w0 nG 144 Zhn:=Zrk ⟨ZzR,trivial⟩
def ZzT:PC w0 nG 198 Zaz:=Zoq ⟨Zb5,trivial⟩
def ZE8:PC w0 nG 200 Zrp:=ZCz ⟨Zb5,trivial⟩
def ZzU:PC w0 nG 199 Zk4:=ZCA
def Zm5:PC w0 nG 136 Zd8:=ZuG ⟨ZzT,ZzU,trivial⟩
def Zm6:PC w0 nG 137 Zd9:=ZuI ⟨ZE8,trivial⟩
def kGv:∀m,PC w0 nG 82 (Zy5 m)
 | 0=>ZCB ⟨Zz (Zf Tryz.func82 kR rfl),Zm5,trivial⟩
 | m+1=>ZCB ⟨ZA (sp:=Zy5) (kGv m),Zm5,trivial⟩
def kRt:∀m,PC w0 nG 138 (Zy6 m)
 | 0=>Zwf ⟨Zz (Zf Tryz.func138 kR rfl),ZE8,Zm5,ZzU,trivial⟩
 | m+1=>Zwf ⟨ZA (sp:=Zy6) (kRt m),ZE8,Zm5,ZzU,trivial⟩
def ZE9 (m:Nat):PC w0 nG 81 (Zrr m):=ZCD ⟨kGv m,Zb5,trivial⟩
def ZGi (m:Nat):PC w0 nG 81 (ZuM m):=ZCG ⟨kRt m,Zb5,trivial⟩
def ZC1:∀m,PC w0 nG 83 (Zf3 m)
 | 0=>Zru ⟨Zz (Zf Tryz.func83 kR rfl),kGv 0,ZE9 0,Zm6,trivial⟩
 | m+1=>Zru ⟨ZA (sp:=Zf3) (ZC1 m),kGv _,ZE9 _,Zm6,trivial⟩
def ZzV (m:Nat):PC w0 nG 85 (Zf4 m):=Zy9 ⟨ZGi m,trivial⟩
def ZC2:∀m,PC w0 nG 86 (Zeb m)
 | 0=>ZrB ⟨Zz (Zf Tryz.func86 kR rfl),kRt 0,ZzV 0,Zm6,trivial⟩
 | m+1=>ZrB ⟨ZA (sp:=Zeb) (ZC2 m),kRt _,ZzV _,Zm6,trivial⟩
def kH1:PC w0 nG 140 ZDL:=ZEU
def kH2:PC w0 nG 141 ZDM:=ZEY ⟨ZzR,Zzf ⟨Zzd ⟨Zzb ⟨ZC0,trivial⟩,trivial⟩,trivial⟩,trivial⟩
def ZFK:∀m,PC w0 nG 139 (Zov m)
 | 0=>Zwj ⟨Zz (Zf Tryz.func139 kR rfl),kH1,Zb5,ZzU,trivial⟩
 | m+1=>Zwj ⟨ZA (sp:=Zov) (ZFK m),kH1,Zb5,ZzU,trivial⟩
def ZFL:∀m,PC w0 nG 139 (Zow m)
 | 0=>Zwk ⟨Zz (Zf Tryz.func139 kR rfl),kH2,Zb5,ZzU,trivial⟩
 | m+1=>Zwk ⟨ZA (sp:=Zow) (ZFL m),kH2,Zb5,ZzU,trivial⟩
def ZC3 (m:Nat):PC w0 nG 87 (Zec m):=ZuR ⟨ZrH (ZFK m) (ZFL m),trivial⟩
def ZzW (m:Nat):PC w0 nG 45 (ZcE m):=ZrI ⟨ZzV m,ZC2 m,ZC3 m,trivial⟩
def ZzX (m:Nat):PC w0 nG 44 (ZcB m):=Zrz ⟨ZE9 m,ZC1 m,trivial⟩
def ZC4 {n:Nat} (hp:PC w0 nG 41 (Zre WZ Zd2 Zja n)):PC w0 nG 22 (Zhv n):=ZuT ⟨Zzm ⟨hp,ZzS,ZGh,ZzX _,ZzW _,trivial⟩,trivial⟩
def recOfG:Nat×Nat×Code:=match ZAL (Y8 Tryz.f31) with | some x=>x | none=>(0,0,.skip)
def ZzY:List PV->St->(St->Prop)->Prop:=fun args σ K=>args.length<=Tryz.f31.ntmps/\W (ctx VE [] (Zg [])) recOfG.2.2 (Ztx VE Tryz.f31 σ.bx.length K) (Va (Va (Zck 0 args) recOfG.1 (.d .nili)) recOfG.2.1 (.d .nili)) σ
def ZzZ:PV->List PV->St->(St->Prop)->Prop:=fun pv args σ K=>args.length<=Tryz.f31.ntmps/\W (ctx VE [] (Zg [])) recOfG.2.2 (Ztx VE Tryz.f31 σ.bx.length K) (Va (Va (Zck 0 args) recOfG.1 pv) recOfG.2.1 pv) σ
def Zz0:PDef (GG w0 nG) 31 ZzY ZzZ :=
 Zku (a:=recOfG.1) (b:=recOfG.2.1) (rest:=recOfG.2.2) Zr mixed Tryz.func31 rfl kR rfl kR (fun args σ K h=>⟨ZoY VE [] (Zg []) (fun _=>0) (fun _=>false),σ.bx.length,CxG.of (tbl:=[]) Zr trivial trivial _ _ _,Tt _,h.1,h.2⟩) (fun pv args σ K h=>⟨ZoY VE [] (Zg []) (fun _=>0) (fun _=>false),σ.bx.length,CxG.of (tbl:=[]) Zr trivial trivial _ _ _,Tt _,h.1,h.2⟩)
def ZFa (pl:Pl):Option Ex->PV
 | some x=>.tuple [.d (.int .i64 (pl (atX x))),.d (.int .i64 190)]
 | none=>.tuple [.d (.int .i64 0),.d (.int .i64 0)]
def Zlk:Zy Zek:=fun args σ K K' hK h=>by
 unfold Zek at h |-
 split at h
 ·obtain ⟨pl,l,M,h1,h2,h3,h4⟩:=h;exact ⟨pl,l,M,h1,h2,h3,hK _ _ h4⟩
 exact h.elim
def ZhK:Zh:=fun args σ K=>match args,σ with
 | [.agg c],⟨[],[],0⟩=>∃pl r,c=(Zs pl r).map .d/\(Zbt r.body=true/\ZbX r<=100000000000)/\∀o,ZDN r=o->K (.ret (ZFa pl o)) ⟨[],[],0⟩
 | _,_=>False
def Zm7:Tbl:=[(32,JU),(33,Zek),(34,JW),(35,ZaI),(36,JX 1000000000000)]
def Zu8 (ht:TO w0 nG Zm7):PC w0 nG 23 ZhK:=by
 refine Zcu Zr mixed Tryz.func23 rfl kR kR Zz0 ?_;intro args σ K h
 unfold ZhK at h
 split at h
 ·obtain ⟨pl,⟨r1,r2,r3,r4⟩,rfl,⟨eg,hz⟩,h⟩:=h;have cx:VF r2<=100000000000/\ZdT r3<=100000000000:=by
   simp only [ZbX] at hz;rw [<- XG,<- Vt] at hz;omega
  have hnv:=ZcK r3;unfold ZDN at h
  simp only at h eg;refine ⟨ZoY VE Zm7 (Zg []) (ZV []) (ZC []),0,false,CxG.of Zr ht ⟨ZjA,Zlk,ZjF,Zle,ZjH _,trivial⟩ _ _ _,sM,Tb rfl,wN ?_⟩;refine ⟨pl,r2,[],rfl,rfl,oM,wN ?_⟩;refine ⟨pl,r3,_,rfl,rfl,oM,?_⟩
  change _ at h
  rw [show ZuV ⟨r1,r2,r3,r4⟩=outLs (addXs [] (Ze0 r2)) r3 from rfl] at h;generalize outLs (addXs [] (Ze0 r2)) r3=O at h;(conv=>whnf);refine ⟨pl,r3,[],O,rfl,rfl,rfl,⟨Zm1 eg,oM,by simp only [Tj];omega⟩,?_⟩;generalize UX O r3 []=R at h;(conv=>whnf);refine ⟨pl,r2,R,rfl,rfl,oM,fun ho=>wN ?_,fun x ho=>wN ?_⟩
  ·rw [ho] at h;refine ⟨pl,r3,R,O,rfl,rfl,rfl,⟨eg,oM,dM⟩,fun hb=>wN ?_,fun x hb=>wN ?_⟩
   ·have h:=h none hb;refine ⟨Tb rfl,wN ?_⟩;exact h
   have h:=h (some x) hb;refine ⟨Tb rfl,wN ?_⟩;exact h
  rw [ho] at h;have h:=h (some x) rfl;refine ⟨Tb rfl,wN ?_⟩;exact h
 exact h.elim
def ZoO {l:List Ru} {j:Nat} (h:j<l.length):ZoA (l.drop j)=match ZDN l[j] with | some x=>some x | none=>ZoA (l.drop (j+1)):=by
 rw [Tk h];rfl
def ZhL (n:Nat):Zh:=fun args σ K=>match args,σ with
 | [.agg c],⟨[],[],0⟩=>∃pl p,c=(Zax pl p).map .d/\(Zd2 n (prU p)/\n<=16777216/\Zd3 p<=2097152)/\(∀r∈p.rules,Zbt r.body=true)/\∀a e,Zzr pl p=(a,e)->K (.ret (.tuple [.d (.int .i64 a),.d (.int .i64 e)])) ⟨[],[],0⟩
 | _,_=>False
def Zva {n:Nat}:OKw w0 nG [(22,Zhv n),(23,ZhK)] 10 (ZhL n):=by
 refine pwo Tryz.func10 fun args σ K h=>?_
 unfold ZhL at h
 split at h
 ·obtain ⟨pl,⟨p1,p2,p3⟩,rfl,⟨hc,hn,hz⟩,eg,h⟩:=h;have ct:(p3.map (Zs pl)).length=p3.length:=Td ..;have j9:p3.length<=2097152:=by have:=ZE ZbX p3;simp only [Zd3] at hz;omega
  have nz:∀r∈p3,ZbX r<=2097152:=fun r hr=>by have:=Uk (f:=ZbX) hr;simp only [Zd3] at hz;omega
  unfold Zzr at h
  simp only at eg h;refine pwu [(5,⟨[22],[20,21],fun vs σ=>∃j:Nat,vs=[.d (.int .i64 j)]/\σ=⟨[.cells 32 ((Zax pl ⟨p1,p2,p3⟩).map .d)],[],0⟩/\j<=p3.length/\(Zy4 pl ⟨p1,p2,p3⟩).2=0/\ZoA p3=ZoA (p3.drop j),
   mu1 p3.length⟩)] 0 false ?_
  conv=>whnf
  refine ⟨pl,⟨p1,p2,p3⟩,rfl,⟨hc,hn,hz⟩,fun a e hae=>wN ?_⟩;refine ZGu (fun he=>wN ?_) (fun he=>wN ?_)
  ·rw [hae,Ti (show (a,e).2≠0 from he)] at h;have h:=h a e rfl;exact h
  have he:e=0:=he;have hk:(Zy4 pl ⟨p1,p2,p3⟩).2=0:=by rw [hae];exact he
  rw [Te (fun g=>g hk)] at h;refine ⟨⟨0,rfl,rfl,oM,hk,rfl⟩,?_⟩
  rintro vs σ1 ⟨j,rfl,rfl,hj,_,ha⟩
  rw [ha] at h;(conv=>whnf);refine ZGr (fun hq=>?_) (fun hq=>?_);rotate_left
  ·have ey:p3.length<=j:=by have hq:¬(j:Int)<((p3.map (Zs pl)).length:Nat):=hq;omega
   rw [Tm ey] at h;have h:=h 0 0 rfl;exact mq35
  have aa:j<p3.length:=by have hq:(j:Int)<((p3.map (Zs pl)).length:Nat):=hq;omega
  have hr:(p3.map (Zs pl))[(j:Int).toNat]?=some (Zs pl p3[j]):=by rw [Tg,Th,Ta aa];rfl
  have dh:=TA aa;have i5:=nz _ dh;have aax:=eg _ dh;have hd:=ZoO aa;have hμ:((p3.length:Int) - ((j:Int)+1)).toNat<((p3.length:Int) - (j:Int)).toNat:=oM;generalize p3[j]=r at hr i5 aax hd;rw [hd] at h ha;obtain ⟨r1,r2,r3,r4⟩:=r;(conv=>whnf);refine ⟨_,oM,hr,wN ?_⟩;refine ⟨pl,⟨r1,r2,r3,r4⟩,rfl,⟨aax,oM⟩,fun o ho=>?_⟩;rw [ho] at h ha
  cases o with
  | none =>
   conv=>whnf
   refine Zk ?_;exact ⟨⟨j+1,rfl,rfl,oM,hk,ha⟩,hμ⟩
  | some x =>
  have h:=h _ _ rfl;exact mq35
 exact h.elim
def ZC5:PC w0 nG 23 ZhK:=Zu8 ⟨ZhC,Zlf,Zwu,Ur,Zwv _,trivial⟩
def ZC6 {n:Nat} (hp:PC w0 nG 41 (Zre WZ Zd2 Zja n)):PC w0 nG 10 (ZhL n):=Zva ⟨ZC4 hp,ZC5,trivial⟩
end Go.PM.Lex
end

section
namespace Go.PM
def ZC7 (K:PEnd->St->Prop):PEnd->St->Prop:=fun pe σ=>∃bs v,pe=.ret v/\Ziq bs=true/\ZoX bs σ.bx bs fun cb=>K (.ret (ZpI bs v)) ⟨cb,[],σ.nx⟩
def Zll {G:GE} {g:FuncId} {sp:Zh} (h:PCalls G g fun args σ K=>∃K0,(∀pe σ,ZC7 K0 pe σ->K pe σ)/\sp args σ K0) (h0:∀args σ K,sp args σ K->σ.bx=[]/\σ.tk=[]):PCalls G g sp where
 enters:=h.enters
 calls:=fun args σ K hs n e w vs hS ha=>(h.calls args σ (ZC7 K) ⟨K,fun _ _ h=>h,hs⟩ n e w vs hS ha).mono fun en w' ⟨pe,σ',e',hk,hr,hS',hL⟩=>by
  obtain ⟨bs,v,rfl,hn,aen⟩:=hk;obtain ⟨cb,hK,hl,hg⟩:=Zkh aen;have hH:Hand σ' bs [] [] cb:=⟨Jx hn,hl,hg,fun t ht=>(by cases ht),fun t ht=>(by cases ht)⟩
  obtain ⟨u,rfl,hv⟩:=hr;obtain ⟨b0,t0⟩:=h0 _ _ _ hs;refine ⟨.ret (ZpI bs v),⟨cb,[],σ'.nx⟩,e'.handed σ' bs [],hK,⟨u,rfl,hv.ren hS' hH⟩,hS'.ren hH,{
   len:=(by rw [b0];exact T6 _)
   beta:=fun i hi=>absurd hi (by rw [b0];exact Nat.not_lt_zero _)
   X:=fun b off g=>.inl (hL.X b off g)
   pres:=fun b off u hc ho=>⟨ZlQ hS' hH (hL.pres b off u hc ho).1,(hL.pres b off u hc ho).2⟩
   blocks:=hL.blocks
   size:=hL.size
   os:=hL.os
   tape:=hL.tape
   output:=hL.output
   fresh:=fun i _ hi=>?_
   ftok:=fun t ht=>(by cases ht)
   fhid:=fun b hb=>hL.fhid b fun g=>hb (by simp [Env.handed,Zki,g]) }⟩
  have hi:i<cb.length:=hi;obtain ⟨b,h1,h2,h3⟩:=hH.at (e:=e') (show i<bs.length by omega);rw [h3];exact hL.fresh b (by rw [b0];exact T6 _) (hH.lt h2)
end Go.PM
namespace Go.PM.Lex
open Go.Proofs
variable {w0:World} {nG:Nat}
def Zz1:Zh:=fun args σ K=>match args,σ with
 | [.d (.str n),.d (.bool i),.ptr 0 0,.ptr 1 0],⟨[.cells tg [.mp 2],.cells tr cs,.map [.d (.str k1),.mp 3,.d (.str k2),.mp 4,.d (.str k3),.mp 5] bn ck,.dmap a1,.dmap a2,.dmap a3],[],0⟩ =>
  (k1=[97]/\k2=[98]/\k3=[99]/\bn=[0,1,2]/\ck=3)/\∃pl r,∃D E:Tri,cs=(Zs pl r).map .d/\a1=mvM mvB D.1/\a2=mvM mvB D.2.1/\a3=mvM mvB D.2.2/\r.head∈abcN/\ZuX r.head n D=E /\
   K (.ret (.tuple [])) ⟨[.cells tg [.mp 2],.cells tr cs,.map [.d (.str k1),.mp 3,.d (.str k2),.mp 4,.d (.str k3),.mp 5] bn ck,.dmap (mvM mvB E.1),.dmap (mvM mvB E.2.1),.dmap (mvM mvB E.2.2)],[],0⟩
 | _,_=>False
def ZC8:PC w0 nG 24 Zz1:=by
 refine pwe Tryz.func24 fun args σ K h=>?_
 unfold Zz1 at h
 split at h
 ·rename_i n i tg tr cs k1 k2 k3 bn ck a1 a2 a3
  obtain ⟨⟨rfl,rfl,rfl,rfl,rfl⟩,pl,⟨r1,r2,r3,r4⟩,⟨D1,D2,D3⟩,E,rfl,rfl,rfl,rfl,hd,rfl,h⟩:=h;simp only [Tr,TT,SC] at hd;have e:∀M:Bv,mvM mvB (Z2 n true M)=Z2 n (.one (.bool true)) (mvM mvB M):=fun M=>(WC (f:=mvB) M).symm
  refine pwu [] 6 false ?_;rcases hd with rfl | rfl | rfl
  ·rw [show ZuX [97] n (D1,D2,D3)=(Z2 n true D1,D2,D3) from rfl,e] at h;exact mq35
  ·rw [show ZuX [98] n (D1,D2,D3)=(D1,Z2 n true D2,D3) from rfl,e] at h;exact mq35
  rw [show ZuX [99] n (D1,D2,D3)=(D1,D2,Z2 n true D3) from rfl,e] at h;exact mq35
 exact h.elim
def Zlm (m:Nat):Zh:=fun args σ K=>match args,σ with
 | [.d (.sl rows),.d (.bool i),.func f [] [.ptr 0 0,.ptr 1 0]],⟨[.cells tg [.mp 2],.cells tr cs,.map [.d (.str k1),.mp 3,.d (.str k2),.mp 4,.d (.str k3),.mp 5] bn ck,.dmap a1,.dmap a2,.dmap a3],[],0⟩ =>
  (f=24/\k1=[97]/\k2=[98]/\k3=[99]/\bn=[0,1,2]/\ck=3)/\∃pl p2 l r,∃D E:Tri,rows=Zx p2 l/\cs=(Zs pl r).map .d/\a1=mvM mvB D.1/\a2=mvM mvB D.2.1/\a3=mvM mvB D.2.2/\(ZdT l<m/\m<=1099511627776)/\r.head∈abcN/\JT r.head (VI l i) D=E /\
   K (.ret (.tuple [])) ⟨[.cells tg [.mp 2],.cells tr cs,.map [.d (.str k1),.mp 3,.d (.str k2),.mp 4,.d (.str k3),.mp 5] bn ck,.dmap (mvM mvB E.1),.dmap (mvM mvB E.2.1),.dmap (mvM mvB E.2.2)],[],0⟩
 | _,_=>False
def Zm8 (h:Bs) (l k:List (Bs×Bool)) (D:Tri):JT h (l++k) D=JT h k (JT h l D):=T7 ..
def Zww {m:Nat} (ha:PC w0 nG 12 (spB Zlm m)):PC w0 nG 12 (Zlm m):=by
 refine pwt (tbl:=[(24,Zz1),(12,spB Zlm m)]) ⟨ZC8,ha,trivial⟩ Tryz.func12 fun args σ K h=>?_
 unfold Zlm at h
 split at h
 ·rename_i rows i f tg tr cs k1 k2 k3 bn ck a1 a2 a3
  obtain ⟨⟨rfl,rfl,rfl,rfl,rfl,rfl⟩,pl,p2,l,⟨r1,r2,r3,r4⟩,D,E,rfl,rfl,rfl,rfl,rfl,⟨hz,hm⟩,hd,rfl,h⟩:=h;have hl:(Zx p2 l).length=l.length:=by rw [Zn,Td]
  have hsz:=Wt l;refine pwu [(1,⟨[10],[1,2,8,9],fun vs σ=>∃(j:Nat) (E:Tri),vs=[.d (.int .i64 j)]/\σ=⟨[.cells tg [.mp 2],.cells tr ((Zs pl ⟨r1,r2,r3,r4⟩).map .d),.map [.d (.str [97]),.mp 3,.d (.str [98]),.mp 4,.d (.str [99]),.mp 5] [0,1,2] 3,.dmap (mvM mvB E.1),.dmap (mvM mvB E.2.1),.dmap (mvM mvB E.2.2)],[],0⟩/\j<=l.length/\JT r1 (VI (l.take j) i) D=E,
   mu1 l.length⟩)] 6 false ?_
  conv=>whnf
  refine ⟨⟨0,D,rfl,rfl,oM,rfl⟩,?_⟩
  rintro vs σ1 ⟨j,E,rfl,rfl,hj,hE⟩
  conv=>whnf
  refine ZGr (fun hc=>?_) (fun hc=>?_);rotate_left
  ·have hc:¬(j:Int)<((Zx p2 l).length:Nat):=hc;rw [List.take_of_length_le oM] at hE;rw [show JT (Ru.mk r1 r2 r3 r4).head (VI l i) D=E from hE] at h;exact mq35
  have aa:j<l.length:=by have hc:(j:Int)<((Zx p2 l).length:Nat):=hc;omega
  have hr:(Zx p2 l)[(j:Int).toNat]?=some (YC p2 l[j]):=by rw [Tg,Zn,Th,Ta aa];rfl
  have hg:=Ws l j aa;have ht:JT r1 (VI (l.take (j+1)) i) D=JT r1 (atL l[j] i) E:=by rw [ZaE aa,Zm8,hE]
  have hμ:((l.length:Int) - ((j:Int)+1)).toNat<((l.length:Int) - (j:Int)).toNat:=oM;generalize l[j]=x at hr hg ht;obtain ⟨b1,b2,b3,b4,b5⟩:=x;obtain ⟨E1,E2,E3⟩:=E;have z6:=ZcG (op:=b1) (rel:=b2) (args:=b3) (body:=b4) (a:=b5);rw [atL,Zm8] at ht;rcases (show b1=1\/b1=2\/(b1≠1/\b1≠2) by omega) with rfl | rfl | ⟨o1,o2⟩
  ·rw [Ti (.inl rfl)] at ht;exact mq41
  ·rw [Ti (.inr rfl)] at ht;exact mq41
  rw [Te oM] at ht
  change _=JT r1 (VI b4 true) (E1,E2,E3) at ht
  conv=>whnf
  refine ⟨_,oM,hr,wN ?_⟩;refine ZGr (fun g=>absurd g (by show ¬(b1:Int)=1;omega)) (fun g=>wN ?_);refine ZGr (fun g=>absurd g (by show ¬(b1:Int)=2;omega)) (fun g=>wN ?_);refine ⟨oM,⟨rfl,rfl,rfl,rfl,rfl,rfl⟩,pl,p2,b4,⟨r1,r2,r3,r4⟩,(E1,E2,E3),_,rfl,rfl,rfl,rfl,rfl,⟨oM,oM⟩,hd,rfl,wN ?_⟩;refine Zk ?_;exact ⟨⟨j+1,_,rfl,rfl,oM,ht⟩,hμ⟩
 exact h.elim
def ZFM:∀m,PC w0 nG 12 (Zlm m)
 | 0=>Zww (Zz (Zf Tryz.func12 kR rfl))
 | m+1=>Zww (ZA (sp:=Zlm) (ZFM m))
abbrev Trn:=List Bs×List Bs×List Bs
def ZjR (T:Trn) (x:Bs):List Bs:=if x=[97] then T.1 else if x=[98] then T.2.1 else T.2.2
def GT (D:Tri) (T:Trn):Prop:=∀x∈abcN,(ZjR T x).Nodup/\∀y,y∈ZjR T x↔y∈rS D x
def Zsi:Zh:=fun args σ K=>match args,σ with
 | [.agg c],⟨[],[],0⟩=>∃pl p,∃D:Tri,c=(Zax pl p).map .d/\(Zd3 p<=2097152/\ZrV p.rules=true/\p.rels.map (·.name)=abcN)/\ZoE p.rules=D/\okD D=true /\
   ∀T,GT D T->K (.ret (.mp 0)) ⟨[.map [.d (.str [97]),.mp 1,.d (.str [98]),.mp 2,.d (.str [99]),.mp 3] [0,1,2] 3,.dmap (mvM mvB (Y2 T.1)),.dmap (mvM mvB (Y2 T.2.1)),.dmap (mvM mvB (Y2 T.2.2))],[],0⟩
 | _,_=>False
def Zsj {l:List Ru} {j:Nat} (h:j<l.length):ZoE (l.take (j+1))=JT l[j].head (VI l[j].body false) (ZoE (l.take j)):=by
 unfold ZoE
 rw [List.take_add_one,Ta h,T7];rfl
def ZDa:Tbl:=[(12,Zlm 1099511627776),(25,ZzG)]
def Zwx:PC w0 nG 11 Zsi:=by
 refine Zll ?_ (fun args σ K h=>by unfold Zsi at h;split at h;exact ⟨rfl,rfl⟩;exact h.elim);refine Yn Zr mixed (tbl:=ZDa) ⟨ZFM _,Zu6,trivial⟩ Tryz.func11 rfl kR kR ?_
 rintro args σ K ⟨K0,hK,h⟩
 unfold Zsi at h
 split at h
 ·obtain ⟨pl,⟨p1,p2,p3⟩,D,rfl,⟨hz,ak,hrel⟩,hD,hd,h⟩:=h
  match p2,hrel with
  | [⟨_,f1,f2,f3,f4,f5⟩,⟨_,g1,g2,g3,g4,g5⟩,⟨_,h1,h2,h3,h4,h5⟩],hrel =>
  injection hrel with e1 hrel
  injection hrel with e2 hrel
  injection hrel with e3 hrel
  dsimp only at e1 e2 e3;subst e1 e2 e3;have ct:(p3.map (Zs pl)).length=p3.length:=Td ..;have j9:p3.length<=2097152:=by have:=ZE ZbX p3;simp only [Zd3] at hz;omega
  have nz:∀r∈p3,ZdT r.body<1099511627776:=fun r hr=>by
   have:=Uk (f:=ZbX) hr;simp only [Zd3,ZbX] at hz this;rw [<- Vt] at this;omega
  have hhd:∀r∈p3,r.head∈abcN:=fun r hr=>by
   have:=Tn.1 ak r hr;simp only [Tl,List.contains_iff_mem] at this;exact this.1
  refine ⟨Zg [(8,⟨[29],[3,8,10,11,12,1,27,28],fun vs σ=>∃(j:Nat) (E:Tri),vs=[.d (.int .i64 j)]/\σ=⟨[.cells 32 ((Zax pl ⟨p1,[⟨[97],f1,f2,f3,f4,f5⟩,⟨[98],g1,g2,g3,g4,g5⟩,⟨[99],h1,h2,h3,h4,h5⟩],p3⟩).map .d),.map [.d (.str [97]),.mp 4,.d (.str [98]),.mp 6,.d (.str [99]),.mp 8] [0,1,2] 3,.cells 41 [.mp 1],.cells 53 ((Zu pl ⟨[97],f1,f2,f3,f4,f5⟩).map .d),.dmap (mvM mvB E.1),.cells 53 ((Zu pl ⟨[98],g1,g2,g3,g4,g5⟩).map .d),.dmap (mvM mvB E.2.1),.cells 53 ((Zu pl ⟨[99],h1,h2,h3,h4,h5⟩).map .d),.dmap (mvM mvB E.2.2)],[],0⟩/\j<=p3.length/\ZoE (p3.take j)=E,
   mu1 p3.length⟩)],ZV [(3,4),(14,4)],ZC [],20,false,sM,Tb rfl,?_⟩
  conv=>whnf
  refine ⟨_,dM,rfl,wN ?_⟩;refine V4 ?_;refine ⟨_,dM,rfl,wN ?_⟩;refine V4 ?_;refine ⟨_,dM,rfl,wN ?_⟩;refine V4 ?_;refine ⟨⟨0,([],[],[]),rfl,rfl,oM,rfl⟩,?_⟩
  rintro vs σ1 ⟨j,E,rfl,rfl,hj,hE⟩
  conv=>whnf
  refine ZGr (fun hc=>?_) (fun hc=>?_)
  ·have aa:j<p3.length:=by have hc:(j:Int)<((p3.map (Zs pl)).length:Nat):=hc;omega
   have hr:(p3.map (Zs pl))[(j:Int).toNat]?=some (Zs pl p3[j]):=by rw [Tg,Th,Ta aa];rfl
   have ht:=Zsj aa;have qh:=nz _ (TA aa);have hh1:=hhd _ (TA aa);have hμ:((p3.length:Int) - ((j:Int)+1)).toNat<((p3.length:Int) - (j:Int)).toNat:=oM;rw [hE] at ht;generalize p3[j]=r at hr ht qh hh1;obtain ⟨r1,r2,r3,r4⟩:=r;obtain ⟨E1,E2,E3⟩:=E;(conv=>whnf);refine ⟨_,oM,hr,wN ?_⟩;refine ⟨⟨rfl,rfl,rfl,rfl,rfl,rfl⟩,pl,pl,r3,⟨r1,r2,r3,r4⟩,(E1,E2,E3),_,rfl,rfl,rfl,rfl,rfl,⟨qh,oM⟩,hh1,rfl,?_⟩
   change _=JT (Ru.mk r1 r2 r3 r4).head (VI r3 false) (E1,E2,E3) at ht
   generalize JT (Ru.mk r1 r2 r3 r4).head (VI r3 false) (E1,E2,E3)=F at ht;obtain ⟨F1,F2,F3⟩:=F;(conv=>whnf);refine Zk ?_;exact ⟨⟨j+1,_,rfl,rfl,oM,ht⟩,hμ⟩
  have hc:¬(j:Int)<((p3.map (Zs pl)).length:Nat):=hc;rw [List.take_of_length_le oM] at hE;have hD:ZoE p3=D:=hD;rw [hD] at hE;subst hE;obtain ⟨D1,D2,D3⟩:=D;(conv=>whnf);refine ⟨_,dM,rfl,wN ?_⟩;refine ⟨⟨rfl,rfl,rfl,rfl,rfl,rfl⟩,(D1,D2,D3),rfl,rfl,rfl,⟨hd,sM⟩,fun S1 fi=>wN ?_⟩;refine V4 ?_;refine ⟨_,dM,rfl,wN ?_⟩;refine ⟨⟨rfl,rfl,rfl,rfl,rfl,rfl⟩,(D1,D2,D3),rfl,rfl,rfl,⟨hd,sM⟩,fun S2 i9=>wN ?_⟩;refine V4 ?_;refine ⟨_,dM,rfl,wN ?_⟩;refine ⟨⟨rfl,rfl,rfl,rfl,rfl,rfl⟩,(D1,D2,D3),rfl,rfl,rfl,⟨hd,sM⟩,fun S3 gk=>wN ?_⟩;refine V4 ?_;have h:=h (S1,S2,S3) fun x hx=>by
   simp only [Tr,TT,SC] at hx;rcases hx with rfl | rfl | rfl
   ·exact ⟨fi.nd,fi.mem hd sM⟩
   ·exact ⟨i9.nd,i9.mem hd sM⟩
   exact ⟨gk.nd,gk.mem hd sM⟩
  exact hK _ _ ⟨[9,11,15,19],_,rfl,rfl,h⟩
 exact h.elim
end Go.PM.Lex
end

section
namespace Go.PM.Lex
open Go.Proofs
variable {w0:World} {nG:Nat}
def Zsk (S:List Bs) (y:Bs):lkM y (mvM mvB (Y2 S))=if y∈S then some (.one (.bool true)) else none:=by
 unfold mvM Y2
 induction S with
 | nil=>rfl
 | cons x S ih =>
 simp only [Tx,lkM,Tr]
 by_cases h:y=x
 ·subst h;simp [mvB]
 rw [decide_eq_false h,ih];simp [h]
def Zwy {S:List Bs} {y:Bs} {v:MV} (h:lkM y (mvM mvB (Y2 S))=some v):y∈S/\v=.one (.bool true):=by
 rw [Zsk] at h;split at h
 ·exact ⟨‹_›,(Option.some.inj h).symm⟩
 cases h
def ZDb {S:List Bs} {y:Bs} (h:lkM y (mvM mvB (Y2 S))=none):y∉S:=fun g=>by rw [Zsk,Ti g] at h;cases h
def Zwz {D:Tri} {T:Trn} (h:GT D T) {x y:Bs} (hx:x∈abcN) (hy:y∈abcN):tog D x y=(decide (y∈ZjR T x) && decide (x∈ZjR T y)):=by
 unfold tog
 have e1:=(h x hx).2 y;have e2:=(h y hy).2 x;rw [Bool.eq_iff_iff];simp [e1,e2]
def Zsl:Zh:=fun args σ K=>match args,σ with
 | [.mp 0,.d (.str x),.d (.str y)],⟨[.map [.d (.str k1),.mp 1,.d (.str k2),.mp 2,.d (.str k3),.mp 3] bn ck,.dmap a1,.dmap a2,.dmap a3],[],0⟩ =>
  (k1=[97]/\k2=[98]/\k3=[99]/\bn=[0,1,2]/\ck=3)/\∃D,∃T:Trn,a1=mvM mvB (Y2 T.1)/\a2=mvM mvB (Y2 T.2.1)/\a3=mvM mvB (Y2 T.2.2)/\GT D T/\(x∈abcN/\y∈abcN)/\∀b,tog D x y=b ->
   K (.ret (.d (.bool b))) ⟨[.map [.d (.str k1),.mp 1,.d (.str k2),.mp 2,.d (.str k3),.mp 3] bn ck,.dmap a1,.dmap a2,.dmap a3],[],0⟩
 | _,_=>False
def Zsm:PC w0 nG 14 Zsl:=by
 refine pwe Tryz.func14 fun args σ K h=>?_
 unfold Zsl at h
 split at h
 ·rename_i x y k1 k2 k3 bn ck a1 a2 a3
  obtain ⟨⟨rfl,rfl,rfl,rfl,rfl⟩,D,⟨T1,T2,T3⟩,rfl,rfl,rfl,hT,⟨hx,hy⟩,h⟩:=h;rw [Zwz hT hx hy] at h;simp only [Tr,TT,SC] at hx hy;refine pwu [] 4 false ?_;rcases hx with rfl | rfl | rfl <;> rcases hy with rfl | rfl | rfl
  all_goals
   conv=>whnf
   refine ZGz (fun v hv=>?_) (fun hv=>wN ?_)
   ·obtain ⟨m1,rfl⟩:=Zwy hv;(conv=>whnf);refine ZGz (fun v hv=>?_) (fun hv=>wN ?_)
    ·obtain ⟨m2,rfl⟩:=Zwy hv;(conv=>whnf);exact h true (by simp [ZjR,m1,m2])
    have m2:=ZDb hv;exact h false (by first | exact absurd m1 m2 | simp [ZjR,m1,m2])
   have m1:=ZDb hv;exact h false (by simp [ZjR,m1])
 exact h.elim
def Zz2:Zh:=fun args σ K=>match args,σ with
 | [.d (.str n),.d (.bool i),.ptr 0 0,.ptr 1 0,.ptr 2 0],⟨[.cells tb [.d (.bool b)],.cells tg [.mp 3],.cells tr cs,.map [.d (.str k1),.mp 4,.d (.str k2),.mp 5,.d (.str k3),.mp 6] bn ck,.dmap a1,.dmap a2,.dmap a3],[],0⟩ =>
  (k1=[97]/\k2=[98]/\k3=[99]/\bn=[0,1,2]/\ck=3)/\∃pl r D,∃T:Trn,cs=(Zs pl r).map .d/\a1=mvM mvB (Y2 T.1)/\a2=mvM mvB (Y2 T.2.1)/\a3=mvM mvB (Y2 T.2.2)/\GT D T/\(r.head∈abcN/\n∈abcN)/\∀b',(b || (i && tog D n r.head))=b' ->
   K (.ret (.tuple [])) ⟨[.cells tb [.d (.bool b')],.cells tg [.mp 3],.cells tr cs,.map [.d (.str k1),.mp 4,.d (.str k2),.mp 5,.d (.str k3),.mp 6] bn ck,.dmap a1,.dmap a2,.dmap a3],[],0⟩
 | _,_=>False
def ZDc:Tbl:=[(14,Zsl)]
def ZDd:PC w0 nG 13 Zz2:=by
 refine pwt (tbl:=ZDc) ⟨Zsm,trivial⟩ Tryz.func13 fun args σ K h=>?_
 unfold Zz2 at h
 split at h
 ·rename_i n i tb b tg tr cs k1 k2 k3 bn ck a1 a2 a3
  obtain ⟨⟨rfl,rfl,rfl,rfl,rfl⟩,pl,⟨r1,r2,r3,r4⟩,D,⟨T1,T2,T3⟩,rfl,rfl,rfl,rfl,hT,⟨hd,hn⟩,h⟩:=h;refine pwu [] 7 false ?_;rcases b with _ | _
  ·rcases i with _ | _
   ·have h:=h false rfl;exact mq35
   conv=>whnf
   refine ⟨⟨rfl,rfl,rfl,rfl,rfl⟩,D,(T1,T2,T3),rfl,rfl,rfl,hT,⟨hn,hd⟩,fun b hb=>wN ?_⟩;have h:=h b (by rw [<- hb];rfl);exact h
  have h:=h true rfl;exact mq35
 exact h.elim
def ZoP (l:List (Bs×Bool)):Prop:=∀x∈l,x.1∈abcN
def ZhM (D:Tri) (hd:Bs) (l:List (Bs×Bool)):Bool:=l.any fun x=>x.2 && tog D x.1 hd
def Zln (m:Nat):Zh:=fun args σ K=>match args,σ with
 | [.d (.sl rows),.d (.bool i),.func f [] [.ptr 0 0,.ptr 1 0,.ptr 2 0]],⟨[.cells tb [.d (.bool b)],.cells tg [.mp 3],.cells tr cs,.map [.d (.str k1),.mp 4,.d (.str k2),.mp 5,.d (.str k3),.mp 6] bn ck,.dmap a1,.dmap a2,.dmap a3],[],0⟩ =>
  (f=13/\k1=[97]/\k2=[98]/\k3=[99]/\bn=[0,1,2]/\ck=3)/\∃pl p2 l r D,∃T:Trn,rows=Zx p2 l/\cs=(Zs pl r).map .d/\a1=mvM mvB (Y2 T.1)/\a2=mvM mvB (Y2 T.2.1)/\a3=mvM mvB (Y2 T.2.2)/\GT D T/\(ZdT l<m/\m<=1099511627776)/\(r.head∈abcN/\ZoP (VI l i))/\∀b',(b || ZhM D r.head (VI l i))=b' ->
   K (.ret (.tuple [])) ⟨[.cells tb [.d (.bool b')],.cells tg [.mp 3],.cells tr cs,.map [.d (.str k1),.mp 4,.d (.str k2),.mp 5,.d (.str k3),.mp 6] bn ck,.dmap a1,.dmap a2,.dmap a3],[],0⟩
 | _,_=>False
def Zm9 (D:Tri) (h:Bs) (l k:List (Bs×Bool)):ZhM D h (l++k)=(ZhM D h l || ZhM D h k):=List.any_append ..
def Zna (D:Tri) (h:Bs) (x:Bs×Bool):ZhM D h [x]=(x.2 && tog D x.1 h):=by simp [ZhM]
def ZwA {m:Nat} (ha:PC w0 nG 12 (spB Zln m)):PC w0 nG 12 (Zln m):=by
 refine pwt (tbl:=[(13,Zz2),(12,spB Zln m)]) ⟨ZDd,ha,trivial⟩ Tryz.func12 fun args σ K h=>?_
 unfold Zln at h
 split at h
 ·rename_i rows i f tb b tg tr cs k1 k2 k3 bn ck a1 a2 a3
  obtain ⟨⟨rfl,rfl,rfl,rfl,rfl,rfl⟩,pl,p2,l,⟨r1,r2,r3,r4⟩,D,⟨T1,T2,T3⟩,rfl,rfl,rfl,rfl,rfl,hT,⟨hz,hm⟩,⟨hd,ho⟩,h⟩:=h;have hl:(Zx p2 l).length=l.length:=by rw [Zn,Td]
  have hsz:=Wt l;refine pwu [(1,⟨[10],[1,2,8,9],fun vs σ=>∃(j:Nat) (b':Bool),vs=[.d (.int .i64 j)]/\σ=⟨[.cells tb [.d (.bool b')],.cells tg [.mp 3],.cells tr ((Zs pl ⟨r1,r2,r3,r4⟩).map .d),.map [.d (.str [97]),.mp 4,.d (.str [98]),.mp 5,.d (.str [99]),.mp 6] [0,1,2] 3,.dmap (mvM mvB (Y2 T1)),.dmap (mvM mvB (Y2 T2)),.dmap (mvM mvB (Y2 T3))],[],0⟩/\j<=l.length/\(b || ZhM D r1 (VI (l.take j) i))=b',
   mu1 l.length⟩)] 7 false ?_
  conv=>whnf
  refine ⟨⟨0,b,rfl,rfl,oM,by simp [VI,ZhM]⟩,?_⟩
  rintro vs σ1 ⟨j,b',rfl,rfl,hj,hE⟩
  conv=>whnf
  refine ZGr (fun hc=>?_) (fun hc=>?_);rotate_left
  ·have hc:¬(j:Int)<((Zx p2 l).length:Nat):=hc;rw [List.take_of_length_le oM] at hE;have h:=h _ hE;exact mq35
  have aa:j<l.length:=by have hc:(j:Int)<((Zx p2 l).length:Nat):=hc;omega
  have hr:(Zx p2 l)[(j:Int).toNat]?=some (YC p2 l[j]):=by rw [Tg,Zn,Th,Ta aa];rfl
  have hg:=Ws l j aa;have ht:(b || ZhM D r1 (VI (l.take (j+1)) i))=(b' || ZhM D r1 (atL l[j] i)):=by rw [ZaE aa,Zm9,<- hE,Bool.or_assoc]
  have ac:ZoP (atL l[j] i):=fun x hx=>ho x (by
   rw [<- Sd (j+1) l,ZcF,ZaE aa];exact Tw.2 (.inl (Tw.2 (.inr hx))))
  have hμ:((l.length:Int) - ((j:Int)+1)).toNat<((l.length:Int) - (j:Int)).toNat:=oM;generalize l[j]=x at hr hg ht ac;obtain ⟨b1,b2,b3,b4,b5⟩:=x;have z6:=ZcG (op:=b1) (rel:=b2) (args:=b3) (body:=b4) (a:=b5);rw [atL,Zm9,<- Bool.or_assoc] at ht;rw [atL] at ac;have bz:ZoP (VI b4 true):=fun x hx=>ac x (Tw.2 (.inr hx))
  rcases (show b1=1\/b1=2\/(b1≠1/\b1≠2) by omega) with rfl | rfl | ⟨o1,o2⟩
  ·rw [Ti (.inl rfl)] at ht ac;exact mq29
  ·rw [Ti (.inr rfl)] at ht ac;exact mq29
  rw [Te oM] at ht;(conv=>whnf);refine ⟨_,oM,hr,wN ?_⟩;refine ZGr (fun g=>absurd g (by show ¬(b1:Int)=1;omega)) (fun g=>wN ?_);refine ZGr (fun g=>absurd g (by show ¬(b1:Int)=2;omega)) (fun g=>wN ?_);refine ⟨oM,⟨rfl,rfl,rfl,rfl,rfl,rfl⟩,pl,p2,b4,⟨r1,r2,r3,r4⟩,D,(T1,T2,T3),rfl,rfl,rfl,rfl,rfl,hT,⟨oM,oM⟩,⟨hd,bz⟩,fun c2 hc4=>wN ?_⟩;rw [show (b' || ZhM D r1 [])=b' by simp [ZhM],show (b' || ZhM D r1 (VI b4 true))=c2 from hc4] at ht;refine Zk ?_;exact ⟨⟨j+1,_,rfl,rfl,oM,ht⟩,hμ⟩
 exact h.elim
def ZFN:∀m,PC w0 nG 12 (Zln m)
 | 0=>ZwA (Zz (Zf Tryz.func12 kR rfl))
 | m+1=>ZwA (ZA (sp:=Zln) (ZFN m))
end Go.PM.Lex
end
