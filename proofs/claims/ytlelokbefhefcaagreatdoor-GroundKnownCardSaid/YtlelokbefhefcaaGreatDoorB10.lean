/- A part of the proof: plain logic, contracts and laws over the given program. -/
import Derived.Test.YtlelokbefhefcaaGreatDoorIter
import Derived.WideShapes
import Derived.WalkKit
import Derived.Maps.Ext
import Derived.Maps.RangeWalk
import Derived.Laws.IdiomRangeMap
import Derived.Deep.LoopGhost
import Derived.Shelf.SlMaps.DeleteFunc
import Derived.Lib.MapLaws
import Derived.Test.YtlelokbefhefcaaGreatDoorB09
set_option linter.unusedVariables false
set_option linter.unusedSimpArgs false
set_option linter.all false
set_option maxRecDepth 100000
set_option maxHeartbeats 16000000
noncomputable section
section
namespace Go.PM.Lex
open Go.Proofs
variable {w0:World} {nG:Nat}
def ZaK:Zk:=fun args σ K=>match args,σ with
 | [.agg c],⟨[],[],0⟩=>∃pl e,c=(ZF pl e).map .d/\K (.ret (.func 57 [] [.ptr 0 0])) ⟨[.cells 25 c],[],0⟩
 | _,_=>False
def ZaL:Zx ZaK:=fun args σ K K' hK h=>by
 unfold ZaK at h |-
 split at h
 ·obtain ⟨pl,e,h1,h2⟩:=h;exact ⟨pl,e,h1,hK _ _ h2⟩
 exact h.elim
def Zrs:PC w0 nG 35 ZaK:=by
 refine pwe Tryz.func35 fun args σ K h=>?_
 unfold ZaK at h
 split at h
 ·obtain ⟨pl,⟨a1,a2,a3,a4,a5⟩,rfl,h⟩:=h;refine pwv [] 1 false ?_;exact h
 exact h.elim
structure C5 where
 a:D
 b:D
 c:D
 d:D
 e:D
abbrev C5.cs (x:C5):List PV:=[.d x.a,.d x.b,.d x.c,.d x.d,.d x.e]
abbrev stV (M:Bv) (c2 c3:C5) (r:Loop):List Box:=[.dmap (mvM mvB M),.cells 43 [.mp 0],.cells 25 c2.cs,.cells 25 c3.cs,.loop .ready none r]
def itV (m:Nat):ZfF:=fun g args raw σ K=>∃(pl:Pl) (e:Ex) (y:Nat) (M:Bv) (c2 c3:C5) (r:Loop),g=58/\args=[.agg ((ZF pl e).map .d),.raw (.func (.yield y) #[] #[])]/\σ=⟨stV M c2 c3 r,[],0⟩/\(szE e<m/\m<=4611686018427387904) /\
 (∀(M:Bv) (x:Ex) (K':PEnd->St->Prop),(∀gs,K' (.ret (.d (.bool true))) ⟨stV (addX M x) c2 c3 r++gs,[],0⟩)->raw (.func (.yield y) #[] #[]) [.agg ((ZF pl x).map .d)] ⟨stV M c2 c3 r,[],0⟩ K') /\
 K (.ret (.d (.bool true))) ⟨stV (addXs M (prE e)) c2 c3 r,[],0⟩
def Zrt:∀m,IterSem (GG w0 nG) (itV m)
 | 0=>fun g args raw σ K ⟨_,_,_,_,_,_,_,_,_,_,h,_⟩=>absurd h.1 oM
 | m+1=>by
  refine Zrr (tbl:=[]) Zr mixed trivial trivial (Zrt m) Tryz.func58 rfl kR kR ?_
  rintro g args raw σ K ⟨pl,⟨op,text,num,ea,at'⟩,y,M,c2,c3,r,rfl,rfl,rfl,⟨hm,fg⟩,gz,h⟩
  refine ⟨rfl,Tc rfl,?_⟩;simp only [szE] at hm;have hl:(Ze pl ea).length=ea.length:=by rw [Zc,Td]
  have hsz:=Y3 ea;have j7:∀M,Zei 5 (stV M c2 c3 r)=true:=fun M=>rfl
  refine ⟨Zg [(4,⟨[14],[1,12,13],fun vs σ=>∃(j:Nat) (M':Bv),vs=[.d (.int .i64 j)]/\σ=⟨stV M' c2 c3 r++[.cells 25 ((ZF pl (.mk op text num ea at')).map .d)],[],0⟩/\j<=ea.length/\M'=addXs (addX M (.mk op text num ea at')) (Ze4 (ea.take j)),
   mu1 ea.length⟩)],?_⟩
  conv=>whnf
  refine ⟨⟨rfl,rfl,j7 M,rfl,rfl⟩,gz _ (.mk op text num ea at') _ fun gs=>⟨true,rfl,j7 _,wN ?_⟩⟩;refine ⟨⟨0,_,rfl,rfl,oM,rfl⟩,?_⟩
  rintro vs σ1 ⟨j,M',rfl,rfl,hj,rfl⟩
  conv=>whnf
  refine ZGg (fun hq=>?_) (fun hq=>?_)
  ·have aa:j<ea.length:=by have hq:(j:Int)<((Ze pl ea).length:Nat):=hq;omega
   have hr:(Ze pl ea)[(j:Int).toNat]?=some (ZF pl ea[j]):=by rw [Th,Zc,Ti,Tb aa];rfl
   have hg:=YC ea j aa;have ht:=Zjp aa;have hμ:((ea.length:Int) - ((j:Int)+1)).toNat<((ea.length:Int) - (j:Int)).toNat:=oM;generalize ea[j]=x at hr hg ht;obtain ⟨b1,b2,b3,b4,b5⟩:=x;(conv=>whnf);refine ⟨_,oM,hr,wN ?_⟩;refine ⟨⟨rfl,rfl,j7 _,rfl,rfl⟩,pl,.mk b1 b2 b3 b4 b5,y,_,c2,c3,r,rfl,rfl,rfl,⟨oM,oM⟩,gz,true,rfl,j7 _,wN ?_⟩;refine Zi ?_;exact ⟨⟨j+1,_,rfl,rfl,oM,by rw [ht,Zjq]⟩,hμ⟩
  have ez:ea.length<=j:=by have hq:¬(j:Int)<((Ze pl ea).length:Nat):=hq;omega
  rw [List.take_of_length_le ez];exact mq47
def ZFJ (m:Nat):ZfF:=Zg8 VU [] (itV m) 57 Tryz.f57
def Zum (m:Nat):IterSem (GG w0 nG) (ZFJ m):=JJ (tbl:=[]) Zr mixed trivial trivial (Zrt m) Tryz.func57 rfl kR kR
def J0:Zk:=fun args σ K=>match args,σ with
 | [.mp 0,.d (.sl rows)],⟨[.dmap mv],[],0⟩=>∃pl l M,rows=Ze pl l/\mv=mvM mvB M/\Jn l<=1099511627776/\K (.ret (.tuple [])) ⟨[.dmap (mvM mvB (addXs M (Ze4 l)))],[],0⟩
 | _,_=>False
def Zjt:Zx J0:=fun args σ K K' hK h=>by
 unfold J0 at h |-
 split at h
 ·obtain ⟨pl,l,M,h1,h2,h3,h4⟩:=h;exact ⟨pl,l,M,h1,h2,h3,hK _ _ h4⟩
 exact h.elim
def ZCI (M:Bv) (op:Nat) (t:Bs) (n:Int) (l:List Ex) (a:Nat) (h:op=1):mvM mvB (addX M (.mk op t n l a))=Z2 t (.one (.bool true)) (mvM mvB M):=by
 unfold addX
 rw [Tj (show opE (.mk op t n l a)=1 from h)];exact (XN (f:=mvB) (k:=t) (v:=true) M).symm
def Zmv:Tbl:=[(35,ZaK)]
def ZhF:PC w0 nG 17 J0:=by
 refine Zkc Zr mixed (tbl:=Zmv) ⟨Zrs,trivial⟩ ⟨ZaL,trivial⟩ (Zum 1099511627777) Tryz.func17 rfl kR kR ?_;intro args σ K h
 unfold J0 at h
 split at h
 ·obtain ⟨pl,l,M,rfl,rfl,hz,h⟩:=h;have hl:(Ze pl l).length=l.length:=by rw [Zc,Td]
  have hsz:=Y3 l;refine ⟨Zg [(2,⟨[9],[2,7,8],fun vs σ=>∃j:Nat,vs=[.d (.int .i64 j)]/\σ=⟨[.dmap (mvM mvB (addXs M (Ze4 (l.take j)))),.cells 43 [.mp 0]],[],0⟩/\j<=l.length,
   mu1 l.length⟩)],1,false,sM,Tc rfl,?_⟩
  conv=>whnf
  refine ⟨⟨0,rfl,rfl,oM⟩,?_⟩
  rintro vs σ1 ⟨j,rfl,rfl,hj⟩
  conv=>whnf
  refine ZGg (fun hq=>?_) (fun hq=>?_);rotate_left
  ·have ez:l.length<=j:=by have hq:¬(j:Int)<((Ze pl l).length:Nat):=hq;omega
   rw [List.take_of_length_le ez];exact mq47
  have aa:j<l.length:=by have hq:(j:Int)<((Ze pl l).length:Nat):=hq;omega
  have hr:(Ze pl l)[(j:Int).toNat]?=some (ZF pl l[j]):=by rw [Th,Zc,Ti,Tb aa];rfl
  have hg:=YC l j aa;have ht:=Zjp aa;have hμ:((l.length:Int) - ((j:Int)+1)).toNat<((l.length:Int) - (j:Int)).toNat:=oM;generalize l[j]=x at hr hg ht;obtain ⟨b1,b2,b3,b4,b5⟩:=x;(conv=>whnf);refine ⟨_,oM,hr,wN ?_⟩;refine ⟨pl,.mk b1 b2 b3 b4 b5,rfl,wN ?_⟩;intro y r
  refine ⟨Zg [],rfl,wN ?_⟩;refine ⟨pl,.mk b1 b2 b3 b4 b5,y,_,⟨_,_,_,_,_⟩,⟨_,_,_,_,_⟩,r,rfl,rfl,rfl,⟨oM,oM⟩,fun M x K' hK=>wN ?_,wN ?_⟩
  ·obtain ⟨d1,d2,d3,d4,d5⟩:=x;refine ⟨rfl,rfl,rfl,wN ?_⟩;refine ⟨rfl,wN ?_⟩;refine ZGg (fun h1=>wN ?_) (fun h1=>wN ?_)
   ·have h1:d1=1:=by have h1:(d1:Int)=1:=h1;omega
    have hk:=hK [.cells 25 ((ZF pl (.mk d1 d2 d3 d4 d5)).map .d)];unfold stV at hk
    rw [ZCI M d1 d2 d3 d4 d5 h1] at hk;refine ⟨rfl,wN ?_⟩;exact hk
   have h1:¬d1=1:=by have h1:¬(d1:Int)=1:=h1;omega
   have hk:=hK [.cells 25 ((ZF pl (.mk d1 d2 d3 d4 d5)).map .d)];rw [show addX M (.mk d1 d2 d3 d4 d5)=M from Tf h1] at hk;refine ⟨rfl,wN ?_⟩;exact hk
  refine Zi ?_;exact ⟨⟨j+1,rfl,by rw [ht,Zjq];rfl,oM⟩,hμ⟩
 exact h.elim
abbrev stA (M:Bv) (c2 c5:C5) (a:Int) (b:Bool) (lp:Box):List Box:=[.dmap (mvM mvB M),.cells 43 [.mp 0],.cells 25 c2.cs,.cells 3 [.d (.int .i64 a)],.cells 4 [.d (.bool b)],.cells 25 c5.cs,lp]
abbrev goA (M:Bv) (c2 c5:C5) (r:Loop):List Box:=stA M c2 c5 0 false (.loop .ready none r)
abbrev ZDs (M:Bv) (c2 c5:C5) (a:Int) (r:Loop):List Box:=stA M c2 c5 a true (.loop .done (some .ret) r)
def itA (m:Nat):ZfF:=fun g args raw σ K=>∃(pl:Pl) (e:Ex) (y:Nat) (M:Bv) (c2 c5:C5) (r:Loop),g=58/\args=[.agg ((ZF pl e).map .d),.raw (.func (.yield y) #[] #[])]/\σ=⟨goA M c2 c5 r,[],0⟩/\(szE e<m/\m<=4611686018427387904) /\
 (∀(x:Ex) (K':PEnd->St->Prop),(Zco M x=false->∀gs,K' (.ret (.d (.bool true))) ⟨goA M c2 c5 r++gs,[],0⟩)->(Zco M x=true->∀gs,K' (.ret (.d (.bool false))) ⟨ZDs M c2 c5 (pl (atX x)) r++gs,[],0⟩)->raw (.func (.yield y) #[] #[]) [.agg ((ZF pl x).map .d)] ⟨goA M c2 c5 r,[],0⟩ K') /\
 (ZeN M e=none->K (.ret (.d (.bool true))) ⟨goA M c2 c5 r,[],0⟩)/\∀x,ZeN M e=some x->K (.ret (.d (.bool false))) ⟨ZDs M c2 c5 (pl (atX x)) r,[],0⟩
def Zzr (M:Bv) (op:Nat) (t:Bs) (n:Int) (l:List Ex) (a:Nat):ZeN M (.mk op t n l a)=if Zco M (.mk op t n l a)=true then some (.mk op t n l a) else Xp M l:=by
 simp only [ZeN,prE,List.find?_cons,Xp]
 cases Zco M (.mk op t n l a) <;> rfl
def Zru:∀m,IterSem (GG w0 nG) (itA m)
 | 0=>fun g args raw σ K ⟨_,_,_,_,_,_,_,_,_,_,h,_⟩=>absurd h.1 oM
 | m+1=>by
  refine Zrr (tbl:=[]) Zr mixed trivial trivial (Zru m) Tryz.func58 rfl kR kR ?_
  rintro g args raw σ K ⟨pl,⟨op,text,num,ea,at'⟩,y,M,c2,c5,r,rfl,rfl,rfl,⟨hm,fg⟩,gz,hn,hs⟩
  refine ⟨rfl,Tc rfl,?_⟩;simp only [szE] at hm;have hl:(Ze pl ea).length=ea.length:=by rw [Zc,Td]
  have hsz:=Y3 ea;have j7:Zei 7 (goA M c2 c5 r)=true:=rfl;have am:∀a,Zei 7 (ZDs M c2 c5 a r)=true:=fun a=>rfl
  rw [Zzr] at hn hs;refine ⟨Zg [(4,⟨[14],[1,12,13],fun vs σ=>∃j:Nat,vs=[.d (.int .i64 j)]/\σ=⟨goA M c2 c5 r++[.cells 25 ((ZF pl (.mk op text num ea at')).map .d)],[],0⟩/\j<=ea.length/\(Zco M (.mk op text num ea at')=false/\Xp M ea=Xp M (ea.drop j)),
   mu1 ea.length⟩)],?_⟩
  conv=>whnf
  refine ⟨⟨rfl,rfl,j7,rfl,rfl⟩,gz (.mk op text num ea at') _ (fun hf gs=>⟨true,rfl,j7,?_⟩) fun hf gs=>⟨false,rfl,am _,?_⟩⟩;rotate_left
  ·have hs:=hs _ (Tj hf);(conv=>whnf);exact hs
  conv=>whnf
  refine ⟨⟨0,rfl,rfl,oM,hf,rfl⟩,?_⟩
  rintro vs σ1 ⟨j,rfl,rfl,hj,hf,ha⟩
  rw [Tf (by rw [hf];simp),ha] at hn hs;(conv=>whnf);refine ZGg (fun hq=>?_) (fun hq=>wN ?_)
  ·have aa:j<ea.length:=by have hq:(j:Int)<((Ze pl ea).length:Nat):=hq;omega
   have hr:(Ze pl ea)[(j:Int).toNat]?=some (ZF pl ea[j]):=by rw [Th,Zc,Ti,Tb aa];rfl
   have hg:=YC ea j aa;have hd:=Zgf (m:=M) aa;have hμ:((ea.length:Int) - ((j:Int)+1)).toNat<((ea.length:Int) - (j:Int)).toNat:=oM;generalize ea[j]=x at hr hg hd;rw [hd] at hn hs ha;obtain ⟨b1,b2,b3,b4,b5⟩:=x;(conv=>whnf);refine ⟨_,oM,hr,wN ?_⟩;refine ⟨⟨rfl,rfl,j7,rfl,rfl⟩,pl,.mk b1 b2 b3 b4 b5,y,_,c2,c5,r,rfl,rfl,rfl,⟨oM,oM⟩,gz,fun hx=>⟨true,rfl,j7,wN ?_⟩,fun x hx=>⟨false,rfl,am _,wN ?_⟩⟩
   ·rw [hx] at ha;refine Zi ?_;exact ⟨⟨j+1,rfl,rfl,oM,hf,ha⟩,hμ⟩
   rw [hx] at hs;have hs:=hs _ rfl;exact hs
  have ez:ea.length<=j:=by have hq:¬(j:Int)<((Ze pl ea).length:Nat):=hq;omega
  rw [Tp ez] at hn;have hn:=hn rfl;exact hn
def ZFK (m:Nat):ZfF:=Zg8 VU [] (itA m) 57 Tryz.f57
def Zun (m:Nat):IterSem (GG w0 nG) (ZFK m):=JJ (tbl:=[]) Zr mixed trivial trivial (Zru m) Tryz.func57 rfl kR kR
def ZFL (pl:Pl):Option Ex->PV
 | some x=>.tuple [.d (.int .i64 (pl (atX x))),.d (.bool true)]
 | none=>.tuple [.d (.int .i64 0),.d (.bool false)]
def ZhG:Zk:=fun args σ K=>match args,σ with
 | [.mp 0,.agg c],⟨[.dmap mv],[],0⟩=>∃pl e M,c=(ZF pl e).map .d/\mv=mvM mvB M/\szE e<=1099511627776/\∀o,ZeN M e=o->K (.ret (ZFL pl o)) ⟨[.dmap (mvM mvB M)],[],0⟩
 | _,_=>False
def Zmw:PC w0 nG 41 ZhG:=by
 refine Zkc Zr mixed (tbl:=Zmv) ⟨Zrs,trivial⟩ ⟨ZaL,trivial⟩ (Zun 1099511627777) Tryz.func41 rfl kR kR ?_;intro args σ K h
 unfold ZhG at h
 split at h
 ·obtain ⟨pl,⟨e1,e2,e3,e4,e5⟩,M,rfl,rfl,hz,h⟩:=h;refine ⟨Zg [],1,false,sM,Tc rfl,wN ?_⟩;refine ⟨pl,.mk e1 e2 e3 e4 e5,rfl,wN ?_⟩;intro y r
  refine ⟨Zg [],rfl,wN ?_⟩;refine ⟨pl,.mk e1 e2 e3 e4 e5,y,M,⟨_,_,_,_,_⟩,⟨_,_,_,_,_⟩,r,rfl,rfl,rfl,⟨oM,oM⟩,fun x K' k1 k2=>?_,fun ha=>?_,fun x ha=>?_⟩
  ·obtain ⟨d1,d2,d3,d4,d5⟩:=x;(conv=>whnf);refine ⟨rfl,rfl,rfl,wN ?_⟩;refine ⟨rfl,wN ?_⟩;have hfr:Zco M (.mk d1 d2 d3 d4 d5)=(decide (d1=2) || (decide (d1=1) && !((lkM d2 M).getD false))):=rfl;rw [hfr] at k1 k2;refine ZGg (fun g2=>wN ?_) (fun g2=>wN ?_)
   ·have k2:=k2 (by rw [TX (show d1=2 by have g2:(d1:Int)=2:=g2;omega)];rfl) [.cells 25 ((ZF pl (.mk d1 d2 d3 d4 d5)).map .d)];refine ⟨rfl,wN ?_⟩;exact k2
   rw [decide_eq_false (show ¬d1=2 by have g2:¬(d1:Int)=2:=g2;omega)] at k1 k2;refine ZGg (fun g1=>wN ?_) (fun g1=>wN ?_)
   ·rw [TX (show d1=1 by have g1:(d1:Int)=1:=g1;omega)] at k1 k2;have yes:(lkM d2 M).getD false=true->K' (.ret (.d (.bool true))) ⟨goA M ⟨.int .u8 e1,.str e2,.int .i64 e3,.sl (Ze pl e4),.int .i64 (pl e5)⟩ ⟨.int .u8 e1,.str e2,.int .i64 e3,.sl (Ze pl e4),.int .i64 (pl e5)⟩ r++[.cells 25 ((ZF pl (.mk d1 d2 d3 d4 d5)).map .d)],[],0⟩:=fun q=>k1 (by rw [q];rfl) _
    have no:(lkM d2 M).getD false=false->K' (.ret (.d (.bool false))) ⟨ZDs M ⟨.int .u8 e1,.str e2,.int .i64 e3,.sl (Ze pl e4),.int .i64 (pl e5)⟩ ⟨.int .u8 e1,.str e2,.int .i64 e3,.sl (Ze pl e4),.int .i64 (pl e5)⟩ (pl d5) r++[.cells 25 ((ZF pl (.mk d1 d2 d3 d4 d5)).map .d)],[],0⟩:=fun q=>k2 (by rw [q];rfl) _
    cases hv:lkM d2 M with
    | none =>
     have no:=no (by rw [hv];rfl);refine optK.no (by rw [ZI,hv];rfl) (wN ?_);refine ⟨rfl,wN ?_⟩;exact no
    | some b =>
    refine optK.yes (a:=.one (.bool b)) (by rw [ZI,hv];rfl) ?_
    cases b with
    | true =>
     have yes:=yes (by rw [hv];rfl);(conv=>whnf);refine ⟨rfl,wN ?_⟩;exact yes
    | false =>
    have no:=no (by rw [hv];rfl);(conv=>whnf);refine ⟨rfl,wN ?_⟩;exact no
   rw [decide_eq_false (show ¬d1=1 by have g1:¬(d1:Int)=1:=g1;omega)] at k1 k2;have k1:=k1 rfl [.cells 25 ((ZF pl (.mk d1 d2 d3 d4 d5)).map .d)];refine ⟨rfl,wN ?_⟩;exact k1
  ·have h:=h _ ha;exact mq47
  have h:=h _ ha;exact mq47
 exact h.elim
def Jr (C:Pl->Ex->Bv->(PEnd->Bv->Prop)->Prop) (m:Nat):Zk:=fun args σ K=>match args,σ with
 | [.mp 0,.agg c],⟨[.dmap mv],[],0⟩=>∃pl e M,c=(ZF pl e).map .d/\mv=mvM mvB M/\(szE e<m/\m<=1099511627776)/\C pl e M fun pe M'=>K pe ⟨[.dmap (mvM mvB M')],[],0⟩
 | _,_=>False
def ZEB (F:Bv->Ex->Bool):Pl->Ex->Bv->(PEnd->Bv->Prop)->Prop:=fun pl e M K=>∀b,F M e=b->K (.ret (.d (.bool b))) M
def ZDt (F:Bv->Ex->Option Ex):Pl->Ex->Bv->(PEnd->Bv->Prop)->Prop:=fun pl e M K=>(F M e=none->K (.ret (.tuple [])) M)/\∀x,F M e=some x->K (.panic (.iface 75 (.agg [.d (.int .i64 (pl (atX x)))]))) M
def ZFj:Pl->Ex->Bv->(PEnd->Bv->Prop)->Prop:=fun pl e M K=>K (.ret (.tuple [])) (ZjI e M)
abbrev Zrv:Zk:=Jr (ZEB fun M e=>(ZeN M e).isNone) 1099511627776
abbrev Zju:Nat->Zk:=Jr (ZEB U7)
abbrev Zoj:Nat->Zk:=Jr ZFj
abbrev Zok:Nat->Zk:=Jr (ZDt Zzn)
abbrev Zol:Nat->Zk:=Jr (ZDt Zzo)
def ZCK:OKw w0 nG [(41,ZhG)] 25 Zrv:=by
 refine pwo Tryz.func25 fun args σ K h=>?_
 unfold Zrv Jr at h
 split at h
 ·obtain ⟨pl,⟨e1,e2,e3,e4,e5⟩,M,rfl,rfl,⟨hm,fg⟩,h⟩:=h;refine pwv [] 1 false ?_;refine ⟨pl,.mk e1 e2 e3 e4 e5,M,rfl,rfl,oM,fun o ho=>?_⟩
  cases o with
  | none =>
   have h:=h true (by show (ZeN M _).isNone=true;rw [ho];rfl);exact mq47
  | some x =>
  have h:=h false (by show (ZeN M _).isNone=false;rw [ho];rfl);exact mq47
 exact h.elim
def ZhH (F:Bv->List Ex->D) (m:Nat):Zk:=fun args σ K=>match args,σ with
 | [.d (.sl rows),.func f [.mp 0] []],⟨[.dmap mv],[],0⟩=>∃pl l M,rows=Ze pl l/\mv=mvM mvB M/\(f=23/\Jn l<m/\m<=1099511627776)/\∀d,F M l=d->K (.ret (.d d)) ⟨[.dmap (mvM mvB M)],[],0⟩
 | _,_=>False
abbrev Zrw:Nat->Zk:=ZhH fun M l=>.int .i64 (Zhs (U7 M) 0 l)
abbrev Zgl:Nat->Zk:=ZhH fun M l=>.bool (WK M l)
def Zrx {m:Nat}:OKw w0 nG [(23,Zju m)] 40 (Zrw m):=by
 refine pwo Tryz.func40 fun args σ K h=>?_
 unfold Zrw ZhH at h
 split at h
 ·obtain ⟨pl,l,M,rfl,rfl,⟨rfl,hm,fg⟩,h⟩:=h;simp only at h;have hl:(Ze pl l).length=l.length:=by rw [Zc,Td]
  have hsz:=Y3 l;refine pwu [(2,⟨[8],[0,1,7],fun vs σ=>∃j:Nat,vs=[.d (.int .i64 j)]/\σ=⟨[.dmap (mvM mvB M)],[],0⟩/\j<=l.length/\Zhs (U7 M) j (l.drop j)=Zhs (U7 M) 0 l,
   mu1 l.length⟩)] 1 false ?_
  conv=>whnf
  refine ⟨⟨0,rfl,rfl,oM,rfl⟩,?_⟩
  rintro vs σ1 ⟨j,rfl,rfl,hj,ha⟩
  conv=>whnf
  refine ZGg (fun hc=>?_) (fun hc=>?_);rotate_left
  ·have ez:l.length<=j:=by have hc:¬(j:Int)<((Ze pl l).length:Nat):=hc;omega
   rw [Tp ez] at ha;(conv=>whnf);exact h (.int .i64 (-1)) (by rw [<- ha];rfl)
  have aa:j<l.length:=by have hc:(j:Int)<((Ze pl l).length:Nat):=hc;omega
  rw [Tk aa] at ha;have hr:(Ze pl l)[(j:Int).toNat]?=some (ZF pl l[j]):=by rw [Th,Zc,Ti,Tb aa];rfl
  have hg:=YC l j aa;generalize l[j]=x at ha hr hg;obtain ⟨b1,b2,b3,b4,b5⟩:=x;(conv=>whnf);refine ⟨_,oM,hr,wN ?_⟩;refine ⟨pl,.mk b1 b2 b3 b4 b5,M,rfl,rfl,⟨oM,fg⟩,fun b hb=>?_⟩;simp only [Zhs] at ha
  cases b with
  | true =>
   rw [Tj hb] at ha;(conv=>whnf);exact h _ (by rw [<- ha])
  | false =>
  rw [Tf (fun g=>Bool.noConfusion (hb.symm.trans g))] at ha;(conv=>whnf);exact mq183
 exact h.elim
def Zry {m:Nat}:OKw w0 nG [(40,Zrw m)] 22 (Zgl m):=by
 refine pwo Tryz.func22 fun args σ K h=>?_
 unfold Zgl ZhH at h
 split at h
 ·obtain ⟨pl,l,M,rfl,rfl,hc,h⟩:=h;simp only at h;refine pwv [] 1 false ?_;refine ⟨pl,l,M,rfl,rfl,hc,fun d hd=>?_⟩;subst hd;(conv=>whnf);exact h _ (by rw [Zoa];congr 1;rw [Bool.eq_iff_iff,decide_eq_true_iff];exact (Zd4 l 0).symm)
 exact h.elim
def Zrz {m:Nat}:OKw w0 nG [(25,Zrv),(22,spB Zgl m)] 23 (Zju m):=by
 refine pwo Tryz.func23 fun args σ K h=>?_
 unfold Zju Jr at h
 split at h
 ·obtain ⟨pl,⟨e1,e2,e3,e4,e5⟩,M,rfl,rfl,⟨hm,fg⟩,h⟩:=h;unfold ZEB at h
  simp only [U7] at h;have hs:szE (.mk e1 e2 e3 e4 e5)=1+Jn e4:=by simp only [szE]
  refine pwv [] 1 false ?_;refine ZGg (fun g=>wN ?_) (fun g=>wN ?_)
  ·have g:8<=e1:=by have g:(8:Int)<=e1:=g;omega
   rw [Tj g] at h;refine ⟨pl,.mk e1 e2 e3 e4 e5,M,rfl,rfl,⟨oM,oM⟩,fun b hb=>wN ?_⟩;have hb:(ZeN M (.mk e1 e2 e3 e4 e5)).isNone=b:=hb;have h:=h (!b) (by rw [<- hb];cases ZeN M (.mk e1 e2 e3 e4 e5) <;> rfl);exact h
  have g:¬8<=e1:=by have g:¬(8:Int)<=e1:=g;omega
  rw [Tf g] at h;refine ⟨oM,pl,e4,M,rfl,rfl,⟨rfl,oM,oM⟩,fun d hd=>?_⟩;subst hd;have h:=h _ rfl;exact mq47
 exact h.elim
def ZrA:PC w0 nG 25 Zrv:=ZCK ⟨Zmw,trivial⟩
def Zzv:∀m,PC w0 nG 23 (Zju m)
 | 0=>Zrz ⟨ZrA,ZA (Zf Tryz.func22 kR rfl),trivial⟩
 | m+1=>Zrz ⟨ZrA,ZB (sp:=Zgl) (Zry ⟨Zrx ⟨Zzv m,trivial⟩,trivial⟩),trivial⟩
def ZEC (m:Nat):PC w0 nG 22 (Zgl m):=Zry ⟨Zrx ⟨Zzv m,trivial⟩,trivial⟩
def ZvL {m:Nat}:OKw w0 nG [(24,spB Zoj m)] 24 (Zoj m):=by
 refine pwo Tryz.func24 fun args σ K h=>?_
 unfold Zoj Jr at h
 split at h
 ·obtain ⟨pl,⟨e1,e2,e3,e4,e5⟩,M,rfl,rfl,⟨hm,fg⟩,h⟩:=h;unfold ZFj at h
  simp only [ZjI] at h;simp only [szE] at hm;have hl:(Ze pl e4).length=e4.length:=by rw [Zc,Td]
  have hsz:=Y3 e4;refine pwu [(7,⟨[19],[0,17,18],fun vs σ=>∃(j:Nat) (M':Bv),vs=[.d (.int .i64 j)]/\σ=⟨[.dmap (mvM mvB M'),.cells 25 ((ZF pl (.mk e1 e2 e3 e4 e5)).map .d)],[],0⟩/\j<=e4.length/\Uz (e4.drop j) M'=Uz e4 M,
   mu1 e4.length⟩)] 1 false ?_
  conv=>whnf
  refine ZGg (fun g=>wN ?_) (fun g=>wN ?_)
  ·have g:e1=1:=by have g:(e1:Int)=1:=g;omega
   rw [Tj g,<- XN] at h;exact h
  have g:¬e1=1:=by have g:¬(e1:Int)=1:=g;omega
  rw [Tf g] at h;have many:e1=6\/e1=7->K (.ret (.tuple [])) ⟨[.dmap (mvM mvB (Uz e4 M))],[],0⟩:=fun q=>by rw [Tj q] at h;exact h
  refine ZGg (fun g6=>wN ?_) (fun g6=>wN ?_)
  ·have h:=many (.inl (by have g6:(e1:Int)=6:=g6;omega));refine ZGg (fun _=>wN ?_) (fun q=>absurd g6 q);exact mq24
  have g6:¬e1=6:=by have g6:¬(e1:Int)=6:=g6;omega
  refine ZGg (fun g7=>wN ?_) (fun g7=>wN ?_)
  ·have h:=many (.inr (by have g7:(e1:Int)=7:=g7;omega));exact mq24
  have g7:¬e1=7:=by have g7:¬(e1:Int)=7:=g7;omega
  rw [Tf (fun q=>q.elim g6 g7)] at h;exact h
 exact h.elim
def ZFk:∀m,PC w0 nG 24 (Zoj m)
 | 0=>ZvL ⟨ZA (Zf Tryz.func24 kR rfl),trivial⟩
 | m+1=>ZvL ⟨ZB (sp:=Zoj) (ZFk m),trivial⟩
def ZaM:Zk:=fun args σ K=>match args,σ with
 | [.mp 0,.d (.sl rows)],⟨[.dmap mv],[],0⟩=>∃pl l M,rows=Ze pl l/\mv=mvM mvB M/\Jn l<=1099511627776/\(Xp M l=none->K (.ret (.tuple [])) ⟨[.dmap (mvM mvB M)],[],0⟩)/\∀x,Xp M l=some x->K (.panic (.iface 75 (.agg [.d (.int .i64 (pl (atX x)))]))) ⟨[.dmap (mvM mvB M)],[],0⟩
 | _,_=>False
def Zk0:Zx ZaM:=fun args σ K K' hK h=>by
 unfold ZaM at h |-
 split at h
 ·obtain ⟨pl,l,M,h1,h2,h3,h4,h5⟩:=h;exact ⟨pl,l,M,h1,h2,h3,fun g=>hK _ _ (h4 g),fun x g=>hK _ _ (h5 x g)⟩
 exact h.elim
def Zzw:Tbl:=[(41,ZhG)]
def UA:PC w0 nG 30 ZaM:=by
 refine pwt (tbl:=Zzw) ⟨Zmw,trivial⟩ Tryz.func30 fun args σ K h=>?_
 unfold ZaM at h
 split at h
 ·obtain ⟨pl,l,M,rfl,rfl,hz,h1,h2⟩:=h;have hl:(Ze pl l).length=l.length:=by rw [Zc,Td]
  have hsz:=Y3 l;refine pwu [(1,⟨[10],[0,8,9],fun vs σ=>∃j:Nat,vs=[.d (.int .i64 j)]/\σ=⟨[.dmap (mvM mvB M)],[],0⟩/\j<=l.length/\Xp M l=Xp M (l.drop j),
   mu1 l.length⟩)] 1 false ?_
  conv=>whnf
  refine ⟨⟨0,rfl,rfl,oM,rfl⟩,?_⟩
  rintro vs σ1 ⟨j,rfl,rfl,hj,ha⟩
  rw [ha] at h1 h2;(conv=>whnf);refine ZGg (fun hc=>?_) (fun hc=>?_);rotate_left
  ·have ez:l.length<=j:=by have hc:¬(j:Int)<((Ze pl l).length:Nat):=hc;omega
   rw [Tp ez] at h1;have h1:=h1 rfl;(conv=>whnf);exact h1
  have aa:j<l.length:=by have hc:(j:Int)<((Ze pl l).length:Nat):=hc;omega
  have hd:=Zgf (m:=M) aa;have hr:(Ze pl l)[(j:Int).toNat]?=some (ZF pl l[j]):=by rw [Th,Zc,Ti,Tb aa];rfl
  have hg:=YC l j aa;have hμ:((l.length:Int) - ((j:Int)+1)).toNat<((l.length:Int) - (j:Int)).toNat:=oM;generalize l[j]=x at hd hr hg;rw [hd] at h1 h2 ha;obtain ⟨b1,b2,b3,b4,b5⟩:=x;(conv=>whnf);refine ⟨_,oM,hr,wN ?_⟩;refine ⟨pl,.mk b1 b2 b3 b4 b5,M,rfl,rfl,oM,fun o ho=>?_⟩;rw [ho] at h1 h2 ha
  cases o with
  | none =>
   conv=>whnf
   exact mq48
  | some y =>
  have h2:=h2 _ rfl;(conv=>whnf);exact h2
 exact h.elim
def ZvM {m:Nat}:OKw w0 nG [(30,ZaM),(50,spB Zok m)] 50 (Zok m):=by
 refine pwo Tryz.func50 fun args σ K h=>?_
 unfold Zok Jr at h
 split at h
 ·obtain ⟨pl,⟨e1,e2,e3,e4,e5⟩,M,rfl,rfl,⟨hm,fg⟩,h⟩:=h;unfold ZDt at h
  simp only [Zzn] at h;simp only [szE] at hm;have hl:(Ze pl e4).length=e4.length:=by rw [Zc,Td]
  have hsz:=Y3 e4;refine pwu [(4,⟨[16],[0,14,15],fun vs σ=>∃j:Nat,vs=[.d (.int .i64 j)]/\σ=⟨[.dmap (mvM mvB M),.cells 25 ((ZF pl (.mk e1 e2 e3 e4 e5)).map .d)],[],0⟩/\j<=e4.length/\Zcp M e4=Zcp M (e4.drop j),
   mu1 e4.length⟩)] 1 false ?_
  conv=>whnf
  refine ZGg (fun g=>wN ?_) (fun g=>wN ?_)
  ·have g:8<=e1:=by have g:(8:Int)<=e1:=g;omega
   rw [Tj g] at h;obtain ⟨h1,h2⟩:=h;refine ⟨pl,e4,M,rfl,rfl,oM,fun ho=>wN ?_,fun x ho=>wN ?_⟩
   ·have h1:=h1 ho;exact h1
   have h2:=h2 x ho;exact h2
  have g:¬8<=e1:=by have g:¬(8:Int)<=e1:=g;omega
  rw [Tf g] at h;refine ⟨⟨0,rfl,rfl,oM,rfl⟩,?_⟩
  rintro vs σ1 ⟨j,rfl,rfl,hj,ha⟩
  rw [ha] at h;obtain ⟨h1,h2⟩:=h;(conv=>whnf);refine ZGg (fun hc=>?_) (fun hc=>?_);rotate_left
  ·exact mq74
  have aa:j<e4.length:=by have hc:(j:Int)<((Ze pl e4).length:Nat):=hc;omega
  have hd:=Zgg (m:=M) aa;exact mq14
 exact h.elim
def ZED:∀m,PC w0 nG 50 (Zok m)
 | 0=>ZvM ⟨UA,ZA (Zf Tryz.func50 kR rfl),trivial⟩
 | m+1=>ZvM ⟨UA,ZB (sp:=Zok) (ZED m),trivial⟩
def ZvN {m:Nat}:OKw w0 nG [(30,ZaM),(51,spB Zol m)] 51 (Zol m):=by
 refine pwo Tryz.func51 fun args σ K h=>?_
 unfold Zol Jr at h
 split at h
 ·obtain ⟨pl,⟨e1,e2,e3,e4,e5⟩,M,rfl,rfl,⟨hm,fg⟩,h⟩:=h;unfold ZDt at h
  simp only [Zzo] at h;simp only [szE] at hm;have hl:(Ze pl e4).length=e4.length:=by rw [Zc,Td]
  have hsz:=Y3 e4;refine pwu [(7,⟨[20],[0,18,19],fun vs σ=>∃j:Nat,vs=[.d (.int .i64 j)]/\σ=⟨[.dmap (mvM mvB M),.cells 25 ((ZF pl (.mk e1 e2 e3 e4 e5)).map .d)],[],0⟩/\j<=e4.length/\Zcq M e4=Zcq M (e4.drop j),
   mu1 e4.length⟩)] 1 false ?_
  conv=>whnf
  refine ZGg (fun g=>wN ?_) (fun g=>wN ?_)
  ·have g:e1=2:=by have g:(e1:Int)=2:=g;omega
   rw [Tj g] at h;have h:=h.1 rfl;exact h
  have g:¬e1=2:=by have g:¬(e1:Int)=2:=g;omega
  rw [Tf g] at h;refine ZGg (fun g6=>wN ?_) (fun g6=>wN ?_)
  ·rw [Tj (.inl (by have g6:(e1:Int)=6:=g6;omega))] at h;refine ZGg (fun _=>wN ?_) (fun q=>absurd g6 q);exact mq156
  have g6:¬e1=6:=by have g6:¬(e1:Int)=6:=g6;omega
  refine ZGg (fun g7=>wN ?_) (fun g7=>wN ?_)
  ·rw [Tj (.inr (by have g7:(e1:Int)=7:=g7;omega))] at h;exact mq156
  have g7:¬e1=7:=by have g7:¬(e1:Int)=7:=g7;omega
  rw [Tf (fun q=>q.elim g6 g7)] at h;have ha:Xp M [.mk e1 e2 e3 e4 e5]=ZeN M (.mk e1 e2 e3 e4 e5):=by simp [Xp,ZeN,Ze4]
  rw [<- ha] at h;obtain ⟨h1,h2⟩:=h;refine ⟨pl,[.mk e1 e2 e3 e4 e5],M,rfl,rfl,by simp only [Jn,szE];omega,fun ho=>wN ?_,fun x ho=>wN ?_⟩
  ·have h1:=h1 ho;exact h1
  have h2:=h2 x ho;exact h2
 exact h.elim
def ZEE:∀m,PC w0 nG 51 (Zol m)
 | 0=>ZvN ⟨UA,ZA (Zf Tryz.func51 kR rfl),trivial⟩
 | m+1=>ZvN ⟨UA,ZB (sp:=Zol) (ZEE m),trivial⟩
def ZhI:Zk:=fun args σ K=>match args,σ with
 | [.mp 0],⟨[.dmap mv],[],0⟩=>K (.ret (.mp 1)) ⟨[.dmap mv,.dmap mv],[],0⟩
 | _,_=>False
def Zmx:PC w0 nG 21 ZhI where
 enters:=Zf Tryz.func21 kR rfl
 calls:=fun args σ K hs n e w vs hS ha=>by
  unfold ZhI at hs
  split at hs
  ·rename_i mv
   obtain ⟨u,rfl,hu⟩:=ZeU ha
   cases hu with
   | mp _ dr =>
   obtain ⟨bn,ck,hst,es,h1,h2,h3,h4⟩:=hS.box 0 _ rfl;refine CallsIn.mono (callsIn_wide.2 (AnyW.maps_Clone Tryz.clone21 (e.β 0) es ck w h1)) fun en w' hh=>?_
   obtain ⟨rfl,rfl⟩:=hh;obtain ⟨g1,g2,g3⟩:=W0 hS (.dmap mv) (.map es ck) (fun e1 σ1 w1 adc hh=>⟨bn,ck,hst,es,hh,h2,h3,fun i u hu=>by
    obtain ⟨k1,k,x,k2,k3,k4,k5⟩:=h4 i u hu;exact ⟨k1,k,x,k2,k3,k4,k5.step adc⟩⟩)
   refine ⟨.ret (.mp 1),_,_,hs,⟨_,rfl,?_⟩,g2,g1.toLater⟩;have:=VRel.mp (G:=GG w0 nG) (e:=e.more 1 w.heap.size) (σ:=(⟨[.dmap mv],[],0⟩:St).new (.dmap mv)) (w:=w.alloc (.map es ck)) 1 (by rw [ZGn];exact Nat.lt_succ_self _)
   rwa [show (e.more 1 w.heap.size).β 1=w.heap.size by simp [Env.more]] at this
  exact hs.elim
def ZaN:∀(l:List Li) (i:Nat) (h:i<l.length),szL l[i]<ZfU l
 | x::l,0,h=>by simp only [List.getElem_cons_zero,ZfU];omega
 | x::l,i+1,h=>by have:=ZaN l i (by simpa using h);simp only [List.getElem_cons_succ,ZfU];omega
def ZaO {op:Nat} {rel:Bs} {args:List Ex} {body:List Li} {a:Nat}:Jn args<szL (.mk op rel args body a):=by
 simp only [szL];rw [Wq];omega
def ZaP:∀l:List Li,l.length<=ZfU l
 | []=>Tr _
 | x::l=>by have:=ZaP l;simp only [Te,ZfU];omega
def Zuo:Tbl:=[(17,J0)]
def Zom (pl:Pl) (l:List Ex) (k:Nat):Ze pl (l.take k)=(Ze pl l).take k:=by rw [Zc,Zc,List.map_take]
def Zgm (pl:Pl) (l:List Ex) (k:Nat):Ze pl (l.drop k)=(Ze pl l).drop k:=by rw [Zc,Zc,List.map_drop]
def ZrB (l:List Ex) (k:Nat):Jn (l.take k)<=Jn l:=by
 induction l generalizing k with
 | nil=>simp
 | cons e l ih=>cases k with
  | zero=>simp [Jn]
  | succ k=>have:=ih k;simp only [List.take_succ_cons,Jn];omega
def Zjv (l:List Ex) (k:Nat):Jn (l.drop k)<=Jn l:=by
 induction l generalizing k with
 | nil=>simp
 | cons e l ih=>cases k with
  | zero=>exact Tr _
  | succ k=>have:=ih k;simp only [List.drop_succ_cons,Jn];omega
def ZCO {α:Type} (l:List α):cut l 0 (min (l.length:Int) 1).toNat=l.take 1:=by
 cases l with
 | nil=>rfl
 | cons x l =>
 have:(min ((x::l).length:Int) 1).toNat=1:=by simp only [Te];omega
 rw [this];rfl
def ZCP {α:Type} (l:List α):cut l (min (l.length:Int) 1).toNat l.length=l.drop 1:=by
 cases l with
 | nil=>rfl
 | cons x l =>
 have:(min ((x::l).length:Int) 1).toNat=1:=by simp only [Te];omega
 rw [this,cut,T7]
def encEs_w (pl:Pl) (l:List Ex):∀r∈Ze pl l,r.length=5:=fun r hr=>by
 rw [Zc] at hr;obtain ⟨⟨a,b,c,d,e⟩,_,rfl⟩:=Su.1 hr;rfl
def Zcd:Zk:=fun args σ K=>match args,σ with
 | [.mp 0,.d (.sl rows)],⟨[.dmap mv],[],0⟩=>∃pl l M,rows=ZL pl l/\mv=mvM mvB M/\ZfU l<=1099511627776/\K (.ret (.tuple [])) ⟨[.dmap (mvM mvB (outLs M l))],[],0⟩
 | _,_=>False
def ZhJ:PC w0 nG 10 Zcd:=by
 refine pwt (tbl:=Zuo) ⟨ZhF,trivial⟩ Tryz.func10 fun args σ K h=>?_
 unfold Zcd at h
 split at h
 ·obtain ⟨pl,l,M,rfl,rfl,hz,h⟩:=h;have hl:(ZL pl l).length=l.length:=by rw [Zq,Td]
  have hsz:=ZaP l;refine pwu [(1,⟨[8],[0,6,7],fun vs σ=>∃j:Nat,vs=[.d (.int .i64 j)]/\σ=⟨[.dmap (mvM mvB (outLs M (l.take j)))],[],0⟩/\j<=l.length,
   mu1 l.length⟩)] 1 false ?_
  conv=>whnf
  refine ⟨⟨0,rfl,rfl,oM⟩,?_⟩
  rintro vs σ1 ⟨j,rfl,rfl,hj⟩
  conv=>whnf
  refine ZGg (fun hc=>?_) (fun hc=>?_);rotate_left
  ·have hc:¬(j:Int)<((ZL pl l).length:Nat):=hc;rw [List.take_of_length_le oM];exact mq47
  have aa:j<l.length:=by have hc:(j:Int)<((ZL pl l).length:Nat):=hc;omega
  have hr:(ZL pl l)[(j:Int).toNat]?=some (YQ pl l[j]):=by rw [Th,Zq,Ti,Tb aa];rfl
  have hg:=ZaN l j aa;have ht:=Zof aa M;have hμ:((l.length:Int) - ((j:Int)+1)).toNat<((l.length:Int) - (j:Int)).toNat:=oM;generalize l[j]=x at hr hg ht;generalize outLs M (l.take j)=M1 at ht;obtain ⟨b1,b2,b3,b4,b5⟩:=x;have nd:=ZaO (op:=b1) (rel:=b2) (args:=b3) (body:=b4) (a:=b5);have dc:(Ze pl b3).length=b3.length:=by rw [Zc,Td]
  have ni:=ZrB b3 1;simp only [ZEA] at ht;(conv=>whnf);refine ⟨_,oM,hr,wN ?_⟩;refine ZGg (fun g=>wN ?_) (fun g=>wN ?_)
  ·rw [Tj (by have g:(b1:Int)<9:=g;omega)] at ht;refine ⟨pl,b3,M1,rfl,rfl,oM,wN ?_⟩;exact mq142
  rw [Tf (by have g:¬(b1:Int)<9:=g;omega)] at ht;refine ⟨encEs_w pl b3,wN ?_⟩;refine ⟨oM,oM,wN ?_⟩;refine ⟨pl,b3.take 1,M1,(ZCO _).trans (Zom ..).symm,rfl,oM,wN ?_⟩;exact mq142
 exact h.elim
def Zmy {op:Nat} {rel:Bs} {args:List Ex} {body:List Li} {a:Nat}:ZfU body<szL (.mk op rel args body a):=by
 simp only [szL]
 first | omega | (rw [Zbs];omega)
def Zek (n:Nat):Zk:=fun args σ K=>match args,σ with
 | [.mp 0,.agg c],⟨[.dmap mv],[],0⟩=>∃pl x M,c=(YQ pl x).map .d/\mv=mvM mvB M/\(szL x<n/\n<=1099511627776)/\K (.ret (.tuple [])) ⟨[.dmap (mvM mvB (Zro x M))],[],0⟩
 | _,_=>False
def ZrC {n:Nat} (hi:PC w0 nG 42 (spB Zek n)):PC w0 nG 42 (Zek n):=by
 refine pwt (tbl:=[(17,J0),(10,Zcd),(42,spB Zek n)]) ⟨ZhF,ZhJ,hi,trivial⟩ Tryz.func42 fun args σ K h=>?_
 unfold Zek at h
 split at h
 ·obtain ⟨pl,⟨b1,b2,b3,b4,b5⟩,M,rfl,rfl,⟨hz,hn⟩,h⟩:=h;have hl:(ZL pl b4).length=b4.length:=by rw [Zq,Td]
  have hsz:=ZaP b4;have nd:=ZaO (op:=b1) (rel:=b2) (args:=b3) (body:=b4) (a:=b5);have hgb:=Zmy (op:=b1) (rel:=b2) (args:=b3) (body:=b4) (a:=b5);have dc:(Ze pl b3).length=b3.length:=by rw [Zc,Td]
  have ni:=Zjv b3 1;rw [Zro] at h;generalize hM1:outLs (addXs M (Ze4 (b3.drop 1))) b4=M1 at h;refine pwu [(4,⟨[22],[0,20,21],fun vs σ=>∃(j:Nat) (M':Bv),vs=[.d (.int .i64 j)]/\σ=⟨[.dmap (mvM mvB M'),.cells 30 ((YQ pl (.mk b1 b2 b3 b4 b5)).map .d)],[],0⟩/\j<=b4.length/\ZkY (b4.drop j) M'=ZkY b4 M1,
   mu1 b4.length⟩)] 1 false ?_
  conv=>whnf
  refine ⟨encEs_w pl b3,wN ?_⟩;refine ⟨oM,oM,wN ?_⟩;refine ⟨pl,b3.drop 1,M,(ZCP _).trans (Zgm ..).symm,rfl,oM,wN ?_⟩;refine ⟨pl,b4,_,rfl,rfl,oM,?_⟩;rw [hM1];(conv=>whnf);refine ⟨⟨0,M1,rfl,rfl,oM,rfl⟩,?_⟩
  rintro vs σ1 ⟨j,M',rfl,rfl,hj,ha⟩
  conv=>whnf
  refine ZGg (fun hc=>?_) (fun hc=>?_);rotate_left
  ·have ez:b4.length<=j:=by have hc:¬(j:Int)<((ZL pl b4).length:Nat):=hc;omega
   rw [Tp ez] at ha;rw [<- ha] at h;exact mq47
  have aa:j<b4.length:=by have hc:(j:Int)<((ZL pl b4).length:Nat):=hc;omega
  have hr:(ZL pl b4)[(j:Int).toNat]?=some (YQ pl b4[j]):=by rw [Th,Zq,Ti,Tb aa];rfl
  have hg:=ZaN b4 j aa;rw [Zoe aa] at ha;have hμ:((b4.length:Int) - ((j:Int)+1)).toNat<((b4.length:Int) - (j:Int)).toNat:=oM;generalize b4[j]=x at hr hg ha;obtain ⟨c1,c2,c3,c4,c5⟩:=x
  change ZkY _ (if 9<=c1 then _ else _)=_ at ha
  conv=>whnf
  refine ⟨_,oM,hr,wN ?_⟩;refine ZGg (fun g=>wN ?_) (fun g=>wN ?_)
  ·rw [Tj (show 9<=c1 by have g:(c1:Int)>=9:=g;omega)] at ha;refine ⟨oM,pl,.mk c1 c2 c3 c4 c5,M',rfl,rfl,⟨oM,oM⟩,wN ?_⟩;refine Zi ?_;exact ⟨⟨j+1,_,rfl,rfl,oM,ha⟩,hμ⟩
  rw [Tf (show ¬9<=c1 by have g:¬(c1:Int)>=9:=g;omega)] at ha;refine Zi ?_;exact ⟨⟨j+1,_,rfl,rfl,oM,ha⟩,hμ⟩
 exact h.elim
def Sub (M N:Bv):Prop:=∀t,lkM t M=some true->lkM t N=some true
def ZFl (M:Bv):Prop:=∀t v,lkM t M=some v->v=true
def Sub.refl (M:Bv):Sub M M:=fun _ h=>h
def Sub.trans {M N P:Bv} (h:Sub M N) (g:Sub N P):Sub M P:=fun t ht=>g t (h t ht)
def Zel (k:Bs):∀v:Bv,(Z2 k true v).map (·.1)=if k∈v.map (·.1) then v.map (·.1) else v.map (·.1)++[k]
 | []=>rfl
 | (x,u)::v=>by
  have ih:=Zel k v;exact mq128
structure Up (M N:Bv):Prop where
 sub:Sub M N
 pre:M.map (·.1) <+: N.map (·.1)
 allT:ZFl M->ZFl N
def Up.refl (M:Bv):Up M M:=⟨.refl M,List.prefix_refl _,id⟩
def Up.trans {M N P:Bv} (h:Up M N) (g:Up N P):Up M P:=⟨h.sub.trans g.sub,h.pre.trans g.pre,fun x=>g.allT (h.allT x)⟩
def setOf (m:Bv) (l:List Bs):Bv:=l.foldl (fun m t=>Z2 t true m) m
def ZrD (m:Bv) (l k:List Bs):setOf m (l++k)=setOf (setOf m l) k:=Sl ..
def bndT (l:List Li) (ahead:List Bs):List Bs:=(bindsF l (setOf [] ahead)).map (·.1)
end Go.PM.Lex
end

section
namespace Go.PM
end Go.PM
namespace Go.PM.Lex
def Kq (P:Bs->Prop) (m:Bv):Prop:=(m.map (·.1)).Nodup/\∀t∈m.map (·.1),P t
def Kq.put {P:Bs->Prop} {t:Bs} {m:Bv} (h:Kq P m) (ht:P t):Kq P (Z2 t true m):=by
 unfold Kq
 rw [Zel];exact mq80
mutual
def Kq.pat {P:Bs->Prop}:∀(e:Ex) {m:Bv},Kq P m->(∀t∈nvE e,P t)->Kq P (ZjI e m)
 | .mk op t n args a,m,h,ht=>by
  simp only [nvE] at ht;simp only [ZjI]
  by_cases h1:op=1
  ·rw [Tj h1] at ht |-;exact h.put (ht t sM)
  rw [Tf h1] at ht |-;split
  ·exact Kq.pats args h ht
  exact h
def Kq.pats {P:Bs->Prop}:∀(l:List Ex) {m:Bv},Kq P m->(∀t∈Zhw l,P t)->Kq P (Uz l m)
 | [],_,h,_=>h
 | e::l,m,h,ht=>by
  simp only [Zhw,TE] at ht;exact Kq.pats l (Kq.pat e h fun t g=>ht t (.inl g)) fun t g=>ht t (.inr g)
end
def Kq.side {P:Bs->Prop} {a b:Ex} {m:Bv} (h:Kq P m) (ht:∀t∈nvE a,P t):Kq P (Z4 m a b):=by
 unfold Z4
 split
 ·exact Kq.pat a h ht
 exact h
def Kq.bind {P:Bs->Prop}:∀(x:Li) {m:Bv},Kq P m->(∀t∈nvL x,P t)->Kq P (Zrl m x)
 | .mk op rel args body a,m,h,ht=>by
  simp only [nvL,TE] at ht;simp only [Zrl];split
  ·split
   ·exact Kq.pats args h fun t g=>ht t (.inl g)
   exact h
  split
  ·split
   ·rename_i a b
    simp only [Zhw,TE] at ht;exact (h.side fun t g=>ht t (.inl (.inl g))).side fun t g=>ht t (.inl (.inr (.inl g)))
   exact h
  exact h
def Kq.binds {P:Bs->Prop}:∀(l:List Li) {m:Bv},Kq P m->(∀t∈Vl l,P t)->Kq P (Zjr m l)
 | [],_,h,_=>h
 | x::l,m,h,ht=>by
  simp only [Vl,TE] at ht;exact Kq.binds l (Kq.bind x h fun t g=>ht t (.inl g)) fun t g=>ht t (.inr g)
def Kq.bindsT {P:Bs->Prop} {l:List Li} (ht:∀t∈Vl l,P t):∀(k:Nat) {m r:Bv},Kq P m->bindsT l k m=some r->Kq P r
 | 0,_,_,_,h=>by cases h
 | k+1,m,r,hm,h=>by
  simp only [Lex.bindsT] at h;have h1:=hm.binds l ht;split at h
  ·exact Kq.bindsT ht k h1 h
  cases h;exact h1
def Kq.bindsF {P:Bs->Prop} {l:List Li} {m:Bv} (hm:Kq P m) (ht:∀t∈Vl l,P t):Kq P (bindsF l m):=Kq.bindsT ht _ hm (Zrn l m)
def Kq.setOf {P:Bs->Prop}:∀(l:List Bs) {m:Bv},Kq P m->(∀t∈l,P t)->Kq P (setOf m l)
 | [],_,h,_=>h
 | t::l,m,h,ht=>Kq.setOf l (h.put (ht t sM)) fun s hs=>ht s (TG _ hs)
def ZrE (l:List Bs):∀m:Bv,(setOf m l).length<=m.length+l.length:=by
 induction l with
 | nil=>intro m;exact Tr _
 | cons t l ih =>
 intro m
 have h1:=ih (Z2 t true m);have h2:(Z2 t true m).length<=m.length+1:=by
  have:=congrArg List.length (Zel t m);simp only [Td] at this;rw [this];split <;> simp
 simp only [Te];show (setOf (Z2 t true m) l).length<=_;omega
def Zon {l:List Bs} {j:Nat} (h:j<l.length) (m:Bv):setOf m (l.take (j+1))=Z2 l[j] true (setOf m (l.take j)):=by
 rw [List.take_add_one,Tb h,ZrD];rfl
end Go.PM.Lex
end

section
namespace Go.PM
def Zgn {G:GE} {g:FuncId} {sp:Zk} (f5:XR G.P g)
  (h:∀args σ K,sp args σ K->∀(e:Env) (w:World) (vs:Array Value),SRel G e σ w->ArgsRel G e σ w args vs->Calls G.P g vs w fun en w'=>∃pv v,en=.returned v/\K (.ret pv) σ/\Grows w w'/\VRel G e σ w' pv v):PCalls G g sp where
 enters:=f5
 calls:=fun args σ K hs n e w vs hS ha=>by
  refine CallsIn.mono (callsIn_wide.2 (h args σ K hs e w vs hS ha)) fun en w' ⟨pv,v,he,hK,hg,hv⟩=>?_
  subst he;exact ⟨.ret pv,σ,e,hK,⟨v,rfl,hv⟩,hS.grow hg,(hg.stepped e σ).toLater⟩
def Zzy {G:GE} {e:Env} {bx:List Box} {w:World} {k b off:Nat} (hS:SRel G e ⟨bx,[],k⟩ w) (hb:w.heap.size<=b):okc e ⟨bx,[],k⟩ b off:=by
 refine ⟨fun h=>?_,fun i hi h=>?_,fun t ht=>(by cases ht),fun q hq=>?_⟩
 ·have:=hS.xlt _ _ h;omega
 ·have:=hS.lt hi;omega
 have:=(hS.hid _ _ hq).2.1;omega
end Go.PM
namespace Go.PM.Lex
open Go.Proofs Go.RowKit Go.Maps Go.Sort
variable {w0:World} {nG:Nat}
abbrev J1 (l:List Bs):List (List D):=l.map fun s=>[.str s]
def ZEF (l:List Bs):Prop:=∃ss:List Bs,l=ss.mergeSort fun x y=>decide (x<=y)
def Zmz:∀{m:List (Bs×MV)} {i:Nat} {k:Bs},(J6 m)[2 * i]?=some (.d (.str k))->(m.map (·.1))[i]?=some k
 | [],i,k,h=>by simp [J6] at h
 | (x,v)::m,0,k,h=>by simp [J6] at h;simp [h]
 | (x,v)::m,i+1,k,h=>by
  rw [show 2 * (i+1)=2 * i+2 by omega] at h;have:=Zmz (m:=m) (i:=i) (k:=k) (by simpa [J6] using h);simpa using this
def Zjw {G:GE} {e:Env} {σ:St} {w:World} {m:List (Bs×MV)} {b:Nat} {P:Program} {k:TypeId} (hk:P.underlying k=some .string) (hB:BRel G e σ w (.dmap m) b) (hn:(m.map (·.1)).Nodup) (hl:m.length<=1073741824) (hx:∀x∈m.map (·.1),x.length<=1073741824) :
  ∃D0:DataW Unit,w.ownsMap P k (fun _=>some (.nil,[])) b m.length D0/\(strKeys D0).Perm (m.map (·.1))/\Maps.size D0=m.length:=by
 obtain ⟨bn,ck,⟨li,fx⟩,es,h1,h2,h3,h4⟩:=hB;rw [J8] at h3;have hlen:es.toList.length=m.length:=sO;have hes:es.size<=1073741824:=oM;have hb:es.toList.map (·.born)=bn:=List.ext_getElem? fun i=>by
  exact mq120
 have o5:es.toList.map (·.key)=(m.map (·.1)).map fun s=>Value.string ⟨s.toArray⟩:=List.ext_getElem? fun i=>by
  rw [Ti,TF]
  cases hu:es[i]? with
  | none=>exact (Sp (by have:=Array.getElem?_eq_none_iff.1 hu;simp;omega)).symm
  | some u =>
  obtain ⟨_,kk,x,g1,_,g3,_⟩:=h4 i u hu;rw [Ti,Zmz g1];simp [g3]
 have ade:∀s:Bs,s∈m.map (·.1)->Go.keyOf P k (.string ⟨s.toArray⟩)=some (.string s):=fun s hs=>by
  have:=hx s hs;have hm:s.length<=maxLen:=TN this dM;simp [Go.keyOf,hk,mapKey,ByteArray.size,hm]
 have cp:∀u∈es.toList,∃s,s∈m.map (·.1)/\u.key=.string ⟨s.toArray⟩:=fun u hu=>by
  have:u.key∈es.toList.map (·.key):=List.mem_map_of_mem hu
  rw [o5] at this;obtain ⟨s,h,g⟩:=Su.1 this;exact ⟨s,h,g.symm⟩
 have yg:∀u∈es.toList,∀s,s∈m.map (·.1)->u.key=.string ⟨s.toArray⟩->WideElems.rd (H:=Unit) P k (fun _=>some (.nil,[])) u=some (.string s,.nil):=fun u hu s hs g=>by
  unfold WideElems.rd
  rw [g,ade s hs];rfl
 have zg:(es.toList.map (WideElems.rg (H:=Unit) P k fun _=>some (.nil,[]))).map (fun p=>strOf p.1)=m.map (·.1):=by
  have q:(es.toList.map (WideElems.rg (H:=Unit) P k fun _=>some (.nil,[]))).map (fun p=>(Value.string ⟨(strOf p.1).toArray⟩))=es.toList.map (·.key):=by
   rw [Sj];refine So fun u hu=>?_
   obtain ⟨s,hs,g⟩:=cp u hu;simp only [Function.comp,WideElems.rg,yg u hu s hs g,Sn,strOf,g]
  rw [o5] at q;have q2:=congrArg (List.map fun v:Value=>match v with | .string s=>s.data.toList | _=>[]) q;simpa [Sj,Function.comp_def] using q2
 refine ⟨_,⟨es,ck,h1,⟨TN hes dM,⟨fun x hx=>?_,?_,?_⟩,fun x hx=>?_⟩,oM,rfl⟩,?_,?_⟩
 ·exact fx _ (hb ▸ List.mem_map_of_mem hx)
 ·rw [hb];exact li
 ·rw [o5];exact List.Pairwise.map _ (fun a b g e=>g (by simpa using e)) hn
 ·obtain ⟨s,hs,g⟩:=cp x hx;exact ⟨_,yg x hx s hs g⟩
 ·have:=(WideShapes.sorted_perm (es.toList.map (WideElems.rg (H:=Unit) P k fun _=>some (.nil,[])))).map fun p=>strOf p.1
  rw [zg] at this;exact this
 show (List.foldr DataW.insert [] _).length=_;rw [(WideShapes.sorted_perm _).length_eq,Td,hlen]
def ZrF {G:GE} {e:Env} {bx:List Box} {w w':World} {k base el:Nat} {v:Value} {l:List Bs} (hS:SRel G e ⟨bx,[],k⟩ w) (hb:w.heap.size<=base) (h:w'.ownsRow base el 1 v l.length (l.map encStr)):DRel (okc e ⟨bx,[],k⟩) w' (.sl (J1 l)) v:=by
 obtain ⟨_,⟨rfl,h0⟩ | ⟨g,cap,cur,rfl,h1,h2,h3,_,h5,h6⟩⟩:=h
 ·rw [Sd.1 h0];exact .slnil
 have hl:(J1 l).length=l.length:=Td ..;rw [<- hl];refine .sl (J1 l) g 0 cap 1 (fun i _=>encStr (l.getD i [])) (by rw [hl];exact h3) (fun r hr=>?_) (fun i j hi hj=>?_) (fun i j _ _=>Zzy hS oM) fun i j x hx=>?_
 ·obtain ⟨s,_,rfl⟩:=Su.1 hr;rfl
 ·obtain rfl:j=0:=by omega
  rw [hl] at hi;have q:=congrArg (fun t=>t[i]?) h6;simp only [Nat.mul_one,List.getElem?_take,Tj hi,TF,Ti,Tb hi,TY] at q;simp [World.cell?,h2,q,T2,Tb hi]
 rw [Ti] at hx
 cases hi:l[i]? with
 | none=>rw [hi] at hx;cases hx
 | some s =>
 rw [hi] at hx
 match j,hx with
 | 0,hx =>
  simp at hx;subst hx;show DRel _ _ _ (encStr (l.getD i []));rw [T2,hi];exact .str s
 | j+1,hx=>simp at hx
end Go.PM.Lex
end

section
namespace Go.PM.Lex
open Go.Proofs Go.RowKit Go.Maps
variable {w0:World} {nG:Nat}
def Zk1:Zk:=fun args σ K=>match args,σ with
 | [.mp 0,.mp 1],⟨[.dmap s,.dmap m],[],0⟩=>∃S M,s=mvM mvB S/\m=mvM mvB M/\((s.map (·.1)).Nodup/\s.length<=1073741824/\∀x∈s.map (·.1),x.length<=1073741824)/\∀b,ZaJ S M=b->K (.ret (.d (.bool b))) ⟨[.dmap s,.dmap m],[],0⟩
 | _,_=>False
def VM (v:Bv):(mvM mvB v).map (·.1)=v.map (·.1):=by
 unfold mvM;simp [Function.comp_def]
def ZrG {e:Env} {σ:St} {w W:World} {M:Bv} {b:Nat} (hB:BRel (GG w0 nG) e σ w (.dmap (mvM mvB M)) b) (hW:W.heap[b]?=w.heap[b]?) (s:Bs) :
  (Instr.lookup 43 (.map (some b)) (.string ⟨s.toArray⟩) false).run Tryz.prog W=.ok (.bool (ZjJ M s)) W:=by
 obtain ⟨bn,ck,_,hB⟩:=hB.of_dmap;obtain ⟨es,g1,g2,_⟩:=hB.mrel;have hr:=fun (q:Option (Nat×Value)) (hq:Instr.findNow .string (.string ⟨s.toArray⟩) es.toList 0=some q)=>YK (w:=W) Tryz.underlying43 Tryz.underlying9 (Tryz.zeroValue4 W) (ok:=false) (hW.trans g1) hq
 unfold ZjJ
 rcases Y9 (n:=0) (key:=s) g2 with ⟨x,v,j,q1,q2,q3,_⟩ | ⟨q1,q2,_⟩
 ·rw [X6,ZI] at q1
  cases hl:lkM s M with
  | none=>rw [hl] at q1;cases q1
  | some c =>
  rw [hl] at q1
  cases q1
  cases q3 with
  | d _ _ hd=>cases hd;exact hr _ q2
 rw [X6,ZI] at q1
 cases hl:lkM s M with
 | some c=>rw [hl] at q1;cases q1
 | none=>exact hr _ q2
theorem Zup {H:Type} {P:Program} {k:TypeId} {R:Value->Option (DataW H×List MemPlace)} {w:World} {b n:Nat} {D:DataW H} (ho:w.ownsMap P k R b n D) {x:Bs} (h:Maps.has D (.string x)=true):x∈strKeys D:=by
 obtain ⟨es,rfl,_⟩:=ho.keysOf;simp only [Maps.has,List.any_eq_true] at h;obtain ⟨p,hp,hs⟩:=h;refine Su.2 ⟨p,hp,?_⟩
 cases wp:p.1 <;> rw [wp] at hs <;> simp_all [Lit.sameKey,strOf]
def Zuq:PC w0 nG 27 Zk1:=Zgn (Zf Tryz.func27 kR rfl) fun args σ K h e w vs hS ha=>by
 unfold Zk1 at h
 split at h
 ·rename_i s m
  obtain ⟨S,M,rfl,rfl,⟨hn,hl,hx⟩,h⟩:=h;obtain ⟨u,v,rfl,hu,hv⟩:=ZgZ ha;have hv0:=hv
  cases hu with
  | mp _ dr =>
  cases hv with
  | mp _ bv =>
  obtain ⟨D0,ho,ji,hsz⟩:=Zjw (P:=Tryz.prog) (k:=9) Tryz.underlying9 (hS.box 0 _ rfl) hn hl hx;have zh:∀W,Grows w W->∀s:Bs,(Instr.lookup 43 (.map (some (e.β 1))) (.string ⟨s.toArray⟩) false).run Tryz.prog W=.ok (.bool (ZjJ M s)) W:=fun W hg s=>ZrG (hS.box 1 _ rfl) (hg.old _ (hS.lt bv)) s
  have Kd:=string_keyed Tryz.underlying9
  suffices hc:Calls Tryz.prog 27 #[.map (some (e.β 0)),.map (some (e.β 1))] w fun en w'=>en=.returned (.bool (ZaJ S M))/\w.grownBy w' none by
   refine hc.mono ?_
   rintro en w' ⟨rfl,hg⟩
   exact ⟨_,_,rfl,h _ rfl,⟨hg.os,hg.tape,hg.output,hg.size,fun b hb=>hg.block b hb sM⟩,.d _ _ (.bool _)⟩
  go_enter Tryz.func27,Tryz.ntmps27
  go_wp2_with (first
   | (at_range;refine wpList_range_own _ rfl _ 43 rfl 9 4 Kd Tryz.underlying43 _ _ _ _ rfl ho ?_;intro w0 adf hg0 rz)
   | go_in)
  go_loopw [5] (fun _ wr=>∃(left:Lit->Bool) (cnt:Nat) (ss:List Bs),wr.ranges Tryz.prog 9 (fun _=>some (.nil,[])) (e.β 0) w.heap.size (mvM mvB S).length D0 left cnt/\w.grownBy wr none/\Collected D0 left ss/\∀s∈ss,ZjJ M s=true)
   (fun _ wr=>wr.rangeLeft (e.β 0) w.heap.size)
  case atStart=>exact ⟨_,_,[],adf,hg0,Collected.start D0,fun s hs=>by cases hs⟩
  case round =>
   obtain ⟨left,cnt,ss,hrg,hgw,hC,dk⟩:=hrel
   go_wp2_with (first
    | (at_next;refine wpList_next_ranges _ rfl _ rfl 9 Kd _ encStr id (fun key kl hk=>by obtain ⟨x,hx,_⟩:=Maps.keyOf_str Tryz.underlying9 hk;exact ⟨x,hx⟩) (fun v _ _=>⟨v,rfl⟩) (e.β 0) w.heap.size _ _ _ _ rfl hrg ?_ ?_)
    | go_in)
   ·intro jg og
    have hp:=(hC.perm ho Kd Tryz.underlying9 og).trans ji;have hw:ZaJ S M=true:=Tm.2 fun x hx=>dk _ (hp.mem_iff.2 (by rw [VM];exact List.mem_map_of_mem hx))
    go_wp2
    go_ret
    rw [hw];exact ⟨rfl,hgw⟩
   intro x c kl yd yp w2 cnt2 o5 adg pi ww n5 zi aa uc fx hen
   obtain ⟨x',ex,rfl,_⟩:=Maps.keyOf_str Tryz.underlying9 o5;obtain rfl:x=x':=encStr_inj ex;have l6:=hgw.andThen uc (fun j hj=>by cases hj;exact Or.inl (Tr _));have hst:=hC.step adg n5;have hlx:=zh w2 ⟨l6.os,l6.tape,l6.output,l6.size,fun b hb=>l6.block b hb sM⟩ x
   cases hb:ZjJ M x with
   | false =>
    rw [hb] at hlx;have hw:ZaJ S M=false:=by
     have dm:x∈(mvM mvB S).map (·.1):=ji.mem_iff.1 (Zup ho ((hst.2 x).1 sM).1)
     rw [VM] at dm;obtain ⟨p,hp,rfl⟩:=Su.1 dm;exact List.all_eq_false.2 ⟨p,hp,by rw [hb];simp⟩
    go_wp2
    go_ret
    exact ⟨rfl,l6⟩
   | true =>
   rw [hb] at hlx
   go_wp2
   go_roundw
   case rel=>exact ⟨_,cnt2,ss++[x],zi,l6,hst,fun s hs=>by rcases TE.1 hs with hs | hs;exact dk s hs;simp at hs;subst hs;exact hb⟩
   case measure=>rw [zi.left_eq,hrg.left_eq];exact aa
 exact h.elim
end Go.PM.Lex
end

section
namespace Go.PM.Lex
open Go.Proofs Go.RowKit Go.Maps Go.WideElems
variable {w0:World} {nG:Nat}
def ZhK:∀(M:Bv) (i:Nat),(J6 (mvM mvB M))[2 * i]?=(M[i]?).map (fun x=>PV.d (.str x.1))/\(J6 (mvM mvB M))[2 * i+1]?=(M[i]?).map fun x=>PV.d (.bool x.2)
 | [],i=>by simp [mvM,J6]
 | (k,v)::M,0=>⟨rfl,rfl⟩
 | (k,v)::M,i+1=>by
  have:=ZhK M i;rw [show 2 * (i+1)=2 * i+2 by omega];simpa [mvM,J6] using this
def ZbD (m:Bv):(mvM mvB m).length=m.length:=by unfold mvM;exact Td ..
abbrev Zur (x:Bs×Bool):Value×Value:=(encStr x.1,.bool x.2)
def Zus {e:Env} {σ:St} {w:World} {M:Bv} {b:Nat} (hB:BRel (GG w0 nG) e σ w (.dmap (mvM mvB M)) b):∃es ck,w.heap[b]?=some (.map es ck)/\((es.toList.map (·.born)).Nodup/\∀x∈es.toList,x.born<ck)/\es.toList.map (fun u=>(u.key,u.val))=M.map Zur:=by
 obtain ⟨bn,ck,⟨li,fx⟩,es,h1,h2,h3,h4⟩:=hB;rw [J8,ZbD] at h3;have hb:es.toList.map (·.born)=bn:=List.ext_getElem? fun i=>by
  exact mq120
 refine ⟨es,ck,h1,⟨hb ▸ li,fun x hx=>fx _ (hb ▸ List.mem_map_of_mem hx)⟩,List.ext_getElem? fun i=>?_⟩;rw [Ti,Ti,TF]
 cases hu:es[i]? with
 | none=>rw [Sp (by have:=Array.getElem?_eq_none_iff.1 hu;omega)];rfl
 | some u =>
 obtain ⟨_,kk,x,g1,g2,g3,g4⟩:=h4 i u hu;obtain ⟨q1,q2⟩:=ZhK M i;rw [q1] at g1;rw [q2] at g2
 cases hm:M[i]? with
 | none=>rw [hm] at g1;cases g1
 | some y =>
 rw [hm] at g1 g2
 cases g1
 cases g2
 have g5:=g4.dbool;simp only [TY,Zur,encStr,g3,g5]
def Zut {e:Env} {σ:St} {w:World} {M:Bv} {b:Nat} {es:Array MapEntry} {ck:Nat} (h1:w.heap[b]?=some (.map es ck)) (h2:(es.toList.map (·.born)).Nodup) (h3:∀x∈es.toList,x.born<ck) (h:es.toList.map (fun u=>(u.key,u.val))=M.map Zur):BRel (GG w0 nG) e σ w (.dmap (mvM mvB M)) b:=by
 have hl:es.size=M.length:=by have:=congrArg List.length h;simpa using this
 refine ⟨es.toList.map (·.born),ck,⟨h2,fun x hx=>by obtain ⟨u,hu,rfl⟩:=Su.1 hx;exact h3 u hu⟩,es,h1,sM,by rw [J8,ZbD];simp [hl],fun i u hu=>?_⟩
 have q:=congrArg (fun t=>t[i]?) h;simp only [Ti,TF,hu,TY] at q;obtain ⟨q1,q2⟩:=ZhK M i
 cases hm:M[i]? with
 | none=>rw [hm] at q;cases q
 | some y =>
 rw [hm] at q q1 q2;simp only [TY,Option.some.injEq,Zur,Prod.mk.injEq] at q;refine ⟨by simp [hu],y.1,_,q1,q2,q.1,?_⟩;rw [q.2];exact .d _ _ (.bool _)
def rdB:Value->Option (DataW Unit×List MemPlace)
 | .bool b=>some (.lit (.bool b),[])
 | _=>none
def ZrH (x:Bs×Bool):Lit×DataW Unit:=(.string x.1,.lit (.bool x.2))
def Zuu {l k:Bv} (h:(l.map ZrH).Perm (k.map ZrH)):l.Perm k:=by
 have q:=h.map fun p:Lit×DataW Unit=>(strOf p.1,match p.2 with | .lit (.bool b)=>b | _=>false)
 rw [Sj,Sj] at q;have hid:(fun p:Lit×DataW Unit=>(strOf p.1,match p.2 with | .lit (.bool b)=>b | _=>false))∘ZrH=id:=rfl;rw [hid,List.map_id,List.map_id] at q;exact q
def Zzz {W:World} {b1 b2:Nat} {O:Bv} (hc:W.cell? ⟨b1,0,none⟩=some (.map (some b2))) (s:Bs) (v:Value) (hl:(Instr.lookup 43 (.map (some b2)) (.string ⟨s.toArray⟩) false).run Tryz.prog W=.ok (.bool (ZjJ O s)) W) :
  Calls Tryz.prog 44 #[encStr s,v,.pointer (some ⟨b1,0,none⟩)] W fun e w'=>e=.returned (.bool (!ZjJ O s))/\W.grownBy w' none:=by
 unfold encStr
 go_enter Tryz.func44,Tryz.ntmps44
 go_wp2
 go_ret
 exact ⟨rfl,rfl,rfl,rfl,Tr _,fun _ _ _=>rfl⟩
def ZzA {W:World} {b1 b2:Nat} {O:Bv} (hc:W.cell? ⟨b1,0,none⟩=some (.map (some b2))) (s:Bs) (v:Value) (hl:(Instr.lookup 43 (.map (some b2)) (.string ⟨s.toArray⟩) false).run Tryz.prog W=.ok (.bool (ZjJ O s)) W) :
  Calls Tryz.prog 91 #[encStr s,v,.pointer (some ⟨b1,0,none⟩)] W fun e w'=>e=.returned (.bool (!ZjJ O s))/\W.grownBy w' none:=by
 unfold encStr
 go_enter Tryz.func91,Tryz.ntmps91
 go_wp2
 go_ret
 exact ⟨rfl,rfl,rfl,rfl,Tr _,fun _ _ _=>rfl⟩
def ZCQ {u:MapEntry} {x:Bs×Bool} (h:(u.key,u.val)=Zur x) (hx:x.1.length<=1073741824):rd Tryz.prog 9 rdB u=some (ZrH x):=by
 simp only [Zur,Prod.mk.injEq] at h;have hm:x.1.length<=maxLen:=TN hx dM;unfold rd
 rw [h.1,h.2];simp [Go.keyOf,Tryz.underlying9,mapKey,encStr,ByteArray.size,hm,rdB,ZrH]
def ZzB {es:Array MapEntry} {M:Bv} (h:es.toList.map (fun u=>(u.key,u.val))=M.map Zur) (hx:∀x∈M.map (·.1),x.length<=1073741824):(∀u∈es.toList,∃y,rd (H:=Unit) Tryz.prog 9 rdB u=some y)/\es.toList.map (rg Tryz.prog 9 rdB)=M.map ZrH:=by
 have key:∀(i:Nat) (u:MapEntry),es.toList[i]?=some u->∃x,M[i]?=some x/\rd Tryz.prog 9 rdB u=some (ZrH x):=fun i u hu=>by
  have q:=congrArg (fun t=>t[i]?) h;simp only [Ti,hu,TY] at q
  cases hm:M[i]? with
  | none=>rw [hm] at q;cases q
  | some x =>
  rw [hm] at q;exact ⟨x,rfl,ZCQ (Option.some.inj q) (hx _ (List.mem_map_of_mem (T1 hm)))⟩
 have hl:es.toList.length=M.length:=by have:=congrArg List.length h;simpa using this
 refine ⟨fun u hu=>?_,List.ext_getElem? fun i=>?_⟩
 ·obtain ⟨i,hi⟩:=List.getElem?_of_mem hu;obtain ⟨x,_,g⟩:=key i u hi;exact ⟨_,g⟩
 rw [Ti,Ti]
 cases hu:es.toList[i]? with
 | none=>rw [Sp (by have:=List.getElem?_eq_none_iff.1 hu;omega)];rfl
 | some u =>
 obtain ⟨x,g1,g2⟩:=key i u hu;rw [g1];simp only [TY,rg,g2,Sn]
def ZzC {es:Array MapEntry} (h:∀u∈es.toList,∃y,rd (H:=Unit) Tryz.prog 9 rdB u=some y):∃M:Bv,es.toList.map (fun u=>(u.key,u.val))=M.map Zur/\es.toList.map (rg Tryz.prog 9 rdB)=M.map ZrH:=by
 generalize es.toList=l at h
 induction l with
 | nil=>exact ⟨[],rfl,rfl⟩
 | cons u l ih =>
 obtain ⟨M,g1,g2⟩:=ih fun v hv=>h v (TG _ hv)
 obtain ⟨y,hy⟩:=h u (List.mem_cons_self ..);have hy2:=hy;unfold rd at hy
 obtain ⟨kl,hk,hy⟩:=Option.bind_eq_some_iff.1 hy;obtain ⟨y2,hr,rfl⟩:=TB.1 hy;obtain ⟨x,e1,rfl,_⟩:=Maps.keyOf_str Tryz.underlying9 hk
 cases hv:u.val with
 | bool b =>
  rw [hv] at hr
  cases hr
  exact ⟨(x,b)::M,by simp [Zur,g1,e1,hv],by simp [rg,hy2,ZrH,g2]⟩
 | _=>rw [hv] at hr;cases hr
def ZmA:Zk:=fun args σ K=>match args,σ with
 | [.mp 0,.func f [] [.ptr 1 0]],⟨[.dmap s,.cells t [.mp 2],.dmap o],[],0⟩=>∃S O,s=mvM mvB S/\o=mvM mvB O/\((f=44\/f=91)/\(S.map (·.1)).Nodup/\S.length<=1073741824/\∀x∈S.map (·.1),x.length<=1073741824) /\
   ∀S',S'.Perm (JZ O S)->K (.ret (.tuple [])) ⟨[.dmap (mvM mvB S'),.cells t [.mp 2],.dmap (mvM mvB O)],[],0⟩
 | _,_=>False
def ZvO:PC w0 nG 43 ZmA where
 enters:=Zf Tryz.func43 kR rfl
 calls:=fun args σ K hs n e w vs hS ha=>by
  unfold ZmA at hs
  split at hs
  ·rename_i f s t o
   obtain ⟨S,O,rfl,rfl,⟨hf,hn,hl,hx⟩,h⟩:=hs;obtain ⟨u,v,rfl,hu,hv⟩:=ZgZ ha
   cases hu with
   | mp _ dr =>
   cases hv with
   | func _ _ _ va vc hva vd _ h2 =>
   obtain ⟨va⟩:=va;obtain rfl:va=[]:=Sd.1 hva;obtain ⟨vc⟩:=vc
   match vc,vd with
   | [pv],_ =>
   have hp:=h2 0 _ pv rfl rfl
   cases hp with
   | ptr _ _ bv =>
   obtain ⟨cs,q1,q2,q3⟩:=hS.box 1 _ rfl;obtain ⟨cs⟩:=cs
   match cs,q2 with
   | [mv],_ =>
   have hm:=(q3 0 _ mv rfl rfl).1
   cases hm with
   | mp _ dq =>
   have ax:w.cell? ⟨e.β 1,0,none⟩=some (.map (some (e.β 2))):=by simp [World.cell?,q1]
   obtain ⟨es,ck,g1,⟨g2,g3⟩,g4⟩:=Zus (hS.box 0 _ rfl);obtain ⟨r1,r2⟩:=ZzB g4 hx;have hes:es.size=S.length:=by have:=congrArg List.length g4;simpa using this
   have lm:(es.toList.map (·.key)).Nodup:=by
    have q:=congrArg (List.map Prod.fst) g4;rw [Sj,Sj] at q;have q:es.toList.map (·.key)=(S.map (·.1)).map encStr:=by rw [Sj];exact q
    rw [q];exact List.Pairwise.map _ (fun a b g e=>g (encStr_inj e)) hn
   have ho:w.ownsMap Tryz.prog 9 rdB (e.β 0) es.size (.map ((es.toList.map (rg Tryz.prog 9 rdB)).foldr DataW.insert [])):=⟨es,ck,g1,⟨TN oM (show 1073741824<=maxLen by decide),⟨g3,g2,lm⟩,r1⟩,Tr _,rfl⟩
   have ux:e.β 1≠e.β 0:=fun g=>absurd (hS.inj 1 0 bv dr g) dM
   have ue:e.β 2≠e.β 0:=fun g=>absurd (hS.inj 2 0 dq dr g) dM
   have adh:=hS.lt bv;have av:=hS.lt dq;have adi:∀(W:World) (key val:Value) (kl:Lit) (yd:DataW Unit) (yp:List MemPlace),w.grownBy W (some (e.β 0))->Go.keyOf Tryz.prog 9 key=some kl->rdB val=some (yd,yp) ->
     Calls Tryz.prog f (#[key,val]++#[.pointer (some ⟨e.β 1,0,none⟩)]) W fun e w'=>e=.returned (.bool (!ZjJ O (strOf kl)))/\W.grownBy w' none:=fun W key val kl yd yp hg hk hr=>by
    obtain ⟨x,rfl,rfl,_⟩:=Maps.keyOf_str Tryz.underlying9 hk;have hcW:W.cell? ⟨e.β 1,0,none⟩=some (.map (some (e.β 2))):=by rw [<- ax];simp [World.cell?,hg.block _ adh (by simpa using ux)]
    have hlW:=ZrG (W:=W) (hS.box 2 _ rfl) (hg.block _ av (by simpa using ue)) x;rcases hf with rfl | rfl
    ·exact Zzz hcW x val hlW
    exact ZzA hcW x val hlW
   have f5:XR Tryz.prog f:=by
    rcases hf with rfl | rfl
    ·exact Zf Tryz.func44 kR rfl
    exact Zf Tryz.func91 kR rfl
   have hc:=AnyDf.maps_DeleteFunc Tryz.del43 (string_keyed Tryz.underlying9) rdB (fun kl _=>!ZjJ O (strOf kl)) f _ (e.β 0) es.size _ w f5 ho adi;refine CallsIn.mono (callsIn_wide.2 hc) fun en w' hh=>?_
   obtain ⟨rfl,⟨es',ck',p1,p2,p3,p4⟩,hg⟩:=hh;obtain ⟨S',t1,t2⟩:=ZzC p2.reads;have ji:S'.Perm (JZ O S):=by
    have e1:((es.toList.map (rg Tryz.prog 9 rdB)).foldr DataW.insert []).Perm (S.map ZrH):=by rw [<- r2];exact WideShapes.sorted_perm _
    have e2:=WideShapes.sorted_perm (es'.toList.map (rg Tryz.prog 9 rdB));rw [Lib.deleteFuncD,DataW.map.injEq] at p4
    change _=(es'.toList.map (rg Tryz.prog 9 rdB)).foldr DataW.insert [] at p4
    rw [<- p4,t2] at e2;have e3:=e2.symm.trans (e1.filter _);rw [List.filter_map] at e3;have e4:=Zuu e3;refine e4.trans (.of_eq (List.filter_congr fun x _=>?_));simp [ZrH,strOf]
   have zj:=hS.lt dr;obtain ⟨hst,gt⟩:=Vu (x':=.dmap (mvM mvB S')) (b:=0) hS rfl (w1:=w.putObj (e.β 0) (.map es' ck')) rfl rfl rfl (by simp [World.putObj]) (fun k hk=>World.putObj_heap_other hk) fun _=>Zut (World.putObj_heap_same zj) p2.stamped.2.1 p2.stamped.1 t1
   have wi:Grows (w.putObj (e.β 0) (.map es' ck')) w':=⟨hg.os,hg.tape,hg.output,by simpa [World.putObj] using hg.size,fun b hb=>by
    by_cases hbe:b=e.β 0
    ·subst hbe;rw [p1,World.putObj_heap_same zj]
    rw [World.putObj_heap_other hbe];exact hg.block b (by simpa [World.putObj] using hb) (by simpa using hbe)⟩
   exact ⟨.ret (.tuple []),_,e,h S' ji,⟨_,rfl,.tuple _ _ rfl (fun i x u hx=>by simp at hx)⟩,gt.grow wi,hst.toLater.trans (wi.stepped e _).toLater⟩
  exact hs.elim
end Go.PM.Lex
end

section
namespace Go.PM.Lex
def EqS (m k:Bv):Prop:=(∀t,lkM t m=lkM t k)/\m.length=k.length
def EqS.refl (m:Bv):EqS m m:=⟨fun _=>rfl,rfl⟩
def ZrI (t:Bs) (m:Bv) (s:Bs):lkM s (Z2 t true m)=if s=t then some true else lkM s m:=by
 exact mq68
def ZmB (t:Bs) (m:Bv):(Z2 t true m).length=if (lkM t m).isNone=true then m.length+1 else m.length:=by
 exact mq95
variable {m k o p:Bv}
def EqS.put (h:EqS m k) (t:Bs):EqS (Z2 t true m) (Z2 t true k):=⟨fun s=>by rw [ZrI,ZrI,h.1],by rw [ZmB,ZmB,h.1,h.2]⟩
def Zk2 {t:Bs} {b:Bool}:∀{m:Bv},(m.map (·.1)).Nodup->(lkM t m=some b↔(t,b)∈m)
 | [],_=>by simp [lkM]
 | (y,v)::m,hn=>by
  simp only [Tz,List.nodup_cons] at hn;have ih:=Zk2 (t:=t) (b:=b) hn.2;simp only [lkM]
  by_cases h:t=y
  ·subst h;rw [TX rfl];simp only [Tu,Prod.mk.injEq,true_and];exact ⟨fun g=>.inl (Option.some.inj g).symm,fun g=>g.elim (fun g=>by rw [g]) fun g=>absurd (List.mem_map_of_mem (f:=(·.1)) g) hn.1⟩
  rw [decide_eq_false h];simp only [Tu,Prod.mk.injEq,h,false_and,false_or];exact ih
def EqS.perm (h:m.Perm k) (hn:(k.map (·.1)).Nodup):EqS m k:=by
 have hm:(m.map (·.1)).Nodup:=(h.map _).nodup_iff.2 hn
 refine ⟨fun t=>Option.ext fun b=>?_,h.length_eq⟩;rw [Zk2 hm,Zk2 hn,h.mem_iff]
def EqS.has (h:EqS m k):ZjJ m=ZjJ k:=funext fun t=>by unfold ZjJ;rw [h.1]
def EqS.free (h:EqS m k):Zco m=Zco k:=funext fun x=>by unfold Zco;rw [h.1]
def EqS.ask (h:EqS m k):ZeN m=ZeN k:=funext fun e=>by unfold ZeN;rw [h.free]
def EqS.asks (h:EqS m k):Xp m=Xp k:=funext fun e=>by unfold Xp;rw [h.free]
def EqS.addX (h:EqS m k) (x:Ex):EqS (addX m x) (addX k x):=by
 unfold Lex.addX
 split
 ·exact h.put _
 exact h
def EqS.addXs (h:EqS m k):∀l,EqS (addXs m l) (addXs k l):=fun l=>by
 induction l generalizing m k with
 | nil=>exact h
 | cons x l ih=>exact ih (h.addX x)
def EqS.outLs (h:EqS m k):∀l,EqS (outLs m l) (outLs k l):=fun l=>by
 induction l generalizing m k with
 | nil=>exact h
 | cons x l ih=>exact ih (by obtain ⟨op,rel,args,body,a⟩:=x;exact h.addXs _)
mutual
def EqS.opn (h:EqS m k):∀e,U7 m e=U7 k e
 | .mk op t n args a=>by simp only [U7,h.ask,h.opns args]
def EqS.opns (h:EqS m k):∀l,WK m l=WK k l
 | []=>rfl
 | e::l=>by simp only [WK,h.opn e,h.opns l]
end
mutual
def EqS.pat:∀(e:Ex) {m k:Bv},EqS m k->EqS (ZjI e m) (ZjI e k)
 | .mk op t n args a,m,k,h=>by
  simp only [ZjI];split
  ·exact h.put _
  split
  ·exact EqS.pats args h
  exact h
def EqS.pats:∀(l:List Ex) {m k:Bv},EqS m k->EqS (Uz l m) (Uz l k)
 | [],_,_,h=>h
 | e::l,_,_,h=>EqS.pats l (EqS.pat e h)
end
def EqS.side (h:EqS m k) (a b:Ex):EqS (Z4 m a b) (Z4 k a b):=by
 unfold Z4
 rw [h.ask,h.opn];split
 ·exact EqS.pat _ h
 exact h
mutual
def EqS.fn (h:EqS m k):∀e,Zzn m e=Zzn k e
 | .mk op t n args a=>by simp only [Zzn,h.asks,h.fns args]
def EqS.fns (h:EqS m k):∀l,Zcp m l=Zcp k l
 | []=>rfl
 | e::l=>by simp only [Zcp,h.fn e,h.fns l]
end
mutual
def EqS.ng (h:EqS m k):∀e,Zzo m e=Zzo k e
 | .mk op t n args a=>by simp only [Zzo,h.ask,h.ngs args]
def EqS.ngs (h:EqS m k):∀l,Zcq m l=Zcq k l
 | []=>rfl
 | e::l=>by simp only [Zcq,h.ng e,h.ngs l]
end
def EqS.keep (h:EqS m k):JZ m=JZ k:=funext fun s=>by unfold JZ;rw [h.has]
def EqS.shar (h:EqS m k) (x:Li):V4 x m=V4 x k:=by unfold V4;rw [h.keep]
def ZrJ {s r:Bv} (h:s.Perm r) (m:Bv):ZaJ s m=ZaJ r m:=by
 unfold ZaJ
 rw [Bool.eq_iff_iff,Tm,Tm];exact ⟨fun g x hx=>g x (h.mem_iff.2 hx),fun g x hx=>g x (h.mem_iff.1 hx)⟩
def EqS.wth (h:EqS m k) (s:Bv):ZaJ s m=ZaJ s k:=by unfold ZaJ;rw [h.has]
def EqS.bnd (ho:EqS o p) (x:Li) (h:EqS m k):EqS (Zh1 o m x) (Zh1 p k x):=by
 obtain ⟨op,rel,args,body,a⟩:=x;simp only [Zh1,h.opns,ho.shar,h.wth,h.opn]
 repeat' split
 all_goals first | exact h | exact EqS.pats _ h | exact EqS.pat _ h | exact (h.side ..).side ..
def ZGx (ho:EqS o p):∀(l:List Li) {m k:Bv},EqS m k->EqS (Yj o m l) (Yj p k l)
 | [],_,_,h=>h
 | x::l,_,_,h=>ZGx ho l (ho.bnd x h)
def ZGy (ho:EqS o p) (l:List Li):∀(n:Nat) {m k r:Bv},EqS m k->Zcr o l n m=some r->∃s,Zcr p l n k=some s/\EqS r s
 | 0,_,_,_,_,h=>by cases h
 | n+1,m,k,r,h,g=>by
  have hb:=ZGx ho l h;simp only [Zcr] at g |-;rw [<- hb.2,<- h.2];split at g <;> rename_i hc
  ·rw [Tj hc];exact ZGy ho l n hb g
  rw [Tf hc,<- Option.some.inj g];exact ⟨_,rfl,hb⟩
def EqS.bndF (ho:EqS o p) (l:List Li) (h:EqS m k):EqS (VL o l m) (VL p l k):=by
 obtain ⟨s,h1,h2⟩:=ZGy ho l _ h (ZhC o l m);rw [ZhC] at h1
 cases h1
 exact h2
def EqS.askA (h:EqS m k) (ho:EqS o p):∀x,Zob x m o=Zob x k p
 | .mk op rel args body a=>by simp only [Zob,h.fns,h.ngs,h.asks,ho.shar,h.keep]
def EqS.askAs (h:EqS m k) (ho:EqS o p):∀l,V5 l m o=V5 l k p
 | []=>rfl
 | x::l=>by simp only [V5,h.askA ho x,h.askAs ho l]
def okS (m:Bv):Bool:=decide (m.map (·.1)).Nodup && (decide (m.length<=1000000) && m.all fun x=>decide (x.1.length<=1000000))
mutual
def ZCR:Li->Bool
 | .mk op rel args body a=>decide (op<9) || (!args.isEmpty && (okS (Zro (.mk op rel args body a) []) && Zem body))
def Zem:List Li->Bool
 | []=>true
 | x::l=>ZCR x && Zem l
end
def ZmC (h:okS m=true):(m.map (·.1)).Nodup/\m.length<=1000000/\∀x∈m.map (·.1),x.length<=1000000:=by
 simp only [okS,Tl,TH,Tm] at h;exact ⟨h.1,h.2.1,fun x hx=>by obtain ⟨y,hy,rfl⟩:=Su.1 hx;exact h.2.2 y hy⟩
def ZhL (h:(m.map (·.1)).Nodup/\m.length<=1000000/\∀x∈m.map (·.1),x.length<=1000000):((JZ o m).map (·.1)).Nodup/\(JZ o m).length<=1000000/\∀x∈(JZ o m).map (·.1),x.length<=1000000 :=
 have hs:(JZ o m).Sublist m:=List.filter_sublist
 ⟨(hs.map _).nodup h.1,TN hs.length_le h.2.1,fun x hx=>h.2.2 x ((hs.map _).subset hx)⟩
def Zk3 (h:(m.map (·.1)).Nodup/\m.length<=1000000/\∀x∈m.map (·.1),x.length<=1000000) (g:k.Perm m):(k.map (·.1)).Nodup/\k.length<=1000000/\∀x∈k.map (·.1),x.length<=1000000 :=
 have hs:=g.map (·.1)
 ⟨hs.nodup_iff.2 h.1,by rw [g.length_eq];exact h.2.1,fun x hx=>h.2.2 x (hs.mem_iff.1 hx)⟩
end Go.PM.Lex
end

section
namespace Go.PM.Lex
open Go.Proofs
variable {w0:World} {nG:Nat}
def ZFm:∀m,PC w0 nG 42 (Zek m)
 | 0=>ZrC (ZA (Zf Tryz.func42 kR rfl))
 | m+1=>ZrC (ZB (sp:=Zek) (ZFm m))
def ZmD:Zk:=fun args σ K=>match args,σ with
 | [.agg c,.mp 0],⟨[.dmap mo],[],0⟩=>∃pl x O,c=(YQ pl x).map .d/\mo=mvM mvB O/\(szL x<1099511627776/\okS (Zro x [])=true)/\∀S,S.Perm (V4 x O)->K (.ret (.mp 3)) ⟨[.dmap (mvM mvB O),.cells 30 c,.cells 43 [.mp 0],.dmap (mvM mvB S)],[],0⟩
 | _,_=>False
def ZzD:Tbl:=[(42,Zek 1099511627776),(43,ZmA)]
def ZrK:PC w0 nG 26 ZmD:=by
 refine pwt (tbl:=ZzD) ⟨ZFm _,ZvO,trivial⟩ Tryz.func26 fun args σ K h=>?_
 unfold ZmD at h
 split at h
 ·obtain ⟨pl,⟨b1,b2,b3,b4,b5⟩,O,rfl,rfl,⟨hz,hs⟩,h⟩:=h;refine pwv [] 4 false ?_;refine ⟨pl,.mk b1 b2 b3 b4 b5,[],rfl,rfl,⟨hz,dM⟩,wN ?_⟩;have hk:=ZmC hs;refine ⟨Zro (.mk b1 b2 b3 b4 b5) [],O,rfl,rfl,⟨.inl rfl,hk.1,TN hk.2.1 dM,fun x hx=>TN (hk.2.2 x hx) dM⟩,fun S hS=>wN ?_⟩;have h:=h S hS;exact h
 exact h.elim
def ZDu (l:List Li):Bool:=l.all fun x=>decide (opL x<9) || okS (Zro x [])
def UB:Zk:=fun args σ K=>match args,σ with
 | [.d (.sl rows),.mp 0,.mp 1],⟨[.dmap mv,.dmap mo],[],0⟩=>∃pl l M O,rows=ZL pl l/\mv=mvM mvB M/\mo=mvM mvB O/\(ZDu l=true/\ZfU l<=1099511627776/\M.length+(Vl l).length<=1099511627776)/\K (.ret (.mp 2)) ⟨[.dmap (mvM mvB M),.dmap (mvM mvB O),.dmap (mvM mvB (VL O l M))],[],0⟩
 | _,_=>False
def Zjx:Zx UB:=fun args σ K K' hK h=>by
 unfold UB at h |-
 split at h
 ·obtain ⟨pl,l,M,O,h1,h2,h3,h4,h5⟩:=h;exact ⟨pl,l,M,O,h1,h2,h3,h4,hK _ _ h5⟩
 exact h.elim
def ZzE (O:Bv) (l:List Li) (R:Bv) (N0:Nat) (n:Int) (M':Bv):Prop:=n=(M'.length:Nat)/\(∃k,Zcr O l k M'=some R)/\unB (Vl l) M'+M'.length<=N0
def ZzF {o m:Bv} {op:Nat} {rel:Bs} {e:Ex} {r:List Ex} {body:List Li} {a:Nat} (h:(op=9/\r.length=0)\/(9<op/\op<=12/\r.length=1)):Zh1 o m (.mk op rel (e::r) body a)=if ZaJ (V4 (.mk op rel (e::r) body a) o) m=true/\U7 m e=false then ZjI e m else m:=by
 simp only [Zh1];rw [Tf oM,Tf oM,Tj (by simp only [Te];omega)]
def Zk4 {o m:Bv} {op:Nat} {rel:Bs} {args:List Ex} {body:List Li} {a:Nat} (h1:op≠1) (h3:op≠3) (h:¬((op=9/\args.length=1)\/(9<op/\op<=12/\args.length=2))):Zh1 o m (.mk op rel args body a)=m:=by
 simp only [Zh1];rw [Tf h1,Tf h3,Tf h]
def ZmE:Tbl:=[(21,ZhI),(22,Zgl 1099511627776),(24,Zoj 1099511627776),(25,Zrv),(23,Zju 1099511627776),(26,ZmD),(27,Zk1)]
def Zuv (ht:TO w0 nG ZmE):PC w0 nG 13 UB:=by
 refine YV Zr mixed (tbl:=ZmE) ht Tryz.func13 rfl kR kR ?_;intro args σ K h
 unfold UB at h
 split at h
 ·obtain ⟨pl,l,M,O,rfl,rfl,rfl,⟨ec,hz,fg⟩,h⟩:=h;have hl:(ZL pl l).length=l.length:=by rw [Zq,Td]
  have hsz:=ZaP l;have hR:=ZhC O l M;generalize VL O l M=R at h hR;have hN:unB (Vl l) M+M.length<=M.length+(Vl l).length:=by have:unB (Vl l) M<=(Vl l).length:=List.countP_le_length;omega
  generalize M.length+(Vl l).length=N0 at hN fg;refine ⟨Zg [
   (3,⟨[8],[0,2,7],fun vs σ=>∃(n:Int) (M':Bv),vs=[.d (.int .i64 n)]/\σ=⟨[.dmap (mvM mvB M),.dmap (mvM mvB O),.dmap (mvM mvB M')],[],0⟩/\unB (Vl l) M'+M'.length<=N0/\-1<=n/\((n<(M'.length:Nat)/\∃k,Zcr O l k M'=some R)\/(n=(M'.length:Nat)/\M'=R)),
    fun vs σ=>match vs,σ.bx with | [.d (.int _ n)],[_,_,.dmap m]=>2 * (N0 - m.length)+(if n<(m.length:Nat) then 1 else 0) | _,_=>0⟩),
   (6,⟨[25],[0,2,7,8,23,24],fun vs σ=>∃(n:Int) (M':Bv) (j:Nat),vs=[.d (.sl (ZL pl l)),.mp 1,.mp 2,.d (.int .i64 n),.d (.sl (ZL pl l)),.d (.int .i64 (ZL pl l).length),.d (.int .i64 j)]/\σ=⟨[.dmap (mvM mvB M),.dmap (mvM mvB O),.dmap (mvM mvB (Yj O M' (l.take j)))],[],0⟩/\ZzE O l R N0 n M'/\j<=l.length,
    fun vs _=>match vs with | [_,_,_,_,_,_,.d (.int _ j)]=>((l.length:Int) - j).toNat | _=>0⟩),
   (11,⟨[47],[0,2,7,8,23,24,25,45,46],fun vs σ=>∃(n:Int) (M' M2:Bv) (j i:Nat) (rel:Bs) (ar:List Ex) (body:List Li) (a:Nat),vs=[.d (.sl (ZL pl l)),.mp 1,.mp 2,.d (.int .i64 n),.d (.sl (ZL pl l)),.d (.int .i64 (ZL pl l).length),.d (.int .i64 j),.d (.sl (Ze pl ar)),.d (.int .i64 (Ze pl ar).length),.d (.int .i64 i)]/\σ=⟨[.dmap (mvM mvB M),.dmap (mvM mvB O),.dmap (mvM mvB M2),.cells 30 ((YQ pl (.mk 1 rel ar body a)).map .d)],[],0⟩/\ZzE O l R N0 n M'/\l[j]?=some (.mk 1 rel ar body a)/\Uz (ar.drop i) M2=Yj O M' (l.take (j+1))/\i<=ar.length,
    fun vs _=>match vs with | [_,_,_,_,_,_,_,_,.d (.int _ n),.d (.int _ j)]=>(n - j).toNat | _=>0⟩),
   (17,⟨[63],[0,2,7,8,10,23,24,25],fun vs σ=>∃(n:Int) (M' M2:Bv) (j i:Nat) (rel:Bs) (a b:Ex) (body:List Li) (at':Nat),vs=[.d (.sl (ZL pl l)),.mp 1,.mp 2,.d (.int .i64 n),.ptr 3 0,.d (.sl (ZL pl l)),.d (.int .i64 (ZL pl l).length),.d (.int .i64 j),.d (.int .i64 i)]/\σ=⟨[.dmap (mvM mvB M),.dmap (mvM mvB O),.dmap (mvM mvB M2),.cells 30 ((YQ pl (.mk 3 rel [a,b] body at')).map .d)],[],0⟩/\ZzE O l R N0 n M'/\l[j]?=some (.mk 3 rel [a,b] body at')/\((i=0/\Z4 (Z4 M2 a b) b a=Yj O M' (l.take (j+1)))\/(i=1/\Z4 M2 b a=Yj O M' (l.take (j+1)))\/(i=2/\M2=Yj O M' (l.take (j+1)))),
    fun vs _=>match vs with | [_,_,_,_,_,_,_,_,.d (.int _ j)]=>(2 - j).toNat | _=>0⟩)],Ys [],ZC [6,11,17],3,false,sM,Tc rfl,?_⟩
  conv=>whnf
  refine ⟨⟨-1,M,rfl,rfl,hN,oM,.inl ⟨oM,_,hR⟩⟩,?_⟩
  rintro vs σ1 ⟨n0,M0,rfl,rfl,zk,ez,ry⟩
  have hm0:=ZbD M0;(conv=>whnf);refine ZGg (fun hc=>?_) (fun hc=>?_);rotate_left
  ·have hc:¬n0<((mvM mvB M0).length:Nat):=hc;rcases ry with ⟨q,_⟩ | ⟨_,q⟩
   ·omega
   subst q;exact mq47
  have hc:n0<((mvM mvB M0).length:Nat):=hc;obtain ⟨_,k,hk⟩:n0<(M0.length:Nat)/\∃k,Zcr O l k M0=some R:=ry.elim id fun q=>oM
  conv=>whnf
  refine ⟨⟨_,M0,0,rfl,rfl,⟨by rw [hm0],⟨k,hk⟩,zk⟩,oM⟩,?_⟩
  rintro vs2 σ2 ⟨n,M',j,bq,rfl,⟨hn,⟨k',gl⟩,o6⟩,hj⟩
  have en:n=((mvM mvB M0).length:Nat):=by
   exact mq91
  have bq:vs2=[.d (.int .i64 j)]:=congrArg (List.drop 6) bq;subst bq;subst en;(conv=>whnf);refine ZGg (fun bj=>?_) (fun bj=>?_);rotate_left
  ·have hje:l.length<=j:=by have bj:¬(j:Int)<((ZL pl l).length:Nat):=bj;omega
   rw [List.take_of_length_le hje];have zl:=Zeh (X:=Vl l) O l M' fun t h=>h
   have vg:=ZbD (Yj O M' l);have h1:=zl.2.1;have h2:=zl.2.2
   cases k' with
   | zero=>cases gl
   | succ k' =>
   simp only [Zcr] at gl;generalize Yj O M' l=M1 at gl vg h1 h2;(conv=>whnf);refine ⟨⟨_,M1,rfl,rfl,oM,oM,?_⟩,?_⟩
   ·split at gl
    ·exact .inl ⟨oM,k',gl⟩
    exact .inr ⟨oM,Option.some.inj gl⟩
   show 2 * (N0 - (mvM mvB M1).length)+(if (((mvM mvB M0).length:Nat):Int)<((mvM mvB M1).length:Nat) then 1 else 0)<2 * (N0 - (mvM mvB M0).length)+(if n0<((mvM mvB M0).length:Nat) then 1 else 0);rw [Tj hc];split <;> omega
  have aa:j<l.length:=by have bj:(j:Int)<((ZL pl l).length:Nat):=bj;omega
  have hr:(ZL pl l)[(j:Int).toNat]?=some (YQ pl l[j]):=by rw [Th,Zq,Ti,Tb aa];rfl
  have hg:=ZaN l j aa;have dx:=Tm.1 ec _ (TC aa);have hx:l[j]?=some l[j]:=Tb aa;have hb:=Zog aa O M';have hμ:((l.length:Int) - ((j:Int)+1)).toNat<((l.length:Int) - (j:Int)).toNat:=oM;generalize l[j]=x at hr hg dx hx hb;obtain ⟨b1,b2,b3,b4,b5⟩:=x;have nd:=ZaO (op:=b1) (rel:=b2) (args:=b3) (body:=b4) (a:=b5);have dc:(Ze pl b3).length=b3.length:=by rw [Zc,Td]
  have ni:=Y3 b3;rcases (show b1=1\/b1=3\/(b1=0\/b1=2\/b1=4\/b1=5\/b1=6\/b1=7\/b1=8)\/(b1=9\/b1=10\/b1=11\/b1=12)\/13<=b1 by omega) with rfl | rfl | ho | ho | ho
  rotate_left 2
  ·rcases ho with rfl | rfl | rfl | rfl | rfl | rfl | rfl
   all_goals
    rw [show Zh1 O (Yj O M' (l.take j)) _=Yj O M' (l.take j) from rfl] at hb;(conv=>whnf);refine ⟨_,oM,hr,wN ?_⟩;refine Zi ?_;exact ⟨⟨_,M',j+1,rfl,by rw [hb];rfl,⟨hn,⟨k',gl⟩,o6⟩,oM⟩,hμ⟩
  ·
   have au:okS (Zro (.mk b1 b2 b3 b4 b5) [])=true:=by
    simp only [Sh,TH] at dx;exact dx.resolve_left (show ¬b1<9 by omega)
   have dy:szL (.mk b1 b2 b3 b4 b5)<1099511627776:=oM;generalize Yj O M' (l.take j)=M1 at hb
   cases b3 with
   | nil =>
    rw [Zk4 oM oM sM] at hb;rcases ho with rfl | rfl | rfl | rfl
    all_goals
     conv=>whnf
     refine ⟨_,oM,hr,wN ?_⟩;refine Zi ?_;exact ⟨⟨_,M',j+1,rfl,by rw [hb];rfl,⟨hn,⟨k',gl⟩,o6⟩,oM⟩,hμ⟩
   | cons e r =>
   have hlr:(Ze pl r).length=r.length:=by rw [Zc,Td]
   have hse:szE e<1099511627776:=by simp only [Jn] at nd;omega
   have hw:∀S,S.Perm (V4 (.mk b1 b2 (e::r) b4 b5) O)->ZaJ S M1=ZaJ (V4 (.mk b1 b2 (e::r) b4 b5) O) M1:=fun S hS=>ZrJ hS M1
   rcases ho with rfl | rfl | rfl | rfl
   all_goals
    conv=>whnf
    refine ⟨_,oM,hr,wN ?_⟩;refine ZGg (fun d0=>?_) (fun d0=>?_);rotate_left
    ·rw [Zk4 oM oM (fun q=>d0 (by show (((Ze pl r).length+1:Nat):Int)=_;simp only [Te] at q;omega))] at hb;(conv=>whnf);exact mq34
    rw [ZzF (by have d0:(((Ze pl r).length+1:Nat):Int)=_:=d0;omega)] at hb;(conv=>whnf)
    try (refine ZGg (fun _=>?_) (fun q=>absurd d0 q);conv=>whnf)
    refine ⟨pl,.mk _ b2 (e::r) b4 b5,O,rfl,rfl,⟨dy,au⟩,fun S hS=>wN ?_⟩;rw [<- hw S hS] at hb;have cn:=Zk3 (ZhL (ZmC au)) hS;refine ⟨S,M1,rfl,rfl,⟨by rw [VM];exact cn.1,by rw [ZbD];exact TN cn.2.1 dM,fun x hx=>by rw [VM] at hx;exact TN (cn.2.2 x hx) dM⟩,fun p hp=>?_⟩;rw [hp] at hb
    cases p with
    | false =>
     rw [Tf sM] at hb;(conv=>whnf);exact mq34
    | true =>
    obtain ⟨c1,c2,c3,c4,c5⟩:=e;(conv=>whnf);refine ⟨_,dM,rfl,wN ?_⟩;refine ⟨pl,(.mk c1 c2 c3 c4 c5),M1,rfl,rfl,⟨hse,dM⟩,fun p lh=>?_⟩;have lh:U7 M1 (.mk c1 c2 c3 c4 c5)=p:=lh
    cases p with
    | true =>
     rw [Tf (by rw [lh];simp)] at hb;(conv=>whnf);exact mq34
    | false =>
    rw [Tj ⟨rfl,lh⟩] at hb;(conv=>whnf);refine ⟨_,dM,rfl,wN ?_⟩;refine ⟨pl,(.mk c1 c2 c3 c4 c5),M1,rfl,rfl,⟨hse,dM⟩,wN ?_⟩;exact mq34
  ·
   rw [Zk4 oM oM oM] at hb;(conv=>whnf);refine ⟨_,oM,hr,wN ?_⟩;refine ZGg (fun q=>absurd q (show ¬(b1:Int)=1 by omega)) (fun _=>wN ?_);refine ZGg (fun q=>absurd q (show ¬(b1:Int)=3 by omega)) (fun _=>wN ?_);refine ZGg (fun q=>absurd q (show ¬(b1:Int)=9 by omega)) (fun _=>wN ?_);refine ZGg (fun _=>?_) (fun q=>absurd (show (b1:Int)>9 by omega) q);(conv=>whnf);refine ZGg (fun q=>absurd q (show ¬(b1:Int)<=12 by omega)) (fun _=>wN ?_);exact mq34
  ·
   conv=>whnf
   refine ⟨_,oM,hr,wN ?_⟩;refine ⟨pl,b3,_,rfl,rfl,⟨rfl,oM,oM⟩,fun d hd=>?_⟩;have hd:D.bool (WK (Yj O M' (l.take j)) b3)=d:=hd;obtain ⟨ob,uj⟩:∃ob,WK (Yj O M' (l.take j)) b3=ob:=⟨_,rfl⟩
   rw [uj] at hd;subst hd
   cases ob with
   | true =>
    rw [show Zh1 O (Yj O M' (l.take j)) (.mk 1 b2 b3 b4 b5)=Yj O M' (l.take j) by show (if WK (Yj O M' (l.take j)) b3=false then Uz b3 (Yj O M' (l.take j)) else Yj O M' (l.take j))=_;rw [Tf (by rw [uj];simp)]] at hb;(conv=>whnf);exact mq34
   | false =>
   rw [show Zh1 O (Yj O M' (l.take j)) (.mk 1 b2 b3 b4 b5)=Uz b3 (Yj O M' (l.take j)) by show (if WK (Yj O M' (l.take j)) b3=false then Uz b3 (Yj O M' (l.take j)) else Yj O M' (l.take j))=_;rw [Tj uj]] at hb;(conv=>whnf);refine ⟨⟨_,M',_,j,0,b2,b3,b4,b5,rfl,rfl,⟨hn,⟨k',gl⟩,o6⟩,hx,hb.symm,oM⟩,?_⟩
   rintro vs3 σ3 ⟨n2,M3,M2,j2,i,rel,ar,bd,a,bq,rfl,hP,bo,hp,hi⟩
   have en:n2=((mvM mvB M0).length:Nat):=by
    exact mq91
   have ej:j2=j:=by
    have e:=Option.some.inj (congrArg (fun t:List PV=>t[6]?) bq);exact mq134
   subst en ej;rw [hx] at bo
   cases bo
   have bq:vs3=[.d (.int .i64 i)]:=congrArg (List.drop 9) bq;subst bq;(conv=>whnf);refine ZGg (fun d0=>?_) (fun d0=>?_);rotate_left
   ·have u7:b3.length<=i:=by have d0:¬(i:Int)<((Ze pl b3).length:Nat):=d0;omega
    rw [Tp u7] at hp;have hp:M2=Yj O M3 (l.take (j2+1)):=hp;subst hp;(conv=>whnf);refine Zi ?_;exact ⟨⟨_,M3,j2+1,rfl,rfl,hP,oM⟩,hμ⟩
   have lx:i<b3.length:=by have d0:(i:Int)<((Ze pl b3).length:Nat):=d0;omega
   rw [ZbB lx] at hp;have tq:(Ze pl b3)[(i:Int).toNat]?=some (ZF pl b3[i]):=by rw [Th,Zc,Ti,Tb lx];rfl
   have hg3:=YC b3 i lx;generalize b3[i]=y at hp tq hg3;obtain ⟨c1,c2,c3,c4,c5⟩:=y;(conv=>whnf);refine ⟨_,oM,tq,wN ?_⟩;refine ⟨pl,.mk c1 c2 c3 c4 c5,M2,rfl,rfl,⟨oM,oM⟩,wN ?_⟩;refine Zi ?_;refine ⟨⟨_,M3,_,j2,i+1,b2,b3,b4,b5,rfl,rfl,hP,hx,hp,oM⟩,?_⟩;exact mq193
  
  match b3,dc,ni,nd,hg,hr,hx,hb with
  | [],dc,ni,nd,hg,hr,hx,hb =>
   exact mq164
  | [c],dc,ni,nd,hg,hr,hx,hb =>
   exact mq164
  | c::d::e::f,dc,ni,nd,hg,hr,hx,hb =>
   exact mq164
  | [.mk c1 c2 c3 c4 c5,.mk d1 d2 d3 d4 d5],dc,ni,nd,hg,hr,hx,hb =>
   have wa:szE (.mk c1 c2 c3 c4 c5)<1099511627776:=by simp only [Jn] at nd;omega
   have hsb:szE (.mk d1 d2 d3 d4 d5)<1099511627776:=by simp only [Jn] at nd;omega
   rw [show Zh1 O (Yj O M' (l.take j)) (.mk 3 b2 [.mk c1 c2 c3 c4 c5,.mk d1 d2 d3 d4 d5] b4 b5)=Z4 (Z4 (Yj O M' (l.take j)) (.mk c1 c2 c3 c4 c5) (.mk d1 d2 d3 d4 d5)) (.mk d1 d2 d3 d4 d5) (.mk c1 c2 c3 c4 c5) from rfl] at hb;(conv=>whnf);refine ⟨_,oM,hr,wN ?_⟩;refine ⟨⟨_,M',_,j,0,b2,.mk c1 c2 c3 c4 c5,.mk d1 d2 d3 d4 d5,b4,b5,rfl,rfl,⟨hn,⟨k',gl⟩,o6⟩,hx,.inl ⟨rfl,hb.symm⟩⟩,?_⟩
   rintro vs3 σ3 ⟨n2,M3,M2,j2,i,rel,ea,eb,bd,a,bq,rfl,hP,bo,hp⟩
   have en:n2=((mvM mvB M0).length:Nat):=by
    exact mq91
   have ej:j2=j:=by
    have e:=Option.some.inj (congrArg (fun t:List PV=>t[7]?) bq);exact mq134
   subst en ej;rw [hx] at bo
   cases bo
   have bq:vs3=[.d (.int .i64 i)]:=congrArg (List.drop 8) bq;subst bq;rcases hp with ⟨rfl,hp⟩ | ⟨rfl,hp⟩ | ⟨rfl,hp⟩
   ·have hN1:∀q,Z4 M2 (.mk c1 c2 c3 c4 c5) (.mk d1 d2 d3 d4 d5)=q->Z4 q (.mk d1 d2 d3 d4 d5) (.mk c1 c2 c3 c4 c5)=Yj O M3 (l.take (j2+1)):=fun q e=>by rw [<- e];exact hp
    conv=>whnf
    refine XS ?_;refine ⟨_,dM,rfl,wN ?_⟩;refine ⟨pl,(.mk d1 d2 d3 d4 d5),M2,rfl,rfl,⟨hsb,oM⟩,fun p ma=>?_⟩;have ma:(ZeN M2 (.mk d1 d2 d3 d4 d5)).isNone=p:=ma
    cases p with
    | false =>
     have e1:Z4 M2 (.mk c1 c2 c3 c4 c5) (.mk d1 d2 d3 d4 d5)=M2:=by unfold Z4;rw [Tf (fun q=>by rw [ma] at q;cases q.1)]
     conv=>whnf
     exact mq58
    | true =>
    conv=>whnf
    refine ⟨_,dM,rfl,wN ?_⟩;refine ⟨pl,(.mk c1 c2 c3 c4 c5),M2,rfl,rfl,⟨wa,oM⟩,fun p lh=>?_⟩;have lh:U7 M2 (.mk c1 c2 c3 c4 c5)=p:=lh
    cases p with
    | true =>
     have e1:Z4 M2 (.mk c1 c2 c3 c4 c5) (.mk d1 d2 d3 d4 d5)=M2:=by unfold Z4;rw [Tf (fun q=>by rw [lh] at q;cases q.2)]
     conv=>whnf
     exact mq58
    | false =>
    have e1:Z4 M2 (.mk c1 c2 c3 c4 c5) (.mk d1 d2 d3 d4 d5)=ZjI (.mk c1 c2 c3 c4 c5) M2:=by unfold Z4;rw [Tj ⟨ma,lh⟩]
    conv=>whnf
    refine ⟨_,dM,rfl,wN ?_⟩;refine ⟨pl,(.mk c1 c2 c3 c4 c5),M2,rfl,rfl,⟨wa,oM⟩,wN ?_⟩;exact mq58
   ·have hN1:∀q,Z4 M2 (.mk d1 d2 d3 d4 d5) (.mk c1 c2 c3 c4 c5)=q->q=Yj O M3 (l.take (j2+1)):=fun q e=>by rw [<- e];exact hp
    conv=>whnf
    refine XS ?_;refine ⟨_,dM,rfl,wN ?_⟩;refine ⟨pl,(.mk c1 c2 c3 c4 c5),M2,rfl,rfl,⟨wa,oM⟩,fun p ma=>?_⟩;have ma:(ZeN M2 (.mk c1 c2 c3 c4 c5)).isNone=p:=ma
    cases p with
    | false =>
     have e1:Z4 M2 (.mk d1 d2 d3 d4 d5) (.mk c1 c2 c3 c4 c5)=M2:=by unfold Z4;rw [Tf (fun q=>by rw [ma] at q;cases q.1)]
     conv=>whnf
     exact mq57
    | true =>
    conv=>whnf
    refine ⟨_,dM,rfl,wN ?_⟩;refine ⟨pl,(.mk d1 d2 d3 d4 d5),M2,rfl,rfl,⟨hsb,oM⟩,fun p lh=>?_⟩;have lh:U7 M2 (.mk d1 d2 d3 d4 d5)=p:=lh
    cases p with
    | true =>
     have e1:Z4 M2 (.mk d1 d2 d3 d4 d5) (.mk c1 c2 c3 c4 c5)=M2:=by unfold Z4;rw [Tf (fun q=>by rw [lh] at q;cases q.2)]
     conv=>whnf
     exact mq57
    | false =>
    have e1:Z4 M2 (.mk d1 d2 d3 d4 d5) (.mk c1 c2 c3 c4 c5)=ZjI (.mk d1 d2 d3 d4 d5) M2:=by unfold Z4;rw [Tj ⟨ma,lh⟩]
    conv=>whnf
    refine ⟨_,dM,rfl,wN ?_⟩;refine ⟨pl,(.mk d1 d2 d3 d4 d5),M2,rfl,rfl,⟨hsb,oM⟩,wN ?_⟩;exact mq57
   subst hp;(conv=>whnf);refine Zi ?_;exact ⟨⟨_,M3,j2+1,rfl,rfl,hP,oM⟩,hμ⟩
 exact h.elim
mutual
def ZzG:∀e:Ex,(nvE e).length<=szE e
 | .mk op t n args a=>by
  have:=ZhM args;simp only [nvE,szE];split
  ·simp only [Te,Tg];omega
  omega
def ZhM:∀l:List Ex,(Zhw l).length<=Jn l
 | []=>Tr _
 | e::l=>by
  have h1:=ZzG e;have h2:=ZhM l;simp only [Zhw,Jn,Ta];omega
end
mutual
def ZzH:∀x:Li,(nvL x).length<=szL x
 | .mk op rel args body a=>by
  have h1:=ZhM args;have h2:=ZaQ body;simp only [nvL,szL,Ta];rw [<- Wq];omega
def ZaQ:∀l:List Li,(Vl l).length<=ZfU l
 | []=>Tr _
 | x::l=>by
  have h1:=ZzH x;have h2:=ZaQ l;simp only [Vl,ZfU,Ta];omega
end
def EqS.symm {m k:Bv} (h:EqS m k):EqS k m:=⟨fun t=>(h.1 t).symm,h.2.symm⟩
def ZzI {α:Type} (l:List α):cut l (Int.toNat 1) l.length=l.drop 1:=by
 rw [cut,T7];rfl
def ZrL:PC w0 nG 13 UB:=Zuv ⟨Zmx,ZEC _,ZFk _,ZrA,Zzv _,ZrK,Zuq,trivial⟩
def Zoo (args:List Ex) (body:List Li) (m o s:Bv):Option Ex:=match Xp (VL (outLs s body) body (JZ m s)) (args.drop 1) with
 | some x=>some x
 | none=>V5 body (VL (outLs s body) body (JZ m s)) (outLs s body)
def ZzJ {m o:Bv} {op:Nat} {rel:Bs} {args:List Ex} {body:List Li} {a:Nat} (h:9<=op):Zob (.mk op rel args body a) m o=match Xp m (args.take 1) with | some x=>some x | none=>Zoo args body m o (V4 (.mk op rel args body a) o):=by
 simp only [Zob,Zoo];rw [Tf oM,Tf oM,Tf oM]
 cases Xp m (args.take 1) <;> rfl
def ZzK {m o:Bv} {op:Nat} {rel:Bs} {args:List Ex} {body:List Li} {a:Nat} (h:op<9) (h1:op≠1) (h2:op≠2):Zob (.mk op rel args body a) m o=Xp m args:=by
 simp only [Zob];rw [Tf h1,Tf h2,Tj h]
def Zjy {l:List Li} (h:Zem l=true):∀{i:Nat} (hi:i<l.length),ZCR l[i]=true:=by
 induction l with
 | nil=>intro i hi;cases hi
 | cons x l ih =>
 simp only [Zem,Tl] at h;intro i hi
 cases i with
 | zero=>exact h.1
 | succ i=>exact ih h.2 (by simpa using hi)
def Zk5 {op:Nat} {rel:Bs} {args:List Ex} {body:List Li} {a:Nat} (h:ZCR (.mk op rel args body a)=true) (ho:9<=op):args≠[]/\okS (Zro (.mk op rel args body a) [])=true/\Zem body=true:=by
 simp only [ZCR,Sh,TH,Tl] at h;have h:=h.resolve_left oM;exact ⟨fun g=>by rw [g] at h;simp at h,h.2.1,h.2.2⟩
def ZmF {l:List Li} (h:Zem l=true):ZDu l=true:=Tm.2 fun x hx=>by
 obtain ⟨i,hi,rfl⟩:=T5 hx;have g:=Zjy h hi;generalize l[i]=x at g;obtain ⟨op,rel,args,body,a⟩:=x;simp only [Sh,TH,opL]
 by_cases ho:op<9
 ·exact .inl (TX ho)
 exact .inr (Zk5 g oM).2.1
def J2 (n:Nat):Zk:=fun args σ K=>match args,σ with
 | [.mp 0,.d (.sl rows),.mp 1],⟨[.dmap mv,.dmap mo],[],0⟩=>∃pl l M O,rows=ZL pl l/\mv=mvM mvB M/\mo=mvM mvB O/\(Zem l=true/\ZfU l<n/\n<=1000000000000)/\(V5 l M O=none->K (.ret (.tuple [])) ⟨[.dmap (mvM mvB M),.dmap (mvM mvB O)],[],0⟩) /\
   ∀x,V5 l M O=some x->K (.panic (.iface 75 (.agg [.d (.int .i64 (pl (atX x)))]))) ⟨[.dmap (mvM mvB M),.dmap (mvM mvB O)],[],0⟩
 | _,_=>False
def Zjz (n:Nat):Zx (J2 n):=fun args σ K K' hK h=>by
 unfold J2 at h |-
 split at h
 ·obtain ⟨pl,l,M,O,h1,h2,h3,h4,h5,h6⟩:=h;exact ⟨pl,l,M,O,h1,h2,h3,h4,fun g=>hK _ _ (h5 g),fun x g=>hK _ _ (h6 x g)⟩
 exact h.elim
def ZmG (n:Nat):Zk:=fun args σ K=>match args,σ with
 | [.mp 0,.agg c,.mp 1],⟨[.dmap mv,.dmap mo],[],0⟩=>∃pl op rel args body a M O,c=(YQ pl (.mk op rel args body a)).map .d/\mv=mvM mvB M/\mo=mvM mvB O/\((9<=op/\ZCR (.mk op rel args body a)=true)/\szL (.mk op rel args body a)<n/\n<=1000000000000)/\(Zoo args body M O (V4 (.mk op rel args body a) O)=none->K (.ret (.tuple [])) ⟨[.dmap (mvM mvB M),.dmap (mvM mvB O)],[],0⟩) /\
   ∀x,Zoo args body M O (V4 (.mk op rel args body a) O)=some x->K (.panic (.iface 75 (.agg [.d (.int .i64 (pl (atX x)))]))) ⟨[.dmap (mvM mvB M),.dmap (mvM mvB O)],[],0⟩
 | _,_=>False
def ZzM {n:Nat}:OKw w0 nG [(26,ZmD),(21,ZhI),(43,ZmA),(10,Zcd),(13,UB),(30,ZaM),(31,J2 n)] 52 (ZmG n):=by
 refine pwo Tryz.func52 fun args σ K h=>?_
 unfold ZmG at h
 split at h
 ·obtain ⟨pl,b1,b2,b3,b4,b5,M,O,rfl,rfl,rfl,⟨⟨ho,hf⟩,hz,hn⟩,h1,h2⟩:=h;obtain ⟨ai,au,hfb⟩:=Zk5 hf ho;have nd:=ZaO (op:=b1) (rel:=b2) (args:=b3) (body:=b4) (a:=b5);have hgb:=Zmy (op:=b1) (rel:=b2) (args:=b3) (body:=b4) (a:=b5);have ni:=Zjv b3 1;have dc:(Ze pl b3).length=b3.length:=by rw [Zc,Td]
  have ahn:=Y3 b3;have hnv:=ZaQ b4;have lh:0<b3.length:=List.length_pos_iff.2 ai;refine pwv [] 2 false ?_;refine ⟨pl,.mk b1 b2 b3 b4 b5,O,rfl,rfl,⟨oM,au⟩,fun S hS=>?_⟩;have wc:=ZhL (o:=O) (ZmC au);have cn:=Zk3 wc hS;have eS:EqS S (V4 (.mk b1 b2 b3 b4 b5) O):=.perm hS wc.1;generalize V4 (.mk b1 b2 b3 b4 b5) O=S0 at h1 h2 hS eS;(conv=>whnf);(conv=>whnf);refine ⟨S,M,rfl,rfl,⟨.inr rfl,cn.1,TN cn.2.1 dM,fun x hx=>TN (cn.2.2 x hx) dM⟩,fun A hA=>wN ?_⟩;have lc:=ZhL (o:=M) cn;have eA:EqS A (JZ M S0):=.perm (hA.trans (hS.filter _)) (ZhL (Zk3 cn hS.symm)).1;have tu:=hA.length_eq;refine ⟨pl,b4,S,rfl,rfl,oM,?_⟩;have eO:=eS.outLs b4;have eB:=eO.bndF b4 eA;generalize outLs S b4=O2 at eO eB;(conv=>whnf);refine ⟨pl,b4,A,O2,rfl,rfl,rfl,⟨ZmF hfb,oM,by have:=lc.2.1;omega⟩,?_⟩;have eq:Zoo b3 b4 M O S0=match Xp (VL O2 b4 A) (b3.drop 1) with | some x=>some x | none=>V5 b4 (VL O2 b4 A) O2:=by
   unfold Zoo
   rw [<- eB.asks,eB.symm.askAs eO.symm]
  rw [eq] at h1 h2;generalize VL O2 b4 A=R at h1 h2;(conv=>whnf);refine ⟨encEs_w pl b3,wN ?_⟩;refine ⟨oM,oM,wN ?_⟩;refine ⟨pl,b3.drop 1,R,(ZzI _).trans (Zgm ..).symm,rfl,oM,fun hy=>wN ?_,fun y hy=>wN ?_⟩
  ·rw [hy] at h1 h2;refine ⟨pl,b4,R,O2,rfl,rfl,rfl,⟨hfb,oM,hn⟩,fun hb=>wN ?_,fun y hb=>wN ?_⟩
   ·have h1:=h1 hb;exact h1
   have h2:=h2 y hb;exact h2
  rw [hy] at h2;have h2:=h2 y rfl;exact h2
 exact h.elim
def ZmH (n:Nat):Tbl:=[(50,Zok 1099511627776),(51,Zol 1099511627776),(30,ZaM),(52,spB ZmG n)]
def ZmI {n:Nat} (ht:TO w0 nG (ZmH n)):PC w0 nG 31 (J2 n):=by
 refine YV Zr mixed (tbl:=ZmH n) ht Tryz.func31 rfl kR kR ?_;intro args σ K h
 unfold J2 at h
 split at h
 ·obtain ⟨pl,l,M,O,rfl,rfl,rfl,⟨ec,hz,hn⟩,h1,h2⟩:=h;have hl:(ZL pl l).length=l.length:=by rw [Zq,Td]
  have hsz:=ZaP l;refine ⟨Zg [(1,⟨[14],[0,2,12,13],fun vs σ=>∃j:Nat,vs=[.d (.int .i64 j)]/\σ=⟨[.dmap (mvM mvB M),.dmap (mvM mvB O)],[],0⟩/\j<=l.length/\V5 l M O=V5 (l.drop j) M O,
    mu1 l.length⟩),
   (7,⟨[36],[0,2,12,13,14,34,35],fun vs σ=>∃(j i:Nat) (rel:Bs) (ar:List Ex) (body:List Li) (a:Nat),vs=[.mp 0,.mp 1,.d (.sl (ZL pl l)),.d (.int .i64 (ZL pl l).length),.d (.int .i64 j),.d (.sl (Ze pl ar)),.d (.int .i64 (Ze pl ar).length),.d (.int .i64 i)]/\σ=⟨[.dmap (mvM mvB M),.dmap (mvM mvB O),.cells 30 ((YQ pl (.mk 1 rel ar body a)).map .d)],[],0⟩/\l[j]?=some (.mk 1 rel ar body a)/\i<=ar.length/\V5 l M O=(match Zcp M (ar.drop i) with | some x=>some x | none=>V5 (l.drop (j+1)) M O),
    fun vs _=>match vs with | [_,_,_,_,_,_,.d (.int _ n),.d (.int _ i)]=>(n - i).toNat | _=>0⟩),
   (13,⟨[51],[0,2,12,13,14,49,50],fun vs σ=>∃(j i:Nat) (rel:Bs) (ar:List Ex) (body:List Li) (a:Nat),vs=[.mp 0,.mp 1,.d (.sl (ZL pl l)),.d (.int .i64 (ZL pl l).length),.d (.int .i64 j),.d (.sl (Ze pl ar)),.d (.int .i64 (Ze pl ar).length),.d (.int .i64 i)]/\σ=⟨[.dmap (mvM mvB M),.dmap (mvM mvB O),.cells 30 ((YQ pl (.mk 2 rel ar body a)).map .d)],[],0⟩/\l[j]?=some (.mk 2 rel ar body a)/\i<=ar.length/\V5 l M O=(match Zcq M (ar.drop i) with | some x=>some x | none=>V5 (l.drop (j+1)) M O),
    fun vs _=>match vs with | [_,_,_,_,_,_,.d (.int _ n),.d (.int _ i)]=>(n - i).toNat | _=>0⟩)],Ys [],ZC [7,13],2,false,sM,Tc rfl,?_⟩
  conv=>whnf
  refine ⟨⟨0,rfl,rfl,oM,rfl⟩,?_⟩
  rintro vs σ1 ⟨j,rfl,rfl,hj,ha⟩
  conv=>whnf
  refine ZGg (fun hc=>?_) (fun hc=>?_);rotate_left
  ·have ez:l.length<=j:=by have hc:¬(j:Int)<((ZL pl l).length:Nat):=hc;omega
   rw [Tp ez] at ha;have h1:=h1 ha;(conv=>whnf);exact h1
  have aa:j<l.length:=by have hc:(j:Int)<((ZL pl l).length:Nat):=hc;omega
  have hr:(ZL pl l)[(j:Int).toNat]?=some (YQ pl l[j]):=by rw [Th,Zq,Ti,Tb aa];rfl
  have hg:=ZaN l j aa;have dx:=Zjy ec aa;have hx:l[j]?=some l[j]:=Tb aa;have hd:=Zoc (m:=M) (o:=O) aa;have hμ:((l.length:Int) - ((j:Int)+1)).toNat<((l.length:Int) - (j:Int)).toNat:=oM;generalize l[j]=x at hr hg dx hx hd;rw [hd] at ha;obtain ⟨b1,b2,b3,b4,b5⟩:=x;have nd:=ZaO (op:=b1) (rel:=b2) (args:=b3) (body:=b4) (a:=b5);have dc:(Ze pl b3).length=b3.length:=by rw [Zc,Td]
  have ni:=Y3 b3;rcases (show b1=1\/b1=2\/(b1=0\/b1=3\/b1=4\/b1=5\/b1=6\/b1=7\/b1=8)\/9<=b1 by omega) with rfl | rfl | ho | ho
  ·rw [show Zob (.mk 1 b2 b3 b4 b5) M O=Zcp M b3 from by simp [Zob]] at ha;(conv=>whnf);refine ⟨_,oM,hr,wN ?_⟩;refine ⟨⟨j,0,b2,b3,b4,b5,rfl,rfl,hx,oM,ha⟩,?_⟩
   rintro vs3 σ3 ⟨j2,i,rel,ar,bd,a,bq,rfl,bo,hi,ff⟩
   have ej:j2=j:=by
    have e:=Option.some.inj (congrArg (fun t:List PV=>t[4]?) bq);exact mq134
   subst ej;rw [hx] at bo
   cases bo
   have bq:vs3=[.d (.int .i64 i)]:=congrArg (List.drop 7) bq;subst bq;rw [ff] at h1 h2;(conv=>whnf);refine ZGg (fun d0=>?_) (fun d0=>?_);rotate_left
   ·exact mq111
   have lx:i<b3.length:=by have d0:(i:Int)<((Ze pl b3).length:Nat):=d0;omega
   have nz:=Zgg (m:=M) lx;exact mq38
  ·rw [show Zob (.mk 2 b2 b3 b4 b5) M O=Zcq M b3 from by simp [Zob]] at ha;(conv=>whnf);refine ⟨_,oM,hr,wN ?_⟩;refine ⟨⟨j,0,b2,b3,b4,b5,rfl,rfl,hx,oM,ha⟩,?_⟩
   rintro vs3 σ3 ⟨j2,i,rel,ar,bd,a,bq,rfl,bo,hi,ff⟩
   have ej:j2=j:=by
    have e:=Option.some.inj (congrArg (fun t:List PV=>t[4]?) bq);exact mq134
   subst ej;rw [hx] at bo
   cases bo
   have bq:vs3=[.d (.int .i64 i)]:=congrArg (List.drop 7) bq;subst bq;rw [ff] at h1 h2;(conv=>whnf);refine ZGg (fun d0=>?_) (fun d0=>?_);rotate_left
   ·exact mq111
   have lx:i<b3.length:=by have d0:(i:Int)<((Ze pl b3).length:Nat):=d0;omega
   have nz:=ZbC (m:=M) lx;exact mq38
  ·rcases ho with rfl | rfl | rfl | rfl | rfl | rfl | rfl
   all_goals
    rw [ZzK oM oM oM] at ha;rw [ha] at h1 h2;(conv=>whnf);refine ⟨_,oM,hr,wN ?_⟩;refine ⟨pl,b3,M,rfl,rfl,oM,fun hy=>wN ?_,fun z hy=>wN ?_⟩
    ·rw [hy] at ha;exact mq48
    rw [hy] at h2;have h2:=h2 z rfl;exact h2
  obtain ⟨ai,_,_⟩:=Zk5 dx ho;rw [ZzJ ho] at ha;have hw:=fun (h9:(9:Nat)<=b1)=>ho
  cases b3 with
  | nil=>exact absurd rfl ai
  | cons e r =>
  obtain ⟨c1,c2,c3,c4,c5⟩:=e;have gx:Xp M ((Ex.mk c1 c2 c3 c4 c5::r).take 1)=Xp M [.mk c1 c2 c3 c4 c5]:=rfl;rw [gx] at ha;have sa:Jn [.mk c1 c2 c3 c4 c5]<=1099511627776:=by simp only [Jn] at nd |-;omega
  conv=>whnf
  refine ⟨_,oM,hr,wN ?_⟩;refine ZGg (fun q=>absurd q (show ¬(b1:Int)=1 by omega)) (fun _=>wN ?_);refine ZGg (fun q=>absurd q (show ¬(b1:Int)=2 by omega)) (fun _=>wN ?_);refine ZGg (fun q=>absurd q (show ¬(b1:Int)<9 by omega)) (fun _=>wN ?_);refine ⟨_,dM,rfl,wN ?_⟩;refine ⟨pl,[.mk c1 c2 c3 c4 c5],M,rfl,rfl,sa,fun hy=>wN ?_,fun z hy=>wN ?_⟩
  ·rw [hy] at ha;refine ⟨oM,pl,b1,b2,(.mk c1 c2 c3 c4 c5::r),b4,b5,M,O,rfl,rfl,rfl,⟨⟨ho,dx⟩,oM,oM⟩,fun hb=>wN ?_,fun z hb=>wN ?_⟩
   ·rw [hb] at ha;exact mq48
   rw [ha,hb] at h2;have h2:=h2 z rfl;exact h2
  rw [ha,hy] at h2;have h2:=h2 z rfl;exact h2
 exact h.elim
def ZvP:∀n,PC w0 nG 31 (J2 n)
 | 0=>ZmI ⟨ZED _,ZEE _,UA,ZA (Zf Tryz.func52 kR rfl),trivial⟩
 | n+1=>ZmI ⟨ZED _,ZEE _,UA,ZB (sp:=ZmG) (ZzM ⟨ZrK,Zmx,ZvO,ZhJ,ZrL,UA,ZvP n,trivial⟩),trivial⟩
def UW:Zk:=fun args σ K=>match args,σ with
 | [],⟨[],[],0⟩=>K (.ret (.d (.bool true))) ⟨[],[],0⟩
 | _,_=>False
def Zuw:PC w0 nG 83 Zf2:=Zy0 ⟨Zmh,trivial⟩
def ZvQ:PC w0 nG 82 ZaC:=ZqP ⟨Zmh,trivial⟩
def Zce:PC w0 nG 137 VJ:=ZqQ ⟨Zuw,trivial⟩
def ZvR:PC w0 nG 81 Zd5:=ZtS ⟨ZtQ ⟨ZtO ⟨ZtM ⟨ZvQ,trivial⟩,trivial⟩,trivial⟩,trivial⟩
def ZFM:PC w0 nG 47 ZtZ:=ZCs ⟨ZtY ⟨ZtW ⟨ZtU ⟨ZvR,trivial⟩,trivial⟩,trivial⟩,ZvR,ZvQ,Zuw,trivial⟩
def ZzN:PC w0 nG 46 ZcH:=ZqV ⟨ZkN ⟨ZkL,trivial⟩,ZkQ ⟨ZkO,trivial⟩,trivial⟩
def ZCS:PC w0 nG 146 Zhr:=ZqR ⟨Zuw,trivial⟩
def ZzO:PC w0 nG 203 ZaD:=Zn3 ⟨Zce,trivial⟩
def ZEG:PC w0 nG 205 ZqW:=ZCv ⟨Zce,trivial⟩
def ZzP:PC w0 nG 204 ZkT:=ZCw
def ZmJ:PC w0 nG 138 Zd9:=Zt3 ⟨ZzO,ZzP,trivial⟩
def ZmK:PC w0 nG 139 Zea:=Zt5 ⟨ZEG,trivial⟩
def kGv:∀m,PC w0 nG 85 (Zy4 m)
 | 0=>ZCx ⟨ZA (Zf Tryz.func85 kR rfl),ZmJ,trivial⟩
 | m+1=>ZCx ⟨ZB (sp:=Zy4) (kGv m),ZmJ,trivial⟩
def kRt:∀m,PC w0 nG 140 (Zy5 m)
 | 0=>ZvC ⟨ZA (Zf Tryz.func140 kR rfl),ZEG,ZmJ,ZzP,trivial⟩
 | m+1=>ZvC ⟨ZB (sp:=Zy5) (kRt m),ZEG,ZmJ,ZzP,trivial⟩
def ZEH (m:Nat):PC w0 nG 84 (ZqY m):=ZCz ⟨kGv m,Zce,trivial⟩
def ZFN (m:Nat):PC w0 nG 84 (Zt9 m):=ZCC ⟨kRt m,Zce,trivial⟩
def ZCT:∀m,PC w0 nG 86 (Zgb m)
 | 0=>Zq1 ⟨ZA (Zf Tryz.func86 kR rfl),kGv 0,ZEH 0,ZmK,trivial⟩
 | m+1=>Zq1 ⟨ZB (sp:=Zgb) (ZCT m),kGv _,ZEH _,ZmK,trivial⟩
def ZzQ (m:Nat):PC w0 nG 88 (Zgc m):=Zy8 ⟨ZFN m,trivial⟩
def ZCU:∀m,PC w0 nG 89 (Zec m)
 | 0=>Zq8 ⟨ZA (Zf Tryz.func89 kR rfl),kRt 0,ZzQ 0,ZmK,trivial⟩
 | m+1=>Zq8 ⟨ZB (sp:=Zec) (ZCU m),kRt _,ZzQ _,ZmK,trivial⟩
def kH1:PC w0 nG 142 ZDp:=ZEs
def kH2:PC w0 nG 143 ZDq:=ZEw ⟨Zuw,Zze ⟨Zzc ⟨Zza ⟨ZCS,trivial⟩,trivial⟩,trivial⟩,trivial⟩
def ZFn:∀m,PC w0 nG 141 (Zn8 m)
 | 0=>ZvG ⟨ZA (Zf Tryz.func141 kR rfl),kH1,Zce,ZzP,trivial⟩
 | m+1=>ZvG ⟨ZB (sp:=Zn8) (ZFn m),kH1,Zce,ZzP,trivial⟩
def ZFo:∀m,PC w0 nG 141 (Zn9 m)
 | 0=>ZvH ⟨ZA (Zf Tryz.func141 kR rfl),kH2,Zce,ZzP,trivial⟩
 | m+1=>ZvH ⟨ZB (sp:=Zn9) (ZFo m),kH2,Zce,ZzP,trivial⟩
def ZCV (m:Nat):PC w0 nG 90 (Zed m):=Zue ⟨Zre (ZFn m) (ZFo m),trivial⟩
def ZzR (m:Nat):PC w0 nG 49 (ZcM m):=Zrf ⟨ZzQ m,ZCU m,ZCV m,trivial⟩
def ZzS (m:Nat):PC w0 nG 48 (ZcJ m):=Zq6 ⟨ZEH m,ZCT m,trivial⟩
def ZCW {n:Nat} (hp:PC w0 nG 45 (ZqM X2 Zhp Zi5 n)):PC w0 nG 14 (ZhA n):=Zug ⟨Zzl ⟨hp,ZzN,ZFM,ZzS _,ZzR _,trivial⟩,trivial⟩
def recOfG:Nat×Nat×Code:=match ZAw (Xd Tryz.f29) with | some x=>x | none=>(0,0,.skip)
def ZzT:List PV->St->(St->Prop)->Prop:=fun args σ K=>args.length<=Tryz.f29.ntmps/\W (ctx VU [] (Zg [])) recOfG.2.2 (ZsR VU Tryz.f29 σ.bx.length K) (Vn (Vn (Zct 0 args) recOfG.1 (.d .nili)) recOfG.2.1 (.d .nili)) σ
def ZzU:PV->List PV->St->(St->Prop)->Prop:=fun pv args σ K=>args.length<=Tryz.f29.ntmps/\W (ctx VU [] (Zg [])) recOfG.2.2 (ZsR VU Tryz.f29 σ.bx.length K) (Vn (Vn (Zct 0 args) recOfG.1 pv) recOfG.2.1 pv) σ
def ZzV:PDef (GG w0 nG) 29 ZzT ZzU :=
 Zkk (a:=recOfG.1) (b:=recOfG.2.1) (rest:=recOfG.2.2) Zr mixed Tryz.func29 rfl kR rfl kR (fun args σ K h=>⟨Zov VU [] (Zg []) (fun _=>0) (fun _=>false),σ.bx.length,CxG.of (tbl:=[]) Zr trivial trivial _ _ _,Tr _,h.1,h.2⟩) (fun pv args σ K h=>⟨Zov VU [] (Zg []) (fun _=>0) (fun _=>false),σ.bx.length,CxG.of (tbl:=[]) Zr trivial trivial _ _ _,Tr _,h.1,h.2⟩)
def ZEI (pl:Pl):Option Ex->PV
 | some x=>.tuple [.d (.int .i64 (pl (atX x))),.d (.int .i64 190)]
 | none=>.tuple [.d (.int .i64 0),.d (.int .i64 0)]
def Zk6:Zx Zcd:=fun args σ K K' hK h=>by
 unfold Zcd at h |-
 split at h
 ·obtain ⟨pl,l,M,h1,h2,h3,h4⟩:=h;exact ⟨pl,l,M,h1,h2,h3,hK _ _ h4⟩
 exact h.elim
def ZhN:Zk:=fun args σ K=>match args,σ with
 | [.agg c],⟨[],[],0⟩=>∃pl r,c=(ZQ pl r).map .d/\(Zem r.body=true/\Zi0 r<=100000000000)/\∀o,ZDr r=o->K (.ret (ZEI pl o)) ⟨[],[],0⟩
 | _,_=>False
def ZmL:Tbl:=[(17,J0),(10,Zcd),(13,UB),(30,ZaM),(31,J2 1000000000000)]
def Zux (ht:TO w0 nG ZmL):PC w0 nG 15 ZhN:=by
 refine ZcD Zr mixed Tryz.func15 rfl kR kR ZzV ?_;intro args σ K h
 unfold ZhN at h
 split at h
 ·obtain ⟨pl,⟨r1,r2,r3,r4⟩,rfl,⟨ec,hz⟩,h⟩:=h;have co:Jn r2<=100000000000/\ZfU r3<=100000000000:=by
   simp only [Zi0] at hz;rw [<- Wq,<- Zbs] at hz;omega
  have hnv:=ZaQ r3;unfold ZDr at h
  simp only at h ec;refine ⟨Zov VU ZmL (Zg []) (Ys []) (ZC []),0,false,CxG.of Zr ht ⟨Zjt,Zk6,Zjx,Zk0,Zjz _,trivial⟩ _ _ _,sM,Tc rfl,wN ?_⟩;refine ⟨pl,r2,[],rfl,rfl,oM,wN ?_⟩;refine ⟨pl,r3,_,rfl,rfl,oM,?_⟩
  change _ at h
  rw [show Zui ⟨r1,r2,r3,r4⟩=outLs (addXs [] (Ze4 r2)) r3 from rfl] at h;generalize outLs (addXs [] (Ze4 r2)) r3=O at h;(conv=>whnf);refine ⟨pl,r3,[],O,rfl,rfl,rfl,⟨ZmF ec,oM,by simp only [Tg];omega⟩,?_⟩;generalize VL O r3 []=R at h;(conv=>whnf);refine ⟨pl,r2,R,rfl,rfl,oM,fun ho=>wN ?_,fun x ho=>wN ?_⟩
  ·rw [ho] at h;refine ⟨pl,r3,R,O,rfl,rfl,rfl,⟨ec,oM,dM⟩,fun hb=>wN ?_,fun x hb=>wN ?_⟩
   ·have h:=h none hb;refine ⟨Tc rfl,wN ?_⟩;exact h
   have h:=h (some x) hb;refine ⟨Tc rfl,wN ?_⟩;exact h
  rw [ho] at h;have h:=h (some x) rfl;refine ⟨Tc rfl,wN ?_⟩;exact h
 exact h.elim
def Zop {l:List Ru} {j:Nat} (h:j<l.length):Zod (l.drop j)=match ZDr l[j] with | some x=>some x | none=>Zod (l.drop (j+1)):=by
 rw [Tk h];rfl
def Zen (n:Nat):Zk:=fun args σ K=>match args,σ with
 | [.agg c],⟨[],[],0⟩=>∃pl p,c=(Zn0 pl p).map .d/\(Zhp n (prU p)/\n<=16777216/\Zmf p<=2097152)/\(∀r∈p.rules,Zem r.body=true)/\∀a e,Zuj pl p=(a,e)->K (.ret (.tuple [.d (.int .i64 a),.d (.int .i64 e)])) ⟨[],[],0⟩
 | _,_=>False
def Zuz {n:Nat}:OKw w0 nG [(14,ZhA n),(15,ZhN)] 6 (Zen n):=by
 refine pwo Tryz.func6 fun args σ K h=>?_
 unfold Zen at h
 split at h
 ·obtain ⟨pl,⟨p1,p2,p3⟩,rfl,⟨hc,hn,hz⟩,ec,h⟩:=h;have dc:(p3.map (ZQ pl)).length=p3.length:=Td ..;have lh:p3.length<=2097152:=by have:=Zu Zi0 p3;simp only [Zmf] at hz;omega
  have qk:∀r∈p3,Zi0 r<=2097152:=fun r hr=>by have:=Zd3 (f:=Zi0) hr;simp only [Zmf] at hz;omega
  unfold Zuj at h
  simp only at ec h;refine pwu [(5,⟨[22],[20,21],fun vs σ=>∃j:Nat,vs=[.d (.int .i64 j)]/\σ=⟨[.cells 38 ((Zn0 pl ⟨p1,p2,p3⟩).map .d)],[],0⟩/\j<=p3.length/\(Zy3 pl ⟨p1,p2,p3⟩).2=0/\Zod p3=Zod (p3.drop j),
   mu1 p3.length⟩)] 0 false ?_
  conv=>whnf
  refine ⟨pl,⟨p1,p2,p3⟩,rfl,⟨hc,hn,hz⟩,fun a e hae=>wN ?_⟩;refine ZGi (fun he=>wN ?_) (fun he=>wN ?_)
  ·rw [hae,Tj (show (a,e).2≠0 from he)] at h;have h:=h a e rfl;exact h
  have he:e=0:=he;have hk:(Zy3 pl ⟨p1,p2,p3⟩).2=0:=by rw [hae];exact he
  rw [Tf (fun g=>g hk)] at h;refine ⟨⟨0,rfl,rfl,oM,hk,rfl⟩,?_⟩
  rintro vs σ1 ⟨j,rfl,rfl,hj,_,ha⟩
  rw [ha] at h;(conv=>whnf);refine ZGg (fun hq=>?_) (fun hq=>?_);rotate_left
  ·have ez:p3.length<=j:=by have hq:¬(j:Int)<((p3.map (ZQ pl)).length:Nat):=hq;omega
   rw [Tp ez] at h;have h:=h 0 0 rfl;exact mq47
  have aa:j<p3.length:=by have hq:(j:Int)<((p3.map (ZQ pl)).length:Nat):=hq;omega
  have hr:(p3.map (ZQ pl))[(j:Int).toNat]?=some (ZQ pl p3[j]):=by rw [Th,Ti,Tb aa];rfl
  have cp:=TC aa;have jj:=qk _ cp;have zm:=ec _ cp;have hd:=Zop aa;have hμ:((p3.length:Int) - ((j:Int)+1)).toNat<((p3.length:Int) - (j:Int)).toNat:=oM;generalize p3[j]=r at hr jj zm hd;rw [hd] at h ha;obtain ⟨r1,r2,r3,r4⟩:=r;(conv=>whnf);refine ⟨_,oM,hr,wN ?_⟩;refine ⟨pl,⟨r1,r2,r3,r4⟩,rfl,⟨zm,oM⟩,fun o ho=>?_⟩;rw [ho] at h ha
  cases o with
  | none =>
   conv=>whnf
   refine Zi ?_;exact ⟨⟨j+1,rfl,rfl,oM,hk,ha⟩,hμ⟩
  | some x =>
  have h:=h _ _ rfl;exact mq47
 exact h.elim
def ZCX:PC w0 nG 15 ZhN:=Zux ⟨ZhF,ZhJ,ZrL,UA,ZvP _,trivial⟩
def ZrM {n:Nat} (hp:PC w0 nG 45 (ZqM X2 Zhp Zi5 n)):PC w0 nG 6 (Zen n):=Zuz ⟨ZCW hp,ZCX,trivial⟩
end Go.PM.Lex
end

section
namespace Go.PM.Lex
open Go.Proofs Go.RowKit Go.Maps Go.Sort
variable {w0:World} {nG:Nat}
def Zk7:Zk:=fun args σ K=>match args,σ with
 | [.mp 0],⟨[.dmap m],[],0⟩=>K (.ret (.func 20 [] [.ptr 1 0])) ⟨[.dmap m,.cells 43 [.mp 0]],[],0⟩
 | _,_=>False
def ZuA:PC w0 nG 12 Zk7:=by
 refine pwe Tryz.func12 fun args σ K h=>?_
 unfold Zk7 at h
 split at h
 ·refine pwv [] 2 false ?_;exact h
 exact h.elim
def Zeo:Zk:=fun args σ K=>match args,σ with
 | [.func f [] [.ptr 0 0]],⟨[.cells t [.mp 1],.dmap m],[],0⟩=>(f=20/\(m.map (·.1)).Nodup/\m.length<=1073741824/\∀x∈m.map (·.1),x.length<=1073741824) /\
   ∀l:List Bs,l.Perm (m.map (·.1))->ZEF l->K (.ret (.d (.sl (J1 l)))) ⟨[.cells t [.mp 1],.dmap m],[],0⟩
 | _,_=>False
def Zoq:PC w0 nG 11 Zeo:=Zgn (Zf Tryz.func11 kR rfl) fun args σ K h e w vs hS ha=>by
 unfold Zeo at h
 split at h
 ·rename_i f t m
  obtain ⟨⟨rfl,hn,hl,hx⟩,h⟩:=h;obtain ⟨u,rfl,hu⟩:=ZeU ha
  cases hu with
  | func _ _ _ va vc hva vd _ h2 =>
  obtain ⟨va⟩:=va;obtain rfl:va=[]:=Sd.1 hva;obtain ⟨vc⟩:=vc
  match vc,vd with
  | [pv],_ =>
  have hp:=h2 0 _ pv rfl rfl
  cases hp with
  | ptr _ _ dr =>
  obtain ⟨cs,g1,g2,g3⟩:=hS.box 0 _ rfl;obtain ⟨cs⟩:=cs
  match cs,g2 with
  | [mv],_ =>
  have hm:=(g3 0 _ mv rfl rfl).1
  cases hm with
  | mp _ bv =>
  have ax:w.cell? ⟨e.β 0,0,none⟩=some (.map (some (e.β 1))):=by simp [World.cell?,g1]
  obtain ⟨D0,ho,ji,hsz⟩:=Zjw (P:=Tryz.prog) (k:=9) Tryz.underlying9 (hS.box 1 _ rfl) hn hl hx;have adn:=AnyZ.keys_gives (ρ:=Tryz.iter20_ren) Tryz.iter20 Fence.wide 2 trivial rfl oM (e.β 0) (e.β 1) m.length D0 w (hS.lt dr) ax ho;have hc:=AnyZ.sorted_in Tryz.sorted11 Fence.wide 5 trivial trivial trivial trivial rfl oM ⟨fun blk off cap ss W hH fq hsz=>callsIn_wide.2 (AnyM.slices_Sort_string Tryz.sort19 blk off cap ss W hH fq hsz),fun p cap W=>callsIn_wide.2 (AnyM.slices_Sort_string_none Tryz.sort19 p cap W)⟩ (Zf Tryz.func19 kR rfl) 20 _ trivial (Zf Tryz.func20 kR rfl) _ _ (by rw [hsz];exact TN hl dM) (by rw [hsz];omega) w adn;refine (callsIn_wide.1 hc).mono ?_
  rintro en w' ⟨v,ss,rfl,wv,cd,_,ct⟩
  have hp:(ss.mergeSort fun x y=>decide (x<=y)).Perm (m.map (·.1)):=(List.mergeSort_perm ss _).trans (wv.trans ji)
  rw [<- (List.mergeSort_perm ss fun x y=>decide (x<=y)).length_eq] at cd;exact ⟨_,v,rfl,h _ hp ⟨ss,rfl⟩,ZGm ct,.d _ _ (ZrF hS (Tr _) cd)⟩
 exact h.elim
end Go.PM.Lex
end

section
namespace Go.PM.Lex
open Go.Proofs
variable {w0:World} {nG:Nat}
def ZhO:Zk:=fun args σ K=>match args,σ with
 | [.d (.str s),.d (.int .i64 a)],⟨[],[],0⟩=>(0<=a/\a<s.length/\s.length<4294967281)/\K (.ret (.d (.str ((s.drop a.toNat).take (Yg (s.drop a.toNat)))))) ⟨[],[],0⟩
 | _,_=>False
def ZcN {l:Bs} {i:Nat} (h:i<l.length):l.getD i 0=l[i]:=by rw [T2,Tb h];rfl
def ZFO (r:Bs) (x y:UInt8):Lib.hasPrefix r [x,y]=true↔r.take 2=[x,y]:=by
 unfold Lib.hasPrefix
 rw [List.isPrefixOf_iff_prefix,List.prefix_iff_eq_take];exact ⟨fun g=>g.symm,fun g=>g.symm⟩
def ZuB (r:Bs):twos.any (Lib.hasPrefix r)=true↔r.take 2∈twos:=by
 simp only [twos,SA,List.any_nil,Sh,ZFO,Tu,Tv,or_false,Sr]
def ZmM:PC w0 nG 209 ZhO:=by
 refine pwe Tryz.func209 fun args σ K h=>?_
 unfold ZhO at h
 split at h
 ·rename_i s a
  obtain ⟨⟨h0,h1,hs⟩,h⟩:=h;obtain ⟨a,rfl⟩:∃n:Nat,a=n:=⟨a.toNat,oM⟩
  simp only [Th] at h;have hcu:cut s ((a:Int)).toNat (min ((a:Int)+2) (s.length:Int)).toNat=(s.drop a).take 2:=by
   rw [Uj]
   by_cases h4:(a:Int)+2<=s.length
   ·rw [Int.min_eq_left h4];congr 1;omega
   rw [Int.min_eq_right oM,List.take_of_length_le hD,List.take_of_length_le hD];rfl
  have h2:=ZuB (s.drop a);generalize hu:(s.drop a).take 2=u at hcu h2;have sn:u∈twos->K (.ret (.d (.str u))) ⟨[],[],0⟩:=fun g=>by
   rw [Yg,Tj (h2.2 g),hu] at h;exact h
  refine pwv [(6,⟨[7],[0,1,6],fun vs σ=>σ=⟨[],[],0⟩/\∃i:Nat,vs=[.d (.int .i64 i)]/\i<=21/\∀j<i,ones.getD j 0≠s.getD a 0,fun vs _=>match vs with | [.d (.int _ n)]=>(21 - n).toNat | _=>0⟩)] 0 false ?_;refine Zi ?_;refine ⟨oM,oM,oM,wN ?_⟩;rw [hcu];have mem:∀x,x∈twos->u=x->K (.ret (.d (.str u))) ⟨[],[],0⟩:=fun x hx g=>sn (g ▸ hx)
  conv=>whnf
  refine ZGg (fun h3=>wN ?_) (fun h3=>wN ?_)
  ·exact mem _ dM h3
  refine ZGg (fun h4=>wN ?_) (fun h4=>wN ?_)
  ·exact mem _ dM h4
  refine ZGg (fun h5=>wN ?_) (fun h5=>wN ?_)
  ·exact mem _ dM h5
  refine ZGg (fun h6=>wN ?_) (fun h6=>wN ?_)
  ·exact mem _ dM h6
  refine ZGg (fun h7=>wN ?_) (fun h7=>wN ?_)
  ·exact mem _ dM h7
  have i9:¬u∈twos:=fun g=>by
   simp only [twos,Tu,Sr,or_false] at g;rcases g with g | g | g | g | g
   ·exact h3 g
   ·exact h4 g
   ·exact h5 g
   ·exact h6 g
   exact h7 g
  have li:Yg (s.drop a)=if ones.contains (s.getD a 0) then 1 else 0:=by
   rw [Yg,Tf (fun g=>i9 (h2.1 g)),Lib.getD_dropU,Nat.add_zero]
  refine ⟨⟨rfl,0,rfl,oM,oM⟩,?_⟩;intro vs σ1 hI
  obtain ⟨rfl,i,rfl,hi,hj⟩:=hI;(conv=>whnf);have y6:ones.length=21:=rfl;(conv=>whnf);refine ZGg (fun h8=>wN ?_) (fun h8=>wN ?_)
  ·have h8':i<21:=by have:(i:Int)<(21:Int):=h8;omega
   have cu:∀x:UInt8,ones.getD i 0=x->ones.contains x=true:=fun x g=>by
    rw [ZcN (by rw [y6];exact h8')] at g;rw [<- g];simp
   refine ⟨oM,h8,wN ?_⟩;refine ⟨h0,h1,wN ?_⟩;refine ZGg (fun h9=>wN ?_) (fun h9=>wN ?_)
   ·have h9':ones.getD i 0=s.getD a 0:=by
     have:((ones.getD i 0).toNat:Int)=((s.getD a 0).toNat:Int):=h9;exact UInt8.toNat_inj.1 oM
    refine Zi ?_;refine ⟨oM,oM,show (i:Int)+1<=21 by omega,wN ?_⟩;have e:cut ones ((i:Int)).toNat ((i:Int)+1).toNat=(s.drop a).take 1:=by
     rw [Uj,show ((i:Int)+1).toNat - ((i:Int)).toNat=1 by omega,show ((i:Int)).toNat=i from rfl];rw [Tk (by rw [y6];exact h8':i<ones.length),Tk (by omega:a<s.length)];rw [ZcN (by rw [y6];exact h8'),ZcN oM] at h9';rw [List.take_succ_cons,List.take_succ_cons,T6,T6,h9']
    rw [li,cu _ h9',Tj rfl,<- e] at h;exact h
   refine Zi ?_;refine ⟨⟨rfl,i+1,rfl,oM,fun j hj1 g=>?_⟩,?_⟩
   ·rcases Nat.lt_or_ge j i with g1 | g1
    ·exact hj j g1 g
    obtain rfl:j=i:=by omega
    exact h9 (show ((ones.getD j 0).toNat:Int)=((s.getD a 0).toNat:Int) by rw [g])
   exact (show ((21:Int) - ((i:Int)+1)).toNat<((21:Int) - (i:Int)).toNat by omega)
  have h8':21<=i:=by have:¬(i:Int)<(21:Int):=h8;omega
  have hc:ones.contains (s.getD a 0)=false:=by
   rw [Bool.eq_false_iff];intro g
   rw [List.contains_iff_mem] at g;obtain ⟨j,hj1,se⟩:=T5 g;exact hj j (by rw [y6] at hj1;omega) (by rw [ZcN hj1];exact se)
  rw [li,hc,Tf sM,T6] at h;exact h
 exact h.elim
def ZrN (b:UInt8):Bool:=Zm (b.toNat:Int)
def U8 (b:UInt8):Bool:=Zo (b.toNat:Int)
def ZbE (b:UInt8):Bool:=ZrN b || U8 b
def Ze5 (b:UInt8):Bool:=decide (b=9) || (decide (b=10) || (decide (b=13) || decide (b=32)))
def okP (b c:UInt8):Bool:=decide (b.toNat<128) && (decide (b≠34) && (!(decide (b=47) && (decide (c=47) || decide (c=42))) && (!(decide (b=46) && ZrN c) && !(decide (b=48) && decide (c=120)))))
def okT:Bs->Bool
 | []=>true
 | b::s=>okP b (s.getD 0 0) && okT s
def ZvS:∀{s:Bs} {a:Nat},okT s=true->a<s.length->okP (s.getD a 0) (s.getD (a+1) 0)=true
 | b::s,0,h,_=>by simp only [okT,Tl] at h;exact h.1
 | b::s,a+1,h,ha=>by
  simp only [okT,Tl] at h;exact ZvS (s:=s) h.2 (by simpa using ha)
structure OkA (b c:UInt8):Prop where
 lo:b.toNat<128
 qu:b.toNat≠34
 cm:b.toNat=47->¬(c.toNat=47\/c.toNat=42)
 dt:b.toNat=46->ZrN c=false
 hx:b.toNat=48->c.toNat≠120
def ZjA {b:UInt8} {n:Nat} (hn:n<256):b=UInt8.ofNat n↔b.toNat=n:=⟨fun h=>by rw [h];exact UInt8.toNat_ofNat_of_lt hn,fun h=>UInt8.toNat_inj.1 (h.trans (UInt8.toNat_ofNat_of_lt hn).symm)⟩
def okA {s:Bs} {a:Nat} (h:okT s=true) (ha:a<s.length):OkA (s.getD a 0) (s.getD (a+1) 0):=by
 have h:=ZvS h ha;generalize s.getD a 0=b at h;generalize s.getD (a+1) 0=c at h;simp only [okP,Tl,TH,TZ,Bool.and_eq_false_iff,Se,decide_eq_false_iff_not] at h;obtain ⟨h1,h2,h3,h4,h5⟩:=h;have e:=fun (x:UInt8) (n:Nat) (hn:n<256)=>@ZjA x n hn
 exact ⟨h1,fun g=>h2 ((e b 34 dM).2 g),fun g q=>h3.elim (fun k=>k ((e b 47 dM).2 g)) fun k=>q.elim (fun q=>k.1 ((e c 47 dM).2 q)) fun q=>k.2 ((e c 42 dM).2 q),
  fun g=>h4.resolve_left fun k=>k ((e b 46 dM).2 g),fun g q=>h5.elim (fun k=>k ((e b 48 dM).2 g)) fun k=>k ((e c 120 dM).2 q)⟩
def Wy (p:UInt8->Bool) (s:Bs) (a:Nat):Nat:=((s.drop a).takeWhile p).length
def Zep {p:UInt8->Bool} {s:Bs} {a:Nat} (h:a<s.length) (hp:p (s.getD a 0)=true):Wy p s a=Wy p s (a+1)+1:=by
 unfold Wy
 rw [Uo h,T8,Tj hp];rfl
def Zeq {p:UInt8->Bool} {s:Bs} {a:Nat} (h:a<s.length->p (s.getD a 0)=false):Wy p s a=0:=by
 unfold Wy
 by_cases ha:a<s.length
 ·rw [Uo ha,T8,Tf (by rw [h ha];simp)];rfl
 rw [Tp oM];rfl
def ZhP (p:UInt8->Bool) (s:Bs) (a:Nat):Wy p s a<=s.length - a:=by
 unfold Wy
 rw [<- Tx];exact (List.takeWhile_sublist p).length_le
def ZAE:Bs->Nat->Nat
 | [],v=>v
 | b::l,v=>ZAE l (v * 10+(b.toNat - 48))
def ZmN:Zk:=fun args σ K=>match args,σ with
 | [.d (.str s),.d (.int .i64 i)],⟨[],[],0⟩=>∃a:Nat,i=a/\(a<s.length/\s.length<65537/\(s.getD a 0).toNat<128)/\K (.ret (.tuple [.d (.int .i32 (s.getD a 0).toNat),.d (.int .i64 1)])) ⟨[],[],0⟩
 | _,_=>False
def ZmO:PC w0 nG 249 ZmN:=by
 refine pwe Tryz.func249 fun args σ K h=>?_
 unfold ZmN at h
 split at h
 ·rename_i s i
  obtain ⟨a,rfl,⟨h1,hs,hb⟩,h⟩:=h;obtain ⟨u,hu⟩:∃u,cut s ((a:Int)).toNat (min ((a:Int)+4) (s.length:Int)).toNat=s.getD a 0::u:=by
   rw [Uj,Th,Uo h1];obtain ⟨k,hk⟩:∃k,(min ((a:Int)+4) (s.length:Int)).toNat - a=k+1:=⟨(min ((a:Int)+4) (s.length:Int)).toNat - a - 1,oM⟩
   rw [hk];exact ⟨_,rfl⟩
  have hd:decodeL (s.getD a 0::u) 0=((s.getD a 0).toNat,1):=by
   rw [Zdq,Sm,Lib.decodeL_N];simp only [Sv];unfold Lib.decodeN
   rw [Tj oM]
  generalize s.getD a 0=b at hu hd hb h;refine pwv [(2,⟨[],[0,1,16],fun vs σ=>vs=[]/\σ=⟨[.iter (b::u) 0],[],0⟩,fun _ _=>0⟩)] 0 false ?_;refine Zi ?_;refine ⟨oM,oM,oM,wN ?_⟩;rw [hu];refine ⟨⟨rfl,rfl⟩,?_⟩;intro vs σ1 hI
  obtain ⟨rfl,rfl⟩:=hI;(conv=>whnf);rw [hd];(conv=>whnf);refine ZGi (fun _=>wN ?_) (fun g=>absurd g (by show ¬(b.toNat:Int)=65533;omega));refine ZGg (fun _=>?_) (fun g=>absurd (show (b.toNat:Int)<128 by omega) g);exact mq47
 exact h.elim
def Zgo:Zk:=fun args σ K=>match args,σ with
 | [.d (.str s),.d (.int .i64 i)],⟨[],[],0⟩=>∃a:Nat,i=a/\(okT s=true/\s.length<65537)/\K (.ret (.d (.bool (ZrN (s.getD a 0))))) ⟨[],[],0⟩
 | _,_=>False
def ZzW:Tbl:=[(249,ZmN),(250,Zl9)]
def ZhQ:PC w0 nG 207 Zgo:=by
 refine pwt (tbl:=ZzW) ⟨ZmO,ZfV,trivial⟩ Tryz.func207 fun args σ K h=>?_
 unfold Zgo at h
 split at h
 ·rename_i s i
  obtain ⟨a,rfl,⟨ho,hs⟩,h⟩:=h;refine pwv [] 0 false ?_;refine ZGg (fun h1=>wN ?_) (fun h1=>wN ?_)
  ·have h1:(a:Int)>=(s.length:Nat):=h1;rw [show s.getD a 0=0 by rw [T2,Sp oM];rfl] at h;exact h
  have h1:¬(a:Int)>=(s.length:Nat):=h1;refine ⟨a,rfl,⟨oM,hs,(okA ho oM).lo⟩,wN ?_⟩;exact h
 exact h.elim
def ZrO:Zk:=fun args σ K=>match args,σ with
 | [.d (.str s),.d (.int .i64 i)],⟨[],[],0⟩=>∃a:Nat,i=a/\(a<s.length/\okT s=true/\s.length<65537/\ZrN (s.getD a 0)=true)/\K (.ret (Zaj 1 (cut s a (a+Wy ZbE s a)) 0 a (a+Wy ZbE s a:Nat))) ⟨[],[],0⟩
 | _,_=>False
def ZzX:Tbl:=[(249,ZmN),(250,Zl9),(208,Wk),(207,Zgo)]
def ZzY:PC w0 nG 210 ZrO:=by
 refine pwt (tbl:=ZzX) ⟨ZmO,ZfV,Zav,ZhQ,trivial⟩ Tryz.func210 fun args σ K h=>?_
 unfold ZrO at h
 split at h
 ·rename_i s i
  obtain ⟨a,rfl,⟨h1,ho,hs,hl⟩,h⟩:=h;refine pwu [(2,⟨[5],[0,1,4],fun vs σ=>σ=⟨[.cells 166 [.d (.int .u8 0),.d (.str []),.d (.int .i64 0),.d (.int .i64 0),.d (.int .i64 0)]],[],0⟩ /\
   ∃e:Nat,vs=[.d (.int .i64 e)]/\a<=e/\e<=s.length/\e+Wy ZbE s e=a+Wy ZbE s a,muI s.length⟩)] 0 false ?_
  conv=>whnf
  refine ⟨⟨rfl,a,rfl,oM,oM,rfl⟩,?_⟩;intro vs σ1 hI
  obtain ⟨rfl,e,rfl,ha,he,hE⟩:=hI;have fin:Wy ZbE s e=0->K (.ret (Zaj 1 (cut s a e) 0 a e)) ⟨[],[],0⟩:=fun g=>by
   have q:a+Wy ZbE s a=e:=oM;rw [q] at h;exact h
  conv=>whnf
  refine ZGg (fun h2=>?_) (fun h2=>?_);rotate_left
  ·have h2:¬(e:Int)<(s.length:Nat):=h2;have h:=fin (Zeq fun g=>oM);(conv=>whnf);refine ⟨oM,oM,oM,wN ?_⟩;exact h
  have h2:e<s.length:=by have h2:(e:Int)<(s.length:Nat):=h2;omega
  have hk:=okA ho h2;have fu:ZbE (s.getD e 0)=true->e+1+Wy ZbE s (e+1)=a+Wy ZbE s a:=fun g=>by have:=Zep h2 g;omega
  have o7:ZrN (s.getD e 0)=false->a<e:=fun g=>by
   rcases Nat.lt_or_eq_of_le ha with q | rfl
   ·exact q
   rw [hl] at g;cases g
  have i9:ZbE (s.getD e 0)=false->Wy ZbE s e=0:=fun g=>Zeq fun _=>g
  have hdt:=hk.dt;have hμ:((s.length:Int) - ((e:Int)+1)).toNat<((s.length:Int) - (e:Int)).toNat:=oM;obtain ⟨c,hc⟩:∃c,s.getD (e+1) 0=c:=⟨_,rfl⟩
  conv=>whnf
  refine ⟨e,rfl,⟨h2,hs,hk.lo⟩,?_⟩;generalize s.getD e 0=b at fu o7 i9 hdt;(conv=>whnf);refine ZGj (fun h3=>wN ?_) (fun h3=>wN ?_)
  ·have h3:ZrN b=true:=h3;refine Zi ?_;exact ⟨⟨rfl,e+1,rfl,oM,oM,fu (by rw [ZbE,h3];rfl)⟩,hμ⟩
  have h3:ZrN b=false:=h3;have h4:=o7 h3;refine ZGj (fun h5=>wN ?_) (fun h5=>wN ?_)
  ·have h5:U8 b=true:=h5;refine ZGg (fun _=>?_) (fun g=>absurd (show (e:Int)>a by omega) g);(conv=>whnf);refine Zi ?_;exact ⟨⟨rfl,e+1,rfl,oM,oM,fu (by rw [ZbE,h5];simp)⟩,hμ⟩
  have h5:U8 b=false:=h5;have h:=fin (i9 (by rw [ZbE,h3,h5];rfl));refine ZGg (fun h6=>wN ?_) (fun h6=>wN ?_)
  ·have h6:b.toNat=46:=by have h6:(b.toNat:Int)=46:=h6;omega
   refine ZGg (fun _=>?_) (fun g=>absurd (show (e:Int)>a by omega) g);(conv=>whnf);refine Zi ?_;refine ⟨e+1,rfl,⟨ho,hs⟩,?_⟩;rw [hdt h6];(conv=>whnf);refine ⟨oM,oM,oM,wN ?_⟩;exact h
  refine ⟨oM,oM,oM,wN ?_⟩;exact h
 exact h.elim
def ZrP:Zk:=fun args σ K=>match args,σ with
 | [.d (.str s),.d (.int .i64 i)],⟨[],[],0⟩=>∃a:Nat,i=a/\(a<=s.length/\okT s=true/\s.length<65537)/\K (.ret (.tuple [.d (.int .i64 (a+Wy Ze5 s a:Nat)),.d (.int .i64 (-1))])) ⟨[],[],0⟩
 | _,_=>False
def ZFp {s:Bs} {e:Nat} (h:e<s.length):∃u,cut s ((e:Int)).toNat (min ((e:Int)+2) (s.length:Int)).toNat=s.getD e 0::u/\(∀x,u=[x]->s.getD (e+1) 0=x):=by
 rw [Uj,Th,Uo h]
 by_cases h2:e+1<s.length
 ·rw [show (min ((e:Int)+2) (s.length:Int)).toNat - e=2 by omega,Uo h2];exact ⟨[s.getD (e+1) 0],rfl,fun x hx=>by injection hx⟩
 rw [show (min ((e:Int)+2) (s.length:Int)).toNat - e=1 by omega];exact ⟨[],rfl,fun x hx=>by cases hx⟩
def ZzZ:PC w0 nG 147 ZrP:=by
 refine YV Zr mixed (tbl:=[]) trivial Tryz.func147 rfl kR kR ?_;intro args σ K h
 unfold ZrP at h
 split at h
 ·rename_i s i
  obtain ⟨a,rfl,⟨h1,ho,hs⟩,h⟩:=h;refine ⟨Zg [(1,⟨[1],[0],fun vs σ=>σ=⟨[],[],0⟩/\∃e:Nat,vs=[.d (.int .i64 e)]/\e<=s.length/\e+Wy Ze5 s e=a+Wy Ze5 s a,muI s.length⟩)],Ys [],ZC [],0,false,sM,Tc rfl,wN ?_⟩;refine ⟨⟨rfl,a,rfl,h1,rfl⟩,?_⟩;intro vs σ1 hI
  obtain ⟨rfl,e,rfl,he,hE⟩:=hI;have fin:Wy Ze5 s e=0->K (.ret (.tuple [.d (.int .i64 e),.d (.int .i64 (-1))])) ⟨[],[],0⟩:=fun g=>by
   have q:a+Wy Ze5 s a=e:=oM;rw [q] at h;exact h
  conv=>whnf
  refine ZGg (fun h2=>?_) (fun h2=>?_);rotate_left
  ·have h2:¬(e:Int)<(s.length:Nat):=h2;have h:=fin (Zeq fun g=>oM);exact mq47
  have h2:e<s.length:=by have h2:(e:Int)<(s.length:Nat):=h2;omega
  have hk:=okA ho h2;have hcm:=hk.cm;have fu:Ze5 (s.getD e 0)=true->e+1+Wy Ze5 s (e+1)=a+Wy Ze5 s a:=fun g=>by have:=Zep h2 g;omega
  have i9:Ze5 (s.getD e 0)=false->Wy Ze5 s e=0:=fun g=>Zeq fun _=>g
  have hμ:((s.length:Int) - ((e:Int)+1)).toNat<((s.length:Int) - (e:Int)).toNat:=oM;obtain ⟨u,hu,qm⟩:=ZFp h2;have iq:s.getD ((e:Int)).toNat 0=s.getD e 0:=by rw [Th]
  conv=>whnf
  refine ⟨oM,oM,wN ?_⟩;refine Zi ?_;refine ⟨oM,oM,oM,wN ?_⟩;rw [hu,iq];generalize s.getD e 0=b at fu i9 hcm;generalize s.getD (e+1) 0=c at qm hcm;have bc:Ze5 b=true->(e+1<=s.length/\e+1+Wy Ze5 s (e+1)=a+Wy Ze5 s a):=fun g=>⟨oM,fu g⟩
  have e9:=@ZjA b 9 dM;have e10:=@ZjA b 10 dM;have e13:=@ZjA b 13 dM;have e32:=@ZjA b 32 dM
  by_cases hb:Ze5 b=true
  ·obtain ⟨q1,q2⟩:=bc hb;have hn:b.toNat=9\/b.toNat=10\/b.toNat=13\/b.toNat=32:=by
    simp only [Ze5,Sh,TH] at hb;rcases hb with g | g | g | g
    ·exact .inl (e9.1 g)
    ·exact .inr (.inl (e10.1 g))
    ·exact .inr (.inr (.inl (e13.1 g)))
    exact .inr (.inr (.inr (e32.1 g)))
   conv=>whnf
   refine ZGg (fun _=>?_) (fun g1=>?_);rotate_left
   ·conv=>whnf
    refine ZGg (fun _=>?_) (fun g2=>?_);rotate_left
    ·conv=>whnf
     refine ZGg (fun _=>?_) (fun g3=>?_);rotate_left
     ·conv=>whnf
      refine ZGg (fun _=>?_) (fun g4=>?_);rotate_left
      ·have g1:¬(b.toNat:Int)=9:=g1;have g2:¬(b.toNat:Int)=10:=g2;have g3:¬(b.toNat:Int)=13:=g3;have g4:¬(b.toNat:Int)=32:=g4;omega
      all_goals
       conv=>whnf
       refine Zi ?_;exact ⟨⟨rfl,e+1,rfl,q1,q2⟩,hμ⟩
     exact mq130
    exact mq130
   exact mq130
  have hb:Ze5 b=false:=by simpa using hb
  have h:=fin (i9 hb);simp only [Ze5,Se,decide_eq_false_iff_not] at hb;(conv=>whnf);refine ZGg (fun g=>absurd (e9.2 (by have g:(b.toNat:Int)=9:=g;omega)) hb.1) (fun _=>wN ?_);refine ZGg (fun g=>absurd (e10.2 (by have g:(b.toNat:Int)=10:=g;omega)) hb.2.1) (fun _=>wN ?_);refine ZGg (fun g=>absurd (e13.2 (by have g:(b.toNat:Int)=13:=g;omega)) hb.2.2.1) (fun _=>wN ?_);refine ZGg (fun g=>absurd (e32.2 (by have g:(b.toNat:Int)=32:=g;omega)) hb.2.2.2) (fun _=>wN ?_);refine ZGg (fun g=>?_) (fun _=>wN ?_)
  ·have g:b::u=[47,47]:=g
   injection g with g1 g2
   subst g1;exact absurd (.inl (by rw [qm _ g2];rfl)) (hcm rfl)
  refine ZGg (fun g=>?_) (fun _=>wN ?_)
  ·have g:b::u=[47,42]:=g
   injection g with g1 g2
   subst g1;exact absurd (.inr (by rw [qm _ g2];rfl)) (hcm rfl)
  exact h
 exact h.elim
def ZrQ:Zk:=fun args σ K=>match args,σ with
 | [.d (.str s),.d (.int .i64 i)],⟨[],[],0⟩=>∃a:Nat,i=a/\(a<s.length/\okT s=true/\s.length<65537/\U8 (s.getD a 0)=true/\Wy U8 s a<=18/\ZrN (s.getD (a+Wy U8 s a) 0)=false) /\
   K (.ret (.tuple [Zaj 2 [] (ZAE ((s.drop a).takeWhile U8) 0) a (a+Wy U8 s a:Nat),.d (.bool true)])) ⟨[],[],0⟩
 | _,_=>False
def Zz0:Tbl:=[(208,Wk),(207,Zgo)]
def Zz1:PC w0 nG 211 ZrQ:=by
 refine YV Zr mixed (tbl:=Zz0) ⟨Zav,ZhQ,trivial⟩ Tryz.func211 rfl kR kR ?_;intro args σ K h
 unfold ZrQ at h
 split at h
 ·rename_i s i
  obtain ⟨a,rfl,⟨h1,ho,hs,fc,h18,aa⟩,h⟩:=h;obtain ⟨u,hu,qm⟩:=ZFp h1;have wc:=(okA ho h1).hx;have am:=ZhP U8 s a;generalize hE:a+Wy U8 s a=E at h aa;generalize hV:ZAE ((s.drop a).takeWhile U8) 0=V at h;refine ⟨Zg [(10,⟨[7,8],[0,1,4,6],fun vs σ=>∃e n:Nat,vs=[.d (.int .u64 n),.d (.bool true)]/\σ=⟨[.cells 166 [.d (.int .u8 0),.d (.str []),.d (.int .i64 0),.d (.int .i64 0),.d (.int .i64 0)],.cells 166 [.d (.int .u8 2),.d (.str []),.d (.int .i64 0),.d (.int .i64 a),.d (.int .i64 e)]],[],0⟩ /\
   (a<=e/\e<=s.length/\e+Wy U8 s e=E/\n<10 ^ (e - a)/\ZAE ((s.drop e).takeWhile U8) n=V),fun _ σ=>match σ.bx with | [_,.cells _ [_,_,_,_,.d (.int _ n)]]=>((s.length:Int) - n).toNat | _=>0⟩)],Ys [],ZC [],0,false,sM,Tc rfl,?_⟩
  conv=>whnf
  refine Zi ?_;refine ⟨oM,oM,oM,wN ?_⟩;rw [hu];(conv=>whnf);refine ZGg (fun g=>?_) (fun _=>wN ?_)
  ·have g:s.getD a 0::u=[48,120]:=g
   injection g with g1 g2
   exact absurd (by rw [qm _ g2];rfl) (wc (by rw [g1];rfl))
  refine ⟨⟨a,0,rfl,rfl,Tr _,oM,hE,sM,hV⟩,?_⟩;intro vs σ1 hI
  obtain ⟨e,n,rfl,rfl,ha,he,hEe,hn,hVe⟩:=hI;have ahp:10 ^ (e - a)<=10 ^ 18:=Nat.pow_le_pow_right dM oM;have fin:Wy U8 s e=0->e=E/\n=V:=fun g=>⟨oM,by
   have:(s.drop e).takeWhile U8=[]:=TU g;rw [this] at hVe;exact hVe⟩
  have hwr:IntKind.i64.wrap (n:Int)=n:=by
   have h18:n<10 ^ 18:=oM;simp only [IntKind.wrap,show IntKind.i64.bits=64 from rfl,show IntKind.i64.signed=true from rfl,TT];rw [Int.emod_eq_of_lt oM oM,Tf sO]
  have tail:e=E/\n=V->K (.ret (.tuple [.agg [.d (.int .u8 2),.d (.str []),.d (.int .i64 (n:Int)),.d (.int .i64 a),.d (.int .i64 e)],.d (.bool true)])) ⟨[],[],0⟩:=by
   rintro ⟨rfl,rfl⟩
   exact h
  by_cases h2:e<s.length/\U8 (s.getD e 0)=true
  ·obtain ⟨h2,h3⟩:=h2;have hrn:=Zep h2 h3;have iq:s.getD ((e:Int)).toNat 0=s.getD e 0:=by rw [Th]
   have hV2:ZAE ((s.drop (e+1)).takeWhile U8) (n * 10+((s.getD e 0).toNat - 48))=V:=by
    rw [<- hVe,Uo h2,T8,Tj h3];rfl
   have nr:=isDigit_iff.1 h3;have oj:10 ^ (e+1 - a)=10 ^ (e - a) * 10:=by rw [show e+1 - a=e - a+1 by omega,Nat.pow_succ]
   have ahq:10 ^ (e - a)<=10 ^ 17:=Nat.pow_le_pow_right dM oM;obtain ⟨d,hd⟩:∃d:Nat,d=(s.getD e 0).toNat - 48:=⟨_,rfl⟩
   have hdv:((s.getD e 0).toNat:Int) - 48=(d:Int):=oM;rw [<- hd] at hV2;(conv=>whnf);refine ZGg (fun _=>?_) (fun g=>absurd (show (e:Int)<(s.length:Nat) by omega) g);(conv=>whnf);refine ⟨oM,oM,wN ?_⟩;rw [iq];refine Or.inl ⟨InR.i32 oM oM,wN ?_⟩;refine ZGj (fun _=>wN ?_) (fun g=>absurd (h3.symm.trans g) dM);refine ⟨oM,oM,wN ?_⟩;rw [iq];refine W7 ?_;rw [hdv];refine ZaV ?_;refine ZaV ?_;refine ⟨oM,wN ?_⟩;have pq:((9223372036854775807:Int) - (d:Int)).tdiv 10=(9223372036854775807 - (d:Int)) / 10:=Int.tdiv_eq_ediv_of_nonneg oM;rw [pq];refine ZaV ?_;refine ZGg (fun g=>absurd g (show ¬(n:Int)>(9223372036854775807 - (d:Int)) / 10 by omega)) (fun _=>wN ?_);refine ZaV ?_;refine ZaV ?_;refine Zi ?_;exact ⟨⟨e+1,n * 10+d,rfl,rfl,oM,oM,oM,oM,hV2⟩,(show ((s.length:Int) - ((e:Int)+1)).toNat<((s.length:Int) - (e:Int)).toNat by omega)⟩
  have hz:Wy U8 s e=0:=Zeq fun g=>by
   cases q:U8 (s.getD e 0) with
   | false=>rfl
   | true=>exact absurd ⟨g,q⟩ h2
  obtain ⟨rfl,rfl⟩:=fin hz;have h:=tail ⟨rfl,rfl⟩
  by_cases h3:e<s.length
  ·have h4:U8 (s.getD e 0)=false:=by
    cases q:U8 (s.getD e 0) with
    | false=>rfl
    | true=>exact absurd ⟨h3,q⟩ h2
   have hbt:=(s.getD e 0).toNat_lt;have iq:s.getD ((e:Int)).toNat 0=s.getD e 0:=by rw [Th]
   conv=>whnf
   refine ZGg (fun _=>?_) (fun g=>absurd (show (e:Int)<(s.length:Nat) by omega) g);(conv=>whnf);refine ⟨oM,oM,wN ?_⟩;rw [iq];refine Or.inl ⟨InR.i32 oM oM,wN ?_⟩;refine ZGj (fun g=>absurd (h4.symm.trans g) dM) (fun _=>wN ?_);refine Or.inr ?_;rw [hwr];(conv=>whnf);refine ⟨e,rfl,⟨ho,hs⟩,?_⟩;rw [aa];(conv=>whnf)
   repeat (refine ⟨rfl,?_⟩;conv=>whnf)
   refine ZGg (fun g=>absurd g (show ¬(e:Int)>=(s.length:Nat) by omega)) (fun _=>wN ?_);refine ⟨oM,oM,wN ?_⟩;rw [iq];refine Or.inl ⟨InR.i32 oM oM,wN ?_⟩;have h4:Zo ((s.getD e 0).toNat:Int)=false:=h4
   repeat (refine ⟨rfl,?_⟩;conv=>whnf)
   rw [h4];exact h
  conv=>whnf
  refine ZGg (fun g=>absurd (show e<s.length by have g:(e:Int)<(s.length:Nat):=g;omega) h3) (fun _=>wN ?_);refine Or.inr ?_;rw [hwr];(conv=>whnf);refine ⟨e,rfl,⟨ho,hs⟩,?_⟩;rw [aa];(conv=>whnf)
  repeat (refine ⟨rfl,?_⟩;conv=>whnf)
  refine ZGg (fun _=>?_) (fun g=>absurd (show (e:Int)>=(s.length:Nat) by omega) g);(conv=>whnf)
  repeat (refine ⟨rfl,?_⟩;conv=>whnf)
  exact h
 exact h.elim
def ZrR:Zk:=fun args σ K=>match args,σ with
 | [.d (.str s),.d (.int .i64 i)],⟨[],[],0⟩=>∃a:Nat,i=a/\(a<s.length/\okT s=true/\s.length<65537)/\K (.ret (.d (.bool (ZbE (s.getD a 0) || decide (0<Yg (s.drop a)))))) ⟨[],[],0⟩
 | _,_=>False
def Zz2:Tbl:=[(207,Zgo),(208,Wk),(209,ZhO)]
def Zz3:PC w0 nG 148 ZrR:=by
 refine pwt (tbl:=Zz2) ⟨ZhQ,Zav,ZmM,trivial⟩ Tryz.func148 fun args σ K h=>?_
 unfold ZrR at h
 split at h
 ·rename_i s i
  obtain ⟨a,rfl,⟨h1,ho,hs⟩,h⟩:=h;have hq:=(okA ho h1).qu;have hbt:=(s.getD a 0).toNat_lt;have iq:s.getD ((a:Int)).toNat 0=s.getD a 0:=by rw [Th]
  refine pwv [] 0 false ?_;refine ⟨a,rfl,⟨ho,hs⟩,wN ?_⟩;unfold ZbE U8 at h
  refine ZGj (fun h2=>wN ?_) (fun h2=>wN ?_)
  ·rw [h2] at h;exact h
  rw [h2] at h;refine ⟨oM,oM,wN ?_⟩;rw [iq];refine Or.inl ⟨InR.i32 oM oM,wN ?_⟩;refine ZGj (fun h3=>wN ?_) (fun h3=>wN ?_)
  ·rw [h3] at h;exact h
  rw [h3] at h;refine ⟨oM,oM,wN ?_⟩;rw [iq];refine ZGg (fun g=>absurd (show (s.getD a 0).toNat=34 by have g:((s.getD a 0).toNat:Int)=34:=g;omega) hq) (fun _=>wN ?_);refine ⟨⟨oM,oM,oM⟩,wN ?_⟩;have hl:((s.drop a).take (Yg (s.drop a))).length=0↔Yg (s.drop a)=0:=by rw [List.length_take,Tx];omega
  refine ZbW h ?_;have e:∀n,(decide (0<n))=!(decide (n=0)):=fun n=>by cases n <;> simp
  simp only [Bool.false_or];rw [e]
  congr 1
  rw [decide_eq_decide,<- hl];exact Sd
 exact h.elim
def ZCY (s:Bs) (a:Nat):Option Tok :=
 if ZrN (s.getD a 0)=true then some ⟨1,cut s a (a+Wy ZbE s a),0,a,a+Wy ZbE s a⟩
 else if U8 (s.getD a 0)=true then (if Wy U8 s a<=18/\ZrN (s.getD (a+Wy U8 s a) 0)=false then some ⟨2,[],ZAE ((s.drop a).takeWhile U8) 0,a,a+Wy U8 s a⟩ else none)
 else if 0<Yg (s.drop a) then some ⟨4,(s.drop a).take (Yg (s.drop a)),0,a,a+Yg (s.drop a)⟩ else none
def ZuC {s:Bs} {a:Nat} {t:Tok} (ha:a<s.length) (h:ZCY s a=some t):a<t.fin/\t.fin<=s.length/\ZbE (s.getD a 0)=true\/(0<Yg (s.drop a)/\t.fin=a+Yg (s.drop a)/\t.fin<=s.length):=by
 unfold ZCY at h
 split at h
 ·rename_i g
  cases h
  have h1:=ZhP ZbE s a;have h2:=Zep (p:=ZbE) ha (by rw [ZbE,g];rfl);exact .inl ⟨by show a<a+Wy ZbE s a;omega,by show a+Wy ZbE s a<=_;omega,by rw [ZbE,g];rfl⟩
 split at h
 ·rename_i g
  split at h
  ·cases h
   have h1:=ZhP U8 s a;have h2:=Zep (p:=U8) ha g;exact .inl ⟨by show a<a+Wy U8 s a;omega,by show a+Wy U8 s a<=_;omega,by rw [ZbE,g];simp⟩
  cases h
 split at h
 ·rename_i g
  cases h
  have h1:=Zg7 (s.drop a) hD;rw [Tx] at h1;exact .inr ⟨g,rfl,by show a+Yg (s.drop a)<=_;omega⟩
 cases h
def ZrS:Zk:=fun args σ K=>match args,σ with
 | [.d (.str s),.d (.int .i64 i)],⟨[],[],0⟩=>∃(a:Nat) (t:Tok),i=a/\(a<s.length/\okT s=true/\s.length<65537/\ZCY s a=some t)/\K (.ret (.tuple [Zaj t.kind t.text t.n t.at' t.fin,.d (.int .i64 0),.d (.int .i64 0)])) ⟨[],[],0⟩
 | _,_=>False
def Zz4:Tbl:=[(207,Zgo),(210,ZrO),(208,Wk),(211,ZrQ),(209,ZhO)]
def Zz5:PC w0 nG 149 ZrS:=by
 refine YV Zr mixed (tbl:=Zz4) ⟨ZhQ,ZzY,Zav,Zz1,ZmM,trivial⟩ Tryz.func149 rfl kR kR ?_;intro args σ K h
 unfold ZrS at h
 split at h
 ·rename_i s i
  obtain ⟨a,t,rfl,⟨h1,ho,hs,ht⟩,h⟩:=h;have hq:=(okA ho h1).qu;have hbt:=(s.getD a 0).toNat_lt;have iq:s.getD ((a:Int)).toNat 0=s.getD a 0:=by rw [Th]
  refine ⟨Zg [],Ys [],ZC [],0,false,dM,Tc rfl,wN ?_⟩;unfold ZCY at ht
  refine ⟨a,rfl,⟨ho,hs⟩,wN ?_⟩;refine ZGj (fun h2=>?_) (fun h2=>wN ?_)
  ·rw [Tj h2] at ht
   cases ht
   conv=>whnf
   refine ⟨a,rfl,⟨h1,ho,hs,h2⟩,wN ?_⟩;exact h
  rw [Tf (by rw [h2];simp)] at ht;refine ⟨oM,oM,wN ?_⟩;rw [iq];refine Or.inl ⟨InR.i32 oM oM,wN ?_⟩;refine ZGj (fun h3=>?_) (fun h3=>?_)
  ·have h3:U8 (s.getD a 0)=true:=h3;rw [Tj h3] at ht;split at ht
   case isFalse=>cases ht
   rename_i g
   cases ht
   conv=>whnf
   refine ⟨a,rfl,⟨h1,ho,hs,h3,g.1,g.2⟩,wN ?_⟩;exact h
  have h3:U8 (s.getD a 0)=false:=h3;rw [Tf (by rw [h3];simp)] at ht;split at ht
  case isFalse=>cases ht
  rename_i g
  cases ht
  conv=>whnf
  refine ⟨oM,oM,wN ?_⟩;rw [iq];refine ZGg (fun q=>absurd (show (s.getD a 0).toNat=34 by have q:((s.getD a 0).toNat:Int)=34:=q;omega) hq) (fun _=>wN ?_);have nk:=Zg7 (s.drop a) hD;have htl:((s.drop a).take (Yg (s.drop a))).length=Yg (s.drop a):=by rw [List.length_take];omega
  rw [Tx] at nk;refine ⟨⟨oM,oM,oM⟩,wN ?_⟩;refine Or.inl ⟨InR.i64 (by simp only [Th,htl];omega) (by simp only [Th,htl];omega),wN ?_⟩;simp only [Th,htl];simp only [Int.natCast_add] at h;exact h
 exact h.elim
def ZDv (s:Bs):Nat->Nat->Option (List Tok)
 | 0,_=>none
 | f+1,a=>if s.length<=a+Wy Ze5 s a then some [] else match ZCY s (a+Wy Ze5 s a) with
  | none=>none
  | some t=>match ZDv s f t.fin with | none=>none | some l=>some (t::l)
def ZDw (s:Bs):Option (List Tok):=if okT s=true/\s.length<=16000 then ZDv s (s.length+1) 0 else none
def Zgp:Zk:=fun args σ K=>match args,σ with
 | [.d (.str s),.d (.int .i64 m)],⟨[],[],0⟩=>∃L,ZDw s=some L/\m=16384/\K (.ret (.tuple [.d (.sl (Zz L)),.d (.int .i64 0),.d (.int .i64 0)])) ⟨[],[],0⟩
 | _,_=>False
def Zz6:Tbl:=[(147,ZrP),(148,ZrR),(149,ZrS)]
def Zz7:PC w0 nG 92 Zgp:=by
 refine YV Zr mixed (tbl:=Zz6) ⟨ZzZ,Zz3,Zz5,trivial⟩ Tryz.func92 rfl kR kR ?_;intro args σ K h
 unfold Zgp at h
 split at h
 ·rename_i s m
  obtain ⟨L,hL,rfl,h⟩:=h;unfold ZDw at hL
  split at hL
  case isFalse=>cases hL
  rename_i oc
  obtain ⟨ho,hs⟩:=oc;refine ⟨Zg [(3,⟨[7,8],[0,1],fun vs σ=>∃(l r:List Tok) (e f:Nat),vs=[.sl 0 166 (Zz l),.d (.int .i64 e)]/\σ=⟨[],[0],1⟩ /\
   (e<=s.length/\l.length<=e/\ZDv s f e=some r/\L=l++r),fun vs _=>match vs with | [_,.d (.int _ n)]=>((s.length:Int) - n).toNat | _=>0⟩)],Ys [],ZC [],0,false,sM,Tc rfl,?_⟩
  conv=>whnf
  refine ⟨⟨[],L,0,_,rfl,rfl,oM,sM,hL,rfl⟩,?_⟩;intro vs σ1 hI
  obtain ⟨l,r,e,f,rfl,rfl,he,am,hr,hLr⟩:=hI
  cases f with
  | zero=>cases hr
  | succ f =>
  rw [ZDv] at hr;have nt:=ZhP Ze5 s e;(conv=>whnf);refine ⟨e,rfl,⟨he,ho,oM⟩,?_⟩;generalize hk:e+Wy Ze5 s e=k at hr;have hke:e<=k/\k<=s.length:=oM;(conv=>whnf);refine ZGg (fun h3=>?_) (fun h3=>?_)
  ·have h3:(k:Int)>=(s.length:Nat):=h3;rw [Tj oM] at hr
   cases hr
   rw [TW] at hLr;subst hLr;exact mq47
  have h3:¬(k:Int)>=(s.length:Nat):=h3;have aa:k<s.length:=oM;rw [Tf oM] at hr;split at hr
  ·cases hr
  rename_i t ht
  split at hr
  ·cases hr
  rename_i r2 ef
  cases hr
  have ip:=ZuC aa ht;have hb:(ZbE (s.getD k 0) || decide (0<Yg (s.drop k)))=true:=by
   rcases ip with g | g
   ·rw [g.2.2];rfl
   rw [TX g.1];simp
  have zn:k<t.fin/\t.fin<=s.length:=oM;(conv=>whnf);refine ⟨k,rfl,⟨aa,ho,oM⟩,?_⟩;rw [hb];(conv=>whnf);refine ZGg (fun h5=>?_) (fun h5=>wN ?_)
  ·have h5:(16384:Int)<=((Zz l).length:Nat):=h5;rw [ZU] at h5;omega
  refine ⟨k,t,rfl,⟨aa,ho,oM,ht⟩,wN ?_⟩;refine ⟨fun r hr=>by (simp at hr;subst hr;rfl),(show ((Zz l).length+1) * 48<=2 ^ 47 by rw [ZU];omega),(show (Zz l).length+1<=2 ^ 47 by rw [ZU];omega),wN ?_⟩;refine ⟨⟨l++[t],r2,t.fin,f,by rw [ZfK];rfl,rfl,oM,by rw [Ta];simp;omega,ef,by rw [hLr];simp⟩,?_⟩;exact (show ((s.length:Int) - (t.fin:Int)).toNat<((s.length:Int) - (e:Int)).toNat by omega)
 exact h.elim
def Zz8:Tbl:=[(92,Zgp)]
def Zz9:PC w0 nG 53 Zgp:=by
 refine pwt (tbl:=Zz8) ⟨Zz7,trivial⟩ Tryz.func53 fun args σ K h=>?_
 unfold Zgp at h
 split at h
 ·rename_i s m
  obtain ⟨L,hL,rfl,h⟩:=h;refine pwv [] 0 false ?_;refine ⟨L,hL,rfl,wN ?_⟩;exact h
 exact h.elim
end Go.PM.Lex
end
