/- A part of the proof: plain logic, contracts and laws over the given program. -/
import Derived.Test.YtafpcgfiedfldaaGreatDoorIter
import Derived.Test.YtafpcgfiedfldaaGreatDoorB11
set_option linter.unusedVariables false
set_option linter.unusedSimpArgs false
set_option linter.all false
set_option maxRecDepth 100000
set_option maxHeartbeats 16000000
noncomputable section
section
namespace Go.PM.Lex
open Go.Proofs
variable {w0:World} {nG:Nat}
def Zaz:Zo:=fun args σ K=>match args,σ with
 | [.agg c],⟨[],[],0⟩=>∃pl e,c=(ZE pl e).map .d/\K (.ret (.func 107 [] [.ptr 0 0])) ⟨[.cells 50 c],[],0⟩
 | _,_=>False
def ZaA:Zz Zaz:=fun args σ K K' hK h=>by
 unfold Zaz at h |-
 split at h
 ·obtain ⟨pl,e,h1,h2⟩:=h;exact ⟨pl,e,h1,hK _ _ h2⟩
 exact h.elim
def Zq6:PC w0 nG 52 Zaz:=by
 refine pwe Tryz.func52 fun args σ K h=>?_
 unfold Zaz at h
 split at h
 ·obtain ⟨pl,⟨a1,a2,a3,a4,a5⟩,rfl,h⟩:=h;refine pwv [] 1 false ?_;exact h
 exact h.elim
structure C5 where
 a:D
 b:D
 c:D
 d:D
 e:D
abbrev C5.cs (x:C5):List PV:=[.d x.a,.d x.b,.d x.c,.d x.d,.d x.e]
abbrev stV (M:Bv) (c2 c3:C5) (r:Loop):List Box:=[.dmap (mvM mvB M),.cells 78 [.mp 0],.cells 50 c2.cs,.cells 50 c3.cs,.loop .ready none r]
def itV (m:Nat):Zfp:=fun g args raw σ K=>∃(pl:Pl) (e:Ex) (y:Nat) (M:Bv) (c2 c3:C5) (r:Loop),g=108/\args=[.agg ((ZE pl e).map .d),.raw (.func (.yield y) #[] #[])]/\σ=⟨stV M c2 c3 r,[],0⟩/\(szE e<m/\m<=4611686018427387904) /\
 (∀(M:Bv) (x:Ex) (K':PEnd->St->Prop),(∀gs,K' (.ret (.d (.bool true))) ⟨stV (Zzb M x) c2 c3 r++gs,[],0⟩)->raw (.func (.yield y) #[] #[]) [.agg ((ZE pl x).map .d)] ⟨stV M c2 c3 r,[],0⟩ K') /\
 K (.ret (.d (.bool true))) ⟨stV (ZkH M (prE e)) c2 c3 r,[],0⟩
def Zq7:∀m,IterSem (GG w0 nG) (itV m)
 | 0=>fun g args raw σ K ⟨_,_,_,_,_,_,_,_,_,_,h,_⟩=>absurd h.1 oM
 | m+1=>by
  refine Zq5 (tbl:=[]) Zy mixed trivial trivial (Zq7 m) Tryz.func108 rfl kR kR ?_
  rintro g args raw σ K ⟨pl,⟨op,text,num,ea,at'⟩,y,M,c2,c3,r,rfl,rfl,rfl,⟨hm,eu⟩,gw,h⟩
  refine ⟨rfl,Tc rfl,?_⟩;simp only [szE] at hm;have hl:(Ze pl ea).length=ea.length:=by rw [Zb,Td]
  have hsz:=YP ea;have j8:∀M,Zd8 5 (stV M c2 c3 r)=true:=fun M=>rfl
  refine ⟨Zj [(4,⟨[14],[1,12,13],fun vs σ=>∃(j:Nat) (M':Bv),vs=[.d (.int .i64 j)]/\σ=⟨stV M' c2 c3 r++[.cells 50 ((ZE pl (.mk op text num ea at')).map .d)],[],0⟩/\j<=ea.length/\M'=ZkH (Zzb M (.mk op text num ea at')) (ZfW (ea.take j)),
   mu1 ea.length⟩)],?_⟩
  conv=>whnf
  refine ⟨⟨rfl,rfl,j8 M,rfl,rfl⟩,gw _ (.mk op text num ea at') _ fun gs=>⟨true,rfl,j8 _,wN ?_⟩⟩;refine ⟨⟨0,_,rfl,rfl,oM,rfl⟩,?_⟩
  rintro vs σ1 ⟨j,M',rfl,rfl,hj,rfl⟩
  conv=>whnf
  refine ZFs (fun hq=>?_) (fun hq=>?_)
  ·have aa:j<ea.length:=by have hq:(j:Int)<((Ze pl ea).length:Nat):=hq;omega
   have hr:(Ze pl ea)[(j:Int).toNat]?=some (ZE pl ea[j]):=by rw [Tj,Zb,Th,Ta aa];rfl
   have hg:=Yh ea j aa;have ht:=ZiV aa;have hμ:((ea.length:Int) - ((j:Int)+1)).toNat<((ea.length:Int) - (j:Int)).toNat:=oM;generalize ea[j]=x at hr hg ht;obtain ⟨b1,b2,b3,b4,b5⟩:=x;(conv=>whnf);refine ⟨_,oM,hr,wN ?_⟩;refine ⟨⟨rfl,rfl,j8 _,rfl,rfl⟩,pl,.mk b1 b2 b3 b4 b5,y,_,c2,c3,r,rfl,rfl,rfl,⟨oM,oM⟩,gw,true,rfl,j8 _,wN ?_⟩;refine Zi ?_;exact ⟨⟨j+1,_,rfl,rfl,oM,by rw [ht,ZiW]⟩,hμ⟩
  have ec:ea.length<=j:=by have hq:¬(j:Int)<((Ze pl ea).length:Nat):=hq;omega
  rw [List.take_of_length_le ec];exact mq51
def ZFc (m:Nat):Zfp:=ZgL Vr [] (itV m) 107 Tryz.f107
def ZtL (m:Nat):IterSem (GG w0 nG) (ZFc m):=Jy (tbl:=[]) Zy mixed trivial trivial (Zq7 m) Tryz.func107 rfl kR kR
def Zbt:Zo:=fun args σ K=>match args,σ with
 | [.mp 0,.d (.sl rows)],⟨[.dmap mv],[],0⟩=>∃pl l M,rows=Ze pl l/\mv=mvM mvB M/\Zct l<=1099511627776/\K (.ret (.tuple [])) ⟨[.dmap (mvM mvB (ZkH M (ZfW l)))],[],0⟩
 | _,_=>False
def ZiY:Zz Zbt:=fun args σ K K' hK h=>by
 unfold Zbt at h |-
 split at h
 ·obtain ⟨pl,l,M,h1,h2,h3,h4⟩:=h;exact ⟨pl,l,M,h1,h2,h3,hK _ _ h4⟩
 exact h.elim
def ZBu (M:Bv) (op:Nat) (t:Bs) (n:Int) (l:List Ex) (a:Nat) (h:op=1):mvM mvB (Zzb M (.mk op t n l a))=Yo t (.one (.bool true)) (mvM mvB M):=by
 unfold Zzb
 rw [Tk (show opE (.mk op t n l a)=1 from h)];exact (Wy (f:=mvB) (k:=t) (v:=true) M).symm
def Zmb:Tbl:=[(52,Zaz)]
def Zmc:PC w0 nG 23 Zbt:=by
 refine ZjR Zy mixed (tbl:=Zmb) ⟨Zq6,trivial⟩ ⟨ZaA,trivial⟩ (ZtL 1099511627777) Tryz.func23 rfl kR kR ?_;intro args σ K h
 unfold Zbt at h
 split at h
 ·obtain ⟨pl,l,M,rfl,rfl,hz,h⟩:=h;have hl:(Ze pl l).length=l.length:=by rw [Zb,Td]
  have hsz:=YP l;refine ⟨Zj [(2,⟨[9],[2,7,8],fun vs σ=>∃j:Nat,vs=[.d (.int .i64 j)]/\σ=⟨[.dmap (mvM mvB (ZkH M (ZfW (l.take j)))),.cells 78 [.mp 0]],[],0⟩/\j<=l.length,
   mu1 l.length⟩)],1,false,sM,Tc rfl,?_⟩
  conv=>whnf
  refine ⟨⟨0,rfl,rfl,oM⟩,?_⟩
  rintro vs σ1 ⟨j,rfl,rfl,hj⟩
  conv=>whnf
  refine ZFs (fun hq=>?_) (fun hq=>?_);rotate_left
  ·have ec:l.length<=j:=by have hq:¬(j:Int)<((Ze pl l).length:Nat):=hq;omega
   rw [List.take_of_length_le ec];exact mq51
  have aa:j<l.length:=by have hq:(j:Int)<((Ze pl l).length:Nat):=hq;omega
  have hr:(Ze pl l)[(j:Int).toNat]?=some (ZE pl l[j]):=by rw [Tj,Zb,Th,Ta aa];rfl
  have hg:=Yh l j aa;have ht:=ZiV aa;have hμ:((l.length:Int) - ((j:Int)+1)).toNat<((l.length:Int) - (j:Int)).toNat:=oM;generalize l[j]=x at hr hg ht;obtain ⟨b1,b2,b3,b4,b5⟩:=x;(conv=>whnf);refine ⟨_,oM,hr,wN ?_⟩;refine ⟨pl,.mk b1 b2 b3 b4 b5,rfl,wN ?_⟩;intro y r
  refine ⟨Zj [],rfl,wN ?_⟩;refine ⟨pl,.mk b1 b2 b3 b4 b5,y,_,⟨_,_,_,_,_⟩,⟨_,_,_,_,_⟩,r,rfl,rfl,rfl,⟨oM,oM⟩,fun M x K' hK=>wN ?_,wN ?_⟩
  ·obtain ⟨d1,d2,d3,d4,d5⟩:=x;refine ⟨rfl,rfl,rfl,wN ?_⟩;refine ⟨rfl,wN ?_⟩;refine ZFs (fun h1=>wN ?_) (fun h1=>wN ?_)
   ·have h1:d1=1:=by have h1:(d1:Int)=1:=h1;omega
    have hk:=hK [.cells 50 ((ZE pl (.mk d1 d2 d3 d4 d5)).map .d)];unfold stV at hk
    rw [ZBu M d1 d2 d3 d4 d5 h1] at hk;refine ⟨rfl,wN ?_⟩;exact hk
   have h1:¬d1=1:=by have h1:¬(d1:Int)=1:=h1;omega
   have hk:=hK [.cells 50 ((ZE pl (.mk d1 d2 d3 d4 d5)).map .d)];rw [show Zzb M (.mk d1 d2 d3 d4 d5)=M from Tf h1] at hk;refine ⟨rfl,wN ?_⟩;exact hk
  refine Zi ?_;exact ⟨⟨j+1,rfl,by rw [ht,ZiW];rfl,oM⟩,hμ⟩
 exact h.elim
abbrev stA (M:Bv) (c2 c5:C5) (a:Int) (b:Bool) (lp:Box):List Box:=[.dmap (mvM mvB M),.cells 78 [.mp 0],.cells 50 c2.cs,.cells 3 [.d (.int .i64 a)],.cells 4 [.d (.bool b)],.cells 50 c5.cs,lp]
abbrev goA (M:Bv) (c2 c5:C5) (r:Loop):List Box:=stA M c2 c5 0 false (.loop .ready none r)
abbrev ZCq (M:Bv) (c2 c5:C5) (a:Int) (r:Loop):List Box:=stA M c2 c5 a true (.loop .done (some .ret) r)
def itA (m:Nat):Zfp:=fun g args raw σ K=>∃(pl:Pl) (e:Ex) (y:Nat) (M:Bv) (c2 c5:C5) (r:Loop),g=108/\args=[.agg ((ZE pl e).map .d),.raw (.func (.yield y) #[] #[])]/\σ=⟨goA M c2 c5 r,[],0⟩/\(szE e<m/\m<=4611686018427387904) /\
 (∀(x:Ex) (K':PEnd->St->Prop),(JP M x=false->∀gs,K' (.ret (.d (.bool true))) ⟨goA M c2 c5 r++gs,[],0⟩)->(JP M x=true->∀gs,K' (.ret (.d (.bool false))) ⟨ZCq M c2 c5 (pl (atX x)) r++gs,[],0⟩)->raw (.func (.yield y) #[] #[]) [.agg ((ZE pl x).map .d)] ⟨goA M c2 c5 r,[],0⟩ K') /\
 (Zhb M e=none->K (.ret (.d (.bool true))) ⟨goA M c2 c5 r,[],0⟩)/\∀x,Zhb M e=some x->K (.ret (.d (.bool false))) ⟨ZCq M c2 c5 (pl (atX x)) r,[],0⟩
def Zyo (M:Bv) (op:Nat) (t:Bs) (n:Int) (l:List Ex) (a:Nat):Zhb M (.mk op t n l a)=if JP M (.mk op t n l a)=true then some (.mk op t n l a) else WY M l:=by
 simp only [Zhb,prE,List.find?_cons,WY]
 cases JP M (.mk op t n l a) <;> rfl
def Zq8:∀m,IterSem (GG w0 nG) (itA m)
 | 0=>fun g args raw σ K ⟨_,_,_,_,_,_,_,_,_,_,h,_⟩=>absurd h.1 oM
 | m+1=>by
  refine Zq5 (tbl:=[]) Zy mixed trivial trivial (Zq8 m) Tryz.func108 rfl kR kR ?_
  rintro g args raw σ K ⟨pl,⟨op,text,num,ea,at'⟩,y,M,c2,c5,r,rfl,rfl,rfl,⟨hm,eu⟩,gw,hn,hs⟩
  refine ⟨rfl,Tc rfl,?_⟩;simp only [szE] at hm;have hl:(Ze pl ea).length=ea.length:=by rw [Zb,Td]
  have hsz:=YP ea;have j8:Zd8 7 (goA M c2 c5 r)=true:=rfl;have aj:∀a,Zd8 7 (ZCq M c2 c5 a r)=true:=fun a=>rfl
  rw [Zyo] at hn hs;refine ⟨Zj [(4,⟨[14],[1,12,13],fun vs σ=>∃j:Nat,vs=[.d (.int .i64 j)]/\σ=⟨goA M c2 c5 r++[.cells 50 ((ZE pl (.mk op text num ea at')).map .d)],[],0⟩/\j<=ea.length/\(JP M (.mk op text num ea at')=false/\WY M ea=WY M (ea.drop j)),
   mu1 ea.length⟩)],?_⟩
  conv=>whnf
  refine ⟨⟨rfl,rfl,j8,rfl,rfl⟩,gw (.mk op text num ea at') _ (fun hf gs=>⟨true,rfl,j8,?_⟩) fun hf gs=>⟨false,rfl,aj _,?_⟩⟩;rotate_left
  ·have hs:=hs _ (Tk hf);(conv=>whnf);exact hs
  conv=>whnf
  refine ⟨⟨0,rfl,rfl,oM,hf,rfl⟩,?_⟩
  rintro vs σ1 ⟨j,rfl,rfl,hj,hf,ha⟩
  rw [Tf (by rw [hf];simp),ha] at hn hs;(conv=>whnf);refine ZFs (fun hq=>?_) (fun hq=>wN ?_)
  ·have aa:j<ea.length:=by have hq:(j:Int)<((Ze pl ea).length:Nat):=hq;omega
   have hr:(Ze pl ea)[(j:Int).toNat]?=some (ZE pl ea[j]):=by rw [Tj,Zb,Th,Ta aa];rfl
   have hg:=Yh ea j aa;have hd:=ZfX (m:=M) aa;have hμ:((ea.length:Int) - ((j:Int)+1)).toNat<((ea.length:Int) - (j:Int)).toNat:=oM;generalize ea[j]=x at hr hg hd;rw [hd] at hn hs ha;obtain ⟨b1,b2,b3,b4,b5⟩:=x;(conv=>whnf);refine ⟨_,oM,hr,wN ?_⟩;refine ⟨⟨rfl,rfl,j8,rfl,rfl⟩,pl,.mk b1 b2 b3 b4 b5,y,_,c2,c5,r,rfl,rfl,rfl,⟨oM,oM⟩,gw,fun hx=>⟨true,rfl,j8,wN ?_⟩,fun x hx=>⟨false,rfl,aj _,wN ?_⟩⟩
   ·rw [hx] at ha;refine Zi ?_;exact ⟨⟨j+1,rfl,rfl,oM,hf,ha⟩,hμ⟩
   rw [hx] at hs;have hs:=hs _ rfl;exact hs
  have ec:ea.length<=j:=by have hq:¬(j:Int)<((Ze pl ea).length:Nat):=hq;omega
  rw [Tr ec] at hn;have hn:=hn rfl;exact hn
def ZFd (m:Nat):Zfp:=ZgL Vr [] (itA m) 107 Tryz.f107
def ZtM (m:Nat):IterSem (GG w0 nG) (ZFd m):=Jy (tbl:=[]) Zy mixed trivial trivial (Zq8 m) Tryz.func107 rfl kR kR
def ZFe (pl:Pl):Option Ex->PV
 | some x=>.tuple [.d (.int .i64 (pl (atX x))),.d (.bool true)]
 | none=>.tuple [.d (.int .i64 0),.d (.bool false)]
def Zhh:Zo:=fun args σ K=>match args,σ with
 | [.mp 0,.agg c],⟨[.dmap mv],[],0⟩=>∃pl e M,c=(ZE pl e).map .d/\mv=mvM mvB M/\szE e<=1099511627776/\∀o,Zhb M e=o->K (.ret (ZFe pl o)) ⟨[.dmap (mvM mvB M)],[],0⟩
 | _,_=>False
def Zmd:PC w0 nG 60 Zhh:=by
 refine ZjR Zy mixed (tbl:=Zmb) ⟨Zq6,trivial⟩ ⟨ZaA,trivial⟩ (ZtM 1099511627777) Tryz.func60 rfl kR kR ?_;intro args σ K h
 unfold Zhh at h
 split at h
 ·obtain ⟨pl,⟨e1,e2,e3,e4,e5⟩,M,rfl,rfl,hz,h⟩:=h;refine ⟨Zj [],1,false,sM,Tc rfl,wN ?_⟩;refine ⟨pl,.mk e1 e2 e3 e4 e5,rfl,wN ?_⟩;intro y r
  refine ⟨Zj [],rfl,wN ?_⟩;refine ⟨pl,.mk e1 e2 e3 e4 e5,y,M,⟨_,_,_,_,_⟩,⟨_,_,_,_,_⟩,r,rfl,rfl,rfl,⟨oM,oM⟩,fun x K' k1 k2=>?_,fun ha=>?_,fun x ha=>?_⟩
  ·obtain ⟨d1,d2,d3,d4,d5⟩:=x;(conv=>whnf);refine ⟨rfl,rfl,rfl,wN ?_⟩;refine ⟨rfl,wN ?_⟩;have hfr:JP M (.mk d1 d2 d3 d4 d5)=(decide (d1=2) || (decide (d1=1) && !((lkM d2 M).getD false))):=rfl;rw [hfr] at k1 k2;refine ZFs (fun g2=>wN ?_) (fun g2=>wN ?_)
   ·have k2:=k2 (by rw [Sa (show d1=2 by have g2:(d1:Int)=2:=g2;omega)];rfl) [.cells 50 ((ZE pl (.mk d1 d2 d3 d4 d5)).map .d)];refine ⟨rfl,wN ?_⟩;exact k2
   rw [decide_eq_false (show ¬d1=2 by have g2:¬(d1:Int)=2:=g2;omega)] at k1 k2;refine ZFs (fun g1=>wN ?_) (fun g1=>wN ?_)
   ·rw [Sa (show d1=1 by have g1:(d1:Int)=1:=g1;omega)] at k1 k2;have yes:(lkM d2 M).getD false=true->K' (.ret (.d (.bool true))) ⟨goA M ⟨.int .u8 e1,.str e2,.int .i64 e3,.sl (Ze pl e4),.int .i64 (pl e5)⟩ ⟨.int .u8 e1,.str e2,.int .i64 e3,.sl (Ze pl e4),.int .i64 (pl e5)⟩ r++[.cells 50 ((ZE pl (.mk d1 d2 d3 d4 d5)).map .d)],[],0⟩:=fun q=>k1 (by rw [q];rfl) _
    have no:(lkM d2 M).getD false=false->K' (.ret (.d (.bool false))) ⟨ZCq M ⟨.int .u8 e1,.str e2,.int .i64 e3,.sl (Ze pl e4),.int .i64 (pl e5)⟩ ⟨.int .u8 e1,.str e2,.int .i64 e3,.sl (Ze pl e4),.int .i64 (pl e5)⟩ (pl d5) r++[.cells 50 ((ZE pl (.mk d1 d2 d3 d4 d5)).map .d)],[],0⟩:=fun q=>k2 (by rw [q];rfl) _
    cases hv:lkM d2 M with
    | none =>
     have no:=no (by rw [hv];rfl);refine optK.no (by rw [ZJ,hv];rfl) (wN ?_);refine ⟨rfl,wN ?_⟩;exact no
    | some b =>
    refine optK.yes (a:=.one (.bool b)) (by rw [ZJ,hv];rfl) ?_
    cases b with
    | true =>
     have yes:=yes (by rw [hv];rfl);(conv=>whnf);refine ⟨rfl,wN ?_⟩;exact yes
    | false =>
    have no:=no (by rw [hv];rfl);(conv=>whnf);refine ⟨rfl,wN ?_⟩;exact no
   rw [decide_eq_false (show ¬d1=1 by have g1:¬(d1:Int)=1:=g1;omega)] at k1 k2;have k1:=k1 rfl [.cells 50 ((ZE pl (.mk d1 d2 d3 d4 d5)).map .d)];refine ⟨rfl,wN ?_⟩;exact k1
  ·have h:=h _ ha;exact mq51
  have h:=h _ ha;exact mq51
 exact h.elim
def Jh (C:Pl->Ex->Bv->(PEnd->Bv->Prop)->Prop) (m:Nat):Zo:=fun args σ K=>match args,σ with
 | [.mp 0,.agg c],⟨[.dmap mv],[],0⟩=>∃pl e M,c=(ZE pl e).map .d/\mv=mvM mvB M/\(szE e<m/\m<=1099511627776)/\C pl e M fun pe M'=>K pe ⟨[.dmap (mvM mvB M')],[],0⟩
 | _,_=>False
def ZDy (F:Bv->Ex->Bool):Pl->Ex->Bv->(PEnd->Bv->Prop)->Prop:=fun pl e M K=>∀b,F M e=b->K (.ret (.d (.bool b))) M
def ZCr (F:Bv->Ex->Option Ex):Pl->Ex->Bv->(PEnd->Bv->Prop)->Prop:=fun pl e M K=>(F M e=none->K (.ret (.tuple [])) M)/\∀x,F M e=some x->K (.panic (.iface 75 (.agg [.d (.int .i64 (pl (atX x)))]))) M
def ZEy:Pl->Ex->Bv->(PEnd->Bv->Prop)->Prop:=fun pl e M K=>K (.ret (.tuple [])) (ZtI e M)
abbrev Zq9:Zo:=Jh (ZDy fun M e=>(Zhb M e).isNone) 1099511627776
abbrev ZiZ:Nat->Zo:=Jh (ZDy ZeT)
abbrev ZnV:Nat->Zo:=Jh ZEy
abbrev ZnW:Nat->Zo:=Jh (ZCr ZCo)
abbrev ZnX:Nat->Zo:=Jh (ZCr ZCp)
def ZBw:OKw w0 nG [(60,Zhh)] 57 Zq9:=by
 refine pwo Tryz.func57 fun args σ K h=>?_
 unfold Zq9 Jh at h
 split at h
 ·obtain ⟨pl,⟨e1,e2,e3,e4,e5⟩,M,rfl,rfl,⟨hm,eu⟩,h⟩:=h;refine pwv [] 1 false ?_;refine ⟨pl,.mk e1 e2 e3 e4 e5,M,rfl,rfl,oM,fun o ho=>?_⟩
  cases o with
  | none =>
   have h:=h true (by show (Zhb M _).isNone=true;rw [ho];rfl);exact mq51
  | some x =>
  have h:=h false (by show (Zhb M _).isNone=false;rw [ho];rfl);exact mq51
 exact h.elim
def Zhi (F:Bv->List Ex->D) (m:Nat):Zo:=fun args σ K=>match args,σ with
 | [.d (.sl rows),.func f [.mp 0] []],⟨[.dmap mv],[],0⟩=>∃pl l M,rows=Ze pl l/\mv=mvM mvB M/\(f=55/\Zct l<m/\m<=1099511627776)/\∀d,F M l=d->K (.ret (.d d)) ⟨[.dmap (mvM mvB M)],[],0⟩
 | _,_=>False
abbrev Zra:Nat->Zo:=Zhi fun M l=>.int .i64 (Zg4 (ZeT M) 0 l)
abbrev Zf3:Nat->Zo:=Zhi fun M l=>.bool (Jg M l)
def Zrb {m:Nat}:OKw w0 nG [(55,ZiZ m)] 110 (Zra m):=by
 refine pwo Tryz.func110 fun args σ K h=>?_
 unfold Zra Zhi at h
 split at h
 ·obtain ⟨pl,l,M,rfl,rfl,⟨rfl,hm,eu⟩,h⟩:=h;simp only at h;have hl:(Ze pl l).length=l.length:=by rw [Zb,Td]
  have hsz:=YP l;refine pwu [(2,⟨[8],[0,1,7],fun vs σ=>∃j:Nat,vs=[.d (.int .i64 j)]/\σ=⟨[.dmap (mvM mvB M)],[],0⟩/\j<=l.length/\Zg4 (ZeT M) j (l.drop j)=Zg4 (ZeT M) 0 l,
   mu1 l.length⟩)] 1 false ?_
  conv=>whnf
  refine ⟨⟨0,rfl,rfl,oM,rfl⟩,?_⟩
  rintro vs σ1 ⟨j,rfl,rfl,hj,ha⟩
  conv=>whnf
  refine ZFs (fun hc=>?_) (fun hc=>?_);rotate_left
  ·have ec:l.length<=j:=by have hc:¬(j:Int)<((Ze pl l).length:Nat):=hc;omega
   rw [Tr ec] at ha;(conv=>whnf);exact h (.int .i64 (-1)) (by rw [<- ha];rfl)
  have aa:j<l.length:=by have hc:(j:Int)<((Ze pl l).length:Nat):=hc;omega
  rw [Tm aa] at ha;have hr:(Ze pl l)[(j:Int).toNat]?=some (ZE pl l[j]):=by rw [Tj,Zb,Th,Ta aa];rfl
  have hg:=Yh l j aa;generalize l[j]=x at ha hr hg;obtain ⟨b1,b2,b3,b4,b5⟩:=x;(conv=>whnf);refine ⟨_,oM,hr,wN ?_⟩;refine ⟨pl,.mk b1 b2 b3 b4 b5,M,rfl,rfl,⟨oM,eu⟩,fun b hb=>?_⟩;simp only [Zg4] at ha
  cases b with
  | true =>
   rw [Tk hb] at ha;(conv=>whnf);exact h _ (by rw [<- ha])
  | false =>
  rw [Tf (fun g=>Bool.noConfusion (hb.symm.trans g))] at ha;(conv=>whnf);exact mq199
 exact h.elim
def Zrc {m:Nat}:OKw w0 nG [(110,Zra m)] 54 (Zf3 m):=by
 refine pwo Tryz.func54 fun args σ K h=>?_
 unfold Zf3 Zhi at h
 split at h
 ·obtain ⟨pl,l,M,rfl,rfl,hc,h⟩:=h;simp only at h;refine pwv [] 1 false ?_;refine ⟨pl,l,M,rfl,rfl,hc,fun d hd=>?_⟩;subst hd;(conv=>whnf);exact h _ (by rw [ZnS];congr 1;rw [Bool.eq_iff_iff,decide_eq_true_iff];exact (ZdS l 0).symm)
 exact h.elim
def Zrd {m:Nat}:OKw w0 nG [(57,Zq9),(54,spB Zf3 m)] 55 (ZiZ m):=by
 refine pwo Tryz.func55 fun args σ K h=>?_
 unfold ZiZ Jh at h
 split at h
 ·obtain ⟨pl,⟨e1,e2,e3,e4,e5⟩,M,rfl,rfl,⟨hm,eu⟩,h⟩:=h;unfold ZDy at h
  simp only [ZeT] at h;have hs:szE (.mk e1 e2 e3 e4 e5)=1+Zct e4:=by simp only [szE]
  refine pwv [] 1 false ?_;refine ZFs (fun g=>wN ?_) (fun g=>wN ?_)
  ·have g:8<=e1:=by have g:(8:Int)<=e1:=g;omega
   rw [Tk g] at h;refine ⟨pl,.mk e1 e2 e3 e4 e5,M,rfl,rfl,⟨oM,oM⟩,fun b hb=>wN ?_⟩;have hb:(Zhb M (.mk e1 e2 e3 e4 e5)).isNone=b:=hb;have h:=h (!b) (by rw [<- hb];cases Zhb M (.mk e1 e2 e3 e4 e5) <;> rfl);exact h
  have g:¬8<=e1:=by have g:¬(8:Int)<=e1:=g;omega
  rw [Tf g] at h;refine ⟨oM,pl,e4,M,rfl,rfl,⟨rfl,oM,oM⟩,fun d hd=>?_⟩;subst hd;have h:=h _ rfl;exact mq51
 exact h.elim
def Zre:PC w0 nG 57 Zq9:=ZBw ⟨Zmd,trivial⟩
def Zys:∀m,PC w0 nG 55 (ZiZ m)
 | 0=>Zrd ⟨Zre,ZA (Zf Tryz.func54 kR rfl),trivial⟩
 | m+1=>Zrd ⟨Zre,ZB (sp:=Zf3) (Zrc ⟨Zrb ⟨Zys m,trivial⟩,trivial⟩),trivial⟩
def ZDz (m:Nat):PC w0 nG 54 (Zf3 m):=Zrc ⟨Zrb ⟨Zys m,trivial⟩,trivial⟩
def ZuL {m:Nat}:OKw w0 nG [(56,spB ZnV m)] 56 (ZnV m):=by
 refine pwo Tryz.func56 fun args σ K h=>?_
 unfold ZnV Jh at h
 split at h
 ·obtain ⟨pl,⟨e1,e2,e3,e4,e5⟩,M,rfl,rfl,⟨hm,eu⟩,h⟩:=h;unfold ZEy at h
  simp only [ZtI] at h;simp only [szE] at hm;have hl:(Ze pl e4).length=e4.length:=by rw [Zb,Td]
  have hsz:=YP e4;refine pwu [(7,⟨[19],[0,17,18],fun vs σ=>∃(j:Nat) (M':Bv),vs=[.d (.int .i64 j)]/\σ=⟨[.dmap (mvM mvB M'),.cells 50 ((ZE pl (.mk e1 e2 e3 e4 e5)).map .d)],[],0⟩/\j<=e4.length/\Zbo (e4.drop j) M'=Zbo e4 M,
   mu1 e4.length⟩)] 1 false ?_
  conv=>whnf
  refine ZFs (fun g=>wN ?_) (fun g=>wN ?_)
  ·have g:e1=1:=by have g:(e1:Int)=1:=g;omega
   rw [Tk g,<- Wy] at h;exact h
  have g:¬e1=1:=by have g:¬(e1:Int)=1:=g;omega
  rw [Tf g] at h;have many:e1=6\/e1=7->K (.ret (.tuple [])) ⟨[.dmap (mvM mvB (Zbo e4 M))],[],0⟩:=fun q=>by rw [Tk q] at h;exact h
  refine ZFs (fun g6=>wN ?_) (fun g6=>wN ?_)
  ·have h:=many (.inl (by have g6:(e1:Int)=6:=g6;omega));refine ZFs (fun _=>wN ?_) (fun q=>absurd g6 q);exact mq27
  have g6:¬e1=6:=by have g6:¬(e1:Int)=6:=g6;omega
  refine ZFs (fun g7=>wN ?_) (fun g7=>wN ?_)
  ·have h:=many (.inr (by have g7:(e1:Int)=7:=g7;omega));exact mq27
  have g7:¬e1=7:=by have g7:¬(e1:Int)=7:=g7;omega
  rw [Tf (fun q=>q.elim g6 g7)] at h;exact h
 exact h.elim
def ZEz:∀m,PC w0 nG 56 (ZnV m)
 | 0=>ZuL ⟨ZA (Zf Tryz.func56 kR rfl),trivial⟩
 | m+1=>ZuL ⟨ZB (sp:=ZnV) (ZEz m),trivial⟩
def Zb4:Zo:=fun args σ K=>match args,σ with
 | [.mp 0,.d (.sl rows)],⟨[.dmap mv],[],0⟩=>∃pl l M,rows=Ze pl l/\mv=mvM mvB M/\Zct l<=1099511627776/\(WY M l=none->K (.ret (.tuple [])) ⟨[.dmap (mvM mvB M)],[],0⟩)/\∀x,WY M l=some x->K (.panic (.iface 75 (.agg [.d (.int .i64 (pl (atX x)))]))) ⟨[.dmap (mvM mvB M)],[],0⟩
 | _,_=>False
def ZkM:Zz Zb4:=fun args σ K K' hK h=>by
 unfold Zb4 at h |-
 exact mq132
def Zyt:Tbl:=[(60,Zhh)]
def Zbu:PC w0 nG 26 Zb4:=by
 refine pwt (tbl:=Zyt) ⟨Zmd,trivial⟩ Tryz.func26 fun args σ K h=>?_
 unfold Zb4 at h
 split at h
 ·obtain ⟨pl,l,M,rfl,rfl,hz,h1,h2⟩:=h;have hl:(Ze pl l).length=l.length:=by rw [Zb,Td]
  have hsz:=YP l;refine pwu [(1,⟨[10],[0,8,9],fun vs σ=>∃j:Nat,vs=[.d (.int .i64 j)]/\σ=⟨[.dmap (mvM mvB M)],[],0⟩/\j<=l.length/\WY M l=WY M (l.drop j),
   mu1 l.length⟩)] 1 false ?_
  conv=>whnf
  refine ⟨⟨0,rfl,rfl,oM,rfl⟩,?_⟩
  rintro vs σ1 ⟨j,rfl,rfl,hj,ha⟩
  rw [ha] at h1 h2;(conv=>whnf);refine ZFs (fun hc=>?_) (fun hc=>?_);rotate_left
  ·have ec:l.length<=j:=by have hc:¬(j:Int)<((Ze pl l).length:Nat):=hc;omega
   rw [Tr ec] at h1;have h1:=h1 rfl;(conv=>whnf);exact h1
  have aa:j<l.length:=by have hc:(j:Int)<((Ze pl l).length:Nat):=hc;omega
  have hd:=ZfX (m:=M) aa;have hr:(Ze pl l)[(j:Int).toNat]?=some (ZE pl l[j]):=by rw [Tj,Zb,Th,Ta aa];rfl
  have hg:=Yh l j aa;have hμ:((l.length:Int) - ((j:Int)+1)).toNat<((l.length:Int) - (j:Int)).toNat:=oM;generalize l[j]=x at hd hr hg;rw [hd] at h1 h2 ha;obtain ⟨b1,b2,b3,b4,b5⟩:=x;(conv=>whnf);refine ⟨_,oM,hr,wN ?_⟩;refine ⟨pl,.mk b1 b2 b3 b4 b5,M,rfl,rfl,oM,fun o ho=>?_⟩;rw [ho] at h1 h2 ha
  cases o with
  | none =>
   conv=>whnf
   exact mq52
  | some y =>
  have h2:=h2 _ rfl;(conv=>whnf);exact h2
 exact h.elim
def ZuM {m:Nat}:OKw w0 nG [(26,Zb4),(61,spB ZnW m)] 61 (ZnW m):=by
 refine pwo Tryz.func61 fun args σ K h=>?_
 unfold ZnW Jh at h
 split at h
 ·obtain ⟨pl,⟨e1,e2,e3,e4,e5⟩,M,rfl,rfl,⟨hm,eu⟩,h⟩:=h;unfold ZCr at h
  simp only [ZCo] at h;simp only [szE] at hm;have hl:(Ze pl e4).length=e4.length:=by rw [Zb,Td]
  have hsz:=YP e4;refine pwu [(4,⟨[16],[0,14,15],fun vs σ=>∃j:Nat,vs=[.d (.int .i64 j)]/\σ=⟨[.dmap (mvM mvB M),.cells 50 ((ZE pl (.mk e1 e2 e3 e4 e5)).map .d)],[],0⟩/\j<=e4.length/\Zhc M e4=Zhc M (e4.drop j),
   mu1 e4.length⟩)] 1 false ?_
  conv=>whnf
  refine ZFs (fun g=>wN ?_) (fun g=>wN ?_)
  ·have g:8<=e1:=by have g:(8:Int)<=e1:=g;omega
   rw [Tk g] at h;obtain ⟨h1,h2⟩:=h;refine ⟨pl,e4,M,rfl,rfl,oM,fun ho=>wN ?_,fun x ho=>wN ?_⟩
   ·have h1:=h1 ho;exact h1
   have h2:=h2 x ho;exact h2
  have g:¬8<=e1:=by have g:¬(8:Int)<=e1:=g;omega
  rw [Tf g] at h;refine ⟨⟨0,rfl,rfl,oM,rfl⟩,?_⟩
  rintro vs σ1 ⟨j,rfl,rfl,hj,ha⟩
  rw [ha] at h;obtain ⟨h1,h2⟩:=h;(conv=>whnf);refine ZFs (fun hc=>?_) (fun hc=>?_);rotate_left
  ·exact mq76
  have aa:j<e4.length:=by have hc:(j:Int)<((Ze pl e4).length:Nat):=hc;omega
  have hd:=ZfY (m:=M) aa;exact mq16
 exact h.elim
def ZEA:∀m,PC w0 nG 61 (ZnW m)
 | 0=>ZuM ⟨Zbu,ZA (Zf Tryz.func61 kR rfl),trivial⟩
 | m+1=>ZuM ⟨Zbu,ZB (sp:=ZnW) (ZEA m),trivial⟩
def ZuN {m:Nat}:OKw w0 nG [(26,Zb4),(62,spB ZnX m)] 62 (ZnX m):=by
 refine pwo Tryz.func62 fun args σ K h=>?_
 unfold ZnX Jh at h
 split at h
 ·obtain ⟨pl,⟨e1,e2,e3,e4,e5⟩,M,rfl,rfl,⟨hm,eu⟩,h⟩:=h;unfold ZCr at h
  simp only [ZCp] at h;simp only [szE] at hm;have hl:(Ze pl e4).length=e4.length:=by rw [Zb,Td]
  have hsz:=YP e4;refine pwu [(7,⟨[20],[0,18,19],fun vs σ=>∃j:Nat,vs=[.d (.int .i64 j)]/\σ=⟨[.dmap (mvM mvB M),.cells 50 ((ZE pl (.mk e1 e2 e3 e4 e5)).map .d)],[],0⟩/\j<=e4.length/\Zhd M e4=Zhd M (e4.drop j),
   mu1 e4.length⟩)] 1 false ?_
  conv=>whnf
  refine ZFs (fun g=>wN ?_) (fun g=>wN ?_)
  ·have g:e1=2:=by have g:(e1:Int)=2:=g;omega
   rw [Tk g] at h;have h:=h.1 rfl;exact h
  have g:¬e1=2:=by have g:¬(e1:Int)=2:=g;omega
  rw [Tf g] at h;refine ZFs (fun g6=>wN ?_) (fun g6=>wN ?_)
  ·rw [Tk (.inl (by have g6:(e1:Int)=6:=g6;omega))] at h;refine ZFs (fun _=>wN ?_) (fun q=>absurd g6 q);exact mq169
  have g6:¬e1=6:=by have g6:¬(e1:Int)=6:=g6;omega
  refine ZFs (fun g7=>wN ?_) (fun g7=>wN ?_)
  ·rw [Tk (.inr (by have g7:(e1:Int)=7:=g7;omega))] at h;exact mq169
  have g7:¬e1=7:=by have g7:¬(e1:Int)=7:=g7;omega
  rw [Tf (fun q=>q.elim g6 g7)] at h;have ha:WY M [.mk e1 e2 e3 e4 e5]=Zhb M (.mk e1 e2 e3 e4 e5):=by simp [WY,Zhb,ZfW]
  rw [<- ha] at h;obtain ⟨h1,h2⟩:=h;refine ⟨pl,[.mk e1 e2 e3 e4 e5],M,rfl,rfl,by simp only [Zct,szE];omega,fun ho=>wN ?_,fun x ho=>wN ?_⟩
  ·have h1:=h1 ho;exact h1
  have h2:=h2 x ho;exact h2
 exact h.elim
def ZEB:∀m,PC w0 nG 62 (ZnX m)
 | 0=>ZuN ⟨Zbu,ZA (Zf Tryz.func62 kR rfl),trivial⟩
 | m+1=>ZuN ⟨Zbu,ZB (sp:=ZnX) (ZEB m),trivial⟩
def ZkN:Zo:=fun args σ K=>match args,σ with
 | [.mp 0],⟨[.dmap mv],[],0⟩=>K (.ret (.mp 1)) ⟨[.dmap mv,.dmap mv],[],0⟩
 | _,_=>False
def ZtN:PC w0 nG 53 ZkN where
 enters:=Zf Tryz.func53 kR rfl
 calls:=fun args σ K hs n e w vs hS ha=>by
  unfold ZkN at hs
  split at hs
  ·rename_i mv
   obtain ⟨u,rfl,hu⟩:=ZgC ha
   cases hu with
   | mp _ eo =>
   obtain ⟨bn,ck,hst,es,h1,h2,h3,h4⟩:=hS.box 0 _ rfl;refine CallsIn.mono (callsIn_wide.2 (AnyW.maps_Clone Tryz.clone53 (e.β 0) es ck w h1)) fun en w' hh=>?_
   obtain ⟨rfl,rfl⟩:=hh;obtain ⟨g1,g2,g3⟩:=W6 hS (.dmap mv) (.map es ck) (fun e1 σ1 w1 acj hh=>⟨bn,ck,hst,es,hh,h2,h3,fun i u hu=>by
    obtain ⟨k1,k,x,k2,k3,k4,k5⟩:=h4 i u hu;exact ⟨k1,k,x,k2,k3,k4,k5.step acj⟩⟩)
   refine ⟨.ret (.mp 1),_,_,hs,⟨_,rfl,?_⟩,g2,g1.toLater⟩;have:=VRel.mp (G:=GG w0 nG) (e:=e.more 1 w.heap.size) (σ:=(⟨[.dmap mv],[],0⟩:St).new (.dmap mv)) (w:=w.alloc (.map es ck)) 1 (by rw [ZFz];exact Nat.lt_succ_self _)
   rwa [show (e.more 1 w.heap.size).β 1=w.heap.size by simp [Env.more]] at this
  exact hs.elim
def ZcB:∀(l:List Li) (i:Nat) (h:i<l.length),szL l[i]<Zji l
 | x::l,0,h=>by simp only [List.getElem_cons_zero,Zji];omega
 | x::l,i+1,h=>by have:=ZcB l i (by simpa using h);simp only [List.getElem_cons_succ,Zji];omega
def Zhj {op:Nat} {rel:Bs} {args:List Ex} {body:List Li} {a:Nat}:Zct args<szL (.mk op rel args body a):=by
 simp only [szL];rw [Yv];omega
def ZcC:∀l:List Li,l.length<=Zji l
 | []=>Tt _
 | x::l=>by have:=ZcC l;simp only [Te,Zji];omega
def Zea:Zo:=fun args σ K=>match args,σ with
 | [.mp 0,.d (.sl rows)],⟨[.dmap mv],[],0⟩=>∃pl l M,rows=ZQ pl l/\mv=mvM mvB M/\(JQ l/\Zji l<=1099511627776)/\∀M',K (.ret (.tuple [])) ⟨[.dmap (mvM mvB M')],[],0⟩
 | _,_=>False
def Zi0:Zz Zea:=fun args σ K K' hK h=>by
 unfold Zea at h |-
 split at h
 ·obtain ⟨pl,l,M,h1,h2,h3,h4⟩:=h;exact ⟨pl,l,M,h1,h2,h3,fun M'=>hK _ _ (h4 M')⟩
 exact h.elim
def ZtO:Tbl:=[(23,Zbt)]
def ZtP:PC w0 nG 24 Zea:=by
 refine pwt (tbl:=ZtO) ⟨Zmc,trivial⟩ Tryz.func24 fun args σ K h=>?_
 unfold Zea at h
 split at h
 ·obtain ⟨pl,l,M,rfl,rfl,⟨ey,hz⟩,h⟩:=h;have hl:(ZQ pl l).length=l.length:=by rw [Zm,Td]
  have hsz:=ZcC l;refine pwu [(1,⟨[8],[0,6,7],fun vs σ=>∃(j:Nat) (M':Bv),vs=[.d (.int .i64 j)]/\σ=⟨[.dmap (mvM mvB M')],[],0⟩/\j<=l.length,
   mu1 l.length⟩)] 1 false ?_
  conv=>whnf
  refine ⟨⟨0,M,rfl,rfl,oM⟩,?_⟩
  rintro vs σ1 ⟨j,M',rfl,rfl,hj⟩
  conv=>whnf
  refine ZFs (fun hc=>?_) (fun hc=>?_);rotate_left
  ·have h:=h M';exact mq51
  have aa:j<l.length:=by have hc:(j:Int)<((ZQ pl l).length:Nat):=hc;omega
  have hr:(ZQ pl l)[(j:Int).toNat]?=some (YT pl l[j]):=by rw [Tj,Zm,Th,Ta aa];rfl
  have hg:=ZcB l j aa;have eg:=ey _ (TC aa);have hμ:((l.length:Int) - ((j:Int)+1)).toNat<((l.length:Int) - (j:Int)).toNat:=oM;generalize l[j]=x at hr hg eg;obtain ⟨b1,b2,b3,b4,b5⟩:=x;have eg:b1<=8:=eg;have qv:=Zhj (op:=b1) (rel:=b2) (args:=b3) (body:=b4) (a:=b5);(conv=>whnf);refine ⟨_,oM,hr,wN ?_⟩;refine ZFs (fun g=>wN ?_) (fun g=>absurd (by show (b1:Int)<9;omega) g);refine ⟨pl,b3,M',rfl,rfl,oM,wN ?_⟩;refine Zi ?_;exact ⟨⟨j+1,_,rfl,rfl,oM⟩,hμ⟩
 exact h.elim
def Zbv:Zo:=fun args σ K=>match args,σ with
 | [.d (.sl rows),.mp 0,.mp 1],⟨[.dmap mv,.dmap mo],[],0⟩=>∃pl l M,rows=ZQ pl l/\mv=mvM mvB M/\(JQ l/\Zji l<=1099511627776/\M.length+(Zce l).length<=1099511627776)/\K (.ret (.mp 2)) ⟨[.dmap (mvM mvB M),.dmap mo,.dmap (mvM mvB (Zf0 l M))],[],0⟩
 | _,_=>False
def Zi1:Zz Zbv:=fun args σ K K' hK h=>by
 unfold Zbv at h |-
 split at h
 ·obtain ⟨pl,l,M,h1,h2,h3,h4⟩:=h;exact ⟨pl,l,M,h1,h2,h3,hK _ _ h4⟩
 exact h.elim
def Zyu (l:List Li) (R:Bv) (N0:Nat) (n:Int) (M':Bv):Prop:=n=(M'.length:Nat)/\(∃k,Zay l k M'=some R)/\unB (Zce l) M'+M'.length<=N0
def ZkO {l:List Li} {j:Nat} (h:j<l.length) (m:Bv):ZM m (l.take (j+1))=Zd5 (ZM m (l.take j)) l[j]:=by
 unfold ZM
 rw [List.take_add_one,Ta h,Sz];rfl
def ZuO (m:Bv):(mvM mvB m).length=m.length:=by unfold mvM;exact Td ..
def Zme:Tbl:=[(53,ZkN),(54,Zf3 1099511627776),(56,ZnV 1099511627776),(57,Zq9),(55,ZiZ 1099511627776)]
def ZtQ (ht:TO w0 nG Zme):PC w0 nG 25 Zbv:=by
 refine XQ Zy mixed (tbl:=Zme) ht Tryz.func25 rfl kR kR ?_;intro args σ K h
 unfold Zbv at h
 split at h
 ·rename_i mo
  obtain ⟨pl,l,M,rfl,rfl,⟨ey,hz,eu⟩,h⟩:=h;have hl:(ZQ pl l).length=l.length:=by rw [Zm,Td]
  have hsz:=ZcC l;have hR:=Zq0 l M;generalize Zf0 l M=R at h hR;have hN:unB (Zce l) M+M.length<=M.length+(Zce l).length:=by have:unB (Zce l) M<=(Zce l).length:=List.countP_le_length;omega
  generalize M.length+(Zce l).length=N0 at hN eu;refine ⟨Zj [
   (3,⟨[8],[0,2,7],fun vs σ=>∃(n:Int) (M':Bv),vs=[.d (.int .i64 n)]/\σ=⟨[.dmap (mvM mvB M),.dmap mo,.dmap (mvM mvB M')],[],0⟩/\unB (Zce l) M'+M'.length<=N0/\-1<=n/\((n<(M'.length:Nat)/\∃k,Zay l k M'=some R)\/(n=(M'.length:Nat)/\M'=R)),
    fun vs σ=>match vs,σ.bx with | [.d (.int _ n)],[_,_,.dmap m]=>2 * (N0 - m.length)+(if n<(m.length:Nat) then 1 else 0) | _,_=>0⟩),
   (6,⟨[25],[0,2,7,8,23,24],fun vs σ=>∃(n:Int) (M':Bv) (j:Nat),vs=[.d (.sl (ZQ pl l)),.mp 1,.mp 2,.d (.int .i64 n),.d (.sl (ZQ pl l)),.d (.int .i64 (ZQ pl l).length),.d (.int .i64 j)]/\σ=⟨[.dmap (mvM mvB M),.dmap mo,.dmap (mvM mvB (ZM M' (l.take j)))],[],0⟩/\Zyu l R N0 n M'/\j<=l.length,
    fun vs _=>match vs with | [_,_,_,_,_,_,.d (.int _ j)]=>((l.length:Int) - j).toNat | _=>0⟩),
   (11,⟨[47],[0,2,7,8,23,24,25,45,46],fun vs σ=>∃(n:Int) (M' M2:Bv) (j i:Nat) (rel:Bs) (ar:List Ex) (body:List Li) (a:Nat),vs=[.d (.sl (ZQ pl l)),.mp 1,.mp 2,.d (.int .i64 n),.d (.sl (ZQ pl l)),.d (.int .i64 (ZQ pl l).length),.d (.int .i64 j),.d (.sl (Ze pl ar)),.d (.int .i64 (Ze pl ar).length),.d (.int .i64 i)]/\σ=⟨[.dmap (mvM mvB M),.dmap mo,.dmap (mvM mvB M2),.cells 84 ((YT pl (.mk 1 rel ar body a)).map .d)],[],0⟩/\Zyu l R N0 n M'/\l[j]?=some (.mk 1 rel ar body a)/\Zbo (ar.drop i) M2=ZM M' (l.take (j+1))/\i<=ar.length,
    fun vs _=>match vs with | [_,_,_,_,_,_,_,_,.d (.int _ n),.d (.int _ j)]=>(n - j).toNat | _=>0⟩),
   (17,⟨[63],[0,2,7,8,10,23,24,25],fun vs σ=>∃(n:Int) (M' M2:Bv) (j i:Nat) (rel:Bs) (a b:Ex) (body:List Li) (at':Nat),vs=[.d (.sl (ZQ pl l)),.mp 1,.mp 2,.d (.int .i64 n),.ptr 3 0,.d (.sl (ZQ pl l)),.d (.int .i64 (ZQ pl l).length),.d (.int .i64 j),.d (.int .i64 i)]/\σ=⟨[.dmap (mvM mvB M),.dmap mo,.dmap (mvM mvB M2),.cells 84 ((YT pl (.mk 3 rel [a,b] body at')).map .d)],[],0⟩/\Zyu l R N0 n M'/\l[j]?=some (.mk 3 rel [a,b] body at')/\((i=0/\YA (YA M2 a b) b a=ZM M' (l.take (j+1)))\/(i=1/\YA M2 b a=ZM M' (l.take (j+1)))\/(i=2/\M2=ZM M' (l.take (j+1)))),
    fun vs _=>match vs with | [_,_,_,_,_,_,_,_,.d (.int _ j)]=>(2 - j).toNat | _=>0⟩)],Xo [],Ye [6,11,17],3,false,sM,Tc rfl,?_⟩
  conv=>whnf
  refine ⟨⟨-1,M,rfl,rfl,hN,oM,.inl ⟨oM,_,hR⟩⟩,?_⟩
  rintro vs σ1 ⟨n0,M0,rfl,rfl,yx,ec,sm⟩
  have we:=ZuO M0;(conv=>whnf);refine ZFs (fun hc=>?_) (fun hc=>?_);rotate_left
  ·have hc:¬n0<((mvM mvB M0).length:Nat):=hc;rcases sm with ⟨q,_⟩ | ⟨_,q⟩
   ·omega
   subst q;exact mq51
  have hc:n0<((mvM mvB M0).length:Nat):=hc;obtain ⟨_,k,hk⟩:n0<(M0.length:Nat)/\∃k,Zay l k M0=some R:=sm.elim id fun q=>oM
  conv=>whnf
  refine ⟨⟨_,M0,0,rfl,rfl,⟨by rw [we],⟨k,hk⟩,yx⟩,oM⟩,?_⟩
  rintro vs2 σ2 ⟨n,M',j,be,rfl,⟨hn,⟨k',gk⟩,o6⟩,hj⟩
  have en:n=((mvM mvB M0).length:Nat):=by
   exact mq93
  have be:vs2=[.d (.int .i64 j)]:=congrArg (List.drop 6) be;subst be;subst en;(conv=>whnf);refine ZFs (fun bm=>?_) (fun bm=>?_);rotate_left
  ·have hje:l.length<=j:=by have bm:¬(j:Int)<((ZQ pl l).length:Nat):=bm;omega
   rw [List.take_of_length_le hje];have yy:=Zbr (X:=Zce l) l M' fun t h=>h
   have np:=ZuO (ZM M' l);have h1:=yy.2.1;have h2:=yy.2.2
   cases k' with
   | zero=>cases gk
   | succ k' =>
   simp only [Zay] at gk;generalize ZM M' l=M1 at gk np h1 h2;(conv=>whnf);refine ⟨⟨_,M1,rfl,rfl,oM,oM,?_⟩,?_⟩
   ·split at gk
    ·exact .inl ⟨oM,k',gk⟩
    exact .inr ⟨oM,Option.some.inj gk⟩
   show 2 * (N0 - (mvM mvB M1).length)+(if (((mvM mvB M0).length:Nat):Int)<((mvM mvB M1).length:Nat) then 1 else 0)<2 * (N0 - (mvM mvB M0).length)+(if n0<((mvM mvB M0).length:Nat) then 1 else 0);rw [Tk hc];split <;> omega
  have aa:j<l.length:=by have bm:(j:Int)<((ZQ pl l).length:Nat):=bm;omega
  have hr:(ZQ pl l)[(j:Int).toNat]?=some (YT pl l[j]):=by rw [Tj,Zm,Th,Ta aa];rfl
  have hg:=ZcB l j aa;have eg:=ey _ (TC aa);have hx:l[j]?=some l[j]:=Ta aa;have hb:=ZkO aa M';have hμ:((l.length:Int) - ((j:Int)+1)).toNat<((l.length:Int) - (j:Int)).toNat:=oM;generalize l[j]=x at hr hg eg hx hb;obtain ⟨b1,b2,b3,b4,b5⟩:=x;have eg:b1<=8:=eg;have qv:=Zhj (op:=b1) (rel:=b2) (args:=b3) (body:=b4) (a:=b5);have ia:(Ze pl b3).length=b3.length:=by rw [Zb,Td]
  have qa:=YP b3;rcases (show b1=1\/b1=3\/(b1=0\/b1=2\/b1=4\/b1=5\/b1=6\/b1=7\/b1=8) by omega) with rfl | rfl | ho
  rotate_left 2
  ·rcases ho with rfl | rfl | rfl | rfl | rfl | rfl | rfl
   all_goals
    rw [show Zd5 (ZM M' (l.take j)) _=ZM M' (l.take j) from rfl] at hb;(conv=>whnf);refine ⟨_,oM,hr,wN ?_⟩;refine Zi ?_;exact ⟨⟨_,M',j+1,rfl,by rw [hb];rfl,⟨hn,⟨k',gk⟩,o6⟩,oM⟩,hμ⟩
  ·
   conv=>whnf
   refine ⟨_,oM,hr,wN ?_⟩;refine ⟨pl,b3,_,rfl,rfl,⟨rfl,oM,oM⟩,fun d hd=>?_⟩;have hd:D.bool (Jg (ZM M' (l.take j)) b3)=d:=hd;obtain ⟨ob,uz⟩:∃ob,Jg (ZM M' (l.take j)) b3=ob:=⟨_,rfl⟩
   rw [uz] at hd;subst hd
   cases ob with
   | true =>
    rw [show Zd5 (ZM M' (l.take j)) (.mk 1 b2 b3 b4 b5)=ZM M' (l.take j) by show (if Jg (ZM M' (l.take j)) b3=false then Zbo b3 (ZM M' (l.take j)) else ZM M' (l.take j))=_;rw [Tf (by rw [uz];simp)]] at hb;(conv=>whnf);refine Zi ?_;exact ⟨⟨_,M',j+1,rfl,by rw [hb];rfl,⟨hn,⟨k',gk⟩,o6⟩,oM⟩,hμ⟩
   | false =>
   rw [show Zd5 (ZM M' (l.take j)) (.mk 1 b2 b3 b4 b5)=Zbo b3 (ZM M' (l.take j)) by show (if Jg (ZM M' (l.take j)) b3=false then Zbo b3 (ZM M' (l.take j)) else ZM M' (l.take j))=_;rw [Tk uz]] at hb;(conv=>whnf);refine ⟨⟨_,M',_,j,0,b2,b3,b4,b5,rfl,rfl,⟨hn,⟨k',gk⟩,o6⟩,hx,hb.symm,oM⟩,?_⟩
   rintro vs3 σ3 ⟨n2,M3,M2,j2,i,rel,ar,bd,a,be,rfl,hP,bo,hp,hi⟩
   have en:n2=((mvM mvB M0).length:Nat):=by
    exact mq93
   have ej:j2=j:=by
    have e:=Option.some.inj (congrArg (fun t:List PV=>t[6]?) be);exact mq148
   subst en ej;rw [hx] at bo
   cases bo
   have be:vs3=[.d (.int .i64 i)]:=congrArg (List.drop 9) be;subst be;(conv=>whnf);refine ZFs (fun ek=>?_) (fun ek=>?_);rotate_left
   ·have ss:b3.length<=i:=by have ek:¬(i:Int)<((Ze pl b3).length:Nat):=ek;omega
    rw [Tr ss] at hp;have hp:M2=ZM M3 (l.take (j2+1)):=hp;subst hp;(conv=>whnf);refine Zi ?_;exact ⟨⟨_,M3,j2+1,rfl,rfl,hP,oM⟩,hμ⟩
   have lu:i<b3.length:=by have ek:(i:Int)<((Ze pl b3).length:Nat):=ek;omega
   rw [Zbp lu] at hp;have my:(Ze pl b3)[(i:Int).toNat]?=some (ZE pl b3[i]):=by rw [Tj,Zb,Th,Ta lu];rfl
   have hg3:=Yh b3 i lu;generalize b3[i]=y at hp my hg3;obtain ⟨c1,c2,c3,c4,c5⟩:=y;(conv=>whnf);refine ⟨_,oM,my,wN ?_⟩;refine ⟨pl,.mk c1 c2 c3 c4 c5,M2,rfl,rfl,⟨oM,oM⟩,wN ?_⟩;refine Zi ?_;refine ⟨⟨_,M3,_,j2,i+1,b2,b3,b4,b5,rfl,rfl,hP,hx,hp,oM⟩,?_⟩;exact mq210
  
  match b3,ia,qa,qv,hg,hr,hx,hb with
  | [],ia,qa,qv,hg,hr,hx,hb =>
   exact mq57
  | [c],ia,qa,qv,hg,hr,hx,hb =>
   exact mq57
  | c::d::e::f,ia,qa,qv,hg,hr,hx,hb =>
   exact mq57
  | [.mk c1 c2 c3 c4 c5,.mk d1 d2 d3 d4 d5],ia,qa,qv,hg,hr,hx,hb =>
   have vw:szE (.mk c1 c2 c3 c4 c5)<1099511627776:=by simp only [Zct] at qv;omega
   have hsb:szE (.mk d1 d2 d3 d4 d5)<1099511627776:=by simp only [Zct] at qv;omega
   rw [show Zd5 (ZM M' (l.take j)) (.mk 3 b2 [.mk c1 c2 c3 c4 c5,.mk d1 d2 d3 d4 d5] b4 b5)=YA (YA (ZM M' (l.take j)) (.mk c1 c2 c3 c4 c5) (.mk d1 d2 d3 d4 d5)) (.mk d1 d2 d3 d4 d5) (.mk c1 c2 c3 c4 c5) from rfl] at hb;(conv=>whnf);refine ⟨_,oM,hr,wN ?_⟩;refine ⟨⟨_,M',_,j,0,b2,.mk c1 c2 c3 c4 c5,.mk d1 d2 d3 d4 d5,b4,b5,rfl,rfl,⟨hn,⟨k',gk⟩,o6⟩,hx,.inl ⟨rfl,hb.symm⟩⟩,?_⟩
   rintro vs3 σ3 ⟨n2,M3,M2,j2,i,rel,ea,eb,bd,a,be,rfl,hP,bo,hp⟩
   have en:n2=((mvM mvB M0).length:Nat):=by
    exact mq93
   have ej:j2=j:=by
    have e:=Option.some.inj (congrArg (fun t:List PV=>t[7]?) be);exact mq148
   subst en ej;rw [hx] at bo
   cases bo
   have be:vs3=[.d (.int .i64 i)]:=congrArg (List.drop 8) be;subst be;rcases hp with ⟨rfl,hp⟩ | ⟨rfl,hp⟩ | ⟨rfl,hp⟩
   ·have hN1:∀q,YA M2 (.mk c1 c2 c3 c4 c5) (.mk d1 d2 d3 d4 d5)=q->YA q (.mk d1 d2 d3 d4 d5) (.mk c1 c2 c3 c4 c5)=ZM M3 (l.take (j2+1)):=fun q e=>by rw [<- e];exact hp
    conv=>whnf
    refine X6 ?_;refine ⟨_,dM,rfl,wN ?_⟩;refine ⟨pl,(.mk d1 d2 d3 d4 d5),M2,rfl,rfl,⟨hsb,oM⟩,fun p lm=>?_⟩;have lm:(Zhb M2 (.mk d1 d2 d3 d4 d5)).isNone=p:=lm
    cases p with
    | false =>
     have e1:YA M2 (.mk c1 c2 c3 c4 c5) (.mk d1 d2 d3 d4 d5)=M2:=by unfold YA;rw [Tf (fun q=>by rw [lm] at q;cases q.1)]
     conv=>whnf
     exact mq60
    | true =>
    conv=>whnf
    refine ⟨_,dM,rfl,wN ?_⟩;refine ⟨pl,(.mk c1 c2 c3 c4 c5),M2,rfl,rfl,⟨vw,oM⟩,fun p o7=>?_⟩;have o7:ZeT M2 (.mk c1 c2 c3 c4 c5)=p:=o7
    cases p with
    | true =>
     have e1:YA M2 (.mk c1 c2 c3 c4 c5) (.mk d1 d2 d3 d4 d5)=M2:=by unfold YA;rw [Tf (fun q=>by rw [o7] at q;cases q.2)]
     conv=>whnf
     exact mq60
    | false =>
    have e1:YA M2 (.mk c1 c2 c3 c4 c5) (.mk d1 d2 d3 d4 d5)=ZtI (.mk c1 c2 c3 c4 c5) M2:=by unfold YA;rw [Tk ⟨lm,o7⟩]
    conv=>whnf
    refine ⟨_,dM,rfl,wN ?_⟩;refine ⟨pl,(.mk c1 c2 c3 c4 c5),M2,rfl,rfl,⟨vw,oM⟩,wN ?_⟩;exact mq60
   ·have hN1:∀q,YA M2 (.mk d1 d2 d3 d4 d5) (.mk c1 c2 c3 c4 c5)=q->q=ZM M3 (l.take (j2+1)):=fun q e=>by rw [<- e];exact hp
    conv=>whnf
    refine X6 ?_;refine ⟨_,dM,rfl,wN ?_⟩;refine ⟨pl,(.mk c1 c2 c3 c4 c5),M2,rfl,rfl,⟨vw,oM⟩,fun p lm=>?_⟩;have lm:(Zhb M2 (.mk c1 c2 c3 c4 c5)).isNone=p:=lm
    cases p with
    | false =>
     have e1:YA M2 (.mk d1 d2 d3 d4 d5) (.mk c1 c2 c3 c4 c5)=M2:=by unfold YA;rw [Tf (fun q=>by rw [lm] at q;cases q.1)]
     conv=>whnf
     exact mq59
    | true =>
    conv=>whnf
    refine ⟨_,dM,rfl,wN ?_⟩;refine ⟨pl,(.mk d1 d2 d3 d4 d5),M2,rfl,rfl,⟨hsb,oM⟩,fun p o7=>?_⟩;have o7:ZeT M2 (.mk d1 d2 d3 d4 d5)=p:=o7
    cases p with
    | true =>
     have e1:YA M2 (.mk d1 d2 d3 d4 d5) (.mk c1 c2 c3 c4 c5)=M2:=by unfold YA;rw [Tf (fun q=>by rw [o7] at q;cases q.2)]
     conv=>whnf
     exact mq59
    | false =>
    have e1:YA M2 (.mk d1 d2 d3 d4 d5) (.mk c1 c2 c3 c4 c5)=ZtI (.mk d1 d2 d3 d4 d5) M2:=by unfold YA;rw [Tk ⟨lm,o7⟩]
    conv=>whnf
    refine ⟨_,dM,rfl,wN ?_⟩;refine ⟨pl,(.mk d1 d2 d3 d4 d5),M2,rfl,rfl,⟨hsb,oM⟩,wN ?_⟩;exact mq59
   subst hp;(conv=>whnf);refine Zi ?_;exact ⟨⟨_,M3,j2+1,rfl,rfl,hP,oM⟩,hμ⟩
 exact h.elim
def Zeb:Zo:=fun args σ K=>match args,σ with
 | [.mp 0,.d (.sl rows),.mp 1],⟨[.dmap mv,.dmap mo],[],0⟩=>∃pl l M,rows=ZQ pl l/\mv=mvM mvB M/\(JQ l/\Zji l<=1099511627776)/\(VY M l=none->K (.ret (.tuple [])) ⟨[.dmap (mvM mvB M),.dmap mo],[],0⟩) /\
   ∀x,VY M l=some x->K (.panic (.iface 75 (.agg [.d (.int .i64 (pl (atX x)))]))) ⟨[.dmap (mvM mvB M),.dmap mo],[],0⟩
 | _,_=>False
def Zi2:Zz Zeb:=fun args σ K K' hK h=>by
 unfold Zeb at h |-
 exact mq132
def Zmf:Tbl:=[(61,ZnW 1099511627776),(62,ZnX 1099511627776),(26,Zb4)]
def ZtR (ht:TO w0 nG Zmf):PC w0 nG 27 Zeb:=by
 refine XQ Zy mixed (tbl:=Zmf) ht Tryz.func27 rfl kR kR ?_;intro args σ K h
 unfold Zeb at h
 split at h
 ·rename_i mo
  obtain ⟨pl,l,M,rfl,rfl,⟨ey,hz⟩,h1,h2⟩:=h;have hl:(ZQ pl l).length=l.length:=by rw [Zm,Td]
  have hsz:=ZcC l;refine ⟨Zj [(1,⟨[14],[0,2,12,13],fun vs σ=>∃j:Nat,vs=[.d (.int .i64 j)]/\σ=⟨[.dmap (mvM mvB M),.dmap mo],[],0⟩/\j<=l.length/\VY M l=VY M (l.drop j),
    mu1 l.length⟩),
   (7,⟨[36],[0,2,12,13,14,34,35],fun vs σ=>∃(j i:Nat) (rel:Bs) (ar:List Ex) (body:List Li) (a:Nat),vs=[.mp 0,.mp 1,.d (.sl (ZQ pl l)),.d (.int .i64 (ZQ pl l).length),.d (.int .i64 j),.d (.sl (Ze pl ar)),.d (.int .i64 (Ze pl ar).length),.d (.int .i64 i)]/\σ=⟨[.dmap (mvM mvB M),.dmap mo,.cells 84 ((YT pl (.mk 1 rel ar body a)).map .d)],[],0⟩/\l[j]?=some (.mk 1 rel ar body a)/\i<=ar.length/\VY M l=(match Zhc M (ar.drop i) with | some x=>some x | none=>VY M (l.drop (j+1))),
    fun vs _=>match vs with | [_,_,_,_,_,_,.d (.int _ n),.d (.int _ i)]=>(n - i).toNat | _=>0⟩),
   (13,⟨[51],[0,2,12,13,14,49,50],fun vs σ=>∃(j i:Nat) (rel:Bs) (ar:List Ex) (body:List Li) (a:Nat),vs=[.mp 0,.mp 1,.d (.sl (ZQ pl l)),.d (.int .i64 (ZQ pl l).length),.d (.int .i64 j),.d (.sl (Ze pl ar)),.d (.int .i64 (Ze pl ar).length),.d (.int .i64 i)]/\σ=⟨[.dmap (mvM mvB M),.dmap mo,.cells 84 ((YT pl (.mk 2 rel ar body a)).map .d)],[],0⟩/\l[j]?=some (.mk 2 rel ar body a)/\i<=ar.length/\VY M l=(match Zhd M (ar.drop i) with | some x=>some x | none=>VY M (l.drop (j+1))),
    fun vs _=>match vs with | [_,_,_,_,_,_,.d (.int _ n),.d (.int _ i)]=>(n - i).toNat | _=>0⟩)],Xo [],Ye [7,13],2,false,sM,Tc rfl,?_⟩
  conv=>whnf
  refine ⟨⟨0,rfl,rfl,oM,rfl⟩,?_⟩
  rintro vs σ1 ⟨j,rfl,rfl,hj,ha⟩
  conv=>whnf
  refine ZFs (fun hc=>?_) (fun hc=>?_);rotate_left
  ·have ec:l.length<=j:=by have hc:¬(j:Int)<((ZQ pl l).length:Nat):=hc;omega
   rw [Tr ec] at ha;have h1:=h1 ha;(conv=>whnf);exact h1
  have aa:j<l.length:=by have hc:(j:Int)<((ZQ pl l).length:Nat):=hc;omega
  have hr:(ZQ pl l)[(j:Int).toNat]?=some (YT pl l[j]):=by rw [Tj,Zm,Th,Ta aa];rfl
  have hg:=ZcB l j aa;have eg:=ey _ (TC aa);have hx:l[j]?=some l[j]:=Ta aa;have hd:=ZkI (m:=M) aa;have hμ:((l.length:Int) - ((j:Int)+1)).toNat<((l.length:Int) - (j:Int)).toNat:=oM;generalize l[j]=x at hr hg eg hx hd;rw [hd] at ha;obtain ⟨b1,b2,b3,b4,b5⟩:=x;have eg:b1<=8:=eg;have qv:=Zhj (op:=b1) (rel:=b2) (args:=b3) (body:=b4) (a:=b5);have ia:(Ze pl b3).length=b3.length:=by rw [Zb,Td]
  have qa:=YP b3;rcases (show b1=1\/b1=2\/(b1=0\/b1=3\/b1=4\/b1=5\/b1=6\/b1=7\/b1=8) by omega) with rfl | rfl | ho
  ·rw [show ZqY M (.mk 1 b2 b3 b4 b5)=Zhc M b3 from rfl] at ha;(conv=>whnf);refine ⟨_,oM,hr,wN ?_⟩;refine ⟨⟨j,0,b2,b3,b4,b5,rfl,rfl,hx,oM,ha⟩,?_⟩
   rintro vs3 σ3 ⟨j2,i,rel,ar,bd,a,be,rfl,bo,hi,et⟩
   have ej:j2=j:=by
    have e:=Option.some.inj (congrArg (fun t:List PV=>t[4]?) be);exact mq148
   subst ej;rw [hx] at bo
   cases bo
   have be:vs3=[.d (.int .i64 i)]:=congrArg (List.drop 7) be;subst be;rw [et] at h1 h2;(conv=>whnf);refine ZFs (fun ek=>?_) (fun ek=>?_);rotate_left
   ·exact mq117
   have lu:i<b3.length:=by have ek:(i:Int)<((Ze pl b3).length:Nat):=ek;omega
   have ny:=ZfY (m:=M) lu;exact mq41
  ·rw [show ZqY M (.mk 2 b2 b3 b4 b5)=Zhd M b3 from rfl] at ha;(conv=>whnf);refine ⟨_,oM,hr,wN ?_⟩;refine ⟨⟨j,0,b2,b3,b4,b5,rfl,rfl,hx,oM,ha⟩,?_⟩
   rintro vs3 σ3 ⟨j2,i,rel,ar,bd,a,be,rfl,bo,hi,et⟩
   have ej:j2=j:=by
    have e:=Option.some.inj (congrArg (fun t:List PV=>t[4]?) be);exact mq148
   subst ej;rw [hx] at bo
   cases bo
   have be:vs3=[.d (.int .i64 i)]:=congrArg (List.drop 7) be;subst be;rw [et] at h1 h2;(conv=>whnf);refine ZFs (fun ek=>?_) (fun ek=>?_);rotate_left
   ·exact mq117
   have lu:i<b3.length:=by have ek:(i:Int)<((Ze pl b3).length:Nat):=ek;omega
   have ny:=Zbq (m:=M) lu;exact mq41
  rcases ho with rfl | rfl | rfl | rfl | rfl | rfl | rfl
  all_goals
   rw [show ZqY M _=WY M b3 from rfl] at ha;rw [ha] at h1 h2;(conv=>whnf);refine ⟨_,oM,hr,wN ?_⟩;refine ⟨pl,b3,M,rfl,rfl,oM,fun hy=>wN ?_,fun z hy=>wN ?_⟩
   ·rw [hy] at ha;exact mq52
   rw [hy] at h2;have h2:=h2 z rfl;exact h2
 exact h.elim
def ZcD:Zo:=fun args σ K=>match args,σ with
 | [],⟨[],[],0⟩=>K (.ret (.d (.bool true))) ⟨[],[],0⟩
 | _,_=>False
def ZtS:PC w0 nG 44 ZfJ:=Zx0 ⟨ZlW,trivial⟩
def ZuP:PC w0 nG 43 Zas:=Zqq ⟨ZlW,trivial⟩
def Zb5:PC w0 nG 97 VO:=Zqr ⟨ZtS,trivial⟩
def ZuQ:PC w0 nG 42 ZdT:=Ztk ⟨Zti ⟨Ztg ⟨Zte ⟨ZuP,trivial⟩,trivial⟩,trivial⟩,trivial⟩
def ZFf:PC w0 nG 19 Ztr:=ZBe ⟨Ztq ⟨Zto ⟨Ztm ⟨ZuQ,trivial⟩,trivial⟩,trivial⟩,ZuQ,ZuP,ZtS,trivial⟩
def Zyv:PC w0 nG 18 Zcv:=Zqw ⟨Zkv ⟨Zkt,trivial⟩,Zky ⟨Zkw,trivial⟩,trivial⟩
def ZBA:PC w0 nG 106 Zg3:=Zqs ⟨ZtS,trivial⟩
def Zyw:PC w0 nG 169 Zat:=ZnL ⟨Zb5,trivial⟩
def ZDA:PC w0 nG 171 Zqz:=ZBh ⟨Zb5,trivial⟩
def Zyx:PC w0 nG 170 ZkB:=ZBi
def Zmg:PC w0 nG 98 ZdX:=Ztu ⟨Zyw,Zyx,trivial⟩
def Zmh:PC w0 nG 99 ZdY:=Ztw ⟨ZDA,trivial⟩
def kGv:∀m,PC w0 nG 46 (Zx4 m)
 | 0=>ZBj ⟨ZA (Zf Tryz.func46 kR rfl),Zmg,trivial⟩
 | m+1=>ZBj ⟨ZB (sp:=Zx4) (kGv m),Zmg,trivial⟩
def kRt:∀m,PC w0 nG 100 (Zx5 m)
 | 0=>ZuC ⟨ZA (Zf Tryz.func100 kR rfl),ZDA,Zmg,Zyx,trivial⟩
 | m+1=>ZuC ⟨ZB (sp:=Zx5) (kRt m),ZDA,Zmg,Zyx,trivial⟩
def ZDB (m:Nat):PC w0 nG 45 (ZqB m):=ZBl ⟨kGv m,Zb5,trivial⟩
def ZFg (m:Nat):PC w0 nG 45 (ZtA m):=ZBo ⟨kRt m,Zb5,trivial⟩
def ZBB:∀m,PC w0 nG 47 (ZfS m)
 | 0=>ZqE ⟨ZA (Zf Tryz.func47 kR rfl),kGv 0,ZDB 0,Zmh,trivial⟩
 | m+1=>ZqE ⟨ZB (sp:=ZfS) (ZBB m),kGv _,ZDB _,Zmh,trivial⟩
def Zyy (m:Nat):PC w0 nG 49 (ZfT m):=Zx8 ⟨ZFg m,trivial⟩
def ZBC:∀m,PC w0 nG 50 (Zd0 m)
 | 0=>ZqL ⟨ZA (Zf Tryz.func50 kR rfl),kRt 0,Zyy 0,Zmh,trivial⟩
 | m+1=>ZqL ⟨ZB (sp:=Zd0) (ZBC m),kRt _,Zyy _,Zmh,trivial⟩
def kH1:PC w0 nG 102 ZCm:=ZDq
def kH2:PC w0 nG 103 ZCn:=ZDu ⟨ZtS,Zye ⟨Zyc ⟨Zya ⟨ZBA,trivial⟩,trivial⟩,trivial⟩,trivial⟩
def ZEC:∀m,PC w0 nG 101 (ZnQ m)
 | 0=>ZuG ⟨ZA (Zf Tryz.func101 kR rfl),kH1,Zb5,Zyx,trivial⟩
 | m+1=>ZuG ⟨ZB (sp:=ZnQ) (ZEC m),kH1,Zb5,Zyx,trivial⟩
def ZED:∀m,PC w0 nG 101 (ZnR m)
 | 0=>ZuH ⟨ZA (Zf Tryz.func101 kR rfl),kH2,Zb5,Zyx,trivial⟩
 | m+1=>ZuH ⟨ZB (sp:=ZnR) (ZED m),kH2,Zb5,Zyx,trivial⟩
def ZBD (m:Nat):PC w0 nG 51 (Zd1 m):=ZtF ⟨ZqR (ZEC m) (ZED m),trivial⟩
def Zyz (m:Nat):PC w0 nG 21 (ZcA m):=ZqS ⟨Zyy m,ZBC m,ZBD m,trivial⟩
def ZyA (m:Nat):PC w0 nG 20 (Zcx m):=ZqJ ⟨ZDB m,ZBB m,trivial⟩
def ZuR {n:Nat} (hp:PC w0 nG 17 (ZnI XT Zaq ZfG n)):PC w0 nG 7 (Zd4 n):=ZtH ⟨Zyl ⟨hp,Zyv,ZFf,ZyA _,Zyz _,trivial⟩,trivial⟩
mutual
def ZBE:∀e:Ex,(nvE e).length<=szE e
 | .mk op t n args a=>by
  have:=ZkP args;simp only [nvE,szE];split
  ·simp only [Te,Tg];omega
  omega
def ZkP:∀l:List Ex,(Zqy l).length<=Zct l
 | []=>Tt _
 | e::l=>by
  have h1:=ZBE e;have h2:=ZkP l;simp only [Zqy,Zct,Tb];omega
end
mutual
def ZBF:∀x:Li,(nvL x).length<=szL x
 | .mk op rel args body a=>by
  have h1:=ZkP args;have h2:=ZkQ body;simp only [nvL,szL,Tb];rw [<- Yv];omega
def ZkQ:∀l:List Li,(Zce l).length<=Zji l
 | []=>Tt _
 | x::l=>by
  have h1:=ZBF x;have h2:=ZkQ l;simp only [Zce,Zji,Tb];omega
end
def recOfG:Nat×Nat×Code:=match Zy5 (YR Tryz.f22) with | some x=>x | none=>(0,0,.skip)
def ZyB:List PV->St->(St->Prop)->Prop:=fun args σ K=>args.length<=Tryz.f22.ntmps/\W (ctx Vr [] (Zj [])) recOfG.2.2 (Zsh Vr Tryz.f22 σ.bx.length K) (W1 (W1 (Zb7 0 args) recOfG.1 (.d .nili)) recOfG.2.1 (.d .nili)) σ
def ZyC:PV->List PV->St->(St->Prop)->Prop:=fun pv args σ K=>args.length<=Tryz.f22.ntmps/\W (ctx Vr [] (Zj [])) recOfG.2.2 (Zsh Vr Tryz.f22 σ.bx.length K) (W1 (W1 (Zb7 0 args) recOfG.1 pv) recOfG.2.1 pv) σ
def ZyD:PDef (GG w0 nG) 22 ZyB ZyC :=
 Zj1 (a:=recOfG.1) (b:=recOfG.2.1) (rest:=recOfG.2.2) Zy mixed Tryz.func22 rfl kR rfl kR (fun args σ K h=>⟨Zn6 Vr [] (Zj []) (fun _=>0) (fun _=>false),σ.bx.length,CxG.of (tbl:=[]) Zy trivial trivial _ _ _,Tt _,h.1,h.2⟩) (fun pv args σ K h=>⟨Zn6 Vr [] (Zj []) (fun _=>0) (fun _=>false),σ.bx.length,CxG.of (tbl:=[]) Zy trivial trivial _ _ _,Tt _,h.1,h.2⟩)
def ZDC (pl:Pl):Option Ex->PV
 | some x=>.tuple [.d (.int .i64 (pl (atX x))),.d (.int .i64 190)]
 | none=>.tuple [.d (.int .i64 0),.d (.int .i64 0)]
def Zhk:Zo:=fun args σ K=>match args,σ with
 | [.agg c],⟨[],[],0⟩=>∃pl r,c=(ZC pl r).map .d/\(JQ r.body/\V8 r<=1099511627776)/\∀o,Zzc r=o->K (.ret (ZDC pl o)) ⟨[],[],0⟩
 | _,_=>False
def Zmi:Tbl:=[(23,Zbt),(24,Zea),(25,Zbv),(26,Zb4),(27,Zeb)]
def ZtT (ht:TO w0 nG Zmi):PC w0 nG 13 Zhk:=by
 refine Zcr Zy mixed Tryz.func13 rfl kR kR ZyD ?_;intro args σ K h
 unfold Zhk at h
 split at h
 ·obtain ⟨pl,⟨r1,r2,r3,r4⟩,rfl,⟨ey,hz⟩,h⟩:=h;have ce:Zct r2<=1099511627776/\Zji r3<=1099511627776:=by
   simp only [V8] at hz;rw [<- Yv,<- Xj] at hz;omega
  have hnv:=ZkQ r3;unfold Zzc at h
  simp only at h ey;refine ⟨Zn6 Vr Zmi (Zj []) (Xo []) (Ye []),0,false,CxG.of Zy ht ⟨ZiY,Zi0,Zi1,ZkM,Zi2,trivial⟩ _ _ _,sM,Tc rfl,wN ?_⟩;refine ⟨pl,r2,[],rfl,rfl,ce.1,wN ?_⟩;refine ⟨pl,r3,_,rfl,rfl,⟨ey,ce.2⟩,fun M'=>wN ?_⟩;refine ⟨pl,r3,[],rfl,rfl,⟨ey,ce.2,by simp only [Tg];omega⟩,wN ?_⟩;refine ⟨pl,r2,_,rfl,rfl,ce.1,fun ho=>wN ?_,fun x ho=>wN ?_⟩
  ·rw [ho] at h;refine ⟨pl,r3,_,rfl,rfl,⟨ey,ce.2⟩,fun hb=>wN ?_,fun x hb=>wN ?_⟩
   ·have h:=h none hb;refine ⟨Tc rfl,wN ?_⟩;exact h
   have h:=h (some x) hb;refine ⟨Tc rfl,wN ?_⟩;exact h
  rw [ho] at h;have h:=h (some x) rfl;refine ⟨Tc rfl,wN ?_⟩;exact h
 exact h.elim
def ZnY {l:List Ru} {j:Nat} (h:j<l.length):Zhe (l.drop j)=match Zzc l[j] with | some x=>some x | none=>Zhe (l.drop (j+1)):=by
 rw [Tm h];rfl
def ZaB (n:Nat):Zo:=fun args σ K=>match args,σ with
 | [.agg c],⟨[],[],0⟩=>∃pl p,c=(V5 pl p).map .d/\(Zaq n (prU p)/\n<=16777216/\ZaE p<=2097152)/\(∀r∈p.rules,JQ r.body)/\∀a e,ZkJ pl p=(a,e)->K (.ret (.tuple [.d (.int .i64 a),.d (.int .i64 e)])) ⟨[],[],0⟩
 | _,_=>False
def Zrg {n:Nat}:OKw w0 nG [(7,Zd4 n),(13,Zhk)] 8 (ZaB n):=by
 refine pwo Tryz.func8 fun args σ K h=>?_
 unfold ZaB at h
 split at h
 ·obtain ⟨pl,⟨p1,p2,p3⟩,rfl,⟨hc,hn,hz⟩,ey,h⟩:=h;have ia:(p3.map (ZC pl)).length=p3.length:=Td ..;have o7:p3.length<=2097152:=by have:=Zp V8 p3;simp only [ZaE] at hz;omega
  have nf:∀r∈p3,V8 r<=2097152:=fun r hr=>by have:=Zbh (f:=V8) hr;simp only [ZaE] at hz;omega
  unfold ZkJ at h
  simp only at ey h;refine pwu [(5,⟨[22],[20,21],fun vs σ=>∃j:Nat,vs=[.d (.int .i64 j)]/\σ=⟨[.cells 26 ((V5 pl ⟨p1,p2,p3⟩).map .d)],[],0⟩/\j<=p3.length/\(ZrL pl ⟨p1,p2,p3⟩).2=0/\Zhe p3=Zhe (p3.drop j),
   mu1 p3.length⟩)] 0 false ?_
  conv=>whnf
  refine ⟨pl,⟨p1,p2,p3⟩,rfl,⟨hc,hn,hz⟩,fun a e z6=>wN ?_⟩;refine ZFv (fun he=>wN ?_) (fun he=>wN ?_)
  ·rw [z6,Tk (show (a,e).2≠0 from he)] at h;have h:=h a e rfl;exact h
  have he:e=0:=he;have hk:(ZrL pl ⟨p1,p2,p3⟩).2=0:=by rw [z6];exact he
  rw [Tf (fun g=>g hk)] at h;refine ⟨⟨0,rfl,rfl,oM,hk,rfl⟩,?_⟩
  rintro vs σ1 ⟨j,rfl,rfl,hj,_,ha⟩
  rw [ha] at h;(conv=>whnf);refine ZFs (fun hq=>?_) (fun hq=>?_);rotate_left
  ·have ec:p3.length<=j:=by have hq:¬(j:Int)<((p3.map (ZC pl)).length:Nat):=hq;omega
   rw [Tr ec] at h;have h:=h 0 0 rfl;exact mq51
  have aa:j<p3.length:=by have hq:(j:Int)<((p3.map (ZC pl)).length:Nat):=hq;omega
  have hr:(p3.map (ZC pl))[(j:Int).toNat]?=some (ZC pl p3[j]):=by rw [Tj,Th,Ta aa];rfl
  have cx:=TC aa;have ib:=nf _ cx;have yz:=ey _ cx;have hd:=ZnY aa;have hμ:((p3.length:Int) - ((j:Int)+1)).toNat<((p3.length:Int) - (j:Int)).toNat:=oM;generalize p3[j]=r at hr ib yz hd;rw [hd] at h ha;obtain ⟨r1,r2,r3,r4⟩:=r;(conv=>whnf);refine ⟨_,oM,hr,wN ?_⟩;refine ⟨pl,⟨r1,r2,r3,r4⟩,rfl,⟨yz,oM⟩,fun o ho=>?_⟩;rw [ho] at h ha
  cases o with
  | none =>
   conv=>whnf
   refine Zi ?_;exact ⟨⟨j+1,rfl,rfl,oM,hk,ha⟩,hμ⟩
  | some x =>
  have h:=h _ _ rfl;exact mq51
 exact h.elim
def ZBG:PC w0 nG 25 Zbv:=ZtQ ⟨ZtN,ZDz _,ZEz _,Zre,Zys _,trivial⟩
def ZDD:PC w0 nG 13 Zhk:=ZtT ⟨Zmc,ZtP,ZBG,Zbu,ZtR ⟨ZEA _,ZEB _,Zbu,trivial⟩,trivial⟩
def Zrh {n:Nat} (hp:PC w0 nG 17 (ZnI XT Zaq ZfG n)):PC w0 nG 8 (ZaB n):=Zrg ⟨ZuR hp,ZDD,trivial⟩
def ZkR {l:List Ex} {j:Nat} (h:j<l.length):Vp (l.drop j)=(Zq1 l[j] || Vp (l.drop (j+1))):=by
 rw [Tm h];rfl
def Zf4 (m:Nat):Zo:=fun args σ K=>match args,σ with
 | [.d (.sl rows)],⟨[],[],0⟩=>∃pl l,rows=Ze pl l/\(Zct l<m/\m<=1099511627776)/\∀b,Vp l=b->K (.ret (.d (.bool b))) ⟨[],[],0⟩
 | _,_=>False
def Zri {m:Nat}:OKw w0 nG [(6,spB Zf4 m)] 6 (Zf4 m):=by
 refine pwo Tryz.func6 fun args σ K h=>?_
 unfold Zf4 at h
 split at h
 ·obtain ⟨pl,l,rfl,⟨hz,hm⟩,h⟩:=h;have hl:(Ze pl l).length=l.length:=by rw [Zb,Td]
  have hsz:=YP l;refine pwu [(2,⟨[3],[0],fun vs σ=>∃j:Nat,vs=[.d (.int .i64 j)]/\σ=⟨[],[],0⟩/\j<=l.length/\Vp l=Vp (l.drop j),
   mu1 l.length⟩)] 0 false ?_
  conv=>whnf
  refine ⟨⟨0,rfl,rfl,oM,rfl⟩,?_⟩
  rintro vs σ1 ⟨j,rfl,rfl,hj,ha⟩
  rw [ha] at h;(conv=>whnf);refine ZFs (fun hc=>?_) (fun hc=>?_);rotate_left
  ·have ec:l.length<=j:=by have hc:¬(j:Int)<((Ze pl l).length:Nat):=hc;omega
   rw [Tr ec] at h;have h:=h false rfl;exact mq51
  have aa:j<l.length:=by have hc:(j:Int)<((Ze pl l).length:Nat):=hc;omega
  have hr:(Ze pl l)[(j:Int).toNat]?=some (ZE pl l[j]):=by rw [Tj,Zb,Th,Ta aa];rfl
  have hg:=Yh l j aa;have hd:=ZkR aa;have hμ:((l.length:Int) - ((j:Int)+1)).toNat<((l.length:Int) - (j:Int)).toNat:=oM;generalize l[j]=x at hr hg hd;rw [hd] at h ha;obtain ⟨b1,b2,b3,b4,b5⟩:=x;simp only [szE] at hg;simp only [Zq1] at h ha
  by_cases h1:b1=1
  ·subst h1;have h:=h true rfl;(conv=>whnf);refine ⟨_,oM,hr,wN ?_⟩;exact h
  by_cases h2:b1=2
  ·subst h2;have h:=h true rfl;(conv=>whnf);refine ⟨_,oM,hr,wN ?_⟩;refine ⟨_,oM,hr,wN ?_⟩;exact h
  rw [decide_eq_false h1,decide_eq_false h2] at h ha;have g1:¬(b1:Int)=1:=oM;have g2:¬(b1:Int)=2:=oM;(conv=>whnf);refine ⟨_,oM,hr,wN ?_⟩;refine ZFs (fun q=>absurd q g1) (fun _=>wN ?_);refine ⟨_,oM,hr,wN ?_⟩;refine ZFs (fun q=>absurd q g2) (fun _=>wN ?_);refine ⟨_,oM,hr,wN ?_⟩;refine ⟨oM,pl,b4,rfl,⟨oM,oM⟩,fun b hb=>?_⟩;rw [hb] at h ha
  cases b with
  | true =>
   have h:=h true rfl;exact mq51
  | false =>
  conv=>whnf
  exact mq52
 exact h.elim
def ZBH:∀m,PC w0 nG 6 (Zf4 m)
 | 0=>Zri ⟨ZA (Zf Tryz.func6 kR rfl),trivial⟩
 | m+1=>Zri ⟨ZB (sp:=Zf4) (ZBH m),trivial⟩
def nbP (p:Pr):Pr:=⟨p.types,p.rels,p.rules.map Xc⟩
def ZyF (p:Pr):ZaE (nbP p)<=ZaE p:=by
 have h:∀l:List Ru,szS V8 (l.map Xc)<=szS V8 l:=by
  intro l
  induction l with
  | nil=>exact Tt _
  | cons r l ih =>
  have:V8 (Xc r)<=V8 r:=by simp only [V8,Xc,szS];omega
  simp only [TE,szS];omega
 have:=h p.rules;simp only [ZaE,nbP];omega
def ZtU {n:Nat} {p:Pr} (h:Zaq n (prU p)) (hn:n<=4194304):Zaq n (prU (nbP p)):=by
 obtain ⟨h1,h2,_,_⟩:=h;have hr:ZlT (prU (nbP p))=true:=by
  simp only [prU,nbP,ZlT,Tn,Tq,List.forall_mem_map] at h1 |-;refine ⟨fun r hr=>?_,h1.2⟩;have:=h1.1 r hr;simp only [ZdL,Tn] at this;simp only [ZdL,Xc,List.all_nil,Bool.and_true];exact this.1
 have hs:∀l:List Ru,szS wRu (l.map Xc)<=szS wRu l:=by
  intro l
  induction l with
  | nil=>exact Tt _
  | cons r l ih =>
  have:wRu (Xc r)<=wRu r:=by simp only [wRu,Xc,szS];omega
  simp only [TE,szS];omega
 have hw:wUn (prU (nbP p))<=n:=by
  have:=hs p.rules;simp only [prU,nbP,wUn,ZsM,szS] at h2 |-;omega
 have h3:=Zg1 _ hr;exact ⟨hr,hw,oM,rfl,rfl,rfl⟩
def Zhl (n:Nat):Zo:=fun args σ K=>match args,σ with
 | [.agg c1],⟨[],[],0⟩=>(∃pl p,c1=(V5 pl p).map .d/\(Zaq n (prU p)/\n<=4194304/\ZaE p<=2097152))/\K (.ret (.d (.bool true))) ⟨[],[],0⟩
 | _,_=>False
def Zi3 (n:Nat):Tbl:=[(4,Zqn V5 ZaE bd5 6000),(5,ZcD),(7,Zd4 n),(8,ZaB n),(6,Zf4 1099511627776)]
abbrev gBx (pl:Pl) (p:Pr) (j:Nat):List Box:=[.cells 26 ((V5 pl p).map .d),.cells 26 [.d (.sl (p.types.map (Zr pl))),.d (.sl (p.rels.map (ZH pl))),.sl 0 32 (((p.rules.take j).map Xc).map (ZC pl))]]
abbrev gBz (pl:Pl) (p:Pr):List Box:=[.cells 26 ((V5 pl p).map .d),.cells 26 [.d (.sl (p.types.map (Zr pl))),.d (.sl (p.rels.map (ZH pl))),.sl 0 32 ((p.rules.map Xc).map (ZC pl))]]
def ZyG (pl:Pl) (p:Pr):gBx pl p p.rules.length=gBz pl p:=by unfold gBx;rw [Sf]
def Zrj {n:Nat} (ht:TO w0 nG (Zi3 n)):PC w0 nG 3 (Zhl n):=by
 refine XQ Zy mixed (tbl:=Zi3 n) ht Tryz.func3 rfl kR kR ?_;intro args σ K h
 unfold Zhl at h
 split at h
 ·obtain ⟨⟨pl,⟨p1,p2,p3⟩,rfl,⟨hc,hn,hz⟩⟩,h⟩:=h;have ia:(p3.map (ZC pl)).length=p3.length:=Td ..;have o7:p3.length<=2097152:=by have:=Zp V8 p3;simp only [ZaE] at hz;omega
  have nf:∀r∈p3,Zct r.args<1099511627776:=fun r hr=>by
   have:=Zbh (f:=V8) hr;simp only [ZaE,V8] at hz this;rw [Yv];omega
  have hcq:=ZtU hc hn;have hzq:ZaE (nbP ⟨p1,p2,p3⟩)<=2097152:=TZ (ZyF _) hz;have acn:∀r∈(nbP ⟨p1,p2,p3⟩).rules,JQ r.body:=fun r hr=>by
   obtain ⟨s,_,rfl⟩:=Sw.1 hr;intro x hx
   cases hx
  refine ⟨Zj [(7,⟨[4,5],[1,3],fun vs σ=>∃(f:Bool) (j:Nat),vs=[.d (.bool f),.d (.int .i64 j)]/\σ=⟨gBx pl ⟨p1,p2,p3⟩ j,[0],1⟩/\j<=p3.length/\f=(p3.take j).any fun r=>Vp r.args,
    mu2 p3.length⟩)],Xo [],Ye [],0,false,sM,Tc rfl,?_⟩
  conv=>whnf
  refine ⟨pl,⟨p1,p2,p3⟩,1073741824,rfl,⟨⟨dM,dM⟩,dM,oM,dM⟩,fun r lq bi=>wN ?_⟩;refine ZFs (fun hcr=>wN ?_) (fun hcr=>wN ?_)
  ·exact h
  refine ⟨⟨false,0,rfl,rfl,oM,rfl⟩,?_⟩
  rintro vs σ1 ⟨f,j,rfl,rfl,hj,hf⟩
  by_cases mi:j=p3.length
  rotate_left
  ·conv=>whnf
   refine ZFs (fun hq=>?_) (fun hq=>absurd (by have hq:¬(j:Int)<((p3.map (ZC pl)).length:Nat):=hq;omega) mi);have aa:j<p3.length:=by have hq:(j:Int)<((p3.map (ZC pl)).length:Nat):=hq;omega
   have hr:(p3.map (ZC pl))[(j:Int).toNat]?=some (ZC pl p3[j]):=by rw [Tj,Th,Ta aa];rfl
   have ib:=nf _ (TC aa);have ht:((p3.take (j+1)).map Xc).map (ZC pl)=((p3.take j).map Xc).map (ZC pl)++[ZC pl (Xc p3[j])]:=by
    rw [List.take_add_one,Ta aa];simp only [So,Option.toList_some,TE,TN]
   have j9:((p3.take (j+1)).any fun r=>Vp r.args)=(f || Vp p3[j].args):=by
    rw [List.take_add_one,Ta aa,hf];simp only [List.any_append,Option.toList_some,SF,List.any_nil,Ss]
   have hlr:(((p3.take j).map Xc).map (ZC pl)).length=j:=sO;have hμ:((p3.length:Int) - ((j:Int)+1)).toNat<((p3.length:Int) - (j:Int)).toNat:=oM;generalize p3[j]=x at hr ib ht j9;obtain ⟨r1,r2,r3,r4⟩:=x;simp only at ib j9;(conv=>whnf);refine ⟨_,oM,hr,wN ?_⟩;refine ⟨fun r hr=>by simp at hr;subst hr;rfl,?_,?_,?_⟩
   ·show ((((p3.take j).map Xc).map (ZC pl)).length+1) * 72<=2 ^ 47;omega
   ·show (((p3.take j).map Xc).map (ZC pl)).length+1<=2 ^ 47;omega
   cases f with
   | true =>
    conv=>whnf
    refine Zi ?_;exact ⟨⟨true,j+1,rfl,by unfold gBx;rw [ht];rfl,oM,j9.symm⟩,hμ⟩
   | false =>
   conv=>whnf
   refine ⟨pl,r2,rfl,⟨ib,dM⟩,fun b hb=>wN ?_⟩;rw [hb] at j9;refine Zi ?_;exact ⟨⟨b,j+1,rfl,by unfold gBx;rw [ht];rfl,oM,j9.symm⟩,hμ⟩
  subst mi;rw [show gBx pl ⟨p1,p2,p3⟩ p3.length=gBz pl ⟨p1,p2,p3⟩ from ZyG pl ⟨p1,p2,p3⟩];rw [Sf] at hf;(conv=>whnf);refine ZFs (fun hq=>absurd hq (by show ¬(p3.length:Int)<((p3.map (ZC pl)).length:Nat);omega)) (fun hq=>wN ?_);refine ⟨pl,nbP ⟨p1,p2,p3⟩,rfl,⟨hcq,oM,hzq⟩,fun a e z6=>wN ?_⟩;refine ZFv (fun he=>wN ?_) (fun he=>wN ?_)
  ·exact h
  have he:e=0:=he;have hk:(ZrL pl (nbP ⟨p1,p2,p3⟩)).2=0:=by rw [z6];exact he
  refine ⟨pl,nbP ⟨p1,p2,p3⟩,rfl,⟨hcq,oM,hzq⟩,acn,fun b g oq=>?_⟩;have n9:=Zb3 p3;rw [<- hf] at n9;unfold ZkJ at oq
  rw [Tf (fun q=>q hk),show (nbP ⟨p1,p2,p3⟩).rules=p3.map Xc from rfl] at oq
  cases hru:Zhe (p3.map Xc) with
  | none =>
   rw [hru] at oq n9
   cases oq
   have n9:false=f:=n9;subst n9;exact mq51
  | some x =>
  rw [hru] at oq n9
  cases oq
  have n9:true=f:=n9;subst n9;exact mq51
 exact h.elim
end Go.PM.Lex
end

section
namespace Go.PM
structure T8 (α:Type) where
 (a0 a1 a2 a3 a4 a5 a6 a7:α)
section
variable {α:Type}
def T8.get (d:α) (t:T8 α):Nat->α
 | 0=>t.a0
 | 1=>t.a1
 | 2=>t.a2
 | 3=>t.a3
 | 4=>t.a4
 | 5=>t.a5
 | 6=>t.a6
 | 7=>t.a7
 | _=>d
def T8.set (t:T8 α) (x:α):Nat->T8 α
 | 0=>⟨x,t.a1,t.a2,t.a3,t.a4,t.a5,t.a6,t.a7⟩
 | 1=>⟨t.a0,x,t.a2,t.a3,t.a4,t.a5,t.a6,t.a7⟩
 | 2=>⟨t.a0,t.a1,x,t.a3,t.a4,t.a5,t.a6,t.a7⟩
 | 3=>⟨t.a0,t.a1,t.a2,x,t.a4,t.a5,t.a6,t.a7⟩
 | 4=>⟨t.a0,t.a1,t.a2,t.a3,x,t.a5,t.a6,t.a7⟩
 | 5=>⟨t.a0,t.a1,t.a2,t.a3,t.a4,x,t.a6,t.a7⟩
 | 6=>⟨t.a0,t.a1,t.a2,t.a3,t.a4,t.a5,x,t.a7⟩
 | 7=>⟨t.a0,t.a1,t.a2,t.a3,t.a4,t.a5,t.a6,x⟩
 | _=>t
def lt8 {P:Nat->Prop} {i:Nat} (h:i<8) (h0:P 0) (h1:P 1) (h2:P 2) (h3:P 3) (h4:P 4) (h5:P 5) (h6:P 6) (h7:P 7):P i:=by
 match i,h with
 | 0,_=>exact h0
 | 1,_=>exact h1
 | 2,_=>exact h2
 | 3,_=>exact h3
 | 4,_=>exact h4
 | 5,_=>exact h5
 | 6,_=>exact h6
 | 7,_=>exact h7
def ZFH (d:α) (t:T8 α) (x:α) {i j:Nat} (hi:i<8) (hj:j<8):(t.set x i).get d j=(match Nat.beq i j with | true=>x | false=>t.get d j):=by
 refine lt8 (P:=fun i=>(t.set x i).get d j=(match Nat.beq i j with | true=>x | false=>t.get d j)) hi ?_ ?_ ?_ ?_ ?_ ?_ ?_ ?_ <;> exact lt8 (P:=fun j=>T8.get d (T8.set t x _) j=(match Nat.beq _ j with | true=>x | false=>t.get d j)) hj rfl rfl rfl rfl rfl rfl rfl rfl
end
abbrev T64:=T8 (T8 PV)
def no8:T8 PV:=⟨.undef,.undef,.undef,.undef,.undef,.undef,.undef,.undef⟩
def no64:T64:=⟨no8,no8,no8,no8,no8,no8,no8,no8⟩
def ZyH (j:Nat):no8.get .undef j=.undef:=by unfold T8.get;split <;> rfl
def ZtV (j:Nat):no64.get no8 j=no8:=by unfold T8.get;split <;> rfl
def ZkS (h:T64) (n:Nat):PV:=(h.get no8 (Nat.div n 8)).get .undef (Nat.mod n 8)
def ZtW (h:T64) (x:PV) (n:Nat):T64:=h.set ((h.get no8 (Nat.div n 8)).set x (Nat.mod n 8)) (Nat.div n 8)
def d8 {n:Nat} (h:n<64):Nat.div n 8<8:=Nat.div_lt_of_lt_mul h
def m8 (n:Nat):Nat.mod n 8<8:=Nat.mod_lt _ dM
def m64 (n:Nat):Nat.mod n 64<64:=Nat.mod_lt _ dM
def ZuS {k i j:Nat} (hk:0<k):Nat.beq i j=(match Nat.beq (Nat.div i k) (Nat.div j k) with | true=>Nat.beq (Nat.mod i k) (Nat.mod j k) | false=>false):=by
 have hi:k * Nat.div i k+Nat.mod i k=i:=Nat.div_add_mod i k;have hj:k * Nat.div j k+Nat.mod j k=j:=Nat.div_add_mod j k
 cases hb:Nat.beq (Nat.div i k) (Nat.div j k) with
 | false =>
  cases hc:Nat.beq i j with
  | false=>rfl
  | true=>rw [Tl hc,Nat.beq_refl] at hb;cases hb
 | true =>
 have h1:=Tl hb;simp only;rw [Bool.eq_iff_iff,Nat.beq_eq,Nat.beq_eq]
 constructor
 ·intro h;rw [h]
 intro h;rw [<- hi,<- hj,h1,h]
def Zec (h:T64) (x:PV) {i j:Nat} (hi:i<64) (hj:j<64):ZkS (ZtW h x i) j=(match Nat.beq i j with | true=>x | false=>ZkS h j):=by
 unfold ZkS ZtW
 rw [ZFH _ _ _ (d8 hi) (d8 hj),ZuS (k:=8) (i:=i) (j:=j) dM]
 cases hb:Nat.beq (Nat.div i 8) (Nat.div j 8) with
 | false=>rfl
 | true =>
 simp only;rw [ZFH _ _ _ (m8 i) (m8 j),Tl hb]
structure FT where
 h:T64
 r:List T64
def FT.leaf:FT:=⟨no64,[]⟩
def FT.blk (t:FT) (k:Nat):T64:=match k with
 | 0=>t.h
 | k+1=>match t.r[k]? with | some m=>m | none=>no64
def FT.get (t:FT) (n:Nat):PV:=ZkS (t.blk (Nat.div n 64)) (Nat.mod n 64)
def FT.put (x:PV) (t:FT) (n:Nat):Option FT:=match Nat.div n 64 with
 | 0=>some ⟨ZtW t.h x (Nat.mod n 64),t.r⟩
 | k+1=>match t.r[k]? with
  | some m=>some ⟨t.h,t.r.set k (ZtW m x (Nat.mod n 64))⟩
  | none=>none
def FT.full (n:Nat):FT:=⟨no64,List.replicate n no64⟩
def ZFM (k:Nat):(FT.full k).get=fun _=>.undef:=by
 funext n
 have:(FT.full k).blk (Nat.div n 64)=no64:=by
  unfold FT.blk FT.full
  split
  ·rfl
  simp only [Sc];split <;> rename_i h <;> split at h <;> first | (cases h;rfl) | (cases h;done) | rfl
 unfold FT.get ZkS
 rw [this,ZtV,ZyH]
def ZFI {x:PV} {t:FT} {n:Nat} {t':FT} (h:t.put x n=some t'):t'.get=W1 t.get n x:=by
 funext j
 show ZkS (t'.blk _) _=(match Nat.beq n j with | true=>x | false=>ZkS (t.blk _) _);rw [ZuS (k:=64) (i:=n) (j:=j) dM];unfold FT.put at h
 split at h
 ·rename_i hk
  cases h
  rw [hk]
  cases hj:Nat.div j 64 with
  | zero=>exact Zec _ _ (m64 n) (m64 j)
  | succ k=>rfl
 rename_i k hk
 split at h
 ·rename_i m hm
  cases h
  rw [hk]
  cases hj:Nat.div j 64 with
  | zero=>rfl
  | succ k' =>
  have aa:k<t.r.length:=(Ti.1 hm).1
  cases hb:Nat.beq (k+1) (k'+1) with
  | true =>
   have:=Tl hb;have:k=k':=oM;subst this;simp only [FT.blk,Sy aa,hm];exact Zec _ _ (m64 n) (m64 j)
  | false =>
  have ah:k≠k':=fun he=>by subst he;rw [Nat.beq_refl] at hb;cases hb
  simp only [FT.blk,SI ah]
 cases h
def argT:Nat->List PV->FT->Option FT
 | _,[],t=>some t
 | i,v::vs,t=>match argT (i+1) vs t with | some t=>t.put v i | none=>none
def Zmj {t0:FT} (h0:t0.get=fun _=>.undef):∀{vs:List PV} {i:Nat} {t:FT},argT i vs t0=some t->t.get=Zb7 i vs
 | [],i,t,h=>by simp only [argT,Option.some.injEq] at h;subst h;rw [h0];rfl
 | v::vs,i,t,h=>by
  simp only [argT] at h;split at h
  ·rename_i t1 h1;rw [ZFI h,Zmj h0 h1];rfl
  cases h
section
variable {α β:Type}
def ZnZ (n:Nat) (k:Nat->Option α):Option α:=match n with
 | 0=>k 0
 | m+1=>k (Nat.succ m)
def ZDE (n:Int) (k:Int->Option α):Option α:=match n with
 | .ofNat m=>ZnZ m fun m=>k (.ofNat m)
 | .negSucc m=>ZnZ m fun m=>k (.negSucc m)
def ZEE (b:Bool) (k:Bool->Option α):Option α:=match b with | true=>k true | false=>k false
def Zze (l:List β) (k:List β->Option α):Option α:=match l with
 | []=>k []
 | x::l=>Zze l fun l=>k (x::l)
def ZDF (x:D) (k:D->Option α):Option α:=match x with
 | .int q n=>ZDE n fun n=>k (.int q n)
 | .bool b=>ZEE b fun b=>k (.bool b)
 | .str s=>Zze s fun s=>k (.str s)
 | .sl rows=>Zze rows fun rows=>k (.sl rows)
 | .nilp=>k .nilp
 | .nilf=>k .nilf
 | .nili=>k .nili
def ZCs (v:PV) (k:PV->Option α):Option α:=match v with
 | .d x=>ZDF x fun x=>k (.d x)
 | .undef=>k .undef
 | .ptr b off=>ZnZ b fun b=>ZnZ off fun off=>k (.ptr b off)
 | .elem r off=>ZnZ off fun off=>k (.elem r off)
 | .sl t e rows=>ZnZ t fun t=>Zze rows fun rows=>k (.sl t e rows)
 | .nils e=>k (.nils e)
 | .asl b off n=>k (.asl b off n)
 | .func f a c=>k (.func f a c)
 | .iface t v=>k (.iface t v)
 | .agg cs=>k (.agg cs)
 | .tuple vs=>k (.tuple vs)
 | .raw v=>k (.raw v)
 | .mp b=>ZnZ b fun b=>k (.mp b)
 | .nilm=>k .nilm
def Zzf (l:List PV) (k:List PV->Option α):Option α:=match l with
 | []=>k []
 | v::l=>ZCs v fun v=>Zzf l fun l=>k (v::l)
def Zzg (l:List Nat) (k:List Nat->Option α):Option α:=match l with
 | []=>k []
 | n::l=>ZnZ n fun n=>Zzg l fun l=>k (n::l)
def Zn7 (l:List Box) (k:List Box->Option α):Option α:=match l with
 | []=>k []
 | .cells t cs::l=>Zzf cs fun cs=>Zn7 l fun l=>k (.cells t cs::l)
 | .iter s p::l=>ZnZ p fun p=>Zn7 l fun l=>k (.iter s p::l)
 | .map cs bn ck::l=>Zzf cs fun cs=>Zzg bn fun bn=>ZnZ ck fun ck=>Zn7 l fun l=>k (.map cs bn ck::l)
 | x::l=>Zn7 l fun l=>k (x::l)
def Zrk (σ:St) (k:St->Option α):Option α:=Zn7 σ.bx fun bx=>Zzg σ.tk fun tk=>ZnZ σ.nx fun nx=>k ⟨bx,tk,nx⟩
def JR (n:Nat) (k:Nat->Option α):ZnZ n k=k n:=by cases n <;> rfl
def ZyI (n:Int) (k:Int->Option α):ZDE n k=k n:=by cases n <;> simp only [ZDE,JR]
def ZyJ (n:Bool) (k:Bool->Option α):ZEE n k=k n:=by cases n <;> rfl
def ZkT:∀(l:List β) (k:List β->Option α),Zze l k=k l
 | [],_=>rfl
 | x::l,k=>by simp only [Zze,ZkT l]
def ZyK (x:D) (k:D->Option α):ZDF x k=k x:=by cases x <;> simp only [ZDF,ZyI,ZyJ,ZkT]
def Zrl (v:PV) (k:PV->Option α):ZCs v k=k v:=by cases v <;> simp only [ZCs,ZyK,JR,ZkT]
def Zed:∀(l:List PV) (k:List PV->Option α),Zzf l k=k l
 | [],_=>rfl
 | v::l,k=>by simp only [Zzf,Zrl,Zed l]
def Zee:∀(l:List Nat) (k:List Nat->Option α),Zzg l k=k l
 | [],_=>rfl
 | n::l,k=>by simp only [Zzg,JR,Zee l]
def JS:∀(l:List Box) (k:List Box->Option α),Zn7 l k=k l
 | [],_=>rfl
 | .cells t cs::l,k=>by simp only [Zn7,Zed,JS l]
 | .iter s p::l,k=>by simp only [Zn7,JR,JS l]
 | .loop a b c::l,k=>by simp only [Zn7,JS l]
 | .dmap m::l,k=>by simp only [Zn7,JS l]
 | .smap el m fo::l,k=>by simp only [Zn7,JS l]
 | .map cs bn ck::l,k=>by simp only [Zn7,Zed,Zee,JR,JS l]
def Zhm (σ:St) (k:St->Option α):Zrk σ k=k σ:=by simp only [Zrk,JS,Zee,JR]
end
end Go.PM
end

section
namespace Go.PM
def ieq:Int->Int->Bool
 | .ofNat m,.ofNat n=>Nat.beq m n
 | .negSucc m,.negSucc n=>Nat.beq m n
 | _,_=>false
def ilt:Int->Int->Bool
 | .ofNat m,.ofNat n=>Nat.ble (m+1) n
 | .negSucc m,.negSucc n=>Nat.ble (n+1) m
 | .negSucc _,.ofNat _=>true
 | .ofNat _,.negSucc _=>false
def Zrm (a b:Int):ieq a b=decide (a=b):=by
 cases a <;> cases b <;> simp only [ieq]
 ·rw [Bool.eq_iff_iff,Nat.beq_eq,decide_eq_true_iff,Int.ofNat_eq_natCast,Int.ofNat_eq_natCast];omega
 ·simp
 ·simp
 rw [Bool.eq_iff_iff,Nat.beq_eq,decide_eq_true_iff];simp
def Zi4 (a b:Int):ilt a b=decide (a<b):=by
 cases a <;> cases b <;> simp only [ilt]
 ·rw [Bool.eq_iff_iff,SP,decide_eq_true_iff,Int.ofNat_eq_natCast,Int.ofNat_eq_natCast];omega
 ·symm;rw [decide_eq_false_iff_not,Int.ofNat_eq_natCast];omega
 ·symm;rw [decide_eq_true_iff,Int.ofNat_eq_natCast];omega
 rw [Bool.eq_iff_iff,SP,decide_eq_true_iff];omega
def ZBI (a b:Int):(!ilt a b)=decide (b<=a):=by
 rw [Zi4,<- decide_not];congr 1;rw [eq_iff_iff];omega
def ZEF:IntKind->Nat
 | .i8=>127 | .i16=>32767 | .i32=>2147483647 | .i64=>9223372036854775807 | .u8=>255 | .u16=>65535 | .u32=>4294967295 | .u64=>18446744073709551615
def Zhn (k:IntKind) (n:Int):Int:=match n with
 | .ofNat m=>match Nat.ble m (ZEF k) with | true=>.ofNat m | false=>k.wrap (.ofNat m)
 | .negSucc m=>k.wrap (.negSucc m)
def Zho (k:IntKind) (n:Int):Zhn k n=k.wrap n:=by
 cases n with
 | negSucc m=>rfl
 | ofNat m =>
 simp only [Zhn];split
 ·rename_i h
  have h:=Tc h
  symm
  cases k <;> simp only [ZEF] at h <;> simp [IntKind.wrap,IntKind.bits,IntKind.signed] <;> omega
 rfl
def ZeU:List UInt8->List UInt8->Bool
 | [],[]=>true
 | a::x,b::y=>match Nat.beq a.toNat b.toNat with | true=>ZeU x y | false=>false
 | _,_=>false
def Zhp:∀(a b:List UInt8),ZeU a b=decide (a=b)
 | [],[]=>rfl
 | [],_::_=>by simp [ZeU]
 | _::_,[]=>by simp [ZeU]
 | a::x,b::y=>by
  simp only [ZeU];split
  ·rename_i h
   have:a=b:=UInt8.toNat_inj.1 (Tl h);subst this;rw [Zhp x y];simp
  rename_i h
  symm;rw [decide_eq_false_iff_not]
  intro he;cases he;simp at h
def ZyL (op:BinOp) (k:IntKind) (a b:Int):Option PV:=match op with
 | .add=>some (.d (.int k (Zhn k (a+b)))) | .sub=>some (.d (.int k (Zhn k (a - b)))) | .mul=>some (.d (.int k (Zhn k (a * b))))
 | .quo=>match ieq b 0 with | true=>none | false=>some (.d (.int k (Zhn k (a.tdiv b))))
 | .rem=>match ieq b 0 with | true=>none | false=>some (.d (.int k (a.tmod b)))
 | .and=>some (.d (.int k (Vu .and k a b))) | .or=>some (.d (.int k (Vu .or k a b))) | .xor=>some (.d (.int k (Vu .xor k a b))) | .andNot=>some (.d (.int k (Vu .andNot k a b)))
 | .eql=>some (.d (.bool (ieq a b))) | .neq=>some (.d (.bool (!ieq a b))) | .lss=>some (.d (.bool (ilt a b))) | .leq=>some (.d (.bool (!ilt b a)))
 | .gtr=>some (.d (.bool (ilt b a))) | .geq=>some (.d (.bool (!ilt a b)))
 | _=>none
def ZtX {op:BinOp} {k:IntKind} {a b:Int} {v:PV} {K:PV->Prop} (h:ZyL op k a b=some v) (hK:K v):Zuf op k a b K:=by
 have hw:∀n,K (.d (.int k (Zhn k n)))->Zb6 k n K:=fun n h=>.inr (by rw [<- Zho];exact h)
 cases op <;> simp only [ZyL,Zuf,Yj] at h |- <;> first
  | (cases h;first | exact hw _ hK | exact hK | (rw [ZBI] at hK;exact hK) | (simp only [Zrm,Zi4] at hK;exact hK))
  | (rw [Zrm] at h
     split at h
     ·cases h
     rename_i hd;cases h;exact ⟨of_decide_eq_false hd,by first | exact hw _ hK | exact hK⟩)
  | (cases h;done)
def ZEG (op:BinOp) (a b:List UInt8):Option PV:=match op with
 | .add=>match Nat.ble (a.length+b.length+1) 4611686018427387904 with | true=>some (.d (.str (a++b))) | false=>none
 | .eql=>some (.d (.bool (ZeU a b))) | .neq=>some (.d (.bool (!ZeU a b)))
 | .lss=>some (.d (.bool (Op.bytesLess a b))) | .geq=>some (.d (.bool (!Op.bytesLess a b)))
 | .leq=>some (.d (.bool (Op.bytesLess a b || ZeU a b))) | .gtr=>some (.d (.bool (!(Op.bytesLess a b || ZeU a b))))
 | _=>none
def shR (op:BinOp) (k:IntKind) (a b:Int):Option PV:=match op with
 | .shl=>match ilt b 0 with | true=>none | false=>some (.d (.int k (Zhn k (a * 2 ^ (min b.toNat k.bits)))))
 | .shr=>match ilt b 0 with | true=>none | false=>some (.d (.int k (a.fdiv (2 ^ (min b.toNat k.bits)))))
 | _=>none
def ZCt:BinOp->Bool | .shl=>true | .shr=>true | _=>false
def ZyM (T:Tab) (op:BinOp) (t:TypeId) (x y:Operand) (px py:PV):Option PV :=
 match px,py with
 | .d (.int k a),.d (.int k' b)=>match ZCt op with
  | true=>shR op k a b
  | false=>match keq k k' with | true=>ZyL op k a b | false=>none
 | .d (.str a),.d (.str b)=>ZEG op a b
 | _,_=>none
def ZtY {T:Tab} {op:BinOp} {t:TypeId} {x y:Operand} {px py v:PV} {K:PV->Prop} (h:ZyM T op t x y px py=some v) (hK:K v):ZrG T op t x y px py K:=by
 unfold ZyM at h
 unfold ZrG
 split at h
 ·rename_i k a k' b
  cases hs:ZCt op with
  | true =>
   rw [hs] at h;simp only [shR] at h
   cases op <;> simp only [ZCt] at hs <;> first | (cases hs;done) | skip
   all_goals
    simp only [Zi4] at h |-;split at h
    ·cases h
    rename_i h1;cases h
    refine ⟨by have:=of_decide_eq_false h1;omega,?_⟩
    first | exact hK | (exact .inr (by rw [<- Zho];exact hK))
  | false =>
  rw [hs] at h;simp only at h;split at h
  ·rename_i hq
   cases op <;> simp only [ZCt] at hs <;> first | (cases hs;done) | (simp only [hq];exact ZtX h hK)
  cases h
 ·rename_i a b
  simp only [ZEG] at h
  cases op <;> simp only [<- Zhp] at h |- <;> first
   | (cases h;exact hK)
   | (split at h
      ·rename_i hl;cases h;exact ⟨by have:=Tc hl;omega,hK⟩
      cases h)
   | (cases h;done)
 split
 ·exact False.elim (by solve_by_elim)
 ·exact False.elim (by solve_by_elim)
 cases op <;> simp only at h |- <;> first
  | (split at h
     ·rename_i hr;cases h;exact peqR_ok hr hK
     cases h)
  | (cases h;done)
end Go.PM
end

section
namespace Go.PM
def Zef (lo hi:Option PV) (len:Nat):Option (Nat×Nat) :=
 match lo,hi with
 | none,none=>some (0,len)
 | some x,none=>match x with
  | .d (.int _ (.ofNat n))=>match Nat.ble n len with | true=>some (n,len) | false=>none
  | _=>none
 | none,some y=>match y with
  | .d (.int _ (.ofNat m))=>match Nat.ble m len with | true=>some (0,m) | false=>none
  | _=>none
 | some x,some y=>match x,y with
  | .d (.int _ (.ofNat n)),.d (.int _ (.ofNat m))=>match Nat.ble n m,Nat.ble m len with | true,true=>some (n,m) | _,_=>none
  | _,_=>none
def Zi5 {lo hi:Option PV} {len:Nat} {a b:Nat} {K:Nat->Nat->Prop} (h:Zef lo hi len=some (a,b)) (hK:K a b):XY lo hi len K:=by
 unfold Zef at h
 unfold XY
 split at h
 ·cases h;exact hK
 ·exact mq131
 ·exact mq131
 split at h
 ·split at h
  ·rename_i co ga;cases h;have:=Tc co;have h2:=Tc ga;exact ⟨Int.natCast_nonneg _,Int.ofNat_le.2 this,Int.ofNat_le.2 h2,hK⟩
  cases h
 cases h
def Zmk (sz:Nat):List (List D)->Bool
 | []=>true
 | r::l=>match Nat.beq r.length sz with | true=>Zmk sz l | false=>false
def Zeg {sz:Nat}:∀{l:List (List D)},Zmk sz l=true->∀r∈l,r.length=sz
 | [],_,r,hr=>by cases hr
 | x::l,h,r,hr=>by
  simp only [Zmk] at h;split at h
  ·rename_i hb
   rcases Tu.1 hr with rfl | hr
   ·exact Tl hb
   exact Zeg h r hr
  cases h
def WZ:TK->Bool | .other=>true | _=>false
def Zml (x:PV) (lo hi:Option PV):Option PV:=match x with
 | .d (.str s)=>match Zef lo hi s.length with | some (a,b)=>some (.d (.str (cut s a b))) | none=>none
 | _=>none
def ZkU (T:Tab) (t:TypeId) (x:PV) (lo hi:Option PV):Option PV:=match (T.get t).kind with
 | .string=>Zml x lo hi
 | _=>none
def UU {k:TK} (h:WZ k=false) {X:Prop}:X->(match (generalizing:=false) k with | .other=>False | _=>X):=fun x=>by
 cases k <;> first | exact x | (cases h;done)
def Zn0 {T:Tab} {t:TypeId} {x:PV} {lo hi:Option PV} {v:PV} {K:PV->Prop} (h:ZkU T t x lo hi=some v) (hK:K v):VR T t x lo hi K:=by
 unfold ZkU at h
 unfold VR
 split at h
 ·rename_i hk
  simp only [hk];unfold Zml at h
  split at h
  ·split at h
   ·rename_i hb;cases h;exact Zi5 hb hK
   cases h
  cases h
 cases h
def ZBJ (T:Tab) (t:TypeId) (cs:List PV) (off:Nat):Option PV:=match (T.get t).kind.isAgg with
 | true=>match W2 (T.get t).size (cs.drop off) with | some l=>some (.agg l) | none=>none
 | false=>match WZ (T.get t).kind with | true=>none | false=>cs[off]?
def ZBK (T:Tab) (t:TypeId) (r:List D) (off:Nat):Option PV:=match (T.get t).kind.isAgg with
 | true=>match W2 (T.get t).size (r.drop off) with | some l=>some (.agg (l.map .d)) | none=>none
 | false=>match WZ (T.get t).kind with | true=>none | false=>match r[off]? with | some v=>some (.d v) | none=>none
def Zmm (T:Tab) (t:TypeId) (x:PV) (bx:List Box):Option PV:=match x with
 | .ptr b off=>match bx[b]? with
  | some (.cells _ cs)=>ZBJ T t cs off
  | _=>none
 | .elem r off=>ZBK T t r off
 | _=>none
def Zi6 {T:Tab} {t:TypeId} {x:PV} {bx:List Box} {v:PV} {K:PV->Prop} (h:Zmm T t x bx=some v) (hK:K v):Ji T t x bx K:=by
 unfold Zmm at h
 unfold Ji
 split at h
 ·split at h
  ·rename_i hb
   simp only [hb];unfold ZBJ at h
   split at h <;> rename_i hk <;> simp only [hk]
   ·split at h
    ·rename_i h1;cases h;simp only [h1];exact hK
    cases h
   split at h
   ·cases h
   rename_i ho;refine UU ho ?_;rw [h];exact hK
  cases h
 ·unfold ZBK at h
  split at h <;> rename_i hk <;> simp only [hk]
  ·split at h
   ·rename_i h1;cases h;simp only [h1];exact hK
   cases h
  split at h
  ·cases h
  rename_i ho
  refine UU ho ?_;split at h
  ·rename_i h1;cases h;rw [h1];exact hK
  cases h
 cases h
def Vq (T:Tab) (fs:List (Nat×Nat)) (ρ:Operand->PV):List (Nat×Operand)->List PV->Option (List PV)
 | [],cs=>some cs
 | (i,x)::ps,cs=>match fs[i]?,(ρ x).cells with
  | some (o,t),some l=>match Nat.beq l.length (T.get t).size,Nat.ble (o+l.length) cs.length,WZ (T.get t).kind with
   | true,true,false=>Vq T fs ρ ps (ZU cs o l)
   | _,_,_=>none
  | _,_=>none
def ZaC {T:Tab} {fs:List (Nat×Nat)} {ρ:Operand->PV}:∀{ps:List (Nat×Operand)} {cs r:List PV} {K:List PV->Prop},Vq T fs ρ ps cs=some r->K r->Z9 T fs ρ ps cs K
 | [],cs,r,K,h,hK=>by simp only [Vq,Option.some.injEq] at h;subst h;exact hK
 | (i,x)::ps,cs,r,K,h,hK=>by
  unfold Vq at h
  unfold Z9
  split at h
  ·rename_i o t l h1 h2
   simp only [h1,h2];split at h
   ·rename_i h3 h4 h5
    simp only [h3,h4];split
    ·rename_i he;rw [he] at h5;cases h5
    ·exact ZaC h hK
    rename_i hn _;exact (hn rfl rfl).elim
   cases h
  cases h
end Go.PM
end

section
namespace Go.PM
def ZtZ (T:Tab) (ty:TypeId) (v:PV):Option PV:=match v with
 | .nils _=>match (T.get ty).kind with | .slice e=>some (.nils e) | _=>some (.nils 0)
 | v=>some v
def Zmn {T:Tab} {ty:TypeId} {v u:PV} {K:PV->Prop} (h:ZtZ T ty v=some u) (hK:K u):(match (generalizing:=false) v with | .nils _=>(match (T.get ty).kind with | .slice e=>K (.nils e) | _=>K (.nils 0)) | v=>K v):=by
 cases v <;> simp only [ZtZ] at h |- <;> first
  | (cases h;exact hK)
  | (cases hk:(T.get ty).kind <;> rw [hk] at h <;> cases h <;> exact hK)
def ZBL (c a b:PV):Option PV:=match c with | .d (.bool true)=>some a | .d (.bool false)=>some b | _=>none
def ZuT (T:Tab) (t:TypeId) (ρ:Operand->PV) (ps:List (Nat×Operand)):Option PV:=match (T.get t).kind with
 | .struct fs=>match Vq T fs ρ ps (T.get t).zero with | some cs=>some (.agg cs) | none=>none
 | _=>none
def Zi7 (v:PV):Option PV:=match v with
 | .ptr b off=>some (.ptr b off)
 | .elem r off=>some (.elem r off)
 | _=>none
def unR (op:UnOp) (v:PV):Option PV:=match op,v with
 | .not,.d (.bool b)=>some (.d (.bool (!b)))
 | _,_=>none
def ZBM (T:Tab) (s d:TypeId) (v:PV):Option PV:=match (T.get s).kind with
 | .other=>none
 | .slice e=>none
 | _=>match (T.get d).kind,v with
  | .int k,.d (.int _ n)=>some (.d (.int k (Zhn k n)))
  | .string,.d (.str s)=>some (.d (.str s))
  | _,_=>none
def Zf5 (T:Tab) (s:TypeId) (v:PV) (i:Nat):Option PV:=match (T.get s).kind with
 | .struct fs=>match fs[i]?,v with
  | some (o,_),.ptr b off=>some (.ptr b (off+o))
  | some (o,_),.elem r off=>some (.elem r (off+o))
  | _,_=>none
 | _=>none
def ZuU (T:Tab) (t:TypeId) (v i:PV):Option PV:=match i with
 | .d (.int _ (.ofNat n))=>match (T.get t).kind,v with
  | .string,.d (.str s)=>(match s[n]? with | some b=>some (.d (.int .u8 b.toNat)) | none=>none)
  | _,_=>none
 | _=>none
def Zf6 (T:Tab) (t:TypeId) (v i:PV):Option PV:=match i with
 | .d (.int _ (.ofNat n))=>match (T.get t).kind with
  | .slice e=>match WZ (T.get e).kind with
   | true=>none
   | false=>match v with
    | .d (.sl rows)=>(match rows[n]? with | some r=>(match Nat.beq r.length (T.get e).size with | true=>some (.elem r 0) | false=>none) | none=>none)
    | .sl _ _ rows=>(match rows[n]? with | some r=>(match Nat.beq r.length (T.get e).size with | true=>some (.elem r 0) | false=>none) | none=>none)
    | _=>none
  | _=>none
 | _=>none
def Zmo (v:PV) (i:Nat):Option PV:=match v with
 | .tuple vs=>vs[i]?
 | _=>none
def ZEH (T:Tab) (t:TypeId) (v:PV) (bx:List Box):Option PV:=match (T.get t).kind with
 | .string=>(match v with | .d (.str s)=>some (.d (.int .i64 s.length)) | _=>none)
 | .slice _=>match v with
  | .asl _ _ n=>none
  | v=>(match toD v with | some (.sl rows)=>some (.d (.int .i64 rows.length)) | _=>none)
 | _=>none
def ZEI (a b:PV):Option PV:=match a,b with
 | .d (.int k a),.d (.int k' b)=>(match keq k k',ilt b a with | true,true=>some (.d (.int k b)) | true,false=>some (.d (.int k a)) | _,_=>none)
 | _,_=>none
def Zmp (T:Tab) (b:Builtin) (ts:List TypeId) (vs:List PV) (bx:List Box):Option PV:=match b,ts,vs with
 | .len,t::_,[v]=>ZEH T t v bx
 | .min,_,[a,b]=>ZEI a b
 | _,_,_=>none
def ZuV (T:Tab) (ρ:Operand->PV) (bx:List Box) (c:Call):Option PV:=match c with
 | { callee:=.builtin b,args,argTypes }=>Zmp T b argTypes.toList (args.toList.map ρ) bx
 | _=>none
def ZDG (T:Tab) (o:Op) (ty:TypeId) (ρ:Operand->PV) (bx:List Box):Option PV:=match o with
 | .move x=>ZtZ T ty (ρ x)
 | .assign x=>ZtZ T ty (ρ x)
 | .pick c a b=>ZBL (ρ c) (ρ a) (ρ b)
 | .build t ps=>ZuT T t ρ ps.toList
 | .load t a=>Zmm T t (ρ a) bx
 | .nilCheck x=>Zi7 (ρ x)
 | .binOp op t x y _=>ZyM T op t x y (ρ x) (ρ y)
 | .unOp op _ x=>unR op (ρ x)
 | .convert s d x=>ZBM T s d (ρ x)
 | .fieldAddr s x i=>Zf5 T s (ρ x) i
 | .index t x i=>ZuU T t (ρ x) (ρ i)
 | .indexAddr t x i=>Zf6 T t (ρ x) (ρ i)
 | .slice t x lo hi none=>ZkU T t (ρ x) (lo.map ρ) (hi.map ρ)
 | .extract x i=>Zmo (ρ x) i
 | .call c=>ZuV T ρ bx c
 | _=>none
def ZyN {T:Tab} {o:Op} {ty:TypeId} {ρ:Operand->PV} {bx:List Box} {v:PV} {K:PV->Prop} (h:ZDG T o ty ρ bx=some v) (hK:K v):qop T o ty ρ bx K:=by
 unfold ZDG at h
 split at h
 ·exact Zmn h hK
 ·exact Zmn h hK
 ·unfold ZBL at h
  exact mq162
 ·unfold ZuT at h
  simp only [qop];split at h
  ·rename_i hk
   simp only [hk];split at h
   ·rename_i h1;cases h;exact ZaC h1 hK
   cases h
  cases h
 ·exact Zi6 h hK
 ·unfold Zi7 at h
  exact mq162
 ·exact ZtY h hK
 ·unfold unR at h
  simp only [qop];split at h
  ·rename_i hx;cases h;simp only [hx];exact hK
  cases h
 ·unfold ZBM at h
  simp only [qop];split at h
  ·cases h
  ·cases h
  rename_i fd ip
  split
  ·rename_i hk;exact (fd hk).elim
  ·rename_i hk;exact (ip _ hk).elim
  split at h
  ·rename_i h1 h2;cases h;simp only [h1,h2];exact .inr (by rw [<- Zho];exact hK)
  ·exact mq153
  cases h
 ·unfold Zf5 at h
  simp only [qop];split at h
  ·rename_i hk
   simp only [hk];split at h
   ·exact mq153
   ·exact mq153
   cases h
  cases h
 ·unfold ZuU at h
  simp only [qop];split at h
  ·rename_i n hi
   simp only [hi];split at h
   ·rename_i s h1 h2
    simp only [h1,h2];split at h
    ·rename_i b hb
     cases h
     have aa:=(Ti.1 hb).1;refine ⟨Int.natCast_nonneg _,Int.ofNat_lt.2 aa,?_⟩;have:List.getD s (Int.ofNat n).toNat 0=b:=by show List.getD s n 0=b;rw [T9,hb];rfl
     rw [this];exact hK
    cases h
   cases h
  cases h
 ·unfold Zf6 at h
  simp only [qop];split at h
  ·rename_i n hi
   simp only [hi];split at h
   ·rename_i hk
    simp only [hk];split at h
    ·cases h
    rename_i ho
    refine UU ho ?_;split at h
    ·exact mq109
    ·exact mq109
    cases h
   cases h
  cases h
 ·exact Zn0 h hK
 ·unfold Zmo at h
  simp only [qop];split at h
  ·rename_i hx;simp only [hx,h];exact hK
  cases h
 ·unfold ZuV at h
  split at h
  ·unfold Zmp at h
   simp only [qop];split at h
   ·rename_i h1 h2
    simp only [h1,h2];unfold ZEH at h
    split at h
    ·rename_i hk;simp only [hk];split at h
     ·cases h;exact hK
     cases h
    ·rename_i hk
     simp only [hk];split at h
     ·cases h
     rename_i hn
     split at h
     ·rename_i hd
      cases h
      split
      ·exact (hn _ _ _ rfl).elim
      simp only [hd];exact hK
     cases h
    cases h
   ·rename_i h1
    simp only [h1];unfold ZEI at h
    split at h
    ·split at h
     ·rename_i hq hl
      cases h
      simp only [hq];rw [Zi4] at hl;have hl:=Sr hl;rw [Int.min_eq_right oM];exact hK
     ·rename_i hq hl
      cases h
      simp only [hq];rw [Zi4] at hl;have hl:=of_decide_eq_false hl;rw [Int.min_eq_left oM];exact hK
     cases h
    cases h
   cases h
  cases h
 cases h
end Go.PM
end

section
namespace Go.PM
def Zrn (T:Tab) (e:Nat):Option (List D):=match WZ (T.get e).kind,Zmx (T.get e).zero with
 | false,some z=>(match Nat.ble 1 z.length with | true=>some z | false=>none)
 | _,_=>none
def Zro {T:Tab} {e:Nat} {z:List D} (h:Zrn T e=some z):WZ (T.get e).kind=false/\Zmx (T.get e).zero=some z/\Nat.ble 1 z.length=true:=by
 unfold Zrn at h
 split at h
 ·rename_i h1 h2
  split at h
  ·rename_i h3;cases h;exact ⟨h1,h2,h3⟩
  cases h
 cases h
def Zmq (T:Tab) (t:TypeId) (n:Nat) (ρ:Operand->PV) (ps:List (Nat×Operand)):Option (Nat×List (List D)):=match (T.get t).kind with
 | .slice e=>match Zrn T e with
  | some z=>(match Nat.ble (n * z.length) 16777216,ZaI z ρ n ps with | true,some rows=>some (e,rows) | _,_=>none)
  | none=>none
 | _=>none
def ZyO (T:Tab) (o:Op) (ty:TypeId) (ρ:Operand->PV) (bx:List Box):Option PV:=match Zjo T o with
 | some x=>none
 | none=>match o with
  | .buildSlice t n ps=>(match Zmq T t n ρ ps.toList with | some (_,rows)=>some (.d (.sl rows)) | none=>none)
  | .makeSlice t l c=>none
  | o=>ZDG T o ty ρ bx
def Zt0 {T:Tab} {o:Op} {ty:TypeId} {ρ:Operand->PV} {bx:List Box} {v:PV} {K:PV->Prop} (h:ZyO T o ty ρ bx=some v) (hK:K v):Zf9 T o ty ρ bx K:=by
 unfold ZyO at h
 unfold Zf9
 split at h
 ·rename_i x hx
  cases h
 rename_i hx
 simp only [hx];split at h
 ·rename_i t n ps _
  simp only;split at h
  ·rename_i rows hb
   cases h
   unfold Zmq at hb
   split at hb
   ·rename_i hk
    simp only [hk];split at hb
    ·rename_i z hz
     obtain ⟨h1,h2,h3⟩:=Zro hz;refine UU h1 ?_;simp only [h2];split at hb
     ·rename_i h4 h5;cases hb;simp only [h3,h4,h5];exact hK
     cases hb
    cases hb
   cases hb
  cases h
 ·cases h
 rename_i fd ip
 have:=ZyN h hK;split
 ·exact (fd _ _ _ rfl).elim
 ·exact (ip _ _ _ rfl).elim
 exact this
def ZuW (T:Tab) (e:Nat) (σ:St):Option (PV×St):=match WZ (T.get e).kind with
 | true=>none
 | false=>some (.ptr σ.bx.length 0,σ.new (.cells e (T.get e).zero))
def ZEJ (e:Nat) (v:PV) (σ:St):Option (PV×St):=match v.cells with
 | some l=>some (.ptr σ.bx.length 0,σ.new (.cells e l))
 | none=>none
def ZuX (T:Tab) (t:TypeId) (a v:PV) (σ:St):Option (PV×St):=match a with
 | .ptr b off=>match σ.bx[b]?,v.cells with
  | some (.cells ty cs),some l=>(match Nat.beq l.length (T.get t).size,Nat.ble (off+l.length) cs.length,WZ (T.get t).kind with
   | true,true,false=>some (.undef,σ.set b (.cells ty (ZU cs off l)))
   | _,_,_=>none)
  | _,_=>none
 | _=>none
def ZuY (T:Tab) (t:TypeId) (v:PV) (σ:St):Option (PV×St):=match (T.get t).kind,v with
 | .string,.d (.str s)=>some (.ptr σ.bx.length 0,σ.new (.iter s 0))
 | _,_=>none
def ZBN (v:PV) (σ:St):Option (PV×St):=match v with
 | .ptr b 0=>match σ.bx[b]? with
  | some (.iter s pos)=>(match Nat.ble (pos+1) s.length with
   | true=>some (.tuple [.d (.bool true),.d (.int .i64 pos),.d (.int .i32 (decodeL s pos).1)],σ.set b (.iter s (pos+(decodeL s pos).2)))
   | false=>some (.tuple [.d (.bool false)],σ))
  | _=>none
 | _=>none
def ZEK (T:Tab) (el:Nat) (s:PV) (more:List (List D)) (σ:St):Option (PV×St):=match WZ (T.get el).kind,Nat.ble 1 (T.get el).size,Zmk (T.get el).size more with
 | false,true,true=>match s with
  | .nils _=>(match Nat.ble (more.length * (T.get el).bytes) 140737488355328,Nat.ble more.length 140737488355328 with
   | true,true=>some (.sl σ.nx el more,{ σ with tk:=σ.nx::σ.tk,nx:=σ.nx+1 })
   | _,_=>none)
  | .sl tok e2 rows=>(match ZeB tok σ.tk,Nat.beq e2 el,Nat.ble ((rows.length+more.length) * (T.get el).bytes) 140737488355328,Nat.ble (rows.length+more.length) 140737488355328 with
   | true,true,true,true=>some (.sl σ.nx el (rows++more),{ σ with tk:=σ.nx::UB tok σ.tk,nx:=σ.nx+1 })
   | _,_,_,_=>none)
  | _=>none
 | _,_,_=>none
def Zrp (T:Tab) (ts:List TypeId) (vs:List PV) (σ:St):Option (PV×St):=match ts,vs with
 | [t,tx],[s,x]=>match (T.get t).kind with
  | .slice el=>(match WD T tx el x with | some more=>ZEK T el s more σ | none=>none)
  | _=>none
 | _,_=>none
def ZDH (T:Tab) (o:Op) (ρ:Operand->PV) (σ:St):Option (PV×St):=match o with
 | .alloc e=>ZuW T e σ
 | .box e x=>ZEJ e (ρ x) σ
 | .store t a x=>ZuX T t (ρ a) (asT T t (ρ x)) σ
 | .range t x=>ZuY T t (ρ x) σ
 | .next x true=>ZBN (ρ x) σ
 | .call { callee:=.builtin .append,args,argTypes }=>Zrp T argTypes.toList (args.toList.map ρ) σ
 | _=>none
def ZyP {T:Tab} {o:Op} {ρ:Operand->PV} {σ σ':St} {v:PV} {K:PV->St->Prop} (h:ZDH T o ρ σ=some (v,σ')) (hK:K v σ'):eop T o ρ σ K:=by
 unfold ZDH at h
 unfold eop
 split at h
 ·unfold ZuW at h
  split at h
  ·cases h
  rename_i ho;cases h;exact UU ho hK
 ·unfold ZEJ at h
  simp only;split at h
  ·rename_i hc;cases h;simp only [hc];exact hK
  cases h
 ·unfold ZuX at h
  simp only;split at h
  ·rename_i ha
   simp only [ha];split at h
   ·rename_i hb hc
    simp only [hb,hc];split at h
    ·rename_i h1 h2 h3
     cases h
     simp only [h1,h2];split
     ·rename_i he;rw [he] at h3;cases h3
     ·exact hK
     rename_i hn _;exact (hn rfl rfl).elim
    cases h
   cases h
  cases h
 ·unfold ZuY at h
  simp only;split at h
  ·exact mq153
  cases h
 ·unfold ZBN at h
  simp only;split at h
  ·rename_i ha
   simp only [ha];split at h
   ·rename_i s pos hb
    simp only [hb];split at h
    ·rename_i hl
     cases h
     rw [Sa (show pos<s.length from Tc hl)];exact hK
    rename_i hl
    cases h
    rw [decide_eq_false (show ¬pos<s.length from fun g=>by rw [Nat.ble_eq_true_of_le g] at hl;cases hl)];exact hK
   cases h
  cases h
 ·unfold Zrp at h
  simp only;split at h
  ·rename_i h1 h2
   simp only [h1,h2];split at h
   ·rename_i hk
    simp only [hk];split at h
    ·rename_i hm
     unfold ZEK at h
     split at h
     ·rename_i ho hs hr
      refine UU ho ?_;simp only [hs,hm];split at h
      ·split at h
       ·rename_i h3 h4
        cases h
        exact ⟨Zeg hr,Tc h3,Tc h4,hK⟩
       cases h
      ·split at h
       ·rename_i h3 h4 h5 h6
        cases h
        simp only [h3,h4];exact ⟨Zeg hr,Tc h5,Tc h6,hK⟩
       cases h
      cases h
     cases h
    cases h
   cases h
  cases h
 cases h
end Go.PM
end

section
namespace Go.PM
abbrev TS:=FT×St
abbrev ZBO:=PExit×FT×St
abbrev W0:=FuncId->List PV->St->Option (PEnd×St)
def Zzh (t:FT) (d:Option Nat) (v:PV) (σ:St):Option TS:=match d with
 | some i=>ZCs v fun v=>match t.put v i with | some t=>some (t,σ) | none=>none
 | none=>some (t,σ)
def Zbw {t:FT} {d:Option Nat} {v:PV} {σ:St} {s:TS} {K:Frame->St->Prop} (h:Zzh t d v σ=some s) (hK:K s.1.get s.2):Zhy t.get d v fun f=>K f σ:=by
 rw [ZV];unfold Zzh at h
 cases d with
 | none=>cases h;exact hK
 | some i =>
 simp only [Zrl] at h;split at h
 ·rename_i t' ht
  cases h
  have:=ZFI ht;simp only at hK;rw [this] at hK;exact hK
 cases h
def Zrq (call:W0) (fv:PV) (args:List PV) (σ:St):Option (PV×St):=match fv with
 | .func g first caps=>(match Zob args,call g (first++args++caps) σ with | false,some (.ret v,σ)=>some (v,σ) | _,_=>none)
 | _=>none
def ZuZ (t:FT) (d:Option Nat) (r:Option (PV×St)):Option TS:=match r with
 | some (v,σ)=>Zrk σ fun σ=>Zzh t d v σ
 | none=>none
def ZEL (call:W0) (T:Tab) (o:Oper) (t:FT) (σ:St):Option (PV×St):=match o.op with
 | .call { callee:=.value x,args,.. }=>Zrq call (ev t.get x) (args.toList.map (ev t.get)) σ
 | .panic x=>none
 | op=>ZDH T op (ev t.get) σ
def Zi8 (call:W0) (T:Tab) (o:Oper) (t:FT) (σ:St):Option TS:=match YV o.op with
 | false=>(match ZyO T o.op o.type (ev t.get) σ.bx with | some v=>Zzh t o.dst v σ | none=>none)
 | true=>ZuZ t o.dst (ZEL call T o t σ)
structure CxR (C:Cx) (call:W0) (T:Tab) (N:Nat):Prop where
 T:C.T=T
 call:∀{g args σ pe σ'} {K:PEnd->St->Prop},call g args σ=some (pe,σ')->K pe σ'->C.call g args σ K
 bsl:C.bsl=fun _=>false
 unr:C.unr=fun _=>N+1
 cut:C.cut=fun _=>none
 foc:C.foc=fun _=>false
def CxR.calm {C:Cx} {call:W0} {T:Tab} {N:Nat} (h:CxR C call T N):CxR C.calm call T N:=⟨h.T,h.call,h.bsl,h.unr,h.cut,h.foc⟩
section
variable {C:Cx} {call:W0} {T:Tab} {N:Nat} {Q:PQ} {K:Frame->St->Prop}
def Zeh (hC:CxR C call T N) {o:Oper} {t:FT} {σ:St} {s:TS} (h:Zi8 call T o t σ=some s) (hK:K s.1.get s.2):XP C o t.get σ Q K:=by
 unfold Zi8 at h
 unfold XP
 split at h
 ·rename_i he
  simp only [he,hC.T];split at h
  ·rename_i hq;exact Zt0 hq (Zbw h hK)
  cases h
 rename_i he
 simp only [he];unfold ZuZ at h
 split at h
 ·rename_i v σ1 hq
  rw [Zhm] at h;unfold ZEL at hq
  split at hq
  ·rename_i x args _ ho
   simp only [ho];unfold Zrq at hq
   unfold ZcI
   split at hq
   ·rename_i hf
    simp only [hf];split at hq
    ·rename_i hr hc
     cases hq
     simp only [hr];refine hC.call hc ?_;simp only [ZN];exact Zbw h hK
    cases hq
   cases hq
  ·cases hq
  rename_i fd ip
  split
  ·rename_i ho;exact (fd _ _ _ ho).elim
  ·rename_i ho;exact (ip _ ho).elim
  rw [hC.T];refine ZyP hq ?_;simp only [ZN];exact Zbw h hK
 cases h
def Zmr (call:W0) (T:Tab) (all:List Oper) (o:Oper) (t:FT) (σ:St):Option TS:=match o.guard with
 | none=>Zi8 call T o t σ
 | some (j,want)=>match Wf all j with
  | some s=>(match t.get s with
   | .d (.bool b)=>(match b,want with
    | true,true=>Zi8 call T o t σ
    | false,false=>Zi8 call T o t σ
    | _,_=>Zzh t o.dst (.raw Go.undef) σ)
   | .raw (.tuple _)=>Zzh t o.dst (.raw Go.undef) σ
   | _=>none)
  | none=>none
def Zi9 (hC:CxR C call T N) {all:List Oper} {o:Oper} {t:FT} {σ:St} {s:TS} (h:Zmr call T all o t σ=some s) (hK:K s.1.get s.2):W3 C all Q o t.get σ K:=by
 unfold Zmr at h
 unfold W3
 split at h
 ·rename_i hg;simp only [hg];exact Zeh hC h hK
 rename_i j want hg
 simp only [hg];split at h
 ·rename_i hs
  simp only [hs];split at h
  ·rename_i b hb
   simp only [hb]
   cases b <;> cases want <;> simp only at h
   ·exact ZFK (by simp only [Xg hb];exact Zeh hC h hK)
   ·exact ZFK (by simp only [Xg hb];exact Zbw h hK)
   ·exact ZFJ (by simp only [Xg hb];exact Zbw h hK)
   exact ZFJ (by simp only [Xg hb];exact Zeh hC h hK)
  ·rename_i hb;simp only [hb];exact Zbw h hK
  cases h
 cases h
def Zt1 (call:W0) (T:Tab) (all:List Oper):List Oper->FT->St->Option TS
 | [],t,σ=>some (t,σ)
 | o::rest,t,σ=>match Zmr call T all o t σ with
  | some (t,σ)=>Zt1 call T all rest t σ
  | none=>none
def Zms (hC:CxR C call T N) {all:List Oper}:∀{l:List Oper} {t:FT} {σ:St} {s:TS},Zt1 call T all l t σ=some s->Q .normal s.1.get s.2->Zn5 C all Q l t.get σ
 | [],t,σ,s,h,hQ=>by cases h;exact hQ
 | o::rest,t,σ,s,h,hQ=>by
  unfold Zt1 at h
  unfold Zn5 ZhB
  have ho:Ze4 C o=false:=by
   unfold Ze4
   rw [hC.bsl]
   cases o.dst <;> cases o.guard <;> rfl
  rw [ho];split at h
  ·rename_i hs
   exact Zi9 hC hs (Zms hC h hQ)
  cases h
end
end Go.PM
end

section
namespace Go.PM
def ZBP {k k':IntKind} (h:keq k k'=true):k=k':=by cases k <;> cases k' <;> first | rfl | (cases h;done)
mutual
def ZrM:D->D->Bool
 | .bool a,.bool b=>(match a,b with | true,true=>true | false,false=>true | _,_=>false)
 | .int k a,.int k' b=>(match keq k k' with | true=>ieq a b | false=>false)
 | .str a,.str b=>ZeU a b
 | .sl a,.sl b=>Zf7 a b
 | .nilp,.nilp=>true
 | .nilf,.nilf=>true
 | .nili,.nili=>true
 | _,_=>false
def Zn1:List D->List D->Bool
 | [],[]=>true
 | x::l,y::m=>(match ZrM x y with | true=>Zn1 l m | false=>false)
 | _,_=>false
def Zf7:List (List D)->List (List D)->Bool
 | [],[]=>true
 | x::l,y::m=>(match Zn1 x y with | true=>Zf7 l m | false=>false)
 | _,_=>false
end
mutual
def Zrr:∀{x y:D},ZrM x y=true->x=y
 | .bool a,y,h=>by
  cases y <;> simp only [ZrM] at h <;> first | (cases h;done) | skip
  rename_i b;cases a <;> cases b <;> first | rfl | (cases h;done)
 | .int k a,y,h=>by
  cases y <;> simp only [ZrM] at h <;> first | (cases h;done) | skip
  split at h
  ·rename_i hk;rw [Zrm] at h;rw [ZBP hk,Sr h]
  cases h
 | .str a,y,h=>by
  cases y <;> simp only [ZrM] at h <;> first | (cases h;done) | skip
  rw [Zhp] at h;rw [Sr h]
 | .sl a,y,h=>by
  cases y <;> simp only [ZrM] at h <;> first | (cases h;done) | skip
  rw [Zei h]
 | .nilp,y,h=>by cases y <;> simp only [ZrM] at h <;> first | rfl | (cases h;done)
 | .nilf,y,h=>by cases y <;> simp only [ZrM] at h <;> first | rfl | (cases h;done)
 | .nili,y,h=>by cases y <;> simp only [ZrM] at h <;> first | rfl | (cases h;done)
def Zhq:∀{x y:List D},Zn1 x y=true->x=y
 | [],y,h=>by cases y <;> simp only [Zn1] at h <;> first | rfl | (cases h;done)
 | x::l,y,h=>by
  cases y <;> simp only [Zn1] at h <;> first | (cases h;done) | skip
  split at h
  ·rename_i h1;rw [Zrr h1,Zhq h]
  cases h
def Zei:∀{x y:List (List D)},Zf7 x y=true->x=y
 | [],y,h=>by cases y <;> simp only [Zf7] at h <;> first | rfl | (cases h;done)
 | x::l,y,h=>by
  cases y <;> simp only [Zf7] at h <;> first | (cases h;done) | skip
  split at h
  ·rename_i h1;rw [Zhq h1,Zei h]
  cases h
end
mutual
def ZCu:PV->PV->Bool
 | .d x,.d y=>ZrM x y
 | .undef,.undef=>true
 | .ptr a b,.ptr c d=>(match Nat.beq a c with | true=>Nat.beq b d | false=>false)
 | .nils a,.nils b=>Nat.beq a b
 | .sl a b r,.sl c d q=>(match Nat.beq a c,Nat.beq b d with | true,true=>Zf7 r q | _,_=>false)
 | .elem r a,.elem q b=>(match Nat.beq a b with | true=>Zn1 r q | false=>false)
 | .agg x,.agg y=>ZkV x y
 | .tuple x,.tuple y=>ZkV x y
 | _,_=>false
def ZkV:List PV->List PV->Bool
 | [],[]=>true
 | x::l,y::m=>(match ZCu x y with | true=>ZkV l m | false=>false)
 | _,_=>false
end
mutual
def ZkW:∀{x y:PV},ZCu x y=true->x=y
 | x,y,h=>by
  cases x <;> cases y <;> simp only [ZCu] at h <;> first
   | (cases h;done)
   | rfl
   | rw [Zrr h]
   | rw [Tl h]
   | rw [Zhr h]
   | (split at h <;> first
     | (cases h;done)
     | (rename_i h1 h2;rw [Tl h1,Tl h2,Zei h])
     | (rename_i h1;rw [Tl h1,Tl h])
     | (rename_i h1;rw [Tl h1,Zhq h])
     | (rename_i h1;rw [Tl h1,ZkW h]))
def Zhr:∀{x y:List PV},ZkV x y=true->x=y
 | [],y,h=>by cases y <;> simp only [ZkV] at h <;> first | rfl | (cases h;done)
 | x::l,y,h=>by
  cases y <;> simp only [ZkV] at h <;> first | (cases h;done) | skip
  split at h
  ·rename_i h1;rw [ZkW h1,Zhr h]
  cases h
end
def ZDI:Option (Nat×List PV×List (List UInt8×MV))->Option (Nat×List PV×List (List UInt8×MV))->Bool
 | some (n,a,[]),some (m,b,[])=>(match Nat.beq n m,ZkV a b with | true,true=>true | _,_=>false)
 | none,none=>true
 | _,_=>false
def ZyQ {x y:Option (Nat×List PV×List (List UInt8×MV))} (h:ZDI x y=true):x=y:=by
 unfold ZDI at h
 split at h
 ·split at h
  ·rename_i h1 h2;rw [Tl h1,Zhr h2]
  cases h
 ·rfl
 cases h
def Zrs (ms:List Nat) (j:Nat) (pre post:List Box):List Ld->Bool
 | []=>true
 | ⟨i,b,off,n⟩::l=>match anc ms i j with
  | true=>Zrs ms j pre post l
  | false=>match ZDI (ZY pre b off n) (ZY post b off n) with | true=>Zrs ms j pre post l | false=>false
def Zhs {ms:List Nat} {j:Nat} {pre post:List Box} {X:Prop} (hX:X):∀{l:List Ld},Zrs ms j pre post l=true->Zoc ms j pre post l X
 | [],_=>hX
 | ⟨i,b,off,n⟩::l,h=>by
  unfold Zrs at h
  unfold Zoc
  split at h
  ·rename_i h1;simp only [h1];exact Zhs hX h
  rename_i h1
  simp only [h1];split at h
  ·rename_i h2;exact ⟨ZyQ h2,Zhs hX h⟩
  cases h
def Zja (call:W0) (T:Tab) (all:List Oper) (ms:List Nat):List (Nat×Oper)->List Ld->FT->St->Option TS
 | [],_,t,σ=>some (t,σ)
 | (i,o)::rest,ctx,t,σ=>match Zmr call T all o t σ with
  | some (t',σ')=>(match YV o.op with
   | true=>(match Zrs ms i σ.bx σ'.bx ctx with | true=>Zja call T all ms rest ctx t' σ' | false=>none)
   | false=>Zja call T all ms rest (VZ T o i t.get ctx) t' σ')
  | none=>none
def Zej {C:Cx} {call:W0} {T:Tab} {N:Nat} {Q:PQ} (hC:CxR C call T N) {all:List Oper} {ms:List Nat}:∀{l:List (Nat×Oper)} {ctx:List Ld} {t:FT} {σ:St} {s:TS},Zja call T all ms l ctx t σ=some s->Q .normal s.1.get s.2->X1 C all ms Q l ctx t.get σ
 | [],_,t,σ,s,h,hQ=>by cases h;exact hQ
 | (i,o)::rest,ctx,t,σ,s,h,hQ=>by
  unfold Zja at h
  unfold X1 X0
  split at h
  ·rename_i t1 σ1 hs
   refine Zi9 hC hs ?_;simp only;split at h
   ·rename_i he
    simp only [he];split at h
    ·rename_i hc;exact Zhs (Zej hC h hQ) hc
    cases h
   rename_i he
   simp only [he,hC.T];exact Zej hC h hQ
  cases h
def Zt2 (S:FT->St->Option ZBO):Nat->FT->St->Option ZBO
 | 0,_,_=>none
 | n+1,t,σ=>match S t σ with
  | some (.normal,t,σ)=>Zt2 S n t σ
  | r=>r
def ZEM (call:W0) (T:Tab) (ops:List Oper) (draw:Bool) (t:FT) (σ:St):Option TS:=match draw with
 | false=>Zt1 call T ops ops t σ
 | true=>(match ZcL ops,Ze5 (Wg ops []) none (ZF 0 ops) with
  | none,true=>Zja call T ops (Wg ops []) (Zgb ops) [] t σ
  | _,_=>none)
def Zjb (call:W0) (T:Tab) (N:Nat):Code->FT->St->Option ZBO
 | .skip,t,σ=>some (.normal,t,σ)
 | .region _ ops draw,t,σ=>(match ZEM call T ops.toList draw t σ with | some (t,σ)=>some (.normal,t,σ) | none=>none)
 | .seq a b,t,σ=>(match Zjb call T N a t σ with
  | some (.normal,t,σ)=>Zjb call T N b t σ
  | r=>r)
 | .cond c x y,t,σ=>(match ev t.get c with
  | .d (.bool true)=>Zjb call T N x t σ
  | .d (.bool false)=>Zjb call T N y t σ
  | _=>none)
 | .block id b,t,σ=>(match Zjb call T N b t σ with
  | some (.exit i,t,σ)=>(match Nat.beq i id with | true=>some (.normal,t,σ) | false=>some (.exit i,t,σ))
  | r=>r)
 | .scope b,t,σ=>(match Zjb call T N b t σ with
  | some (.goto _,_,_)=>none
  | r=>r)
 | .exit id,t,σ=>some (.exit id,t,σ)
 | .ret,t,σ=>some (.ret,t,σ)
 | .loop b,t,σ=>Zt2 (fun t σ=>Zjb call T N b t σ) (N+1) t σ
 | _,_,_=>none
def Zmt {S:FT->St->Option ZBO} {W:PQ->Frame->St->Prop} (hS:∀{Q t σ e t' σ'},S t σ=some (e,t',σ')->Q e t'.get σ'->W Q t.get σ):∀{n:Nat} {Q:PQ} {t:FT} {σ:St} {e:PExit} {t':FT} {σ':St},Zt2 S n t σ=some (e,t',σ')->Q e t'.get σ'->ZbA W Q n t.get σ
 | 0,_,_,_,_,_,_,h,_=>by cases h
 | n+1,Q,t,σ,e,t',σ',h,hQ=>by
  unfold Zt2 at h
  unfold ZbA
  split at h
  ·rename_i t1 σ1 hs
   exact hS hs (Zmt hS h hQ)
  rename_i hn
  refine hS h ?_;split
  ·exact (hn _ _ h).elim
  exact hQ
def ZyR {C:Cx} {call:W0} {T:Tab} {N:Nat} (hC:CxR C call T N):∀(c:Code) {Q:PQ} {t:FT} {σ:St} {e:PExit} {t':FT} {σ':St},Zjb call T N c t σ=some (e,t',σ')->Q e t'.get σ'->W C c Q t.get σ:=by
 intro c
 induction c with
 | region id ops draw =>
  intro Q t σ e t' σ' h hQ
  simp only [Zjb] at h;simp only [W,hC.foc,WR];split at h
  ·rename_i t1 σ1 hr
   cases h
   unfold ZEM at hr
   split at hr
   ·exact Zms hC hr hQ
   split at hr
   ·rename_i h1 h2
    simp only [h1,h2];exact Zej hC.calm hr hQ
   cases hr
  cases h
 | seq a b iha ihb =>
  intro Q t σ e t' σ' h hQ
  simp only [Zjb] at h;simp only [W,hC.cut];split at h
  ·rename_i t1 σ1 h1
   exact iha h1 (ihb h hQ)
  rename_i hn
  refine iha h ?_;split
  ·exact (hn _ _ h).elim
  exact hQ
 | cond c x y ihx ihy =>
  intro Q t σ e t' σ' h hQ
  simp only [Zjb] at h;simp only [W];split at h
  ·rename_i hc;simp only [hc];exact ZFJ (ihx h hQ)
  ·rename_i hc;simp only [hc];exact ZFK (ihy h hQ)
  cases h
 | block id b ih =>
  intro Q t σ e t' σ' h hQ
  simp only [Zjb] at h;simp only [W];split at h
  ·rename_i i t1 σ1 h1
   refine ih h1 ?_;simp only;split at h
   ·rename_i hb;cases h;simp only [hb];exact hQ
   rename_i hb;cases h;simp only [hb];exact hQ
  rename_i hn
  refine ih h ?_;split
  ·exact (hn _ _ _ h).elim
  exact hQ
 | scope b ih =>
  intro Q t σ e t' σ' h hQ
  simp only [Zjb] at h;simp only [W];split at h
  ·cases h
  rename_i hn
  refine ih h ?_;split
  ·exact (hn _ _ _ h).elim
  exact hQ
 | loop b ih =>
  intro Q t σ e t' σ' h hQ
  simp only [Zjb] at h;simp only [W,hC.unr];exact Zmt (W:=fun Q f σ=>W C b Q f σ) (fun h hQ=>ih h hQ) h hQ
 | skip=>intro Q t σ e t' σ' h hQ;cases h;exact hQ
 | exit id=>intro Q t σ e t' σ' h hQ;cases h;exact hQ
 | ret=>intro Q t σ e t' σ' h hQ;cases h;exact hQ
 | _=>intro Q t σ e t' σ' h hQ;cases h
end Go.PM
end

section
namespace Go.PM
abbrev N1:=List Nat->Nat->PV->PV×List Nat×Nat
def VQ (cl:PV->PV) (n:Nat):N1:=fun tk k v=>match v with
 | .sl t e rows=>(match ZeB t tk with
  | true=>(.sl k e rows,UB t tk,k+1)
  | false=>(.d (.sl rows),tk,k))
 | .nils e=>(.sl k e [],tk,k+1)
 | v=>(match bnd n v with
  | true=>(cl v,tk,k)
  | false=>(.undef,tk,k))
def JT (f:N1):List PV->List Nat->Nat->List PV×List Nat×Nat
 | [],tk,k=>([],tk,k)
 | v::l,tk,k=>match f tk k v with
  | (v,tk,k)=>match JT f l tk k with
   | (l,tk,k)=>(v::l,tk,k)
def ZaD (n:Nat):N1:=fun tk k v=>match v with
 | .agg cs=>(match JT (VQ cleanN n) cs tk k with | (cs,tk,k)=>(.agg cs,tk,k))
 | v=>VQ cleanN n tk k v
def Zt3 {n:Nat} {tk:List Nat} {k:Nat} {v:PV} {K:PV->List Nat->Nat->Prop} (h:K (VQ clean n tk k v).1 (VQ clean n tk k v).2.1 (VQ clean n tk k v).2.2):ZrN n tk k v K:=by
 cases v <;> simp only [VQ,ZrN,ZP] at h |- <;> first
  | exact h
  | (split at h <;> rename_i hb <;> simp only [hb] <;> exact h)
def Zjc {n:Nat} {tk:List Nat} {k:Nat} {v:PV} {K:PV->List Nat->Nat->Prop} (h:K (VQ cleanN n tk k v).1 (VQ cleanN n tk k v).2.1 (VQ cleanN n tk k v).2.2):ZcJ n tk k v K:=by
 cases v <;> simp only [VQ,ZcJ,ZP] at h |- <;> first
  | exact h
  | (split at h <;> rename_i hb <;> simp only [hb] <;> exact h)
def Zht {n:Nat}:∀{l:List PV} {tk:List Nat} {k:Nat} {K:List PV->List Nat->Nat->Prop},K (JT (VQ clean n) l tk k).1 (JT (VQ clean n) l tk k).2.1 (JT (VQ clean n) l tk k).2.2->ZrO n l tk k K
 | [],_,_,_,h=>h
 | v::l,tk,k,K,h=>Zt3 (Zht h)
def Zjd {n:Nat}:∀{l:List PV} {tk:List Nat} {k:Nat} {K:List PV->List Nat->Nat->Prop},K (JT (VQ cleanN n) l tk k).1 (JT (VQ cleanN n) l tk k).2.1 (JT (VQ cleanN n) l tk k).2.2->Zjq n l tk k K
 | [],_,_,_,h=>h
 | v::l,tk,k,K,h=>Zjc (Zjd h)
def Zrt {n:Nat} {tk:List Nat} {k:Nat} {v:PV} {K:PV->List Nat->Nat->Prop} (h:K (ZaD n tk k v).1 (ZaD n tk k v).2.1 (ZaD n tk k v).2.2):ZhC n tk k v K:=by
 unfold ZhC
 split
 ·exact Zjd h
 rename_i hn
 refine Zjc ?_;have:ZaD n tk k v=VQ cleanN n tk k v:=by cases v <;> first | rfl | exact (hn _ rfl).elim
 rw [this] at h;exact h
def Zek {n:Nat}:∀{l:List PV} {tk:List Nat} {k:Nat} {K:List PV->List Nat->Nat->Prop},K (JT (ZaD n) l tk k).1 (JT (ZaD n) l tk k).2.1 (JT (ZaD n) l tk k).2.2->Zjr n l tk k K
 | [],_,_,_,h=>h
 | v::l,tk,k,K,h=>Zrt (Zek h)
def Zru (n:Nat):Nat->List Box->List Nat->Nat->Option (List Box×List Nat×Nat)
 | 0,_,tk,k=>some ([],tk,k)
 | m+1,.cells t cs::l,tk,k=>(match JT (VQ clean n) cs tk k with
  | (cs,tk,k)=>match Zru n m l tk k with | some (l,tk,k)=>some (.cells t cs::l,tk,k) | none=>none)
 | _,_,_,_=>none
def Zhu {n:Nat}:∀{m:Nat} {bs:List Box} {tk:List Nat} {k:Nat} {r:List Box×List Nat×Nat} {K:List Box->List Nat->Nat->Prop},Zru n m bs tk k=some r->K r.1 r.2.1 r.2.2->ZcK n m bs tk k K
 | 0,_,_,_,_,_,h,hK=>by cases h;exact hK
 | m+1,[],tk,k,r,K,h,hK=>by cases h
 | m+1,x::l,tk,k,r,K,h,hK=>by
  cases x with
  | cells t cs =>
   simp only [Zru] at h;simp only [ZcK];refine Zht ?_;split at h
   ·rename_i hb;cases h;exact Zhu hb hK
   cases h
  | _=>cases h
def Zt4 (bs:List Nat) (bx:List Box):List Nat->Option (List Box)
 | []=>some []
 | b::l=>match bx[b]? with
  | some (.cells t cs)=>(match Zt4 bs bx l with | some r=>some (.cells t (Zgt bs cs)::r) | none=>none)
  | _=>none
def Zmu {bs:List Nat} {bx:List Box}:∀{l:List Nat} {r:List Box} {K:List Box->Prop},Zt4 bs bx l=some r->K r->ZmU bs bx l K
 | [],r,K,h,hK=>by cases h;exact hK
 | b::l,r,K,h,hK=>by
  unfold Zt4 at h
  unfold ZmU
  split at h
  ·rename_i hb
   simp only [hb];split at h
   ·rename_i hs;cases h;exact Zmu hs hK
   cases h
  cases h
def Zrv (bb:Box->Box):List Nat->List Box->List Box->Option (List Box)
 | [],xs,acc=>some (acc++xs.map bb)
 | b::l,x::xs,acc=>Zrv bb l xs (acc.set b (bb x))
 | _::_,[],_=>none
def Zje {bb:Box->Box}:∀{l:List Nat} {xs acc r:List Box} {K:List Box->Prop},Zrv bb l xs acc=some r->K r->ZeF bb l xs acc K
 | [],xs,acc,r,K,h,hK=>by cases h;exact hK
 | b::l,x::xs,acc,r,K,h,hK=>Zje (l:=l) h hK
 | _::_,[],_,_,_,h,_=>by cases h
abbrev RFn:=List PV->St->Option (PEnd×St)
def Zrw (r:RFn):Zo:=fun args σ K=>∃pe σ',r args σ=some (pe,σ')/\K pe σ'
def ZyS (own:Bool) (n:Nat) (args:List PV) (tk:List Nat):List PV×List Nat×Nat:=match own with
 | true=>JT (ZaD n) args tk 0
 | false=>JT (VQ clean n) args tk 0
def UV (own:Bool) (r:RFn) (args:List PV) (σ:St):Option (PEnd×St) :=
 Zzg (J6 σ.bx (σ.bx.length+1) 0 (ZaW args [])) fun bs=>match ZhW bs,Zt4 bs σ.bx bs,ZyS own bs.length (Zgt bs args) σ.tk with
  | true,some cb,(args',tk,k)=>(match Zru bs.length bs.length cb tk k with
   | some (cb',rest,k)=>Zzf args' fun args'=>Zrk ⟨cb',toks k,k⟩ fun σ2=>(match r args' σ2 with
    | some (pe,σ3)=>(match Zrv (ZaY bs bs.length σ.bx.length σ.nx) bs σ3.bx σ.bx with
     | some bx=>Zrk ⟨bx,rest++σ3.tk.map (σ.nx+·),σ.nx+σ3.nx⟩ fun σ4=>some (Zr6 bs bs.length σ.bx.length σ.nx pe,σ4)
     | none=>none)
    | none=>none)
   | none=>none)
  | _,_,_=>none
def mdR:Bool->Nat | true=>2 | false=>0
def Zel {own:Bool} {r:RFn} {args:List PV} {σ:St} {pe:PEnd} {σ':St} {K:PEnd->St->Prop} (h:UV own r args σ=some (pe,σ')) (hK:K pe σ'):VA (mdR own) (Zrw r) args σ K:=by
 unfold UV at h
 unfold VA
 simp only [J7,J8,Wk];simp only [Zee] at h;split at h
 ·rename_i cb args' tk k h1 h2 h3
  simp only [h1];refine Zmu h2 ?_;have key:∀{X:List PV->List Nat->Nat->Prop},X args' tk k->Zod (mdR own) (J6 σ.bx (σ.bx.length+1) 0 (ZaW args [])).length (Zgt (J6 σ.bx (σ.bx.length+1) 0 (ZaW args [])) args) σ.tk 0 X:=by
   intro X hX
   cases own with
   | true=>exact Zek (by simp only [ZyS] at h3;rw [h3];exact hX)
   | false=>exact Zht (by simp only [ZyS] at h3;rw [h3];exact hX)
  refine key ?_;split at h
  ·rename_i hb
   refine Zhu hb ?_;simp only [Zed,Zhm] at h;split at h
   ·rename_i hr
    refine ⟨_,_,hr,?_⟩;split at h
    ·rename_i ka;cases h;exact Zje ka hK
    cases h
   cases h
  cases h
 cases h
def ZkX (T:Tab) (t:FT) (bx:List Box):List ResultVar->Option (List PV)
 | []=>some []
 | .tmp i::l=>(match ZkX T t bx l with | some vs=>some (t.get i::vs) | none=>none)
 | .cell a ty::l=>(match Zmm T ty (t.get a) bx,ZkX T t bx l with | some v,some vs=>some (v::vs) | _,_=>none)
def ZcE {T:Tab} {t:FT} {bx:List Box}:∀{l:List ResultVar} {vs:List PV} {K:List PV->Prop},ZkX T t bx l=some vs->K vs->pres T t.get bx l K
 | [],vs,K,h,hK=>by cases h;exact hK
 | .tmp i::l,vs,K,h,hK=>by
  simp only [ZkX] at h;simp only [pres,ZP];split at h
  ·rename_i h1;cases h;exact ZcE h1 hK
  cases h
 | .cell a ty::l,vs,K,h,hK=>by
  simp only [ZkX] at h;simp only [pres];split at h
  ·rename_i h1 h2;cases h;refine Zi6 h1 ?_;rw [ZP];exact ZcE h2 hK
  cases h
def Zhv (n:Nat):Nat->List Box->Bool
 | 0,_=>true
 | _,[]=>true
 | m+1,.cells _ cs::l=>(match Zoa n cs with | true=>Zhv n m l | false=>false)
 | m+1,_::l=>Zhv n m l
def ZDJ (k0:Nat) (v:PV) (σ:St):Nat:=match bnd k0 v,Zhv k0 k0 σ.bx with
 | true,true=>k0
 | _,_=>σ.bx.length
def Zrx (keep:Nat) (v:PV) (σ:St):Option (PV×St):=match bnd keep v,JT (ZaD keep) [v] σ.tk 0 with
 | true,([v],tk,k)=>(match Zru keep keep σ.bx tk k with
  | some (bs,_,k)=>some (v,⟨bs,toks k,k⟩)
  | none=>none)
 | _,_=>none
def Zry {keep:Nat} {v v':PV} {σ σ':St} {K:PV->St->Prop} (h:Zrx keep v σ=some (v',σ')) (hK:K v' σ'):JV true keep true v σ K:=by
 unfold Zrx at h
 unfold JV
 split at h
 ·rename_i h1 h2
  simp only [h1];unfold V9
  simp only;refine Zek ?_;rw [h2];split at h
  ·rename_i hb;cases h;exact Zhu hb hK
  cases h
 cases h
def Zrz (p:PV->PEnd) (k0:Nat) (v:PV) (σ:St):Option (PEnd×St):=ZnZ (ZDJ k0 v σ) fun keep=>match Nat.ble k0 keep,Zrx keep v σ with
 | true,some (v,σ)=>some (p v,σ)
 | _,_=>none
def Zhw {p:PV->PEnd} {k0:Nat} {v:PV} {σ:St} {pe:PEnd} {σ':St} (h:Zrz p k0 v σ=some (pe,σ')):∃keep,k0<=keep/\∀{K:PEnd->St->Prop},K pe σ'->JV true keep true v σ fun v σ=>K (p v) σ:=by
 unfold Zrz at h
 simp only [JR] at h;split at h
 ·rename_i h1 h2;cases h;exact ⟨_,Tc h1,fun hK=>Zry h2 hK⟩
 cases h
def ZBQ (T:Tab) (fn:Func) (k0:Nat) (r:Option ZBO):Option (PEnd×St):=match r with
 | some (.normal,t,σ)=>(match ZkX T t σ.bx fn.results.toList with | some vs=>Zrz .ret k0 (Ua vs) σ | none=>none)
 | some (.ret,t,σ)=>(match ZkX T t σ.bx fn.results.toList with | some vs=>Zrz .ret k0 (Ua vs) σ | none=>none)
 | some (.panic v,_,σ)=>Zrz .panic k0 v σ
 | _=>none
end Go.PM
end

section
namespace Go.PM
def cxR (call:W0) (T:Tab) (N:Nat):Cx:=⟨T,fun g args σ K=>∃pe σ',call g args σ=some (pe,σ')/\K pe σ',ZmZ,Zdd,fun _=>Zul,fun _=>N+1,fun _=>false,fun _=>false,true,fun _=>none,fun _=>false,fun _=>false⟩
def ZBR {call:W0} {T:Tab} {N:Nat}:CxR (cxR call T N) call T N:=⟨rfl,fun h hK=>⟨_,_,h,hK⟩,rfl,rfl,rfl,rfl⟩
def ZyT (call:W0) (T:Tab) (N:Nat) (fn:Func):RFn:=fun args σ =>
 match argT 0 args (FT.full (Nat.div fn.ntmps 64)),Nat.ble args.length fn.ntmps with
 | some t,true=>ZBQ T fn σ.bx.length (Zjb call T N (YR fn) t σ)
 | _,_=>none
def ZBS (fn:Func):Bool:=match fn.body with
 | some c => (match ZD fn.ntmps c, fn.name == "runtime.NumGoroutine" with | true, false => true | _, _ => false)
 | none=>false
section
variable {G:GE} {T:Tab} {call:W0} {N:Nat}
def ZyU {fn : Func} (h : ZBS fn = true) : ∃ c, fn.body = some c /\ ZD fn.ntmps c = true /\ (fn.name == "runtime.NumGoroutine") = false := by
 unfold ZBS at h
 cases hb:fn.body with
 | none=>rw [hb] at h;cases h
 | some c =>
 rw [hb] at h;simp only at h;split at h
 ·rename_i h1 h2;exact ⟨c,rfl,h1,h2⟩
 cases h
def ZBT (call:W0):FuncId->List PV->St->(PEnd->St->Prop)->Prop:=fun g args σ K=>∃pe σ',call g args σ=some (pe,σ')/\K pe σ'
def Zt5 (hT:TabOK T G.P) (az:G.P.follows .mixedOrders=true) (hc:CallSem G (ZBT call)) {g:FuncId} {fn:Func} (hf:G.P.funcs[g]?=some fn) (hk:ZBS fn=true):PCalls G g (Zrw (ZyT call T N fn)):=by
 obtain ⟨c,hb,av,ak⟩:=ZyU hk;refine ⟨Zf hf ak hb,fun args σ K hs n e w vs hS ha=>?_⟩;obtain ⟨pe,σ',hr,hK⟩:=hs;unfold ZyT at hr
 split at hr
 ·rename_i t ht hlen
  have ht:=Zmj (ZFM _) ht;have go:∀keep,(∀e1 t1 σ1,Zjb call T N (YR fn) t σ=some (e1,t1,σ1)->Zoi true T fn keep true K e1 t1.get σ1)->σ.bx.length<=keep->CallsIn (fw none) n G.P g vs w (YD G e σ w K):=fun keep hQ gl=>by
   cases af:Zjb call T N (YR fn) t σ with
   | none=>rw [af] at hr;cases hr
   | some out =>
   obtain ⟨e1,t1,σ1⟩:=out;refine Zco (C:=cxR call T N) hT hc ⟨fun _ _ _ _ h=>h,fun _ _ _ _ _ h=>h⟩ (fun _ _ _ _ _ h=>h) az hf hb av (ag:=true) (own:=true) gl (Tc hlen) ?_ hS ha;unfold WFG
   rw [<- ht];exact ZyR ZBR _ af (hQ _ _ _ af)
  unfold ZBQ at hr
  split at hr
  ·exact mq102
  ·exact mq102
  ·rename_i v t1 σ1 af
   obtain ⟨keep,ee,bl⟩:=Zhw hr;exact go keep (fun e2 t2 σ2 h=>by rw [af] at h;cases h;exact bl hK) ee
  cases hr
 cases hr
end
def fnR (P:Program) (call:W0) (T:Tab) (N:Nat) (g:FuncId):RFn:=match P.funcs[g]? with
 | some fn=>(match ZBS fn with | true=>ZyT call T N fn | false=>fun _ _=>none)
 | none=>fun _ _=>none
def Zcg (P:Program) (T:Tab) (own:Nat->Bool) (N:Nat):Nat->W0
 | 0=>fun _ _ _=>none
 | n+1=>fun g args σ=>match own g with
  | true=>UV true (fnR P (Zcg P T own N n) T N g) args σ
  | false=>UV false (fnR P (Zcg P T own N n) T N g) (Xd args) σ
def ZrA {G:GE} {T:Tab} (hT:TabOK T G.P) (az:G.P.follows .mixedOrders=true) {own:Nat->Bool} {N:Nat} :
  ∀n,(∀g,(∃args σ x,fnR G.P (Zcg G.P T own N n) T N g args σ=some x)->PCalls G g (Zrw (fnR G.P (Zcg G.P T own N n) T N g)))/\CallSem G (ZBT (Zcg G.P T own N n)):=by
 have step:∀call:W0,CallSem G (ZBT call)->∀g,(∃args σ x,fnR G.P call T N g args σ=some x)->PCalls G g (Zrw (fnR G.P call T N g)):=by
  intro call hc g hx
  obtain ⟨a0,s0,x0,hx⟩:=hx;unfold fnR at hx |-
  cases hf:G.P.funcs[g]? with
  | none=>simp only [hf] at hx;cases hx
  | some fn =>
  simp only [hf] at hx;simp only
  cases hk:ZBS fn with
  | false=>simp only [hk] at hx;cases hx
  | true=>exact Zt5 hT az hc hf hk
 intro n
 induction n with
 | zero =>
  have h0:CallSem G (ZBT (Zcg G.P T own N 0)):=fun g args σ K h=>by
   obtain ⟨_,_,h,_⟩:=h
   cases h
  exact ⟨step _ h0,h0⟩
 | succ n ih =>
 have hs:CallSem G (ZBT (Zcg G.P T own N (n+1))):=fun g args σ K h=>by
  obtain ⟨pe,σ',h,hK⟩:=h;simp only [Zcg] at h;have live:∀own' args,UV own' (fnR G.P (Zcg G.P T own N n) T N g) args σ=some (pe,σ')->PCalls G g (Zrw (fnR G.P (Zcg G.P T own N n) T N g)):=fun own' args h=>by
   refine ih.1 g ?_;unfold UV at h
   simp only [Zee] at h;split at h
   ·split at h
    ·simp only [Zed,Zhm] at h;split at h
     ·rename_i hr;exact ⟨_,_,_,hr⟩
     cases h
    cases h
   cases h
  split at h
  ·exact XB (live _ _ h) (Zel h hK)
  have:=XB (live _ _ h) (Zel h hK);exact ⟨this.1,fun ro n e w vs hS ha=>this.2 ro n e w vs hS (ha.clean (Later.refl e σ w))⟩
 exact ⟨step _ hs,hs⟩
def Zn2 {G:GE} {T:Tab} (hT:TabOK T G.P) (az:G.P.follows .mixedOrders=true) {own:Nat->Bool} {N n:Nat} {g:FuncId} {args:List PV} {σ:St} {pe:PEnd} {σ':St}
  (h:fnR G.P (Zcg G.P T own N n) T N g args σ=some (pe,σ')):PCalls G g fun a s K=>a=args/\s=σ/\K pe σ' :=
 have hP:=(ZrA hT az n).1 g ⟨_,_,_,h⟩
 ⟨hP.enters,fun a s K hs=>by obtain ⟨rfl,rfl,hK⟩:=hs;exact hP.calls _ _ _ ⟨_,_,h,hK⟩⟩
end Go.PM
end
