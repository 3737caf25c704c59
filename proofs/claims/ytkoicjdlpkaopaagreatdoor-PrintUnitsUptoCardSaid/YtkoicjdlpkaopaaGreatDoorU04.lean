/- A part of the proof: plain logic, contracts and laws over the given program. -/
import Derived.RecoverIn
import Derived.Test.YtkoicjdlpkaopaaGreatDoorU03
set_option linter.unusedVariables false
set_option linter.unusedSimpArgs false
set_option linter.all false
set_option maxRecDepth 100000
set_option maxHeartbeats 16000000
section
namespace Go.PM
mutual
def ZwP:PV->List Nat->List Nat
 | .ptr b _,acc=>match Zh0 b acc with | true=>acc | false=>acc++[b]
 | .asl b _ _,acc=>match Zh0 b acc with | true=>acc | false=>acc++[b]
 | .func _ a c,acc=>ZgX c (ZgX a acc)
 | .iface _ v,acc=>ZwP v acc
 | .agg cs,acc=>ZgX cs acc
 | .tuple vs,acc=>ZgX vs acc
 | _,acc=>acc
def ZgX:List PV->List Nat->List Nat
 | [],acc=>acc
 | v::l,acc=>ZgX l (ZwP v acc)
end
def ZjA (bx:List Box):Nat->Nat->List Nat->List Nat
 | 0,_,acc=>acc
 | n+1,i,acc=>match acc[i]? with
  | none=>acc
  | some b=>match bx[b]? with
   | some (.cells _ cs)=>ZjA bx n (i+1) (ZgX cs acc)
   | _=>ZjA bx n (i+1) acc
def ZgY (b:Nat):List Nat->Nat->Option Nat
 | [],_=>none
 | x::l,i=>match Nat.beq x b with | true=>some i | false=>ZgY b l (i+1)
def ZjB:List Nat->Bool
 | []=>true
 | x::l=>match Zh0 x l with | true=>false | false=>ZjB l
mutual
def Zwy (bs:List Nat):PV->PV
 | .ptr b o=>match ZgY b bs 0 with | some i=>.ptr i o | none=>.undef
 | .asl b o n=>match ZgY b bs 0 with | some i=>.asl i o n | none=>.undef
 | .func f a c=>.func f (ZjC bs a) (ZjC bs c)
 | .iface t v=>.iface t (Zwy bs v)
 | .agg cs=>.agg (ZjC bs cs)
 | .tuple vs=>.tuple (ZjC bs vs)
 | .d x=>.d x
 | .undef=>.undef
 | .elem r o=>.elem r o
 | .sl t e rows=>.sl t e rows
 | .nils e=>.nils e
 | .raw v=>.raw v
def ZjC (bs:List Nat):List PV->List PV
 | []=>[]
 | v::l=>Zwy bs v::ZjC bs l
end
def ZsE (bs:List Nat) (bx:List Box):List Nat->(List Box->Prop)->Prop
 | [],K=>K []
 | b::l,K=>match bx[b]? with
  | some (.cells t cs)=>ZsE bs bx l fun r=>K (.cells t (ZjC bs cs)::r)
  | some (.iter s p)=>ZsE bs bx l fun r=>K (.iter s p::r)
  | some (.loop _ _ _)=>False
  | none=>False
mutual
def ZgZ (bs:List Nat) (m L nx:Nat):PV->PV
 | .ptr i o=>match bs[i]? with | some b=>.ptr b o | none=>.ptr (L+(i - m)) o
 | .asl i o n=>match bs[i]? with | some b=>.asl b o n | none=>.asl (L+(i - m)) o n
 | .sl t e rows=>.sl (nx+t) e rows
 | .func f a c=>.func f (Zcw bs m L nx a) (Zcw bs m L nx c)
 | .iface t v=>.iface t (ZgZ bs m L nx v)
 | .agg cs=>.agg (Zcw bs m L nx cs)
 | .tuple vs=>.tuple (Zcw bs m L nx vs)
 | .d x=>.d x
 | .undef=>.undef
 | .elem r o=>.elem r o
 | .nils e=>.nils e
 | .raw v=>.raw v
def Zcw (bs:List Nat) (m L nx:Nat):List PV->List PV
 | []=>[]
 | v::l=>ZgZ bs m L nx v::Zcw bs m L nx l
end
def Zdh (bs:List Nat) (m L nx:Nat):Box->Box
 | .cells t cs=>.cells t (Zcw bs m L nx cs)
 | .iter s p=>.iter s p
 | .loop st pd r=>.loop st pd r
def ZfF (bb:Box->Box):List Nat->List Box->List Box->(List Box->Prop)->Prop
 | [],xs,acc,K=>K (acc++xs.map bb)
 | b::l,x::xs,acc,K=>ZfF bb l xs (acc.set b (bb x)) K
 | _::_,[],_,_=>False
def ZtL (bs:List Nat) (m L nx:Nat):PEnd->PEnd
 | .ret v=>.ret (ZgZ bs m L nx v)
 | .panic v=>.panic (ZgZ bs m L nx v)
def ZaP (md:Nat) (sp:Zt) (args:List PV) (σ:St) (K:PEnd->St->Prop):Prop :=
 ZgF (ZjA σ.bx (σ.bx.length+1) 0 (ZgX args [])) fun bs=>match ZjB bs with
 | true=>ZsE bs σ.bx bs fun cb=>Zqr md bs.length (ZjC bs args) σ.tk 0 fun args' tk k=>Zh9 bs.length bs.length cb tk k fun cb' rest k =>
   sp args' ⟨cb',toks k,k⟩ fun pe σ3=>ZfF (Zdh bs bs.length σ.bx.length σ.nx) bs σ3.bx σ.bx fun bx =>
    K (ZtL bs bs.length σ.bx.length σ.nx pe) ⟨bx,rest++σ3.tk.map (σ.nx+·),σ.nx+σ3.nx⟩
 | false=>False
abbrev Zir (sp:Zt) (args:List PV) (σ:St) (K:PEnd->St->Prop):Prop:=ZaP 0 sp args σ K
theorem Zdi:∀{l:List Nat},ZjB l=true->∀(i j b:Nat),l[i]?=some b->l[j]?=some b->i=j
 | [],_,i,j,b,h,_=>by simp at h
 | x::l,h,i,j,b,hi,hj=>by
  simp only [ZjB] at h;split at h
  ·cases h
  rename_i hm
  have hx:∀k:Nat,l[k]?≠some x:=fun k hk=>by
   have:=(Y7 x l).2 (Sh hk);rw [this] at hm;cases hm
  cases i with
  | zero =>
   cases j with
   | zero=>rfl
   | succ j=>simp at hi hj;subst hi;exact absurd hj (hx j)
  | succ i =>
  cases j with
  | zero=>simp at hi hj;subst hj;exact absurd hi (hx i)
  | succ j=>simp at hi hj;rw [Zdi h i j b hi hj]
theorem ZbB {b:Nat}:∀{l:List Nat} {i j:Nat},ZgY b l i=some j->i<=j/\l[j - i]?=some b
 | [],i,j,h=>by simp [ZgY] at h
 | x::l,i,j,h=>by
  simp only [ZgY] at h;split at h
  ·rename_i hb;cases h;simp [Tn hb]
  obtain ⟨h1,h2⟩:=ZbB h;refine ⟨oM,?_⟩;rw [show j - i=(j - (i+1))+1 by omega];simpa using h2
theorem Ut {bs:List Nat}:∀{l:List PV} (i:Nat) (y:PV),(ZjC bs l)[i]?=some y->∃x,l[i]?=some x/\y=Zwy bs x
 | [],i,y,h=>by simp [ZjC] at h
 | x::l,i,y,h=>by
  cases i with
  | zero=>simp [ZjC] at h;exact ⟨x,sM,h.symm⟩
  | succ i=>simp only [ZjC,T6] at h;obtain ⟨z,h1,h2⟩:=Ut i y h;exact ⟨z,by simpa using h1,h2⟩
theorem XO {bs:List Nat}:∀{l:List PV},(ZjC bs l).length=l.length
 | []=>rfl
 | x::l=>by simp [ZjC,XO]
theorem V5 {bs:List Nat} {m L nx:Nat}:∀{l:List PV} (i:Nat) (y:PV),(Zcw bs m L nx l)[i]?=some y->∃x,l[i]?=some x/\y=ZgZ bs m L nx x
 | [],i,y,h=>by simp [Zcw] at h
 | x::l,i,y,h=>by
  cases i with
  | zero=>simp [Zcw] at h;exact ⟨x,sM,h.symm⟩
  | succ i=>simp only [Zcw,T6] at h;obtain ⟨z,h1,h2⟩:=V5 i y h;exact ⟨z,by simpa using h1,h2⟩
theorem XU {bs:List Nat} {m L nx:Nat}:∀{l:List PV},(Zcw bs m L nx l).length=l.length
 | []=>rfl
 | x::l=>by simp [Zcw,XU]
def ZsF (bs:List Nat):Box->Box
 | .cells t cs=>.cells t (ZjC bs cs)
 | .iter s p=>.iter s p
 | .loop st pd r=>.loop st pd r
theorem Zis {bs:List Nat} {bx:List Box}:∀{l:List Nat} {K:List Box->Prop},ZsE bs bx l K->∃cb,K cb/\cb.length=l.length/\∀(j b:Nat),l[j]?=some b->∃x,bx[b]?=some x/\cb[j]?=some (ZsF bs x)
 | [],K,h=>⟨[],h,rfl,fun j b hj=>by simp at hj⟩
 | b::l,K,h=>by
  simp only [ZsE] at h;split at h
  ·rename_i t cs hb
   exact m117
  ·rename_i s p hb
   exact m117
  ·exact h.elim
  exact h.elim
theorem ZjD {bb:Box->Box}:∀{bs:List Nat} {xs acc:List Box} {K:List Box->Prop},(∀(i j b:Nat),bs[i]?=some b->bs[j]?=some b->i=j)->(∀b,b∈bs->b<acc.length)->ZfF bb bs xs acc K ->
  ∃r,K r/\bs.length<=xs.length/\r.length=acc.length+(xs.length - bs.length)/\(∀(j b:Nat) (x:Box),bs[j]?=some b->xs[j]?=some x->r[b]?=some (bb x))/\(∀i,i<acc.length->i∉bs->r[i]?=acc[i]?) /\
   ∀i,acc.length<=i->r[i]?=xs[bs.length+(i - acc.length)]?.map bb
 | [],xs,acc,K,hn,hl,h=>⟨_,h,sM,sM,fun j b x hj=>by simp at hj,fun i hi _=>by rw [TM hi],fun i hi=>by rw [TX hi,TL];simp⟩
 | b::bs,x::xs,acc,K,hn,hl,h=>by
  simp only [ZfF] at h;have ah:b<acc.length:=hl b sM;obtain ⟨r,h1,h2,h3,h4,h5,h6⟩:=ZjD (bs:=bs) (fun i j c hi hj=>by have:=hn (i+1) (j+1) c (by simpa using hi) (by simpa using hj);omega) (fun c hc=>by rw [Sx];exact hl c (Tx _ hc)) h;have og:b∉bs:=fun hm=>by
   obtain ⟨k,hk,hke⟩:=Sd hm;have:=hn 0 (k+1) b sM (by simp [Ti hk,hke]);omega
  refine ⟨r,h1,sO,by rw [h3,Sx];simp,fun j c y hj hy=>?_,fun i hi zb=>?_,fun i hi=>?_⟩
  ·cases j with
   | zero =>
    simp only [List.getElem?_cons_zero,Option.some.injEq] at hj hy;subst hj;subst hy;rw [h5 b (by rw [Sx];exact ah) og,List.getElem?_set_self ah]
   | succ j=>exact h4 j c y (by simpa using hj) (by simpa using hy)
  ·have hib:b≠i:=fun e=>zb (e ▸ by simp)
   rw [h5 i (by rw [Sx];exact hi) (fun hm=>zb (Tx _ hm)),List.getElem?_set_ne hib]
  rw [h6 i (by rw [Sx];exact hi),Sx,Td,show bs.length+1+(i - acc.length)=bs.length+(i - acc.length)+1 by omega,T6]
 | b::bs,[],acc,K,hn,hl,h=>h.elim
section
variable {G:GE} {e:Env} {σ:St} {w:World}
def ZfG (e:Env) (σ:St) (bs rest:List Nat) (b off:Nat):Prop :=
 e.X b off\/(∃i,i<σ.bx.length/\i∉bs/\e.β i=b)\/∃t,t∈rest/\∃p,e.M t=some p/\p.1=b/\p.2<=off
def Env.handed (e:Env) (σ:St) (bs rest:List Nat):Env:=⟨fun j=>e.β (bs.getD j 0),e.M,ZfG e σ bs rest⟩
structure Hand (σ:St) (bs rest pass:List Nat) (cb:List Box):Prop where
 nodup:∀(i j b:Nat),bs[i]?=some b->bs[j]?=some b->i=j
 len:cb.length=bs.length
 get:∀(j b:Nat),bs[j]?=some b->∃x,σ.bx[b]?=some x/\cb[j]?=some (ZsF bs x)
 restIn:∀t,t∈rest->t∈σ.tk
 passIn:∀t,t∈pass->t∈σ.tk/\t∉rest
variable {bs rest pass:List Nat} {cb:List Box}
theorem Hand.lt (h:Hand σ bs rest pass cb) {b:Nat} (hb:b∈bs):b<σ.bx.length:=by
 obtain ⟨k,hk,he⟩:=Sd hb;obtain ⟨x,hx,_⟩:=h.get k b (by rw [Ti hk,he]);exact (Tj.1 hx).1
theorem Hand.at (h:Hand σ bs rest pass cb) {j:Nat} (hj:j<bs.length):∃b,bs[j]?=some b/\b∈bs/\(e.handed σ bs rest).β j=e.β b:=by
 have:=Ti hj;exact ⟨bs[j],this,TD hj,by simp [Env.handed,this]⟩
theorem Zm3 (hS:SRel G e σ w) (h:Hand σ bs rest pass cb) {b off:Nat} (ho:okc e σ b off):okc (e.handed σ bs rest) ⟨cb,pass,σ.nx⟩ b off:=by
 refine ⟨fun hX=>?_,fun j hj=>?_,fun t ht p hp uv=>ho.2.2 t (h.passIn t ht).1 p hp uv⟩
 ·rcases hX with hX | ⟨i,h1,_,h2⟩ | ⟨t,h1,p,h2,h3,h4⟩
  ·exact ho.1 hX
  ·exact ho.2.1 i h1 h2
  have:=ho.2.2 t (h.restIn t h1) p h2 h3;omega
 obtain ⟨b',h1,h2,h3⟩:=h.at (e:=e) (show j<bs.length by rw [<- h.len];exact hj);rw [h3];exact ho.2.1 b' (h.lt h2)
theorem VRel.ren (hS:SRel G e σ w) (h:Hand σ bs rest pass cb) {x:PV} {v:Value} (hv:VRel G e σ w x v):VRel G (e.handed σ bs rest) ⟨cb,pass,σ.nx⟩ w (Zwy bs x) v:=by
 have hd:∀{x:D} {v:Value},DRel (okc e σ) w x v->DRel (okc (e.handed σ bs rest) ⟨cb,pass,σ.nx⟩) w x v:=fun hd=>hd.mono fun b off u hu ho=>⟨Zm3 hS h ho,hu⟩
 induction hv with
 | d x v hx=>exact .d _ _ (hd hx)
 | undef v=>exact .undef _
 | ptr b off hb =>
  simp only [Zwy]
  cases hi:ZgY b bs 0 with
  | none=>exact .undef _
  | some i =>
  obtain ⟨_,h2⟩:=ZbB hi;simp only [Nat.sub_zero] at h2;have ah:=(Tj.1 h2).1;have:(e.handed σ bs rest).β i=e.β b:=by simp [Env.handed,h2]
  rw [<- this];exact .ptr i off (by show i<cb.length;rw [h.len];exact ah)
 | asl b off n hb =>
  simp only [Zwy]
  cases hi:ZgY b bs 0 with
  | none=>exact .undef _
  | some i =>
  obtain ⟨_,h2⟩:=ZbB hi;simp only [Nat.sub_zero] at h2;have ah:=(Tj.1 h2).1;have:(e.handed σ bs rest).β i=e.β b:=by simp [Env.handed,h2]
  rw [<- this];exact .asl i off n (by show i<cb.length;rw [h.len];exact ah)
 | elem r off b o u hc ho hu=>exact .elem r off b o u hc (fun j hj=>Zm3 hS h (ho j hj)) (fun j x hx=>hd (hu j x hx))
 | sl t el rows v hn ml ht=>exact .sl t el rows v hn (hd ml) fun hp=>ht (h.passIn t hp).1
 | nils el=>exact .nils el
 | func f a c va vc ha hc _ _ ih1 ih2 =>
  refine .func f _ _ va vc (by rw [XO];exact ha) (by rw [XO];exact hc) (fun i y u hy hu=>?_) (fun i y u hy hu=>?_)
  ·obtain ⟨x,hx,rfl⟩:=Ut i y hy;exact ih1 i x u hx hu
  obtain ⟨x,hx,rfl⟩:=Ut i y hy;exact ih2 i x u hx hu
 | iface t x v _ ih=>exact .iface t _ v ih
 | agg cs vs hs _ h1 ih=>exact .agg _ vs (by rw [XO];exact hs) (fun i y u hy hu=>by obtain ⟨x,hx,rfl⟩:=Ut i y hy;exact ih i x u hx hu) h1
 | tuple cs vs hs _ ih=>exact .tuple _ vs (by rw [XO];exact hs) (fun i y u hy hu=>by obtain ⟨x,hx,rfl⟩:=Ut i y hy;exact ih i x u hx hu)
 | raw v=>exact .raw _
theorem SRel.ren (hS:SRel G e σ w) (h:Hand σ bs rest pass cb):SRel G (e.handed σ bs rest) ⟨cb,pass,σ.nx⟩ w where
 inj:=fun i j hi hj he=>by
  obtain ⟨b,h1,h2,h3⟩:=h.at (e:=e) (show i<bs.length by rw [<- h.len];exact hi);obtain ⟨b',ji,cq,du⟩:=h.at (e:=e) (show j<bs.length by rw [<- h.len];exact hj);rw [h3,du] at he;have:=hS.inj b b' (h.lt h2) (h.lt cq) he;subst this;exact h.nodup i j b h1 ji
 box:=fun j y hy=>by
  have hj:=(Tj.1 hy).1;obtain ⟨b,h1,h2,h3⟩:=h.at (e:=e) (show j<bs.length by rw [<- h.len];exact hj);obtain ⟨x,hx,hcb⟩:=h.get j b h1;simp only at hy;rw [hcb] at hy
  cases hy
  have hB:=hS.box b x hx;rw [h3]
  cases x with
  | cells t cs =>
   obtain ⟨vs,g1,g2,g3⟩:=hB;refine ⟨vs,g1,by rw [XO];exact g2,fun i y u hy hu=>?_⟩;obtain ⟨z,hz,rfl⟩:=Ut i y hy;exact ⟨(g3 i z u hz hu).1.ren hS h,(g3 i z u hz hu).2⟩
  | iter s p=>exact hB
  | loop st pd r=>exact hB
 low:=fun j hj=>by
  obtain ⟨b,h1,h2,h3⟩:=h.at (e:=e) (show j<bs.length by rw [<- h.len];exact hj);rw [h3];exact hS.low b (h.lt h2)
 tkn:=fun t ht=>hS.tkn t (h.passIn t ht).1
 own:=fun t ht p hp=>by
  obtain ⟨h1,h2,h3⟩:=hS.own t (h.passIn t ht).1 p hp;refine ⟨h1,fun j hj=>?_,h3⟩;obtain ⟨b,g1,g2,g3⟩:=h.at (e:=e) (show j<bs.length by rw [<- h.len];exact hj);rw [g3];exact h2 b (h.lt g2)
 dis:=fun t t' ht ht'=>hS.dis t t' (h.passIn t ht).1 (h.passIn t' ht').1
 xlt:=fun b off hX=>by
  rcases hX with hX | ⟨i,h1,_,h2⟩ | ⟨t,h1,p,h2,h3,h4⟩
  ·exact hS.xlt b off hX
  ·rw [<- h2];exact hS.lt h1
  obtain ⟨_,_,cs,ty,fz,hh⟩:=hS.own t (h.restIn t h1) p h2;rw [<- h3];exact (Tq.1 hh).1
 xown:=fun t ht p hp off kn hX=>by
  rcases hX with hX | ⟨i,h1,_,h2⟩ | ⟨t',h1,p',h2,h3,h4⟩
  ·exact hS.xown t (h.passIn t ht).1 p hp off kn hX
  ·exact (hS.own t (h.passIn t ht).1 p hp).2.1 i h1 h2
  exact hS.dis t' t (h.restIn t' h1) (h.passIn t ht).1 (fun e=>(h.passIn t ht).2 (e ▸ h1)) p' p h2 hp h3
 glob:=hS.glob
 big:=hS.big
def Env.back (e:Env) (L m nx:Nat) (e3:Env):Env:=⟨fun i=>if i<L then e.β i else e3.β (m+(i - L)),fun t=>if t<nx then e.M t else e3.M (t - nx),e.X⟩
structure Handed (e:Env) (σ:St) (w:World) (bs rest:List Nat) (e2:Env) (σ2:St):Prop where
 nodup:∀(i j b:Nat),bs[i]?=some b->bs[j]?=some b->i=j
 lt:∀b,b∈bs->b<σ.bx.length
 len:σ2.bx.length=bs.length
 beta:∀(j b:Nat),bs[j]?=some b->e2.β j=e.β b
 X:e2.X=ZfG e σ bs rest
 okc:∀b off,okc e σ b off->okc e2 σ2 b off
 tok:∀t,t∈σ2.tk->∀p,e2.M t=some p->∃t0,t0∈σ.tk/\t0∉rest/\e.M t0=some p
 restIn:∀t,t∈rest->t∈σ.tk
variable {e2 e3:Env} {σ2 σ3:St} {w':World} {bx:List Box}
structure Backed (σ:St) (bs:List Nat) (σ3:St) (bx:List Box):Prop where
 le:bs.length<=σ3.bx.length
 len:bx.length=σ.bx.length+(σ3.bx.length - bs.length)
 some:∀(j b:Nat) (x:Box),bs[j]?=some b->σ3.bx[j]?=some x->bx[b]?=some (Zdh bs bs.length σ.bx.length σ.nx x)
 old:∀i,i<σ.bx.length->i∉bs->bx[i]?=σ.bx[i]?
 new:∀i,σ.bx.length<=i->bx[i]?=σ3.bx[bs.length+(i - σ.bx.length)]?.map (Zdh bs bs.length σ.bx.length σ.nx)
abbrev JR (σ:St) (rest:List Nat) (σ3:St) (bx:List Box):St:=⟨bx,rest++σ3.tk.map (σ.nx+·),σ.nx+σ3.nx⟩
theorem Y4 {t:Nat} (hS:SRel G e σ w) (h:Handed e σ w bs rest e2 σ2) (ht:t∈(JR σ rest σ3 bx).tk):(t∈rest/\t<σ.nx)\/∃t',t'∈σ3.tk/\t=σ.nx+t':=by
 rcases TZ.1 ht with h1 | h1
 ·exact .inl ⟨h1,hS.tkn t (h.restIn t h1)⟩
 obtain ⟨t',h2,h3⟩:=SC.1 h1;exact .inr ⟨t',h2,h3.symm⟩
theorem Xt {L m nx t:Nat} (h:t<nx):(e.back L m nx e3).M t=e.M t:=by simp [Env.back,h]
theorem back_M_new {L m nx t:Nat}:(e.back L m nx e3).M (nx+t)=e3.M t:=by
 have:¬nx+t<nx:=oM;simp [Env.back,this]
theorem Yw {L m nx i:Nat} (h:i<L):(e.back L m nx e3).β i=e.β i:=by simp [Env.back,h]
theorem W1 {L m nx i:Nat} (h:L<=i):(e.back L m nx e3).β i=e3.β (m+(i - L)):=by
 have:¬i<L:=oM;simp [Env.back,this]
theorem Zit (h:Handed e σ w bs rest e2 σ2) (hL:Later e2 σ2 w e3 σ3 w') {i:Nat} (hi:i<σ.bx.length):(∃j,j<σ2.bx.length/\bs[j]?=some i/\e3.β j=e.β i)\/(i∉bs/\∀off,e3.X (e.β i) off):=by
 by_cases hm:i∈bs
 ·obtain ⟨j,hj,he⟩:=Sd hm;have hb:bs[j]?=some i:=by rw [Ti hj,he]
  have gh:j<σ2.bx.length:=by rw [h.len];exact hj
  exact .inl ⟨j,gh,hb,(hL.beta j gh).trans (h.beta j i hb)⟩
 exact .inr ⟨hm,fun off=>by rw [hL.X,h.X];exact .inr (.inl ⟨i,hi,hm,rfl⟩)⟩
theorem ZfH (hS:SRel G e σ w) (h:Handed e σ w bs rest e2 σ2) (hL:Later e2 σ2 w e3 σ3 w') (hb:Backed σ bs σ3 bx) {b off:Nat} (ho:okc e3 σ3 b off) :
  okc (e.back σ.bx.length bs.length σ.nx e3) (JR σ rest σ3 bx) b off:=by
 have hX:¬ZfG e σ bs rest b off:=by rw [<- h.X,<- hL.X];exact ho.1
 refine ⟨fun hx=>hX (.inl hx),fun i hi=>?_,fun t ht p hp uv=>?_⟩
 ·by_cases ah:i<σ.bx.length
  ·rw [Yw ah];rcases Zit h hL ah with ⟨j,hj,_,he⟩ | ⟨_,hx⟩
   ·rw [<- he];exact ho.2.1 j (TH hj hL.len)
   intro e;rw [<- e] at ho;exact ho.1 (hx off)
  rw [W1 oM];have ab:=hb.len;have ak:=hb.le;simp only at hi;exact ho.2.1 _ oM
 rcases Y4 hS h ht with ⟨h1,h2⟩ | ⟨t',h1,rfl⟩
 ·rw [Xt h2] at hp;have:¬p.2<=off:=fun ak=>hX (.inr (.inr ⟨t,h1,p,hp,uv,ak⟩))
  omega
 rw [back_M_new] at hp;exact ho.2.2 t' h1 p hp uv
theorem VRel.back (hS:SRel G e σ w) (h:Handed e σ w bs rest e2 σ2) (hL:Later e2 σ2 w e3 σ3 w') (hb:Backed σ bs σ3 bx) {x:PV} {v:Value} (hv:VRel G e3 σ3 w' x v) :
  VRel G (e.back σ.bx.length bs.length σ.nx e3) (JR σ rest σ3 bx) w' (ZgZ bs bs.length σ.bx.length σ.nx x) v:=by
 have hd:∀{x:D} {v:Value},DRel (okc e3 σ3) w' x v->DRel (okc (e.back σ.bx.length bs.length σ.nx e3) (JR σ rest σ3 bx)) w' x v:=fun hd=>hd.mono fun b off u hu ho=>⟨ZfH hS h hL hb ho,hu⟩
 induction hv with
 | d x v hx=>exact .d _ _ (hd hx)
 | undef v=>exact .undef _
 | ptr i off hi =>
  simp only [ZgZ];have ab:=hb.len;have ak:=hb.le
  cases jc:bs[i]? with
  | some b =>
   have hj:=(Tj.1 jc).1;have ah:=h.lt b (Sh jc);have:e3.β i=(e.back σ.bx.length bs.length σ.nx e3).β b:=by
    rw [Yw ah];exact (hL.beta i (by rw [h.len];exact hj)).trans (h.beta i b jc)
   rw [this];exact .ptr b off (by show b<bx.length;omega)
  | none =>
  have ko:bs.length<=i:=by simpa using jc
  have:e3.β i=(e.back σ.bx.length bs.length σ.nx e3).β (σ.bx.length+(i - bs.length)):=by
   rw [W1 oM];congr 1;omega
  rw [this];exact .ptr _ off (by show _<bx.length;omega)
 | asl i off n hi =>
  simp only [ZgZ];have ab:=hb.len;have ak:=hb.le
  cases jc:bs[i]? with
  | some b =>
   have hj:=(Tj.1 jc).1;have ah:=h.lt b (Sh jc);have:e3.β i=(e.back σ.bx.length bs.length σ.nx e3).β b:=by
    rw [Yw ah];exact (hL.beta i (by rw [h.len];exact hj)).trans (h.beta i b jc)
   rw [this];exact .asl b off n (by show b<bx.length;omega)
  | none =>
  have ko:bs.length<=i:=by simpa using jc
  have:e3.β i=(e.back σ.bx.length bs.length σ.nx e3).β (σ.bx.length+(i - bs.length)):=by
   rw [W1 oM];congr 1;omega
  rw [this];exact .asl _ off n (by show _<bx.length;omega)
 | elem r off b o u hc ho hu=>exact .elem r off b o u hc (fun j hj=>ZfH hS h hL hb (ho j hj)) (fun j x hx=>hd (hu j x hx))
 | sl t el rows v hn ml ht =>
  refine .sl _ el rows v (by show σ.nx+t<σ.nx+σ3.nx;omega) (hd ml) fun hp=>?_
  rcases Y4 hS h hp with ⟨_,h2⟩ | ⟨t',h1,h2⟩
  ·omega
  obtain rfl:t=t':=by omega
  rcases ht h1 with ⟨g1,g2,g3⟩ | ⟨sz,g1,g2,g3,b,off,cap,cs,ty,fz,g4,g5,g6,g7,g8,g9,g10⟩
  ·exact .inl ⟨g1,g2,back_M_new.trans g3⟩
  exact .inr ⟨sz,g1,g2,g3,b,off,cap,cs,ty,fz,g4,g5,g6,g7,g8,g9,back_M_new.trans g10⟩
 | nils el=>exact .nils el
 | func f a c va vc ha hc _ _ ih1 ih2 =>
  refine .func f _ _ va vc (by rw [XU];exact ha) (by rw [XU];exact hc) (fun i y u hy hu=>?_) (fun i y u hy hu=>?_)
  ·obtain ⟨x,hx,rfl⟩:=V5 i y hy;exact ih1 i x u hx hu
  obtain ⟨x,hx,rfl⟩:=V5 i y hy;exact ih2 i x u hx hu
 | iface t x v _ ih=>exact .iface t _ v ih
 | agg cs vs hs _ h1 ih=>exact .agg _ vs (by rw [XU];exact hs) (fun i y u hy hu=>by obtain ⟨x,hx,rfl⟩:=V5 i y hy;exact ih i x u hx hu) h1
 | tuple cs vs hs _ ih=>exact .tuple _ vs (by rw [XU];exact hs) (fun i y u hy hu=>by obtain ⟨x,hx,rfl⟩:=V5 i y hy;exact ih i x u hx hu)
 | raw v=>exact .raw _
theorem Zch (hS:SRel G e σ w) (h:Handed e σ w bs rest e2 σ2) (cg:SRel G e3 σ3 w') (hL:Later e2 σ2 w e3 σ3 w') (hb:Backed σ bs σ3 bx):Stepped e σ w (e.back σ.bx.length bs.length σ.nx e3) (JR σ rest σ3 bx) w' where
 len:=by show σ.bx.length<=bx.length;rw [hb.len];omega
 beta:=fun i hi=>Yw hi
 X:=rfl
 pres:=fun b off u hu ho=>by
  obtain ⟨h1,h2⟩:=hL.pres b off u hu (h.okc b off ho);exact ⟨ZfH hS h hL hb h1,h2⟩
 blocks:=fun b ah hn ht=>hL.blocks b ah (fun j hj=>by
   have ny:j<bs.length:=by rw [<- h.len];exact hj
   have vo:=Ti ny;rw [h.beta j _ vo];exact hn _ (h.lt _ (TD ny))) (fun t htm p hp=>by
   obtain ⟨t0,h1,_,h2⟩:=h.tok t htm p hp;exact ht t0 h1 p h2)
 size:=hL.size
 os:=hL.os
 tape:=hL.tape
 output:=hL.output
 fresh:=fun i h1 h2=>by
  rw [W1 h1];have ab:=hb.len;have ak:=hb.le;have:i<bx.length:=h2;exact hL.fresh _ (by rw [h.len];omega) oM
 ftok:=fun t ht p hp=>by
  rcases Y4 hS h ht with ⟨h1,h2⟩ | ⟨t',h1,rfl⟩
  ·rw [Xt h2] at hp;exact .inr ⟨t,h.restIn t h1,p,hp,rfl⟩
  rw [back_M_new] at hp;rcases hL.ftok t' h1 p hp with h2 | ⟨t0,h3,p0,h4,h5⟩
  ·exact .inl h2
  obtain ⟨t1,g1,_,g2⟩:=h.tok t0 h3 p0 h4;exact .inr ⟨t1,g1,p0,g2,h5⟩
 nx:=Nat.le_add_right _ _
 toks:=fun t ah ht=>by
  rcases Y4 hS h ht with ⟨h1,_⟩ | ⟨t',h1,rfl⟩
  ·exact ⟨h.restIn t h1,Xt ah⟩
  omega
 own:=fun t ah ht p hp ac7=>by
  rcases Y4 hS h ht with ⟨h1,_⟩ | ⟨t',h1,rfl⟩
  ·obtain ⟨_,og,_⟩:=hS.own t (h.restIn t h1) p hp;refine hL.blocks p.1 ac7 (fun j hj=>?_) (fun t2 i5 p2 iv=>?_)
   ·have ny:j<bs.length:=by rw [<- h.len];exact hj
    have vo:=Ti ny;rw [h.beta j _ vo];exact og _ (h.lt _ (TD ny))
   obtain ⟨t0,g1,g2,g3⟩:=h.tok t2 i5 p2 iv;exact hS.dis t0 t g1 (h.restIn t h1) (fun e=>g2 (e ▸ h1)) p2 p g3 hp
  omega
theorem SRel.back (hS:SRel G e σ w) (h:Handed e σ w bs rest e2 σ2) (cg:SRel G e3 σ3 w') (hL:Later e2 σ2 w e3 σ3 w') (hb:Backed σ bs σ3 bx):SRel G (e.back σ.bx.length bs.length σ.nx e3) (JR σ rest σ3 bx) w':=by
 have hst:=Zch hS h cg hL hb;have ab:=hb.len;have ak:=hb.le;have nr:(JR σ rest σ3 bx).bx.length=bx.length:=rfl;have lu:∀i,σ.bx.length<=i->i<bx.length->(e.back σ.bx.length bs.length σ.nx e3).β i=e3.β (bs.length+(i - σ.bx.length))/\bs.length+(i - σ.bx.length)<σ3.bx.length/\w.heap.size<=e3.β (bs.length+(i - σ.bx.length)):=fun i h1 h2=>by
  have:=hst.fresh i h1 h2;rw [W1 h1] at this;exact ⟨W1 h1,oM,this⟩
 have ax:∀t,t∈rest->∀p,e.M t=some p->p.1<w.heap.size:=fun t ht p hp=>by
  obtain ⟨_,_,cs,ty,fz,hh⟩:=hS.own t (h.restIn t ht) p hp;exact (Tq.1 hh).1
 constructor
 ·intro i j hi hj he
  by_cases h1:i<σ.bx.length <;> by_cases h2:j<σ.bx.length
  ·rw [Yw h1,Yw h2] at he;exact hS.inj i j h1 h2 he
  ·obtain ⟨g1,g2,g3⟩:=lu j oM hj;rw [Yw h1,g1] at he;have:=hS.lt h1;omega
  ·obtain ⟨g1,g2,g3⟩:=lu i oM hi;rw [Yw h2,g1] at he;have:=hS.lt h2;omega
  obtain ⟨g1,g2,g3⟩:=lu i oM hi;obtain ⟨k1,k2,k3⟩:=lu j oM hj;rw [g1,k1] at he;have:=cg.inj _ _ g2 k2 he;omega
 ·intro i x hx
  have hi:=(Tj.1 hx).1;simp only at hx hi;have hBk:∀(y:Box) (b:Nat),BRel G e3 σ3 w' y b->BRel G (e.back σ.bx.length bs.length σ.nx e3) (JR σ rest σ3 bx) w' (Zdh bs bs.length σ.bx.length σ.nx y) b:=fun y b hB=>by
   cases y with
   | cells t cs =>
    obtain ⟨vs,g1,g2,g3⟩:=hB;refine ⟨vs,g1,by rw [XU];exact g2,fun k z u hz hu=>?_⟩;obtain ⟨z',hz',rfl⟩:=V5 k z hz;exact ⟨(g3 k z' u hz' hu).1.back hS h hL hb,(g3 k z' u hz' hu).2⟩
   | iter s p=>exact hB
   | loop st pd r=>exact hB
  by_cases h1:i<σ.bx.length
  ·rw [Yw h1];rcases Zit h hL h1 with ⟨j,hj,vo,he⟩ | ⟨zb,hX⟩
   ·have qo:j<σ3.bx.length:=TH hj hL.len;have:=hb.some j i _ vo (Ti qo);rw [this] at hx
    cases hx
    rw [<- he];exact hBk _ _ (cg.box j _ (Ti qo))
   rw [hb.old i h1 zb] at hx;refine (hS.box i x hx).step hst (hL.blocks _ (hS.lt h1) (fun j hj=>?_) (fun t ht p hp=>?_))
   ·have ny:j<bs.length:=by rw [<- h.len];exact hj
    have vo:=Ti ny;rw [h.beta j _ vo];intro he
    have:=hS.inj _ _ (h.lt _ (TD ny)) h1 he;exact zb (this ▸ TD ny)
   obtain ⟨t0,g1,_,g2⟩:=h.tok t ht p hp;exact fun he=>(hS.own t0 g1 p g2).2.1 i h1 he.symm
  obtain ⟨g1,g2,g3⟩:=lu i oM hi;rw [hb.new i oM,Ti g2] at hx
  cases hx
  rw [g1];exact hBk _ _ (cg.box _ _ (Ti g2))
 ·intro i hi
  by_cases h1:i<σ.bx.length
  ·rw [Yw h1];exact hS.low i h1
  obtain ⟨g1,g2,g3⟩:=lu i oM hi;rw [g1];exact cg.low _ g2
 ·intro t ht
  rcases Y4 hS h ht with ⟨_,h2⟩ | ⟨t',h1,rfl⟩
  ·show t<σ.nx+σ3.nx;omega
  have:=cg.tkn t' h1;show σ.nx+t'<σ.nx+σ3.nx;omega
 ·intro t ht p hp
  rcases Y4 hS h ht with ⟨h1,h2⟩ | ⟨t',h1,rfl⟩
  ·rw [Xt h2] at hp;obtain ⟨g1,g2,cs,ty,fz,g3⟩:=hS.own t (h.restIn t h1) p hp;refine ⟨g1,fun i hi=>?_,cs,ty,fz,(hst.own t h2 ht p hp (ax t h1 p hp)).trans g3⟩
   by_cases h3:i<σ.bx.length
   ·rw [Yw h3];exact g2 i h3
   obtain ⟨k1,k2,k3⟩:=lu i oM hi;rw [k1];have:=ax t h1 p hp;omega
  rw [back_M_new] at hp;obtain ⟨g1,g2,g3⟩:=cg.own t' h1 p hp;refine ⟨g1,fun i hi=>?_,g3⟩
  by_cases h3:i<σ.bx.length
  ·rw [Yw h3];rcases Zit h hL h3 with ⟨j,hj,_,he⟩ | ⟨_,hX⟩
   ·rw [<- he];exact g2 j (TH hj hL.len)
   intro he
   exact cg.xown t' h1 p hp p.2 (Tr _) (he ▸ hX p.2)
  obtain ⟨k1,k2,k3⟩:=lu i oM hi;rw [k1];exact g2 _ k2
 ·intro t t' ht ht' an p p' hp i7
  have mixed:∀t t',t∈rest->t<σ.nx->t'∈σ3.tk->∀p p',e.M t=some p->e3.M t'=some p'->p.1≠p'.1:=fun t t' h1 h2 h3 p p' hp i7 he=>by
   refine cg.xown t' h3 p' i7 (max p.2 p'.2) (Nat.le_max_right _ _) ?_;rw [hL.X,h.X];exact .inr (.inr ⟨t,h1,p,hp,he,Nat.le_max_left _ _⟩)
  rcases Y4 hS h ht with ⟨h1,h2⟩ | ⟨s,h1,rfl⟩ <;> rcases Y4 hS h ht' with ⟨k1,k2⟩ | ⟨s',k1,rfl⟩
  ·rw [Xt h2] at hp;rw [Xt k2] at i7;exact hS.dis t t' (h.restIn t h1) (h.restIn t' k1) an p p' hp i7
  ·rw [Xt h2] at hp;rw [back_M_new] at i7;exact mixed t s' h1 h2 k1 p p' hp i7
  ·rw [back_M_new] at hp;rw [Xt k2] at i7;exact fun he=>mixed t' s k1 k2 h1 p' p i7 hp he.symm
  rw [back_M_new] at hp i7;exact cg.dis s s' h1 k1 (fun e=>an (by rw [e])) p p' hp i7
 ·intro b off hX
  exact TH (hS.xlt b off hX) hL.size
 ·intro t ht p hp off kn hX
  rcases Y4 hS h ht with ⟨h1,h2⟩ | ⟨t',h1,rfl⟩
  ·rw [Xt h2] at hp;exact hS.xown t (h.restIn t h1) p hp off kn hX
  rw [back_M_new] at hp;refine cg.xown t' h1 p hp off kn ?_;rw [hL.X,h.X];exact .inl hX
 ·exact cg.glob
 exact cg.big
theorem JS {md:Nat} {g:FuncId} {sp:Zt} (hP:PCalls G g sp) {args:List PV} {K:PEnd->St->Prop} (hv:ZaP md sp args σ K) :
  VX G.P g/\∀(ro:Option Nat) (n:Nat) (e:Env) (w:World) (vs:Array Value),SRel G e σ w->ArgsRel G e σ w args vs->CallsIn (fw ro) n G.P g vs w (ZwL G e σ w K):=by
 unfold ZaP at hv
 simp only [ZaG] at hv;generalize ZjA σ.bx (σ.bx.length+1) 0 (ZgX args [])=bs at hv;split at hv
 ·rename_i ju
  obtain ⟨cb,hv,gw,hcg⟩:=Zis hv;obtain ⟨args',tk1,as1,hv,fd,nz,sr,hav⟩:=Zqw (as:=[]) (NInv.start σ.tk σ.tk fun _ h=>h) hv;obtain ⟨cb',rest,as2,hv,dt,jk,cu,ag1,l7⟩:=Zaa nz hv;have mn:=Zdi ju;have su:∀b,b∈bs->b<σ.bx.length:=fun b hb=>by
   obtain ⟨k,hk,he⟩:=Sd hb;obtain ⟨x,hx,_⟩:=hcg k b (by rw [Ti hk,he]);exact (Tj.1 hx).1
  have backOf:∀(pe:PEnd) (σ3:St),(ZfF (Zdh bs bs.length σ.bx.length σ.nx) bs σ3.bx σ.bx fun bx=>K (ZtL bs bs.length σ.bx.length σ.nx pe) (JR σ rest σ3 bx))->∃bx,Backed σ bs σ3 bx/\K (ZtL bs bs.length σ.bx.length σ.nx pe) (JR σ rest σ3 bx):=fun pe σ3 hb=>by
   obtain ⟨bx,h1,h2,h3,h4,h5,h6⟩:=ZjD mn su hb;exact ⟨bx,⟨h2,h3,h4,h5,h6⟩,h1⟩
  refine ⟨hP.enters,fun ro n e w vs hS aq=>?_⟩;have sv:∀t,t∈as2.filterMap id↔some t∈as2:=fun t=>by simp
  have ph:∀t,t∈as2.filterMap id->t∈σ.tk/\t∉rest:=fun t ht=>by
   obtain ⟨i,hi,he⟩:=Sd ((sv t).1 ht);exact jk.mem i t (by rw [Ti hi,he])
  have hH:Hand σ bs rest (as2.filterMap id) cb:=⟨mn,gw,hcg,jk.sub,ph⟩
  have cx:=hS.ren hH;have hIP:NInv (as2.filterMap id) [] as2:=⟨(fun t ht=>by cases ht),(fun i t hi=>⟨(sv t).2 (Sh hi),sM⟩),jk.inj⟩
  have ik:bs.length<=(St.mk cb (as2.filterMap id) σ.nx).bx.length:=Nat.le_of_eq gw.symm;have ce:=ZfA cx ik hIP cu l7;have hD:=Zc7 (e:=e.handed σ bs rest) ik hIP cu;have zd:ArgsRel G ((e.handed σ bs rest).re as2) ⟨cb',toks as2.length,as2.length⟩ w args' vs:=by
   refine ⟨by rw [aq.1,sr,XO],fun i x u hx hu=>?_⟩;have hi:=(Tj.1 hx).1;rw [sr] at hi;have hy:=Ti hi;obtain ⟨z,hz,hze⟩:=Ut i _ hy;have h1:=(aq.2 i z u hz hu).ren hS hH;rw [<- hze] at h1;exact ((hav i _ x hy hx).ext dt).rel ik hIP cu h1
  have hHd:Handed e σ w bs rest ((e.handed σ bs rest).re as2) ⟨cb',toks as2.length,as2.length⟩:={
   nodup:=mn
   lt:=su
   len:=cu
   beta:=fun j b hj=>by simp [Env.re,Env.handed,hj]
   X:=rfl
   okc:=fun b off ho=>hD.okc b off (Zm3 hS hH ho)
   tok:=fun t ht p hp=>by
    obtain ⟨t0,h1,h2⟩:=hD.tok t ht p hp;exact ⟨t0,(ph t0 h1).1,(ph t0 h1).2,h2⟩
   restIn:=jk.sub }
  have lm:=hP.calls _ _ _ hv n _ w vs ce zd;have y7:∀R,CallsIn (fw none) n G.P g vs w R->CallsIn (fw ro) n G.P g vs w R:=fun R h=>by
   cases ro with
   | none=>exact h
   | some l=>exact h.inRound l
  refine (y7 _ lm).mono fun en w' hA=>?_
  obtain ⟨pe,σ3,e3,hk,hE,cg,hL⟩:=hA;obtain ⟨bx,hB,hK⟩:=backOf pe σ3 hk;refine ⟨_,_,e.back σ.bx.length bs.length σ.nx e3,hK,?_,hS.back hHd cg hL hB,Zch hS hHd cg hL hB⟩
  cases pe with
  | ret x=>obtain ⟨v,rfl,hr⟩:=hE;exact ⟨v,rfl,hr.back hS hHd hL hB⟩
  | panic x=>obtain ⟨v,rfl,hr⟩:=hE;exact ⟨v,rfl,hr.back hS hHd hL hB⟩
 exact hv.elim
def Yb (sp:Zt):Prop:=∀args σ (K K':PEnd->St->Prop),(∀e σ,K e σ->K' e σ)->sp args σ K->sp args σ K'
theorem Zdj {bs:List Nat} {bx:List Box}:∀{l:List Nat} {K K':List Box->Prop},(∀r,K r->K' r)->ZsE bs bx l K->ZsE bs bx l K'
 | [],K,K',hK,h=>hK _ h
 | b::l,K,K',hK,h=>by
  simp only [ZsE] at h |-;split at h
  ·exact Zdj (fun r hr=>hK _ hr) h
  ·exact Zdj (fun r hr=>hK _ hr) h
  ·exact h.elim
  exact h.elim
theorem Zm4 {n:Nat} {tk:List Nat} {k:Nat} {v:PV} {K K':PV->List Nat->Nat->Prop} (hK:∀v t k,K v t k->K' v t k) (h:Zty n tk k v K):Zty n tk k v K':=by
 have gen:∀v,(match bnd n v with | true=>J1 (clean v) fun v=>K v tk k | false=>K .undef tk k:Prop)->(match bnd n v with | true=>J1 (clean v) fun v=>K' v tk k | false=>K' .undef tk k:Prop):=fun v h=>by
  split at h
  ·rw [YC] at h |-;exact hK _ _ _ h
  exact hK _ _ _ h
 cases v with
 | sl t el rows =>
  simp only [Zty] at h |-;split at h <;> exact hK _ _ _ h
 | nils el=>exact hK _ _ _ h
 | d x=>exact gen (.d x) h
 | undef=>exact gen .undef h
 | ptr b o=>exact gen (.ptr b o) h
 | asl b o n=>exact gen (.asl b o n) h
 | elem r o=>exact gen (.elem r o) h
 | func f a c=>exact gen (.func f a c) h
 | iface t v=>exact gen (.iface t v) h
 | agg cs=>exact gen (.agg cs) h
 | tuple cs=>exact gen (.tuple cs) h
 | raw v=>exact gen (.raw v) h
theorem ZaQ {n:Nat}:∀{vs:List PV} {tk:List Nat} {k:Nat} {K K':List PV->List Nat->Nat->Prop},(∀v t k,K v t k->K' v t k)->Ztz n vs tk k K->Ztz n vs tk k K'
 | [],_,_,_,_,hK,h=>hK _ _ _ h
 | v::vs,_,_,_,_,hK,h=>Zm4 (fun v t k h=>ZaQ (fun vs t k h=>hK _ _ _ h) h) h
theorem ZeS {n:Nat} {tk:List Nat} {k:Nat} {v:PV} {K K':PV->List Nat->Nat->Prop} (hK:∀v t k,K v t k->K' v t k) (h:Zfr n tk k v K):Zfr n tk k v K':=by
 have gen:∀v,(match bnd n v with | true=>J1 (cleanN v) fun v=>K v tk k | false=>K .undef tk k:Prop)->(match bnd n v with | true=>J1 (cleanN v) fun v=>K' v tk k | false=>K' .undef tk k:Prop):=fun v h=>by
  split at h
  ·rw [YC] at h |-;exact hK _ _ _ h
  exact hK _ _ _ h
 cases v with
 | sl t el rows =>
  simp only [Zfr] at h |-;split at h <;> exact hK _ _ _ h
 | nils el=>exact hK _ _ _ h
 | d x=>exact gen (.d x) h
 | undef=>exact gen .undef h
 | ptr b o=>exact gen (.ptr b o) h
 | asl b o n=>exact gen (.asl b o n) h
 | elem r o=>exact gen (.elem r o) h
 | func f a c=>exact gen (.func f a c) h
 | iface t v=>exact gen (.iface t v) h
 | agg cs=>exact gen (.agg cs) h
 | tuple cs=>exact gen (.tuple cs) h
 | raw v=>exact gen (.raw v) h
theorem ZeT {n:Nat}:∀{vs:List PV} {tk:List Nat} {k:Nat} {K K':List PV->List Nat->Nat->Prop},(∀v t k,K v t k->K' v t k)->Zk8 n vs tk k K->Zk8 n vs tk k K'
 | [],_,_,_,_,hK,h=>hK _ _ _ h
 | v::vs,_,_,_,_,hK,h=>ZeS (fun v t k h=>ZeT (fun vs t k h=>hK _ _ _ h) h) h
theorem V6 {n:Nat}:∀{m:Nat} {bs:List Box} {tk:List Nat} {k:Nat} {K K':List Box->List Nat->Nat->Prop},(∀v t k,K v t k->K' v t k)->Zh9 n m bs tk k K->Zh9 n m bs tk k K'
 | 0,_,_,_,_,_,hK,h=>by simp only [Zh9] at h |-;exact hK _ _ _ h
 | _+1,[],_,_,_,_,_,h=>h.elim
 | _+1,.cells t cs::bs,_,_,_,_,hK,h=>by
  simp only [Zh9] at h |-;exact ZaQ (fun v t k h=>V6 (fun _ _ _ h=>hK _ _ _ h) h) h
 | _+1,.iter s p::bs,_,_,K,K',hK,h=>by
  simp only [Zh9] at h |-;exact V6 (K:=fun l tk k=>K (.iter s p::l) tk k) (K':=fun l tk k=>K' (.iter s p::l) tk k) (fun _ _ _ h=>hK _ _ _ h) h
 | _+1,.loop st pd r::bs,_,_,K,K',hK,h=>by
  simp only [Zh9] at h |-;exact V6 (K:=fun l tk k=>K (.loop st pd r::l) tk k) (K':=fun l tk k=>K' (.loop st pd r::l) tk k) (fun _ _ _ h=>hK _ _ _ h) h
theorem ZeU {bb:Box->Box}:∀{bs:List Nat} {xs acc:List Box} {K K':List Box->Prop},(∀r,K r->K' r)->ZfF bb bs xs acc K->ZfF bb bs xs acc K'
 | [],_,_,_,_,hK,h=>by simp only [ZfF] at h |-;exact hK _ h
 | _::_,[],_,_,_,_,h=>h.elim
 | b::bs,x::xs,_,_,_,hK,h=>by simp only [ZfF] at h |-;exact ZeU hK h
theorem Zg0 {sp:Zt} (zf:Yb sp):Yb (Zir sp):=fun args σ K K' hK h=>by
 unfold Zir ZaP Zqr at h |-
 simp only [ZaG] at h |-;split at h
 ·exact Zdj (fun cb h=>ZaQ (fun a t k h=>V6 (fun cb' r k h=>zf _ _ _ _ (fun pe σ3 h=>ZeU (fun bx h=>hK _ _ h) h) h) h) h) h
 exact h.elim
end
end Go.PM
end

section
namespace Go.PM
def Cx.up (C:Cx):Cx:={ C with call:=fun g args σ K=>∃K',C.call g args σ K'/\∀e σ,K' e σ->K e σ }
theorem Zlu {n:Nat} {tk:List Nat} {k:Nat} {v:PV} {K K':PV->List Nat->Nat->Prop} (hK:∀v t k,K v t k->K' v t k) (h:Zk9 n tk k v K):Zk9 n tk k v K':=by
 cases v with
 | agg cs=>exact ZeT (fun v t k h=>hK _ _ _ h) h
 | _=>simp only [Zk9] at h |-;exact ZeS hK h
theorem ZeV {n:Nat}:∀{vs:List PV} {tk:List Nat} {k:Nat} {K K':List PV->List Nat->Nat->Prop},(∀v t k,K v t k->K' v t k)->Zla n vs tk k K->Zla n vs tk k K'
 | [],_,_,_,_,hK,h=>hK _ _ _ h
 | v::vs,_,_,_,_,hK,h=>Zlu (fun v t k h=>ZeV (fun vs t k h=>hK _ _ _ h) h) h
theorem Zlv {n:Nat} {vs:List PV} {σ:St} {K K':List PV->St->Prop} (hK:∀v s,K v s->K' v s) (h:Zmr n vs σ K):Zmr n vs σ K' :=
 ZaQ (fun _ _ _ h=>V6 (fun _ _ _ h=>hK _ _ h) h) h
theorem Zdk {ag:Bool} {n:Nat} {vs:List PV} {σ:St} {K K':List PV->St->Prop} (hK:∀v s,K v s->K' v s) (h:JK ag n vs σ K):JK ag n vs σ K':=by
 cases ag with
 | true=>exact ZeV (fun _ _ _ h=>V6 (fun _ _ _ h=>hK _ _ h) h) h
 | false=>exact Zlv hK h
section
variable {C:Cx} {all:List Oper} {ms:List Nat} {Q Q':PQ}
abbrev Zeg (C:Cx):Prop:=∀v args σ (K:PEnd->St->Prop),¬C.raw v args σ K
theorem ZqD (hr:Zeg C) (hQ:∀e f σ,Q e f σ->Q' e f σ) {o:Oper} {f:Frame} {σ:St} {K K':Frame->St->Prop} (hK:∀f σ,K f σ->K' f σ) (h:W4 C o f σ Q K):W4 C.up o f σ Q' K':=by
 unfold W4 at h |-
 simp only [Y3,YC] at h |-;split at h
 ·exact ZaH (fun v hv=>by rw [Yr] at hv |-;exact hK _ _ hv) h
 split at h
 ·unfold ZeD at h |-
  split at h
  ·refine ⟨_,h,fun e σ he=>?_⟩
   cases e with
   | ret v=>simp only at he |-;rw [Yr] at he |-;exact hK _ _ he
   | panic v=>exact hQ _ _ _ he
  ·exact (hr _ _ _ _ h).elim
  exact h
 ·split at h
  ·exact hQ _ _ _ h
  exact h.elim
 exact ZcB (fun v σ hv=>by rw [Yr] at hv |-;exact hK _ _ hv) h
theorem ZcD (hr:Zeg C) (hQ:∀e f σ,Q e f σ->Q' e f σ) {o:Oper} {f:Frame} {σ:St} {K K':Frame->St->Prop} (hK:∀f σ,K f σ->K' f σ) (h:UL C all Q o f σ K):UL C.up all Q' o f σ K':=by
 rw [XG] at h |-;split at h
 ·exact ZqD hr hQ hK h
 ·exact hK _ _ h
 exact h
theorem Zm5 {T:Tab} {o:Op} {ρ:Operand->PV} {σ:St} {K K':PV->St->Prop} (hK:∀v σ,K v σ->K' v σ) (h:Zww T o ρ σ K):Zww T o ρ σ K':=by
 unfold Zww at h |-
 (repeat' split at h) <;> first
  | exact h.elim
  | exact hK _ _ h
  | exact ⟨h.choose,h.choose_spec.1,h.choose_spec.2.1,hK _ _ h.choose_spec.2.2⟩
  | (rename_i hk;exfalso;simp_all;done)
theorem Ziu (hr:Zeg C) (hQ:∀e f σ,Q e f σ->Q' e f σ):∀{l:List Oper} {f:Frame} {σ:St},Zqj C all Q l f σ->Zqj C.up all Q' l f σ
 | [],f,σ,h=>hQ _ _ _ h
 | o::rest,f,σ,h=>by
  simp only [Zqj,Zjr] at h |-;show match Zjq C o with | true=>_ | false=>_
  cases hb:Zjq C o with
  | true =>
   rw [hb] at h;refine Zm5 (fun v σ hv=>?_) h;simp only [Y3] at hv |-;rw [Yr] at hv |-;exact Ziu hr hQ hv
  | false =>
  rw [hb] at h;exact ZcD hr hQ (fun f σ h=>Ziu hr hQ h) h
theorem ZfI (hr:Zeg C) (hQ:∀e f σ,Q e f σ->Q' e f σ) {i:Nat} {o:Oper} {ctx:List Ld} {f:Frame} {σ:St} {K K':List Ld->Frame->St->Prop} (hK:∀c f σ,K c f σ->K' c f σ) (h:W5 C all ms Q i o ctx f σ K):W5 C.up all ms Q' i o ctx f σ K':=by
 unfold W5 at h |-
 refine ZcD hr hQ (fun f' σ' hk=>?_) h;exact m139
theorem ZfJ (hr:Zeg C) (hQ:∀e f σ,Q e f σ->Q' e f σ):∀{l:List (Nat×Oper)} {ctx:List Ld} {f:Frame} {σ:St},Vp C all ms Q l ctx f σ->Vp C.up all ms Q' l ctx f σ
 | [],_,f,σ,h=>hQ _ _ _ h
 | (i,o)::rest,ctx,f,σ,h=>ZfI hr hQ (fun _ _ _ h=>ZfJ hr hQ h) h
theorem ZfK (hr:Zeg C) (hQ:∀e f σ,Q e f σ->Q' e f σ):∀(n:Nat) (l:List (Nat×Oper)) (c:List Ld) (f:Frame) (σ:St),W6 C all ms Q n l c f σ->W6 C.up all ms Q' n l c f σ
 | 0,[],_,_,_,h=>hQ _ _ _ h
 | _+1,[],_,_,_,h=>hQ _ _ _ h
 | 0,_::_,_,_,_,h=>h.elim
 | n+1,x::l,c,f,σ,h=>by
  unfold W6 at h |-
  split at h
  ·exact ZfI hr hQ (fun c f σ h=>ZfK hr hQ n _ c f σ h) h
  rw [conjE_iff] at h |-;exact fun p hp hw=>ZfI hr hQ (fun c f σ h=>ZfK hr hQ n _ c f σ h) (h p hp hw)
theorem Zlw {T:Tab} {h:Hole} {f:Frame} {σ:St} {K K':Frame->St->Prop} (hK:∀f σ,K f σ->K' f σ) (g:Zlb T h f σ K):Zlb T h f σ K':=by
 unfold Zlb at g |-
 simp only [Y3,Yr] at g |-
 (repeat' split at g) <;> first
  | exact g.elim
  | exact ⟨g.1,g.2.1,hK _ _ g.2.2⟩
  | exact ⟨g.1,g.2.1,g.2.2.1,hK _ _ g.2.2.2⟩
theorem ZqE (hr:Zeg C) (hQ:∀e f σ,Q e f σ->Q' e f σ) {h:Hole}:∀e f σ,Zmu C all h Q e f σ->Zmu C.up all h Q' e f σ:=fun e f σ g=>by
 cases e with
 | normal=>exact Zlw (fun f σ g=>ZcD hr hQ (fun f σ g=>ZcD hr hQ (fun f σ g=>hQ _ _ _ g) g) g) g
 | _=>exact hQ _ _ _ g
theorem Zg1 {S S':PQ->Frame->St->Prop} (hS:∀Q Q' f σ,(∀e f σ,Q e f σ->Q' e f σ)->S Q f σ->S' Q' f σ):∀(n:Nat) {Q Q':PQ} {f:Frame} {σ:St},(∀e f σ,Q e f σ->Q' e f σ)->ZeF S Q n f σ->ZeF S' Q' n f σ
 | 0,_,_,_,_,_,h=>h
 | n+1,Q,Q',f,σ,hQ,h=>hS _ _ _ _ (fun e f σ h=>by cases e with | normal=>exact Zg1 hS n hQ h | _=>exact hQ _ _ _ h) h
theorem Ziv {t:Bool} {X Y X' Y':Prop} (h1:X->X') (h2:Y->Y') (h:CondP t X Y):CondP t X' Y':=by cases t;exact h2 h;exact h1 h
theorem ZAX (hr:Zeg C) (hi:∀g a r σ K,¬C.iter g a r σ K):∀(c:Code) {Q Q':PQ} {f:Frame} {σ:St},(∀e f σ,Q e f σ->Q' e f σ)->W C c Q f σ->W C.up c Q' f σ:=by
 have xe:Zeg C.calm:=fun _ _ _ _ h=>h
 intro c
 induction c with
 | region id ops draw =>
  intro Q Q' f σ hQ h
  cases draw with
  | false=>simp only [W] at h |-;exact Ziu hr hQ h
  | true =>
  simp only [W] at h |-
  cases hh:ZeE ops.toList with
  | none =>
   simp only [hh] at h |-
   cases hc:ZgH (VJ ops.toList []) none (ZQ 0 ops.toList) with
   | true=>simp only [hc] at h |-;exact ZfJ (C:=C.calm) xe hQ h
   | false=>simp only [hc] at h |-;exact ZfK (C:=C.calm) xe hQ _ _ _ _ _ h
  | some x=>simp only [hh] at h |-;exact ZfJ (C:=C.calm) xe (ZqE (C:=C.calm) xe hQ) h
 | seq a b iha ihb =>
  intro Q Q' f σ hQ h
  simp only [W] at h |-;rw [show C.up.cut=C.cut from rfl]
  cases hc:C.cut (Xf b) with
  | none =>
   rw [hc] at h;exact iha (fun e f σ h=>by cases e with | normal=>exact ihb hQ h | _=>exact hQ _ _ _ h) h
  | some x =>
  rw [hc] at h;exact ⟨iha (fun e f σ h=>by cases e with | normal=>exact h | _=>exact hQ _ _ _ h) h.1,fun vs σ1 hI=>ihb hQ (h.2 vs σ1 hI)⟩
 | cond c x y ihx ihy =>
  intro Q Q' f σ hQ h
  simp only [W] at h |-;split at h
  ·exact Ziv (fun h=>ihx hQ h) (fun h=>ihy hQ h) h
  exact h
 | block id b ih =>
  intro Q Q' f σ hQ h
  simp only [W] at h |-;refine ih (fun e f σ h=>?_) h
  cases e with
  | exit i =>
   simp only at h |-;split at h <;> exact hQ _ _ _ h
  | _=>exact hQ _ _ _ h
 | scope b ih =>
  intro Q Q' f σ hQ h
  simp only [W] at h |-;refine ih (fun e f σ h=>?_) h
  cases e with
  | goto l=>exact h
  | _=>exact hQ _ _ _ h
 | loop b ih =>
  intro Q Q' f σ hQ h
  simp only [W] at h |-;rw [show C.up.unr=C.unr from rfl,show C.up.loop=C.loop from rfl,show C.up.tie=C.tie from rfl,show C.up.ag=C.ag from rfl]
  cases hu:C.unr (Xf b) with
  | succ n =>
   rw [hu] at h;exact Zg1 (S:=fun Q f σ=>W C b Q f σ) (S':=fun Q f σ=>W C.up b Q f σ) (fun Q Q' f σ hQ h=>ih hQ h) (n+1) hQ h
  | zero =>
  rw [hu] at h;simp only at h |-;split at h
  ·split at h
   ·exact m151
   exact m151
  exact h
 | rangeFunc g ps asg body iha ihb =>
  intro Q Q' f σ hQ h
  simp only [W] at h |-;split at h
  ·exact (hi _ _ _ _ _ (h 0 default)).elim
  exact h
 | _ =>
 intro Q Q' f σ hQ h
 first
  | exact hQ _ _ _ h
  | exact h
end
theorem CallSem.up {G:GE} {cc:FuncId->List PV->St->(PEnd->St->Prop)->Prop} (h:CallSem G cc):CallSem G (fun g args σ K=>∃K',cc g args σ K'/\∀e σ,K' e σ->K e σ):=fun g args σ K ⟨K',h1,h2⟩ =>
 ⟨(h g args σ K' h1).1,fun ro n e w vs hS ha=>((h g args σ K' h1).2 ro n e w vs hS ha).mono fun en w' ⟨pe,σ',e',hk,r⟩=>⟨pe,σ',e',h2 _ _ hk,r⟩⟩
theorem ZjE {G:GE} {C:Cx} (hT:TabOK C.T G.P) (dm:CallSem G C.call) (hr:Zeg C) (hi:∀g a r σ K,¬C.iter g a r σ K) (ca:G.P.follows .mixedOrders=true) {g:FuncId} {fn:Func} {c:Code} (hf:G.P.funcs[g]?=some fn) (hb:fn.body=some c) (aw:ZR fn.ntmps c=true)
  {ag:Bool} {keep:Nat} {own:Bool} {args:List PV} {σ:St} {R:PEnd->St->Prop} (hk:σ.bx.length<=keep) (ab:args.length<=fn.ntmps) (h:WFG ag C fn keep own args σ R) {n:Nat} {e:Env} {w:World} {vs:Array Value} (hS:SRel G e σ w) (aq:ArgsRel G e σ w args vs) :
  CallsIn (fw none) n G.P g vs w (X3 G e σ w R) :=
 Zcg ca (C:=C.up) ⟨hT,dm.up,fun v a s K h=>(hr v a s K h).elim,fun g a r s K h=>(hi g a r s K h).elim,.inl rfl⟩
  ⟨fun _ h1 h2=>hT.one h1 h2,fun _ _ _ K K' hK ⟨K0,h1,h2⟩=>⟨K0,h1,fun e σ h=>hK _ _ (h2 _ _ h)⟩,fun _ _ _ _ h=>h.elim,rfl⟩ hf hb aw hk ab (ag:=ag) (ZAX hr hi _ (fun _ _ _ h=>h) h) hS aq
end Go.PM
end

section
namespace Go.PM
abbrev Tbl:=List (Nat×Zt)
def ZBL:Tbl->Nat->List PV->St->(PEnd->St->Prop)->Prop
 | [],_,_,_,_=>False
 | (g,sp)::l,n,args,σ,K=>match Nat.beq g n with
  | true=>Zir sp args σ K
  | false=>ZBL l n args σ K
def TblOK (G:GE):Tbl->Prop
 | []=>True
 | (g,sp)::l=>PCalls G g sp/\TblOK G l
def TblM:Tbl->Prop
 | []=>True
 | (_,sp)::l=>Yb sp/\TblM l
theorem TblM.mono:∀{l:Tbl},TblM l->∀n args σ (K K':PEnd->St->Prop),(∀e σ,K e σ->K' e σ)->ZBL l n args σ K->ZBL l n args σ K'
 | [],_=>fun _ _ _ _ _ _ h=>h.elim
 | (g,sp)::l,⟨h1,h2⟩=>fun n args σ K K' hK h=>by
  simp only [ZBL] at h |-;split at h
  ·exact Zg0 h1 _ _ _ _ hK h
  exact TblM.mono h2 n args σ K K' hK h
def ZBO (md:Nat->Nat):Tbl->Nat->List PV->St->(PEnd->St->Prop)->Prop
 | [],_,_,_,_=>False
 | (g,sp)::l,n,args,σ,K=>match Nat.beq g n with
  | true=>ZaP (md n) sp args σ K
  | false=>ZBO md l n args σ K
theorem TblOK.semM {G:GE} {md:Nat->Nat}:∀{l:Tbl},TblOK G l->CallSem G (ZBO md l)
 | [],_=>fun _ _ _ _ h=>h.elim
 | (g,sp)::l,⟨h1,h2⟩=>fun n args σ K h=>by
  simp only [ZBO] at h;split at h
  ·rename_i hb
   cases Tn hb
   exact JS h1 h
  exact TblOK.semM h2 n args σ K h
theorem TblOK.sem {G:GE}:∀{l:Tbl},TblOK G l->CallSem G (ZBL l)
 | [],_=>fun _ _ _ _ h=>h.elim
 | (g,sp)::l,⟨h1,h2⟩=>fun n args σ K h=>by
  simp only [ZBL] at h;split at h
  ·rename_i hb
   cases Tn hb
   exact JS h1 h
  exact TblOK.sem h2 n args σ K h
def ZqF:Value->List PV->St->(PEnd->St->Prop)->Prop:=fun _ _ _ _=>False
abbrev Raw:=Value->List PV->St->(PEnd->St->Prop)->Prop
abbrev Zqk:=FuncId->List PV->Raw->St->(PEnd->St->Prop)->Prop
def Zg2:Zqk:=fun _ _ _ _ _=>False
def ZwQ:LoopAnn:=⟨[],[],fun _ _=>False,fun _ _=>0⟩
def Za:List (Nat×LoopAnn)->Nat->LoopAnn
 | [],_=>ZwQ
 | (k,a)::l,n=>match Nat.beq k n with | true=>a | false=>Za l n
def ctx (T:Tab) (tbl:Tbl) (loops:Nat->LoopAnn):Cx:=⟨T,ZBL tbl,ZqF,Zg2,loops,fun _=>0,fun _=>false,fun _=>false,true,fun _=>none,fun _=>false⟩
def ZAy (T:Tab) (tbl:Tbl) (it:Zqk) (loops:Nat->LoopAnn):Cx:=⟨T,ZBL tbl,ZqF,it,loops,fun _=>0,fun _=>false,fun _=>false,true,fun _=>none,fun _=>false⟩
def Zwz (T:Tab) (tbl:Tbl) (md:Nat->Nat) (loops:Nat->LoopAnn) (unr:Nat->Nat) (ties bsl:Nat->Bool) (cut:Nat->Option (List Nat×(List PV->St->Prop))) (ag:Nat->Bool):Cx:=⟨T,ZBO md tbl,ZqF,Zg2,loops,unr,ties,bsl,true,cut,ag⟩
def Zzd (nl:Nat->Bool) (k n:Nat):Nat:=match nl n with | true=>k | false=>0
abbrev Zze (T:Tab) (tbl:Tbl) (loops:Nat->LoopAnn) (unr:Nat->Nat) (ties:Nat->Bool):Cx:=Zwz T tbl (fun _=>0) loops unr ties (fun _=>false) (fun _=>none) (fun _=>false)
def ZwA (T:Tab) (tbl:Tbl) (loops:Nat->LoopAnn) (unr:Nat->Nat) (ties:Nat->Bool):Cx:=⟨T,ZBL tbl,ZqF,Zg2,loops,unr,ties,fun _=>false,true,fun _=>none,fun _=>false⟩
def ZwR:List (Nat×List Nat×(List PV->St->Prop))->Nat->Option (List Nat×(List PV->St->Prop))
 | [],_=>none
 | (k,a)::l,n=>match Nat.beq k n with | true=>some a | false=>ZwR l n
def Ys:List Nat->Nat->Bool
 | [],_=>false
 | k::l,n=>match Nat.beq k n with | true=>true | false=>Ys l n
def Wv:List (Nat×Nat)->Nat->Nat
 | [],_=>0
 | (k,a)::l,n=>match Nat.beq k n with | true=>a | false=>Wv l n
def Zm6 (T:Tab) (tbl:Tbl) (it:Zqk) (gid:FuncId) (fn:Func) (loops:Nat->LoopAnn):Zqk:=fun g args raw σ K=>match Nat.beq gid g with
 | true=>Nat.ble args.length fn.ntmps=true/\W ⟨T,ZBL tbl,raw,it,loops,fun _=>0,fun _=>false,fun _=>false,true,fun _=>none,fun _=>false⟩ (Wm fn) (fun e f σ'=>match e with
   | .normal | .ret=>pres T f σ'.bx fn.results.toList fun vs=>K (.ret (J2 vs)) σ'
   | .panic v=>K (.panic v) σ'
   | _=>False) (ZeH 0 args) σ
 | false=>False
theorem Jn {G:GE}:UU G Zg2:=fun _ _ _ _ _ h=>h.elim
theorem Zlx {G : GE} {T : Tab} {tbl : Tbl} (hT : TabOK T G.P) (ca : G.P.follows .mixedOrders = true) (ht : TblOK G tbl) (hm : TblM tbl) {it : Zqk} (ns : UU G it) {gid : FuncId} {fn : Func} {c : Code} (hf : G.P.funcs[gid]? = some fn) (hb : fn.body = some c) (be : (fn.name == "runtime.NumGoroutine") = false)
  (aw:ZR fn.ntmps c=true) (loops:Nat->LoopAnn):UU G (Zm6 T tbl it gid fn loops):=fun g args raw σ K h=>by
 unfold Zm6 at h
 split at h
 ·rename_i hbq
  cases Tn hbq
  refine ⟨Zn hf be hb,fun n e w vs hS aq uw=>?_⟩;have lr:Wm fn=c:=by simp [Wm,hb]
  rw [lr] at h;have presM:∀{T:Tab} {f:Frame} {bx:List Box} {l:List ResultVar} {K K':List PV->Prop},(∀vs,K vs->K' vs)->pres T f bx l K->pres T f bx l K':=by
   intro T f bx l
   induction l with
   | nil=>exact fun hK h=>hK _ h
   | cons r l ih =>
   intro K K' hK h
   exact m99
  refine Zdg ca (C:=⟨T,ZBL tbl,raw,it,loops,fun _=>0,fun _=>false,fun _=>false,true,fun _=>none,fun _=>false⟩) ⟨hT,ht.sem,uw,ns,.inl rfl⟩ ⟨fun _ h1 h2=>hT.one h1 h2,hm.mono,fun _ _ _ _ h=>h.elim,rfl⟩ hf hb aw (Ta h.1) h.2 (fun pe f' σ' hq=>?_) hS aq
  cases pe with
  | normal=>exact presM (fun vs hK e' w' v h1 h2 h3=>⟨.ret (J2 vs),σ',e',hK,⟨v,rfl,h2⟩,h1,h3⟩) hq
  | ret=>exact presM (fun vs hK e' w' v h1 h2 h3=>⟨.ret (J2 vs),σ',e',hK,⟨v,rfl,h2⟩,h1,h3⟩) hq
  | panic p=>exact fun e' w' v h1 h2 h3=>⟨.panic p,_,e',hq,⟨v,rfl,h2⟩,h1,h3⟩
  | exit id=>exact hq.elim
  | goto l=>exact hq.elim
 exact h.elim
theorem ZtM {G : GE} {T : Tab} {tbl : Tbl} (hT : TabOK T G.P) (ca : G.P.follows .mixedOrders = true) (ht : TblOK G tbl) (hm : TblM tbl) {it : Zqk} (ns : UU G it) {g : FuncId} {fn : Func} {c : Code} (hf : G.P.funcs[g]? = some fn) (hb : fn.body = some c) (be : (fn.name == "runtime.NumGoroutine") = false)
  (aw:ZR fn.ntmps c=true) {sp:Zt}
  (h:∀args σ K,sp args σ K->∃loops keep own,σ.bx.length<=keep/\args.length<=fn.ntmps/\WF (ZAy T tbl it loops) fn keep own args σ K):PCalls G g sp where
 enters:=Zn hf be hb
 calls:=fun args σ K hs n e w vs hS ha=>by
  obtain ⟨loops,keep,own,h1,h2,h3⟩:=h args σ K hs;exact Zcg ca (C:=ZAy T tbl it loops) ⟨hT,ht.sem,fun _ _ _ _ h=>h.elim,ns,.inl rfl⟩ ⟨fun _ h1 h2=>hT.one h1 h2,hm.mono,fun _ _ _ _ h=>h.elim,rfl⟩ hf hb aw h1 h2 h3 hS ha
theorem ZfL {G : GE} {T : Tab} {tbl : Tbl} (hT : TabOK T G.P) (ca : G.P.follows .mixedOrders = true) (ht : TblOK G tbl) {g : FuncId} {fn : Func} {c : Code} (hf : G.P.funcs[g]? = some fn) (hb : fn.body = some c) (be : (fn.name == "runtime.NumGoroutine") = false)
  (aw:ZR fn.ntmps c=true) {sp:Zt}
  (h:∀args σ K,sp args σ K->∃md loops unr ties bsl cut ag al keep own,σ.bx.length<=keep/\args.length<=fn.ntmps/\WFG al (Zwz T tbl md loops unr ties bsl cut ag) fn keep own args σ K):PCalls G g sp where
 enters:=Zn hf be hb
 calls:=fun args σ K hs n e w vs hS ha=>by
  obtain ⟨md,loops,unr,ties,bsl,cut,ag,al,keep,own,h1,h2,h3⟩:=h args σ K hs;exact ZjE (C:=Zwz T tbl md loops unr ties bsl cut ag) hT ht.semM (fun _ _ _ _ h=>h) (fun _ _ _ _ _ h=>h) ca hf hb aw h1 h2 h3 hS ha
theorem Zdl {G : GE} {T : Tab} {tbl : Tbl} (hT : TabOK T G.P) (ca : G.P.follows .mixedOrders = true) (ht : TblOK G tbl) {g : FuncId} {fn : Func} {c : Code} (hf : G.P.funcs[g]? = some fn) (hb : fn.body = some c) (be : (fn.name == "runtime.NumGoroutine") = false)
  (aw:ZR fn.ntmps c=true) {sp:Zt}
  (h:∀args σ K,sp args σ K->∃loops unr ties bsl nl keep own,σ.bx.length<=keep/\args.length<=fn.ntmps/\WF (Zwz T tbl (Zzd nl 1) loops unr ties bsl (fun _=>none) (fun _=>false)) fn keep own args σ K):PCalls G g sp :=
 ZfL hT ca ht hf hb be aw fun args σ K hs=>let ⟨_,_,_,_,_,_,_,h⟩:=h args σ K hs;⟨_,_,_,_,_,_,_,_,_,_,h⟩
theorem ZtN {G : GE} {T : Tab} {tbl : Tbl} (hT : TabOK T G.P) (ca : G.P.follows .mixedOrders = true) (ht : TblOK G tbl) {g : FuncId} {fn : Func} {c : Code} (hf : G.P.funcs[g]? = some fn) (hb : fn.body = some c) (be : (fn.name == "runtime.NumGoroutine") = false)
  (aw:ZR fn.ntmps c=true) {sp:Zt}
  (h:∀args σ K,sp args σ K->∃loops unr ties bsl nl cut keep own,σ.bx.length<=keep/\args.length<=fn.ntmps/\WF (Zwz T tbl (Zzd nl 1) loops unr ties bsl cut (fun _=>false)) fn keep own args σ K):PCalls G g sp :=
 ZfL hT ca ht hf hb be aw fun args σ K hs=>let ⟨_,_,_,_,_,_,_,_,h⟩:=h args σ K hs;⟨_,_,_,_,_,_,_,_,_,_,h⟩
theorem Ziw {G : GE} {T : Tab} {tbl : Tbl} (hT : TabOK T G.P) (ca : G.P.follows .mixedOrders = true) (ht : TblOK G tbl) {g : FuncId} {fn : Func} {c : Code} (hf : G.P.funcs[g]? = some fn) (hb : fn.body = some c) (be : (fn.name == "runtime.NumGoroutine") = false)
  (aw:ZR fn.ntmps c=true) {sp:Zt}
  (h:∀args σ K,sp args σ K->∃loops unr ties bsl nl ag keep own,σ.bx.length<=keep/\args.length<=fn.ntmps/\WFG true (Zwz T tbl (Zzd nl 2) loops unr ties bsl (fun _=>none) ag) fn keep own args σ K):PCalls G g sp :=
 ZfL hT ca ht hf hb be aw fun args σ K hs=>let ⟨_,_,_,_,_,_,_,_,h⟩:=h args σ K hs;⟨_,_,_,_,_,_,_,_,_,_,h⟩
theorem Vb {G : GE} {T : Tab} {tbl : Tbl} (hT : TabOK T G.P) (ca : G.P.follows .mixedOrders = true) (ht : TblOK G tbl) {g : FuncId} {fn : Func} {c : Code} (hf : G.P.funcs[g]? = some fn) (hb : fn.body = some c) (be : (fn.name == "runtime.NumGoroutine") = false)
  (aw:ZR fn.ntmps c=true) {sp:Zt}
  (h:∀args σ K,sp args σ K->∃loops unr ties keep own,σ.bx.length<=keep/\args.length<=fn.ntmps/\WF (Zze T tbl loops unr ties) fn keep own args σ K):PCalls G g sp :=
 ZfL hT ca ht hf hb be aw fun args σ K hs=>let ⟨_,_,_,_,_,h⟩:=h args σ K hs;⟨_,_,_,_,_,_,_,_,_,_,h⟩
theorem Zd {G : GE} {T : Tab} {tbl : Tbl} (hT : TabOK T G.P) (ca : G.P.follows .mixedOrders = true) (ht : TblOK G tbl) {g : FuncId} {fn : Func} {c : Code} (hf : G.P.funcs[g]? = some fn) (hb : fn.body = some c) (be : (fn.name == "runtime.NumGoroutine") = false)
  (aw:ZR fn.ntmps c=true) {sp:Zt}
  (h:∀args σ K,sp args σ K->∃loops keep own,σ.bx.length<=keep/\args.length<=fn.ntmps/\WF (ctx T tbl loops) fn keep own args σ K):PCalls G g sp where
 enters:=Zn hf be hb
 calls:=fun args σ K hs n e w vs hS ha=>by
  obtain ⟨loops,keep,own,h1,h2,h3⟩:=h args σ K hs;exact ZjE (C:=ctx T tbl loops) hT ht.sem (fun _ _ _ _ h=>h) (fun _ _ _ _ _ h=>h) ca hf hb aw h1 h2 h3 hS ha
theorem CondP.tt {X Y:Prop} (h:X):CondP true X Y:=h
theorem ZBC {p:Prop} [Decidable p] {X Y:Prop} (h1:p->X) (h2:¬p->Y):CondP (decide p) X Y:=by
 by_cases h:p
 ·simp only [h,decide_true];exact h1 h
 simp only [h,decide_false];exact h2 h
theorem ZBE {p:Prop} [Decidable p] {X Y:Prop} (h1:¬p->X) (h2:p->Y):CondP (!decide p) X Y:=by
 by_cases h:p
 ·simp only [h,decide_true];exact h2 h
 simp only [h,decide_false];exact h1 h
theorem InR.i64 {n:Int} (h1:-9223372036854775808<=n) (h2:n<=9223372036854775807):InR .i64 n:=by
 unfold InR IntKind.wrap
 exact m178
theorem InR.i32 {n:Int} (h1:-2147483648<=n) (h2:n<=2147483647):InR .i32 n:=by
 unfold InR IntKind.wrap
 simp only [show IntKind.i32.bits=32 from rfl,show IntKind.i32.signed=true from rfl,Tt];split <;> simp at * <;> omega
theorem InR.u8 {n:Int} (h1:0<=n) (h2:n<=255):InR .u8 n:=by
 unfold InR IntKind.wrap
 simp only [show IntKind.u8.bits=8 from rfl,show IntKind.u8.signed=false from rfl,TU];simp;omega
theorem InR.u32 {n:Int} (h1:0<=n) (h2:n<=4294967295):InR .u32 n:=by
 unfold InR IntKind.wrap
 simp only [show IntKind.u32.bits=32 from rfl,show IntKind.u32.signed=false from rfl,TU];simp;omega
theorem InR.u64 {n:Int} (h1:0<=n) (h2:n<=18446744073709551615):InR .u64 n:=by
 unfold InR IntKind.wrap
 simp only [show IntKind.u64.bits=64 from rfl,show IntKind.u64.signed=false from rfl,TU];simp;omega
theorem ZBy {n:Int} {K Q X:Prop} (q:Q) (h1:-9223372036854775808<=n:=by omega) (h2:n<=9223372036854775807:=by omega) (h:Q->K:=by intro k;(conv=>whnf);exact k):InR .i64 n/\K\/X:=.inl ⟨InR.i64 h1 h2,h q⟩
theorem ZBz {n:Int} {K Q X:Prop} (q:Q) (h1:-9223372036854775808<=n:=by decide) (h2:n<=9223372036854775807:=by decide) (h:Q->K:=by intro k;(conv=>whnf);exact k):InR .i64 n/\K\/X:=.inl ⟨InR.i64 h1 h2,h q⟩
theorem ZBA {n:Int} {K Q X:Prop} (q:Q) (h1:0<=n:=by omega) (h2:n<=255:=by omega) (h:Q->K:=by intro k;(conv=>whnf);exact k):InR .u8 n/\K\/X:=.inl ⟨InR.u8 h1 h2,h q⟩
theorem ZBB {n:Int} {K Q X:Prop} (q:Q) (h1:0<=n:=by omega) (h2:n<=18446744073709551615:=by omega) (h:Q->K:=by intro k;(conv=>whnf);exact k):InR .u64 n/\K\/X:=.inl ⟨InR.u64 h1 h2,h q⟩
theorem oiO {n:Int} {K X:Prop} (q:K) (h1:-9223372036854775808<=n:=by omega) (h2:n<=9223372036854775807:=by omega):InR .i64 n/\K\/X:=.inl ⟨InR.i64 h1 h2,q⟩
theorem oiD {n:Int} {K X:Prop} (q:K) (h1:-9223372036854775808<=n:=by decide) (h2:n<=9223372036854775807:=by decide):InR .i64 n/\K\/X:=.inl ⟨InR.i64 h1 h2,q⟩
theorem oiB {n:Int} {K X:Prop} (q:K) (h1:0<=n:=by omega) (h2:n<=255:=by omega):InR .u8 n/\K\/X:=.inl ⟨InR.u8 h1 h2,q⟩
theorem oiU {n:Int} {K X:Prop} (q:K) (h1:0<=n:=by omega) (h2:n<=18446744073709551615:=by omega):InR .u64 n/\K\/X:=.inl ⟨InR.u64 h1 h2,q⟩
theorem Zql {K:PEnd->St->Prop} {p p':PEnd} {σ σ':St} (h:K p σ) (h1:p=p') (h2:σ=σ'):K p' σ':=by subst h1;subst h2;exact h
end Go.PM
end

section
namespace Go.PM
structure PDef (G:GE) (g:FuncId) (spR:List PV->St->(St->Prop)->Prop) (spP:PV->List PV->St->(St->Prop)->Prop):Prop where
 enters:VX G.P g
 ret:∀args σ K,spR args σ K->∀(n:Nat) (e:Env) (w:World) (vs:Array Value),SRel G e σ w->ArgsRel G e σ w args vs ->
  CallsDIn (fw none) n G.P g vs .returning w fun en u' w'=>u'=.returning/\(∃r,en=.returned r)/\∃σ' e',K σ'/\SRel G e' σ' w'/\Later e σ w e' σ' w'
 pan:∀pv args σ K,spP pv args σ K->∀(n:Nat) (e:Env) (w:World) (vs:Array Value) (v:Value),SRel G e σ w->ArgsRel G e σ w args vs->VRel G e σ w pv v ->
  CallsDIn (fw none) n G.P g vs (.panicking [{ v:=v,recovered:=false }]) w fun en u' w'=>u'=.panicking [{ v:=v,recovered:=true }]/\(∃r,en=.returned r)/\∃σ' e',K σ'/\SRel G e' σ' w'/\Later e σ w e' σ' w'
def ZyX (c:Code):Option (Nat×Nat×Code):=match c with
 | .seq (.region _ ops false) rest=>match ops.toList with
  | [o1,o2]=>match o1.op,o1.dst,o1.guard,o2.op,o2.dst,o2.guard with
   | .call { callee:=.builtin .recover,args,.. },some a,none,.assign (.tmp a'),some b,none=>match args.toList,Nat.beq a a' with
    | [],true=>some (a,b,rest)
    | _,_=>none
   | _,_,_,_,_,_=>none
  | _=>none
 | _=>none
theorem ZnA {c:Code} {a b:Nat} {rest:Code} (h:ZyX c=some (a,b,rest)):∃id ops o1 o2 at',c=.seq (.region id ops false) rest/\ops=#[o1,o2]/\o1.op=.call { callee:=.builtin .recover,args:=#[],argTypes:=at' }/\o1.dst=some a/\o1.guard=none/\o2.op=.assign (.tmp a)/\o2.dst=some b/\o2.guard=none:=by
 unfold ZyX at h
 split at h
 ·rename_i id ops rest'
  split at h
  ·rename_i o1 o2 kt
   split at h
   ·rename_i args at' a1 a2 b1 h1 h2 h3 h4 h5 h6
    split at h
    ·rename_i h7 h8
     cases h
     have:=Tn h8;subst this;have ha:args=#[]:=by apply Array.ext';simpa using h7
     subst ha;exact ⟨id,ops,o1,o2,at',rfl,by apply Array.ext';simpa using kt,h1,h2,h3,h4,h5,h6⟩
    cases h
   cases h
  cases h
 cases h
section
variable {G:GE}
def Zw6 (T:Tab) (fn:Func) (keep:Nat) (K:St->Prop):PQ:=fun e f σ=>match e with
 | .normal | .ret=>pres T f σ.bx fn.results.toList fun vs=>ZgI keep false (J2 vs) σ fun _ σ'=>K σ'
 | _=>False
theorem Zue {T : Tab} {tbl : Tbl} (hT : TabOK T G.P) (ca : G.P.follows .mixedOrders = true) (ht : TblOK G tbl) (hm : TblM tbl) {g : FuncId} {fn : Func} {c : Code} (hf : G.P.funcs[g]? = some fn) (hb : fn.body = some c) (be : (fn.name == "runtime.NumGoroutine") = false)
  {a b:Nat} {rest:Code} (adm:ZyX c=some (a,b,rest)) (aw:ZR fn.ntmps c=true) {spR:List PV->St->(St->Prop)->Prop} {spP:PV->List PV->St->(St->Prop)->Prop}
  (hr:∀args σ K,spR args σ K->∃loops keep,σ.bx.length<=keep/\args.length<=fn.ntmps/\W (ctx T tbl loops) rest (Zw6 T fn keep K) (JH (JH (ZeH 0 args) a (.d .nili)) b (.d .nili)) σ)
  (hp:∀pv args σ K,spP pv args σ K->∃loops keep,σ.bx.length<=keep/\args.length<=fn.ntmps/\W (ctx T tbl loops) rest (Zw6 T fn keep K) (JH (JH (ZeH 0 args) a pv) b pv) σ):PDef G g spR spP:=by
 obtain ⟨id,ops,o1,o2,at',rfl,rfl,q1,q2,q3,q4,q5,q6⟩:=ZnA adm;simp only [ZR,Tk,Zm2,q2,q5] at aw;have ha:a<fn.ntmps:=by have:=Ta aw.1.1.1;omega
 have hbN:b<fn.ntmps:=by have:=Ta aw.1.1.2.1;omega
 have walk:∀(pv:PV) (v:Value) (u u':FrameMode) (args:List PV) (σ:St) (K:St->Prop) (loops:Nat->LoopAnn) (keep:Nat),σ.bx.length<=keep->args.length<=fn.ntmps->W (ctx T tbl loops) rest (Zw6 T fn keep K) (JH (JH (ZeH 0 args) a pv) b pv) σ ->
   (∀(c₀:Go.Frame) (cs:List Go.Frame),c₀.mode=u->match recoverD (c₀::cs) with | some (x,cs')=>x=v/\cs'={ c₀ with mode:=u' }::cs | none=>v=.nilIface/\u'=u) ->
   ∀(n:Nat) (e:Env) (w:World) (vs:Array Value),SRel G e σ w->ArgsRel G e σ w args vs->VRel G e σ w pv v ->
   CallsDIn (fw none) n G.P g vs u w fun en u2 w'=>u2=u'/\(∃r,en=.returned r)/\∃σ' e',K σ'/\SRel G e' σ' w'/\Later e σ w e' σ' w':=by
  intro pv v u u' args σ K loops keep hk ab hW xe n e w vs hS aq hv
  refine callsDIn_of_wpSIn hf hb trivial fun c₀ cs hu=>?_
  have hsz:vs.size=args.length:=aq.1;have hF:FRel G e σ w (ZeH 0 args) (vs++Array.replicate (fn.ntmps - vs.size) undef):=ZaO args 0 fun k x hx=>by
   exact m43
  refine wpSIn_seq (wpSIn_region ?_)
  let A0:Act:={ tmps:=vs++Array.replicate (fn.ntmps - vs.size) undef,defers:=[] }
  have xj:A0.tmps.size=fn.ntmps:=by simp [A0];omega
  have s0:(#[o1,o2]:Array Oper)[0]?=some o1:=rfl;have s1:(#[o1,o2]:Array Oper)[1]?=some o2:=rfl;have w1:∀t,Region.wanted o1 (yielded #[o1,o2] t)=true:=fun t=>by simp [Region.wanted,q3]
  have w2:∀t,Region.wanted o2 (yielded #[o1,o2] t)=true:=fun t=>by simp [Region.wanted,q6]
  have x1:∀A:Act,(execOp A.eval o1).run G.P w=.ok .recover w:=fun A=>by
   unfold execOp
   simp only [q1,resolve,Sem.run_bind,Sem.run_pure,Result.andThen,invoke,builtin]
  have x2:∀A:Act,(execOp A.eval o2).run G.P w=.ok (.value (A.eval (.tmp a))) w:=fun A=>by
   unfold execOp
   simp only [q4,Sem.run_pure]
  have y2:(A0.put (some a) v).eval (.tmp a)=v:=by
   simp [Act.put,Act.eval,T5,xj,ha]
  have tail:rest.wpSIn (fw none) n G.P (bodyPostS G.P fn c₀ cs fun en u2 w'=>u2=u'/\(∃r,en=.returned r)/\∃σ' e',K σ'/\SRel G e' σ' w'/\Later e σ w e' σ' w') ((A0.put (some a) v).put (some b) v) ({ c₀ with mode:=u' }::cs) w:=by
   have y8:FRel G e σ w (JH (ZeH 0 args) a pv) (A0.put (some a) v).tmps:=FRel.put (a:=A0) (d:=some a) hF hv (fun i hi=>by cases hi;rw [xj];exact ha);have ur:FRel G e σ w (JH (JH (ZeH 0 args) a pv) b pv) ((A0.put (some a) v).put (some b) v).tmps:=FRel.put (a:=A0.put (some a) v) (d:=some b) y8 hv (fun i hi=>by cases hi;rw [Y8,xj];exact hbN);refine wpSIn_of_wpIn rfl (wpIn_mono (Zdf (n:=n) (ro:=none) (ds:=(w.heap.size,[],true)) ca rest (C:=ctx T tbl loops) ⟨hT,ht.sem,fun _ _ _ _ h=>h.elim,Jn,.inl rfl⟩ ⟨fun _ h1 h2=>hT.one h1 h2,hm.mono,fun _ _ _ _ h=>h.elim,rfl⟩ (fun _ _ _ _ _ _ h=>h) aw.2 [] #[] (XN _) _
    (a:=(A0.put (some a) v).put (some b) v) hS ur (Later.refl e σ w) (by rw [Y8,Y8,xj]) (by rw [Wb,Wb];exact Marks.nil e σ (Tr _)) (fun i hi=>by cases hi) hW) fun x a' w' hp=>?_)
   obtain ⟨pe,f',e',σ',hq,hx,h1,h2,h3,h4,⟨_,rs,h5,po,_⟩,h6⟩:=hp;have fy:a'.defers=[]:=by rw [h5,po rfl];rfl
   have done:(pres T f' σ'.bx fn.results.toList fun vs=>ZgI keep false (J2 vs) σ' fun _ σ''=>K σ'')->∃r,(results fn a'.tmps).run G.P w'=.ok r w'/\u'=u'/\(∃r',Ending.returned r=.returned r')/\∃σ' e',K σ'/\SRel G e' σ' w'/\Later e σ w e' σ' w':=fun hl=>by
    obtain ⟨pvs,r,hlv,hr,hvr⟩:=WV (C:=ctx T tbl loops) hT h1 h2 hl;exact m177
   cases pe with
   | normal=>obtain rfl:x=.normal:=hx;obtain ⟨r,hr,hR⟩:=done hq;exact ⟨fy,u',rfl,r,hr,hR⟩
   | ret=>obtain rfl:x=.ret:=hx;obtain ⟨r,hr,hR⟩:=done hq;exact ⟨fy,u',rfl,r,hr,hR⟩
   | exit id=>exact hq.elim
   | goto l=>exact hq.elim
   | panic p=>exact hq.elim
  show wpOpsSIn (fw none) n G.P #[o1,o2] _ [0,1] A0 (c₀::cs) w;simp only [wpOpsSIn,s0,s1,w1,w2,if_true,x1,x2,q2,q5];refine ⟨fun _ _=>trivial,?_⟩;have hh:=xe c₀ cs hu
  cases hrd:recoverD (c₀::cs) with
  | none =>
   rw [hrd] at hh;obtain ⟨rfl,rfl⟩:=hh;have gi:({ c₀ with mode:=u' }:Go.Frame)=c₀:=by subst hu;rfl
   rw [gi] at tail;simp only [y2];exact ⟨fun _ _=>trivial,tail⟩
  | some p =>
  obtain ⟨x,cs'⟩:=p;rw [hrd] at hh;obtain ⟨rfl,rfl⟩:=hh;simp only [y2];exact ⟨fun _ _=>trivial,tail⟩
 refine ⟨Zn hf be hb,fun args σ K hs n e w vs hS aq=>?_,fun pv args σ K hs n e w vs v hS aq hv=>?_⟩
 ·obtain ⟨loops,keep,h1,h2,h3⟩:=hr args σ K hs;exact walk (.d .nili) .nilIface .returning .returning args σ K loops keep h1 h2 h3 (fun c₀ cs hu=>by simp [recoverD,hu]) n e w vs hS aq (.d _ _ .nili)
 obtain ⟨loops,keep,h1,h2,h3⟩:=hp pv args σ K hs;exact walk pv v _ _ args σ K loops keep h1 h2 h3 (fun c₀ cs hu=>by simp [recoverD,hu]) n e w vs hS aq hv
end
def Za4:List Oper->Option (List Oper×Oper)
 | []=>none
 | [o]=>some ([],o)
 | o::p::l=>match Za4 (p::l) with | some (a,b)=>some (o::a,b) | none=>none
theorem JW:∀{l:List Oper} {i:List Oper} {o:Oper},Za4 l=some (i,o)->l=i++[o]
 | [],i,o,h=>by cases h
 | [x],i,o,h=>by cases h;rfl
 | x::p::l,i,o,h=>by
  simp only [Za4] at h;split at h
  ·rename_i a b hs
   cases h
   rw [JW hs];rfl
  cases h
def Zdz (o:Oper):Option (Operand×List Operand):=match o.op,o.guard,o.dst with
 | .defer { callee:=.value x,args,.. },none,none=>some (x,args.toList)
 | _,_,_=>none
theorem Zek {o:Oper} {x:Operand} {args:List Operand} (h:Zdz o=some (x,args)):∃as at',o.op=.defer { callee:=.value x,args:=as,argTypes:=at' }/\as.toList=args/\o.guard=none/\o.dst=none:=by
 unfold Zdz at h
 split at h
 ·rename_i x' as at' h1 h2 h3;cases h;exact ⟨as,at',h1,rfl,h2,h3⟩
 cases h
def ZiM (c:Code):Option (List Oper×List Oper×Operand×List Operand):=match c with
 | .region _ ops false=>match Za4 ops.toList with
  | some (init,last)=>match Zdz last with
   | some (x,args)=>some (ops.toList,init,x,args)
   | none=>none
  | none=>none
 | _=>none
section
variable {G:GE} {C:Cx} {e0:Env} {σ0:St} {w0:World} {n N:Nat} {ds:Nat×List Deferred×Bool} {Z:Array Value->Prop} {Q:PQ}
theorem ZdA (hC:CxOK G C none e0 σ0 w0) {ops:Array Oper} {rest:List Nat} {QQ:Exit->Act->World->Prop} (hd:∀o,o∈ops->∀d,o.dst=some d->d<N/\∀t v,Z t->Z (t.setIfInBounds d v))
  (yw:∀x a w,x≠.normal->Yf G e0 σ0 w0 ds N Z Q x a w->QQ x a w) (ct:∀a w,Yf G e0 σ0 w0 ds N Z Q .normal a w->wpOpsIn (fw none) n G.P ops QQ rest a w) :
  ∀(l:List Oper) (k:Nat),(∀j,j<l.length->l[j]?=ops[k+j]?)->∀{e:Env} {σ:St} {w:World} {a:Act} {f:Frame},
  SRel G e σ w->FRel G e σ w f a.tmps->Later e0 σ0 w0 e σ w->a.tmps.size=N->Marks ds e σ w a.defers->Z a.tmps->Zqj C ops.toList Q l f σ->wpOpsIn (fw none) n G.P ops QQ (List.range' k l.length++rest) a w
 | [],k,_,e,σ,w,a,f,hS,hF,hL,hN,bn,hZ,h=>ct a w ⟨.normal,f,e,σ,h,rfl,hS,hF,hL,hN,bn,hZ⟩
 | o::l,k,hl,e,σ,w,a,f,hS,hF,hL,hN,bn,hZ,h=>by
  have h0:ops[k]?=some o:=by simpa using (hl 0 sM).symm
  have az:=Zca (ro:=none) (n:=n) hC hS hF hL hN bn hZ (ops:=ops) (hd o (Sc h0)) h;have next:∀a' w',KRel G e0 σ0 w0 ds N Z (Zqj C ops.toList Q l) a' w'->wpOpsIn (fw none) n G.P ops QQ (List.range' (k+1) l.length++rest) a' w':=fun a' w' ⟨f',e',σ',h1,h2,h3,h4,h5,h6,h7⟩ =>
   ZdA hC hd yw ct l (k+1) (fun j hj=>by have:=hl (j+1) sO;simpa [Sg,Nat.add_comm 1 j] using this) h2 h3 h4 h5 h6 h7 h1
  rw [Td,List.range'_succ,SF];simp only [wpOpsIn,h0];split at az
  ·rename_i hw
   rw [Tg hw];exact ZBN yw (Oper.wpIn_mono next az)
  rename_i hw
  rw [Tc hw];exact ⟨fun _ _=>trivial,next _ _ az⟩
def Xw (g0:FuncId) (va vc:Array Value):Deferred:={ target:=.fn (.func g0) vc,args:=va }
def Zuf (G:GE) (g0:FuncId) (e0:Env) (σ0:St) (w0:World) (N:Nat) (Q0:PQ) (Q1:List PV->PQ):Exit->Act->World->Prop:=fun x a w =>
 Yf G e0 σ0 w0 (0,[],true) N (Kept [] #[]) Q0 x a w \/
 ∃fa va vc e1 σ1 w1,Later e0 σ0 w0 e1 σ1 w1/\ArgsRel G e1 σ1 w1 fa (va++vc)/\Yf G e1 σ1 w1 (0,[Xw g0 va vc],true) N (Kept [] #[]) (Q1 (X9 fa)) x a w
end
def Zw7 (T:Tab) (fn:Func) (keep:Nat) (own:Bool) (spR:List PV->St->(St->Prop)->Prop) (spP:PV->List PV->St->(St->Prop)->Prop) (R:PEnd->St->Prop) (fa:List PV):PQ:=fun e f σ=>match e with
 | .normal | .ret=>spR fa σ fun σ2=>pres T (UO f) σ2.bx fn.results.toList fun vs=>ZgI keep own (J2 vs) σ2 fun v σ'=>R (.ret v) σ'
 | .panic pv=>spP pv fa σ fun σ2=>pres T (UO f) σ2.bx fn.results.toList fun vs=>ZgI keep own (J2 vs) σ2 fun v σ'=>R (.ret v) σ'
 | _=>False
theorem ArgsRel.clean {G:GE} {e e':Env} {σ σ':St} {w w':World} {fa:List PV} {vs:Array Value} (h:ArgsRel G e σ w fa vs) (hL:Later e σ w e' σ' w'):ArgsRel G e' σ' w' (X9 fa) vs:=by
 refine ⟨by rw [Xs];exact h.1,fun i y u hy hu=>?_⟩;obtain ⟨x,hx,rfl⟩:=W0 i y hy;have hv:=h.2 i x u hx hu;exact VRel.clean hL.len hL.beta hL.pres hv hv.bnd
theorem CallsDIn.mono {F:Fence} {n:Nat} {P:Program} {f:FuncId} {args:Array Value} {u:FrameMode} {w:World} {R R':Ending->FrameMode->World->Prop} (h:CallsDIn F n P f args u w R) (hR:∀e u w,R e u w->R' e u w):CallsDIn F n P f args u w R' :=
 ⟨h.1,fun c cs hu hr=>let ⟨e,u',w',fr,h1,h2⟩:=h.2 c cs hu hr;⟨e,u',w',fr,hR _ _ _ h1,h2⟩⟩
end Go.PM
end

section
namespace Go.PM
def Zw8 (T:Tab) (fn:Func) (keep:Nat) (K:St->Prop):PQ:=fun e f σ=>match e with
 | .normal | .ret=>pres T f σ.bx fn.results.toList fun vs=>ZgI keep true (J2 vs) σ fun _ σ'=>K σ'
 | _=>False
section
variable {G:GE}
theorem ZlJ {T : Tab} {tbl : Tbl} (hT : TabOK T G.P) (ca : G.P.follows .mixedOrders = true) (ht : TblOK G tbl) (hm : TblM tbl) {g : FuncId} {fn : Func} {c : Code} (hf : G.P.funcs[g]? = some fn) (hb : fn.body = some c) (be : (fn.name == "runtime.NumGoroutine") = false)
  (aw:ZR fn.ntmps c=true) {spR:List PV->St->(St->Prop)->Prop}
  (hr:∀args σ K,spR args σ K->∃loops unr keep,σ.bx.length<=keep/\args.length<=fn.ntmps/\W (ZwA T tbl loops unr (fun _=>false)) c (Zw8 T fn keep K) (ZeH 0 args) σ):PDef G g spR (fun _ _ _ _=>False):=by
 refine ⟨Zn hf be hb,fun args σ K hs n e w vs hS aq=>?_,fun pv args σ K hs=>hs.elim⟩;obtain ⟨loops,unr,keep,hk,ab,hW⟩:=hr args σ K hs;refine callsDIn_of_wpSIn hf hb trivial fun c₀ cs hu=>?_
 have hsz:vs.size=args.length:=aq.1;have hF:FRel G e σ w (ZeH 0 args) (vs++Array.replicate (fn.ntmps - vs.size) undef):=ZaO args 0 fun k x hx=>by
  exact m43
 refine wpSIn_of_wpIn rfl (wpIn_mono (Zdf (n:=n) (ro:=none) (ds:=(0,[],true)) ca c (C:=ZwA T tbl loops unr (fun _=>false)) ⟨hT,ht.sem,fun _ _ _ _ h=>h.elim,Jn,.inl rfl⟩ ⟨fun _ h1 h2=>hT.one h1 h2,hm.mono,fun _ _ _ _ h=>h.elim,rfl⟩ (fun _ _ _ _ _ _ h=>h) aw [] #[] (XN _) _
  (a:={ tmps:=vs++Array.replicate (fn.ntmps - vs.size) undef,defers:=[] }) hS hF (Later.refl e σ w) sO (Marks.nil e σ (T7 _)) (fun i hi=>by cases hi) hW) fun x a' w' hp=>?_)
 obtain ⟨pe,f',e',σ',hq,hx,h1,h2,h3,h4,⟨_,rs,h5,po,_⟩,h6⟩:=hp;have fy:a'.defers=[]:=by rw [h5,po rfl];rfl
 have done:(pres T f' σ'.bx fn.results.toList fun vs=>ZgI keep true (J2 vs) σ' fun _ σ''=>K σ'')->∃r,(results fn a'.tmps).run G.P w'=.ok r w'/\FrameMode.returning=.returning/\(∃r',Ending.returned r=.returned r')/\∃σ' e',K σ'/\SRel G e' σ' w'/\Later e σ w e' σ' w':=fun hl=>by
  obtain ⟨pvs,r,hlv,hr,hvr⟩:=WV (C:=ZwA T tbl loops unr (fun _=>false)) hT h1 h2 hl;exact m177
 cases pe with
 | normal=>obtain rfl:x=.normal:=hx;obtain ⟨r,hr,hR⟩:=done hq;exact ⟨fy,.returning,by rw [<- hu],r,hr,hR⟩
 | ret=>obtain rfl:x=.ret:=hx;obtain ⟨r,hr,hR⟩:=done hq;exact ⟨fy,.returning,by rw [<- hu],r,hr,hR⟩
 | exit id=>exact hq.elim
 | goto l=>exact hq.elim
 | panic p=>exact hq.elim
end
def Zw9:Code->Bool
 | .seq a b=>Zw9 a || Zw9 b
 | .cond _ a b=>Zw9 a || Zw9 b
 | .region id ops d=>(ZiM (.region id ops d)).isSome
 | _=>false
def WL (C:Cx) (Q:PQ):List Code->Frame->St->Prop
 | [],f,σ=>Q .normal f σ
 | c::l,f,σ=>W C c (fun e f σ=>match e with | .normal=>WL C Q l f σ | e=>Q e f σ) f σ
def WDl (C:Cx) (g0:FuncId) (Q0:PQ) (Q1:List PV->PQ):Nat->List Code->Frame->St->Prop
 | 0,_,_,_=>False
 | _+1,[],f,σ=>Q0 .normal f σ
 | n+1,c::l,f,σ=>match Zw9 c with
  | false=>W C c (fun e f σ=>match e with | .normal=>WDl C g0 Q0 Q1 n l f σ | e=>Q0 e f σ) f σ
  | true=>match c with
   | .seq a b=>WDl C g0 Q0 Q1 n (a::b::l) f σ
   | .cond x a b=>match ev f x with | .d (.bool t)=>CondP t (WDl C g0 Q0 Q1 n (a::l) f σ) (WDl C g0 Q0 Q1 n (b::l) f σ) | _=>False
   | c=>match ZiM c with
    | some (all,init,x,args)=>Zqj C all (fun e f σ=>match e with
      | .normal=>(match ev f x with
       | .func g first caps=>(match Nat.beq g g0 with
        | true=>WL C (Q1 (X9 (first++args.map (ev f)++caps))) l f σ
        | false=>False)
       | _=>False)
      | e=>Q0 e f σ) init f σ
    | none=>False
section
variable {G:GE} {C:Cx} {e0:Env} {σ0:St} {w0:World} {n N:Nat}
def wpl (n:Nat) (P:Program) (Q:Exit->Act->World->Prop):List Code->Act->World->Prop
 | [],a,w=>Q .normal a w
 | c::l,a,w=>c.wpIn (fw none) n P (Exit.then (wpl n P Q l) Q) a w
theorem ZjQ (ca:G.P.follows .mixedOrders=true) (hC:∀e σ w,CxOK G C none e σ w) (hM:CxMono C.calm) (hI:∀g args raw σ K,¬C.iter g args raw σ K) {ds:Nat×List Deferred×Bool} {Q:PQ} :
  ∀(l:List Code),(∀c∈l,ZR N c=true)->∀{e:Env} {σ:St} {w:World} {a:Act} {f:Frame},SRel G e σ w->FRel G e σ w f a.tmps->Later e0 σ0 w0 e σ w->a.tmps.size=N->Marks ds e σ w a.defers->WL C Q l f σ ->
   wpl n G.P (Yf G e0 σ0 w0 ds N (Kept [] #[]) Q) l a w
 | [],_,e,σ,w,a,f,hS,hF,hL,hN,bn,h=>⟨.normal,f,e,σ,h,rfl,hS,hF,hL,hN,bn,fun i hi=>by cases hi⟩
 | c::l,aw,e,σ,w,a,f,hS,hF,hL,hN,bn,h=>by
  refine wpIn_mono (Zdf (n:=n) (ro:=none) ca c (hC _ _ _) hM (fun _=>hI) (aw c sM) [] #[] (XN _) _ hS hF hL hN bn (fun i hi=>by cases hi) h) fun x a' w' hp=>?_
  obtain ⟨pe,f',e',σ',hq,hx,h1,h2,h3,h4,h5,h6⟩:=hp
  cases pe with
  | normal=>obtain rfl:x=.normal:=hx;exact ZjQ ca hC hM hI l (fun c hc=>aw c (Tx _ hc)) h1 h2 h3 h4 h5 hq
  | exit id=>obtain rfl:x=.exit id:=hx;exact ⟨.exit id,f',e',σ',hq,rfl,h1,h2,h3,h4,h5,h6⟩
  | goto l=>obtain rfl:x=.goto l:=hx;exact ⟨.goto l,f',e',σ',hq,rfl,h1,h2,h3,h4,h5,h6⟩
  | ret=>obtain rfl:x=.ret:=hx;exact ⟨.ret,f',e',σ',hq,rfl,h1,h2,h3,h4,h5,h6⟩
  | panic p=>obtain ⟨v,rfl,hv⟩:=hx;exact ⟨.panic p,f',e',σ',hq,⟨v,rfl,hv⟩,h1,h2,h3,h4,h5,h6⟩
theorem ZjR {P:Program} {Q Q':Exit->Act->World->Prop} (hQ:∀x a w,Q x a w->Q' x a w):∀{l:List Code} {a:Act} {w:World},wpl n P Q l a w->wpl n P Q' l a w
 | [],a,w,h=>hQ _ _ _ h
 | c::l,a,w,h=>wpIn_mono h fun x a' w' hp=>by
  cases x with
  | normal=>exact ZjR hQ hp
  | _=>exact hQ _ _ _ hp
theorem ZnB {g0:FuncId} {Q0:PQ} {Q1:List PV->PQ} (ca:G.P.follows .mixedOrders=true) (hC:∀e σ w,CxOK G C none e σ w) (hM:CxMono C.calm) (hI:∀g args raw σ K,¬C.iter g args raw σ K) :
  ∀(k:Nat) (l:List Code),(∀c∈l,ZR N c=true)->∀{e:Env} {σ:St} {w:World} {a:Act} {f:Frame},SRel G e σ w->FRel G e σ w f a.tmps->Later e0 σ0 w0 e σ w->a.tmps.size=N->a.defers=[]->WDl C g0 Q0 Q1 k l f σ ->
   wpl n G.P (Zuf G g0 e0 σ0 w0 N Q0 Q1) l a w:=by
 intro k
 induction k with
 | zero=>intro l aw e σ w a f hS hF hL hN hd h;exact h.elim
 | succ k ih =>
 intro l aw e σ w a f hS hF hL hN hd h
 have nf:Marks (0,[],true) e σ w a.defers:=by rw [hd];exact Marks.nil e σ (T7 _)
 cases l with
 | nil=>exact .inl ⟨.normal,f,e,σ,h,rfl,hS,hF,hL,hN,nf,fun i hi=>by cases hi⟩
 | cons c l =>
 have jo:=aw c sM;have pq:∀c∈l,ZR N c=true:=fun c hc=>aw c (Tx _ hc)
 simp only [WDl] at h;split at h
 ·show c.wpIn (fw none) n G.P _ a w;refine wpIn_mono (Zdf (n:=n) (ro:=none) (ds:=(0,[],true)) ca c (hC _ _ _) hM (fun _=>hI) jo [] #[] (XN _) _ hS hF hL hN nf (fun i hi=>by cases hi) h) fun x a1 w1 hp=>?_
  obtain ⟨pe,f',e',σ',hq,jb,h1,h2,h3,h4,h5,h6⟩:=hp
  cases pe with
  | normal =>
   obtain rfl:x=.normal:=jb;obtain ⟨_,rs,h5,po,_⟩:=h5;exact ih l pq h1 h2 h3 h4 (by rw [h5,po rfl];rfl) hq
  | exit id=>obtain rfl:x=.exit id:=jb;exact .inl ⟨.exit id,f',e',σ',hq,rfl,h1,h2,h3,h4,h5,h6⟩
  | goto l=>obtain rfl:x=.goto l:=jb;exact .inl ⟨.goto l,f',e',σ',hq,rfl,h1,h2,h3,h4,h5,h6⟩
  | ret=>obtain rfl:x=.ret:=jb;exact .inl ⟨.ret,f',e',σ',hq,rfl,h1,h2,h3,h4,h5,h6⟩
  | panic p=>obtain ⟨v,rfl,hv⟩:=jb;exact .inl ⟨.panic p,f',e',σ',hq,⟨v,rfl,hv⟩,h1,h2,h3,h4,h5,h6⟩
 split at h
 ·rename_i x y hD
  simp only [ZR,Tk] at jo;have:=ih (x::y::l) (fun c hc=>by
   rcases Tv.1 hc with rfl | hc
   ·exact jo.1
   rcases Tv.1 hc with rfl | hc
   ·exact jo.2
   exact pq c hc) hS hF hL hN hd h
  refine wpIn_seq (wpIn_mono (show x.wpIn (fw none) n G.P _ a w from this) fun z a' w' hp=>?_)
  cases z with
  | normal=>exact hp
  | _=>exact hp
 ·rename_i x y z hD
  simp only [ZR,Tk] at jo;have hv:=Zb8 hF x;split at h
  ·rename_i t hc
   rw [hc] at hv
   cases t with
   | true=>exact wpIn_cond_true hv.dbool (ih (y::l) (fun c hc=>by
     rcases Tv.1 hc with rfl | hc
     ·exact jo.1
     exact pq c hc) hS hF hL hN hd h)
   | false=>exact wpIn_cond_false hv.dbool (ih (z::l) (fun c hc=>by
     rcases Tv.1 hc with rfl | hc
     ·exact jo.2
     exact pq c hc) hS hF hL hN hd h)
  exact h.elim
 split at h
 ·rename_i all init x args s9
  unfold ZiM at s9
  split at s9
  ·rename_i id ops hD hD1 hD2
   split at s9
   ·rename_i init' last gk
    split at s9
    ·rename_i x' args' hdc
     cases s9
     have kt:=JW gk;obtain ⟨as,at',im,has,hg,adn⟩:=Zek hdc;have dz:ops.size=init.length+1:=by rw [<- Sp,kt];simp
     have zm:ops[init.length]?=some last:=by rw [<- TA,kt];simp
     simp only [ZR,Tk] at jo;have bf:∀o,o∈ops->∀d,o.dst=some d->d<N/\∀t v,Kept [] #[] t->Kept [] #[] (t.setIfInBounds d v):=fun o ho d ml=>⟨Zbz jo.1 o (TP.1 ho) d ml,fun t v _ i hi=>by cases hi⟩
     refine wpIn_region ?_;rw [show List.range ops.size=List.range' 0 init.length++[init.length] from by rw [dz,List.range_succ,List.range_eq_range']];refine ZdA (N:=N) (Z:=Kept [] #[]) (ds:=(0,[],true)) (hC e0 σ0 w0) bf (fun x a w hx hp=>?_) (fun a1 w1 hp=>?_) init 0 (fun j hj=>?_) hS hF hL hN nf (fun i hi=>by cases hi) h
     ·cases x with
      | normal=>exact absurd rfl hx
      | _ =>
      obtain ⟨pe,f',e',σ',hq,jb,ax⟩:=hp;refine .inl ⟨pe,f',e',σ',?_,jb,ax⟩
      cases pe <;> first | exact hq | (cases jb;done) | (obtain ⟨_,jb,_⟩:=jb;cases jb)
     ·obtain ⟨pe,f',e',σ',hq,jb,h1,h2,h3,h4,⟨_,rs,h5,po,_⟩,h6⟩:=hp
      cases pe with
      | normal =>
       simp only at hq;have hv:=Zb8 h2 x;split at hq
       ·rename_i g first caps cz
        split at hq
        ·rename_i hgb
         cases Tn hgb
         rw [cz] at hv;generalize hgv:a1.eval x=v at hv
         cases hv with
         | func _ _ _ va vc ha hc k1 k2 =>
         have fy:a1.defers=[]:=by rw [h5,po rfl];rfl
         have aq:ArgsRel G e' σ' w1 (first++args.map (ev f')++caps) (va++as.map a1.eval++vc):=by
          have hm:=Zfu (G:=G) (e:=e') (σ:=σ') (w:=w1) (a:=a1) (f:=f') (args:=as) (fun x=>Zb8 h2 x);rw [has] at hm;exact ArgsRel.append (ArgsRel.append ⟨ha,k1⟩ hm) ⟨hc,k2⟩
         have hw:Region.wanted last (yielded ops a1.tmps)=true:=by simp [Region.wanted,hg]
         simp only [wpOpsIn,zm,hw,if_true];have am:(execOp a1.eval last).run G.P w1=.ok (.defer (Xw g0 (va++as.map a1.eval) vc)) w1:=by
          unfold execOp
          simp only [im,resolve,hgv,Deferred.ofValue,Sem.run_bind,Sem.run_pure,Result.andThen];rfl
         refine ⟨fun _ _=>trivial,?_⟩;rw [show (fw none).round=none from rfl,Oper.semAt_none,am,Oper.uponIn_defer];rw [adn];show wpl n G.P (Zuf G g0 e0 σ0 w0 N Q0 Q1) l { a1 with defers:=Xw g0 (va++as.map a1.eval) vc::a1.defers } w1;rw [fy];exact ZjR (fun x a w hp=>.inr ⟨_,_,_,e',σ',w1,h3,aq,hp⟩) (ZjQ (n:=n) (e0:=e') (σ0:=σ') (w0:=w1) ca hC hM hI (ds:=(0,[Xw g0 (va++as.map a1.eval) vc],true)) l pq
          (a:={ a1 with defers:=[Xw g0 (va++as.map a1.eval) vc] }) h1 h2 (Later.refl _ _ _) h4 ⟨T7 _,[],rfl,fun _=>rfl,List.nodup_nil,fun r h=>by cases h⟩ hq)
        exact hq.elim
       exact hq.elim
      | exit id=>cases jb
      | goto l=>cases jb
      | ret=>cases jb
      | panic p=>obtain ⟨_,jb,_⟩:=jb;cases jb
     rw [<- TA,kt,Sf,TM hj]
    cases s9
   cases s9
  cases s9
 exact h.elim
end
theorem ZfU {G : GE} {T : Tab} {tbl : Tbl} (hT : TabOK T G.P) (ca : G.P.follows .mixedOrders = true) (ht : TblOK G tbl) (hm : TblM tbl) {g : FuncId} {fn : Func} {c : Code} (hf : G.P.funcs[g]? = some fn) (hb : fn.body = some c) (be : (fn.name == "runtime.NumGoroutine") = false)
  (aw:ZR fn.ntmps c=true) {g0:FuncId} {spR:List PV->St->(St->Prop)->Prop} {spP:PV->List PV->St->(St->Prop)->Prop} (hd:PDef G g0 spR spP) {sp:Zt}
  (h:∀args σ K,sp args σ K->∃loops unr ties keep own,σ.bx.length<=keep/\args.length<=fn.ntmps/\WDl (ZwA T tbl loops unr ties) g0 (ZwK T fn keep own K) (Zw7 T fn keep own spR spP K) 99 [Wm fn] (ZeH 0 args) σ):PCalls G g sp where
 enters:=Zn hf be hb
 calls:=fun args σ K hs n e w vs hS aq=>by
  obtain ⟨loops,unr,ties,keep,own,hk,ab,hW⟩:=h args σ K hs;have lr:Wm fn=c:=by simp [Wm,hb]
  rw [lr] at hW;have hsz:vs.size=args.length:=aq.1;have hF:FRel G e σ w (ZeH 0 args) (vs++Array.replicate (fn.ntmps - vs.size) undef):=ZaO args 0 fun k x hx=>by
   exact m43
  have qm:=ZnB (n:=n) (N:=fn.ntmps) (e0:=e) (σ0:=σ) (w0:=w) ca (C:=ZwA T tbl loops unr ties) (fun _ _ _=>⟨hT,ht.sem,fun _ _ _ _ h=>h.elim,Jn,.inl rfl⟩) ⟨fun _ h1 h2=>hT.one h1 h2,hm.mono,fun _ _ _ _ h=>h.elim,rfl⟩ (fun _ _ _ _ _ h=>h) 99 [c] (fun c' hc'=>by cases List.mem_singleton.1 hc';exact aw)
   (a:={ tmps:=vs++Array.replicate (fn.ntmps - vs.size) undef,defers:=[] }) hS hF (Later.refl e σ w) sO rfl hW
  have qm:c.wpIn (fw none) n G.P (Zuf G g0 e σ w fn.ntmps (ZwK T fn keep own K) (Zw7 T fn keep own spR spP K)) { tmps:=vs++Array.replicate (fn.ntmps - vs.size) undef,defers:=[] } w:=wpIn_mono qm fun x a' w' hp=>by
   cases x with
   | normal=>exact hp
   | _=>exact hp
  refine callsIn_of_wp_defers hf hb trivial (wpIn_mono qm fun x a' w' hp=>?_);have ends:∀{f':Frame} {tm:Array Value} {e':Env} {σ':St} {w':World},SRel G e' σ' w'->FRel G e' σ' w' f' tm->Later e σ w e' σ' w' ->
    (pres T f' σ'.bx fn.results.toList fun vs=>ZgI keep own (J2 vs) σ' fun v σ''=>K (.ret v) σ'')->∃v,(results fn tm).run G.P w'=.ok v w'/\X3 G e σ w K (.returned v) w':=fun h1 h2 h3 hl=>by
   obtain ⟨pvs,r,hlv,hr,hvr⟩:=WV (C:=ctx T tbl loops) hT h1 h2 hl;obtain ⟨pv',σ2,e2,hK,oq,ce,ni⟩:=Va h1 h3 hk hvr hlv;exact ⟨r,hr,.ret pv',σ2,e2,hK,⟨r,rfl,oq⟩,ce,ni⟩
  rcases hp with ⟨pe,f',e',σ',hq,hx,h1,h2,h3,h4,⟨_,rs,h5,po,_⟩,h6⟩ | ⟨fa,va,vc,e1,σ1,w1,so,hfa,pe,f',e',σ',hq,hx,h1,h2,h3,h4,⟨_,rs,h5,po,_⟩,h6⟩
  ·have fy:a'.defers=[]:=by rw [h5,po rfl];rfl
   cases pe with
   | normal=>obtain rfl:x=.normal:=hx;show LeavesIn _ _ _ _ _ _ _ _ _;rw [fy];exact ends h1 h2 h3 hq
   | ret=>obtain rfl:x=.ret:=hx;show LeavesIn _ _ _ _ _ _ _ _ _;rw [fy];exact ends h1 h2 h3 hq
   | panic p =>
    obtain ⟨v,rfl,hv⟩:=hx;show LeavesIn _ _ _ _ _ _ _ _ _;rw [fy];obtain ⟨pv',σ2,e2,hK,oq,ce,ni⟩:=Va h1 h3 hk hv hq;exact ⟨.panic pv',σ2,e2,hK,⟨v,rfl,oq⟩,ce,ni⟩
   | exit id=>exact hq.elim
   | goto l=>exact hq.elim
  have fy:a'.defers=[Xw g0 va vc]:=by rw [h5,po rfl];rfl
  have ni:Later e σ w e' σ' w':=so.trans h3;have adp:(invoke (Xw g0 va vc).target (Xw g0 va vc).args).run G.P w'=.ok (.enter g0 (va++vc)) w':=by
   show (callFunc g0 (va++vc)).run G.P w'=_;exact hd.enters _ _
  have after:∀{e2:Env} {σ2:St} {w2:World},SRel G e2 σ2 w2->Later e' σ' w' e2 σ2 w2->(pres T (UO f') σ2.bx fn.results.toList fun vs=>ZgI keep own (J2 vs) σ2 fun v σ''=>K (.ret v) σ'')->∃v,(results fn a'.tmps).run G.P w2=.ok v w2/\X3 G e σ w K (.returned v) w2 :=
   fun ji la hl=>ends ji (h2.clean la) (ni.trans la) hl
  have zn:ArgsRel G e' σ' w' (X9 fa) (va++vc):=hfa.clean h3;have go:∀u,u≠.run->CallsDIn (fw none) (n - 1) G.P g0 (va++vc) u w' (fun
    | .returned _,u',w'=>LeavesIn (fw none) n G.P fn a'.tmps (X3 G e σ w K) [] (settle u') w'
    | .panicked chain,u',w'=>LeavesIn (fw none) n G.P fn a'.tmps (X3 G e σ w K) [] (raised u' chain) w'
    | .outgrown,_,w'=>X3 G e σ w K .outgrown w')->LeavesIn (fw none) n G.P fn a'.tmps (X3 G e σ w K) [Xw g0 va vc] u w':=fun u hu hc =>
   ⟨hu,(fun h=>by cases h),.func g0,vc,g0,va++vc,rfl,adp,fun _ _=>trivial,hc⟩
  cases pe with
  | normal =>
   obtain rfl:x=.normal:=hx;exact m115
  | ret =>
   obtain rfl:x=.ret:=hx;exact m115
  | panic p =>
   obtain ⟨v,rfl,hv⟩:=hx;show LeavesIn _ _ _ _ _ _ _ _ _;rw [fy];refine go _ sM ((hd.pan _ _ _ _ hq _ _ _ _ v h1 zn hv).mono fun en u2 w2 hh=>?_);obtain ⟨rfl,⟨r,rfl⟩,σ2,e2,hK,ce,la⟩:=hh;exact after ce la hK
  | exit id=>exact hq.elim
  | goto l=>exact hq.elim
end Go.PM
end

section

end
