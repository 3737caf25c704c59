/- A part of the proof: plain logic, contracts and laws over the given program. -/
import Derived.Test.YtnbhcckbjefnjaaGreatDoorIter
import Derived.WideShapes
import Derived.Test.YtnbhcckbjefnjaaGreatDoorB10
set_option linter.unusedVariables false
set_option linter.unusedSimpArgs false
set_option linter.all false
set_option maxRecDepth 100000
set_option maxHeartbeats 16000000
noncomputable section
section
namespace Go.PM.Lex
mutual
def rnE:Ex->Ex
 | .mk op text n args a=>.mk op (if op=1 then text++[49] else text) n (VW args) a
def VW:List Ex->List Ex
 | []=>[]
 | e::l=>rnE e::VW l
end
mutual
def rnL:Li->Li
 | .mk op rel args body a=>.mk op rel (VW args) (Zcd body) a
def Zcd:List Li->List Li
 | []=>[]
 | x::l=>rnL x::Zcd l
end
def rnR (r:Ru):Ru:=⟨r.head,VW r.args,Zcd r.body,r.at'⟩
def rnP (p:Pr):Pr:=⟨p.types,p.rels,p.rules.map rnR⟩
def rnV (v:Vs):Vs:=v.map fun x=>(x.1++[49],x.2)
def rnS (s:VS):VS:=(rnV s.1,s.2)
def WZ:∀l:List Ex,(VW l).length=l.length
 | []=>rfl
 | e::l=>by simp only [VW,Te,WZ l]
def Zd3:∀l:List Li,Zcd l=l.map rnL
 | []=>rfl
 | e::l=>by simp only [Zcd,Tx,Zd3 l]
def Zto (s:Bs):∀v:Vs,lkM (s++[49]) (rnV v)=lkM s v
 | []=>rfl
 | (x,n)::v=>by
  have ih:=Zto s v;unfold rnV at ih |-
  simp only [Tx,lkM];rw [show decide (s++[49]=x++[49])=decide (s=x) by simp,ih]
def Zuo (s:Bs) (k:Int):∀v:Vs,Yv (s++[49]) k (rnV v)=rnV (Yv s k v)
 | []=>rfl
 | (x,n)::v=>by
  have ih:=Zuo s k v;unfold rnV at ih |-
  simp only [Tx,Yv];rw [show decide (s++[49]=x++[49])=decide (s=x) by simp,ih]
  cases decide (s=x) <;> rfl
def ZAQ (t:Bs) (n:Int) (s:VS):ZnK (t++[49]) n (rnS s)=rnS (ZnK t n s):=by
 unfold ZnK
 simp only [rnS,Zto,Zuo];split <;> rfl
def Zup (p:Pr) (vs:Vs) (op:Nat) (text:Bs):Zbm p (rnV vs) op (if op=1 then text++[49] else text)=Zbm p vs op text:=by
 unfold Zbm
 by_cases h:op=1
 ·rw [Tj h,Tj h,Tj h,Zto]
 rw [Tf h,Tf h,Tf h]
def ZlL (p:Pr) (op:Nat) (text:Bs) (k:Nat) (n:Int):Zz p op (if op=1 then text++[49] else text) k n=Zz p op text k n:=by
 by_cases h:op=1
 ·subst h;rfl
 rw [Tf h]
def Znx (p:Pr) (op:Nat) (text kind:Bs):Z4 p op (if op=1 then text++[49] else text) kind=Z4 p op text kind:=by
 by_cases h:op=1
 ·subst h;rfl
 rw [Tf h]
mutual
def ZAR (p:Pr):∀(e:Ex) (n:Int) (s:VS),gvE p (rnE e) n (rnS s)=rnS (gvE p e n s)
 | .mk op text num args a,n,s=>by
  simp only [rnE,gvE,ZlL,WZ]
  by_cases h:op=1
  ·rw [Tj h,Tj h,Tj h,ZAQ]
  rw [Tf h,Tf h];exact Zbs p args _ s
def Zbs (p:Pr):∀(l:List Ex) (ns:List Int) (s:VS),gvEs p (VW l) ns (rnS s)=rnS (gvEs p l ns s)
 | [],_,_=>rfl
 | e::l,[],_=>rfl
 | e::l,n::ns,s=>by simp only [VW,gvEs];rw [ZAR p e,Zbs p l]
end
def ZxZ (p:Pr) (vs:Vs):∀e:Ex,Zqf p (rnV vs) (rnE e)=Zqf p vs e
 | .mk op text _ _ _=>by simp only [rnE,Zqf];exact Zup ..
def ZlM (p:Pr) (vs:Vs):∀l:List Ex,Xt p (rnV vs) (VW l)=Xt p vs l
 | []=>rfl
 | [_]=>rfl
 | a::b::l=>by simp only [VW,Xt,ZxZ]
mutual
def ZAS (p:Pr):∀(x:Li) (s:VS),gvL p (rnL x) (rnS s)=rnS (gvL p x s)
 | .mk op rel args body a,s=>by
  have hs:Xt p (rnS s).1 (VW args)=Xt p s.1 args:=ZlM ..;simp only [rnL,gvL,WZ,hs];split
  ·exact Zbs ..
  split
  ·exact Zbs ..
  rw [Zbs];exact Zkk p body _
def Zkk (p:Pr):∀(l:List Li) (s:VS),gvLs p (Zcd l) (rnS s)=rnS (gvLs p l s)
 | [],_=>rfl
 | x::l,s=>by simp only [Zcd,gvLs];rw [ZAS p x,Zkk p l]
end
def Ztp (p:Pr) (r:Ru) (v:Vs):XR p (rnR r) (rnV v)=rnS (XR p r v):=by
 unfold XR
 simp only [rnR,WZ];rw [show ((rnV v,false):VS)=rnS (v,false) from rfl,Zbs,Zkk]
def ZiG (p:Pr) (r:Ru):∀(n:Nat) (v:Vs),YD p (rnR r) n (rnV v)=(YD p r n v).map rnV
 | 0,_=>rfl
 | n+1,v=>by
  simp only [YD,Ztp,rnS];split
  ·exact ZiG p r n _
  rfl
mutual
def ZAT:∀e:Ex,(nvE (rnE e)).length=(nvE e).length
 | .mk op text num args a=>by
  simp only [rnE,nvE];split
  ·rfl
  exact ZgV args
def ZgV:∀l:List Ex,(Znn (VW l)).length=(Znn l).length
 | []=>rfl
 | e::l=>by simp only [VW,Znn,Ta,ZAT e,ZgV l]
end
mutual
def ZAU:∀x:Li,(nvL (rnL x)).length=(nvL x).length
 | .mk op rel args body a=>by simp only [rnL,nvL,Ta,ZgV,Zkl body]
def Zkl:∀l:List Li,(ZnL (Zcd l)).length=(ZnL l).length
 | []=>rfl
 | x::l=>by simp only [Zcd,ZnL,Ta,ZAU x,Zkl l]
end
def ZqG (p:Pr) (r:Ru):Xq p (rnR r)=rnV (Xq p r):=by
 unfold Xq
 have h:=ZiG p r ((nvR r).length+1) [];rw [show rnV []=[] from rfl] at h;rw [show (nvR (rnR r)).length=(nvR r).length by simp only [nvR,rnR,Ta,ZgV,Zkl],h]
 cases YD p r ((nvR r).length+1) [] <;> rfl
mutual
def ZAV (p:Pr) (vs:Vs):∀(e:Ex) (n:Int),rtE p (rnV vs) (rnE e) n=rtE p vs e n
 | .mk op text num args a,n=>by
  have h:(op=7/\(lkM (if op=1 then text++[49] else text) (YP p)).isNone=true)↔(op=7/\(lkM text (YP p)).isNone=true):=by
   by_cases h:op=1
   ·subst h;simp
   rw [Tf h]
  simp only [rnE,rtE,Zup,ZlL,WZ,h,ZgW p vs args]
def ZgW (p:Pr) (vs:Vs):∀(l:List Ex) (ns:List Int),UZ p (rnV vs) (VW l) ns=UZ p vs l ns
 | [],_=>rfl
 | e::l,[]=>rfl
 | e::l,n::ns=>by simp only [VW,UZ];rw [ZAV p vs e,ZgW p vs l]
end
def ZqH (p:Pr) (vs:Vs) (s:Bs) (l:List Ex) (a:Nat) (hd:Bool):Zke p (rnV vs) s (VW l) a hd=Zke p vs s l a hd:=by
 unfold Zke
 simp only [WZ,ZgW]
mutual
def ZAW (p:Pr) (vs:Vs):∀x:Li,rtL p (rnV vs) (rnL x)=rtL p vs x
 | .mk op rel args body a=>by simp only [rnL,rtL,ZqH,ZlM,ZgW,WZ,Zkm p vs body]
def Zkm (p:Pr) (vs:Vs):∀l:List Li,Zct p (rnV vs) (Zcd l)=Zct p vs l
 | []=>rfl
 | x::l=>by simp only [Zcd,Zct,ZAW p vs x,Zkm p vs l]
end
def rnX (x:Ex×Bs):Ex×Bs:=(rnE x.1,x.2)
mutual
def ZAX (p:Pr):∀(e:Ex) (kind:Bs),wiE p (rnE e) kind=(wiE p e kind).map rnX
 | .mk op text num args a,kind=>by simp only [rnE,wiE,Znx,Tx,ZgX p args,rnX]
def ZgX (p:Pr):∀(l:List Ex) (fs:List Fi),U0 p (VW l) fs=(U0 p l fs).map rnX
 | [],_=>rfl
 | e::l,[]=>rfl
 | e::l,f::fs=>by simp only [VW,U0,Sc,ZAX p e,ZgX p l]
end
def rnK (x:Bs×Bs):Bs×Bs:=(x.1++[49],x.2)
def ZAY:∀x:Ex×Bs,knF (rnX x)=(knF x).map rnK
 | (.mk op text _ _ _,k)=>by
  simp only [rnX,rnE,knF];split <;> rfl
def Ztq (p:Pr) (l:List Li):ZaC p (Zcd l)=(ZaC p l).map rnK:=by
 rw [Vv,Vv,Zd3,List.flatMap_map];have h:(fun x=>X1 p (rnL x))=fun x=>(X1 p x).map rnX:=by
  funext x
  obtain ⟨op,rel,args,body,a⟩:=x;simp only [rnL,X1,ZgX];split <;> rfl
 rw [h,<- List.map_flatMap,List.filterMap_map,List.map_filterMap]
 congr 1
 funext x
 exact ZAY x
def ZlN (p:Pr) (kn:List (Bs×Bs)):∀l,Wh p (kn.map rnK) (l.map rnX)=Wh p kn l
 | []=>rfl
 | (.mk op text num args a,k)::l=>by
  have h:(op=1/\((kn.map rnK).any fun y=>decide (y.1=(if op=1 then text++[49] else text)) && Xa p y.2 k)=false)↔(op=1/\(kn.any fun y=>decide (y.1=text) && Xa p y.2 k)=false):=by
   by_cases h:op=1
   ·simp only [Tj h,List.any_map];rw [show ((fun y:Bs×Bs=>decide (y.1=text++[49]) && Xa p y.2 k)∘rnK)=fun y=>decide (y.1=text) && Xa p y.2 k by funext y;simp [rnK]]
   simp [h]
  simp only [Tx,rnX,rnE,Wh,h];rw [<- ZlN p kn l]
def Ztr (p:Pr) (r:Ru):Jl p (rnR r)=Jl p r:=by
 unfold Jl
 simp only [rnR,Ztq,ZgX];exact ZlN ..
def Zts (p:Pr) (r:Ru) (vs:Vs):WX p (rnR r) (rnV vs)=WX p r vs:=by
 unfold WX
 rw [Ztr,show (rnV vs).length=vs.length from Td ..];simp only [rnR,ZqH,Zkm]
def ZlO (p:Pr):∀l:List Ru,Yx p (l.map rnR)=Yx p l
 | []=>rfl
 | r::l=>by simp only [Tx,Yx,ZqG,Zts,ZlO p l]
def ZfP {ty:List Ty} {re:List Re} {a b:List Ru}:∀l:List Ru,Yx ⟨ty,re,a⟩ l=Yx ⟨ty,re,b⟩ l
 | []=>rfl
 | r::l=>by
  simp only [Yx];rw [ZiD (a:=a) (b:=b),Znw (a:=a) (b:=b),ZfP l]
def ZAZ {pl:Pl} {p:Pr} (h1:(Zaw (prU p)).2=0) (h2:(Zaw (prU (rnP p))).2=0):Zfz pl (rnP p)=Zfz pl p:=by
 unfold Zfz
 rw [Tf (fun h=>h h2),Tf (fun h=>h h1)];obtain ⟨ty,re,ru⟩:=p;simp only [rnP];rw [Ztn (a:=ru.map rnR) (b:=ru),ZlO,ZfP (a:=ru.map rnR) (b:=ru)]
def Ztt (p:Pr) (r:Ru):Xq (rnP p) (rnR r)=rnV (Xq p r):=by
 obtain ⟨ty,re,ru⟩:=p;exact (ZiD (a:=ru.map rnR) (b:=ru) _).trans (ZqG _ r)
def ZqI (u:Un):(Zaw u).2=0\/(Zaw u).2=3\/(Zaw u).2=160:=by
 unfold Zaw
 split
 ·cases UA 65536 16384 JE (unT u) with
  | ok _ _=>exact .inl rfl
  | err _ e =>
  simp only [Zbi];split
  ·exact .inr (.inl rfl)
  exact .inl rfl
 exact .inr (.inr rfl)
mutual
def Zuq:∀e:Ex,szE (rnE e)=szE e
 | .mk op text n args a=>by simp only [rnE,szE,ZqJ args]
def ZqJ:∀l:List Ex,Zlo (VW l)=Zlo l
 | []=>rfl
 | e::l=>by simp only [VW,Zlo,Zuq e,ZqJ l]
end
def ZqK:∀l:List Ex,szS szE (VW l)=szS szE l
 | []=>rfl
 | e::l=>by simp only [VW,szS,Zuq e,ZqK l]
mutual
def ZA0:∀x:Li,szL (rnL x)=szL x
 | .mk op rel args body a=>by simp only [rnL,szL,ZqK,Zkn body]
def Zkn:∀l:List Li,Zt6 (Zcd l)=Zt6 l
 | []=>rfl
 | x::l=>by simp only [Zcd,Zt6,ZA0 x,Zkn l]
end
def Zx0 (p:Pr):ZbW (rnP p)=ZbW p:=by
 have h:∀l:List Ru,szS JL (l.map rnR)=szS JL l:=by
  intro l
  induction l with
  | nil=>rfl
  | cons r l ih =>
  simp only [Tx,szS,ih];rw [show JL (rnR r)=JL r by unfold JL;simp only [rnR,ZqK,<- Xi,Zkn]]
 unfold ZbW
 simp only [rnP,h]
mutual
def ZCS:∀e:Ex,wE (rnE e)<=2 * wE e
 | .mk op text n args a=>by
  have:=ZlP args;simp only [rnE,wE];split
  ·exact mq88
  omega
def ZlP:∀l:List Ex,wEs (VW l)<=2 * wEs l
 | []=>Tr _
 | e::l=>by
  have h1:=ZCS e;have h2:=ZlP l;simp only [VW,wEs];omega
end
mutual
def ZCT:∀x:Li,wL (rnL x)<=2 * wL x
 | .mk op rel args body a=>by
  have h1:=ZlP args;have h2:=ZqL body;simp only [rnL,wL,<- Xs];omega
def ZqL:∀l:List Li,wLs (Zcd l)<=2 * wLs l
 | []=>Tr _
 | x::l=>by
  have h1:=ZCT x;have h2:=ZqL l;simp only [Zcd,wLs];omega
end
def ZA1 (r:Ru):wRu (rnR r)<=2 * wRu r:=by
 have h1:=ZlP r.args;have h2:=ZqL r.body;unfold wRu
 simp only [rnR,<- Xs,<- X0];omega
mutual
def Zx1:∀e:Ex,Zfp (rnE e)=Zfp e
 | .mk op text n args a=>by simp only [rnE,Zfp,Zcy args]
def Zcy:∀l:List Ex,Zew (VW l)=Zew l
 | []=>rfl
 | e::l=>by simp only [VW,Zew,Zx1 e,Zcy l]
end
mutual
def Zx2:∀x:Li,Zi0 (rnL x)=Zi0 x
 | .mk op rel args body a=>by simp only [rnL,Zi0,Zcy,ZgY body]
def ZgY:∀l:List Li,ZgL (Zcd l)=ZgL l
 | []=>rfl
 | x::l=>by simp only [Zcd,ZgL,Zx2 x,ZgY l]
end
def Ztu {n:Nat} {p:Pr} (h:JP n (prU p)) (hn:n<=4194304):JP (2 * n) (prU (rnP p)):=by
 obtain ⟨h1,h2,_,_⟩:=h;have hr:Zlv (prU (rnP p))=true:=by
  simp only [prU,rnP,Zlv,Tm,Tq,List.forall_mem_map] at h1 |-;refine ⟨fun r hr=>?_,h1.2⟩;have:=h1.1 r hr;simp only [ZdH,<- We,<- WV] at this;simp only [ZdH,rnR,<- We,<- WV,Zcy,ZgY];exact this
 have hs:∀l:List Ru,szS wRu (l.map rnR)<=2 * szS wRu l:=by
  intro l
  induction l with
  | nil=>exact Tr _
  | cons r l ih =>
  have:=ZA1 r;simp only [Tx,szS];omega
 have hw:wUn (prU (rnP p))<=2 * n:=by
  have:=hs p.rules;simp only [prU,rnP,wUn,ZpL,szS] at h2 |-;omega
 have h3:=ZgO _ hr;exact ⟨hr,hw,oM,rfl,rfl,rfl⟩
def ZA2 {v:Vs} {l k:List Bs} (hl:l.Perm (v.map (·.1))) (hk:k.Perm ((rnV v).map (·.1))) {s:Bs} (hs:s∈l):s++[49]∈k:=by
 have h1:=hl.mem_iff.1 hs;refine hk.mem_iff.2 ?_;obtain ⟨x,hx,rfl⟩:=Sh.1 h1;exact Sh.2 ⟨_,Sh.2 ⟨x,hx,rfl⟩,rfl⟩
def Zx3 {v:Vs} {l k:List Bs} (hl:l.Perm (v.map (·.1))) (hk:k.Perm ((rnV v).map (·.1))):l.length=k.length:=by
 rw [hl.length_eq,hk.length_eq];simp [rnV]
def ZlQ (k:Bs) (n:Int):∀v:Vs,(Yv k n v).map (·.1)=if k∈v.map (·.1) then v.map (·.1) else v.map (·.1)++[k]
 | []=>rfl
 | (x,u)::v=>by
  have ih:=ZlQ k n v;simp only [Yv]
  by_cases h:k=x
  ·subst h;simp
  rw [decide_eq_false h];simp only [Tx,Tt,h,false_or,ih];split <;> rfl
def Qv (P:Bs->Prop) (v:Vs):Prop:=(v.map (·.1)).Nodup/\∀t∈v.map (·.1),P t
def Qv.set {P:Bs->Prop} {t:Bs} {n:Int} {s:VS} (h:Qv P s.1) (ht:P t):Qv P (ZnK t n s).1:=by
 unfold ZnK
 split
 ·unfold Qv
  simp only [ZlQ];split
  ·exact h
  rename_i g
  refine ⟨List.nodup_append.2 ⟨h.1,sM,fun a ha b hb=>?_⟩,fun x hx=>?_⟩
  ·simp at hb;subst hb;exact fun e=>g (e ▸ ha)
  rcases TH.1 hx with hx | hx
  ·exact h.2 x hx
  simp at hx;subst hx;exact ht
 exact h
mutual
def Qv.gvE {P:Bs->Prop} {p:Pr}:∀{e:Ex} {n:Int} {s:VS},Qv P s.1->(∀t∈nvE e,P t)->Qv P (gvE p e n s).1
 | .mk op text num args a,n,s,h,ht=>by
  simp only [nvE] at ht;simp only [Lex.gvE]
  by_cases g:op=1
  ·rw [Tj g] at ht |-;exact h.set (ht _ sM)
  rw [Tf g] at ht |-;exact Qv.gvEs h ht
def Qv.gvEs {P:Bs->Prop} {p:Pr}:∀{l:List Ex} {ns:List Int} {s:VS},Qv P s.1->(∀t∈Znn l,P t)->Qv P (gvEs p l ns s).1
 | [],_,_,h,_=>h
 | e::l,[],_,h,_=>h
 | e::l,n::ns,s,h,ht=>by
  simp only [Znn,TH] at ht;simp only [Lex.gvEs];exact Qv.gvEs (Qv.gvE h fun t g=>ht t (.inl g)) fun t g=>ht t (.inr g)
end
mutual
def Qv.gvL {P:Bs->Prop} {p:Pr}:∀{x:Li} {s:VS},Qv P s.1->(∀t∈nvL x,P t)->Qv P (gvL p x s).1
 | .mk op rel args body a,s,h,ht=>by
  simp only [nvL,TH] at ht;simp only [Lex.gvL];have h1:∀ns,Qv P (Lex.gvEs p args ns s).1:=fun ns=>Qv.gvEs h fun t g=>ht t (.inl g)
  split
  ·exact h1 _
  split
  ·exact h1 _
  exact Qv.gvLs (h1 _) fun t g=>ht t (.inr g)
def Qv.gvLs {P:Bs->Prop} {p:Pr}:∀{l:List Li} {s:VS},Qv P s.1->(∀t∈ZnL l,P t)->Qv P (gvLs p l s).1
 | [],_,h,_=>h
 | x::l,s,h,ht=>by
  simp only [ZnL,TH] at ht;simp only [Lex.gvLs];exact Qv.gvLs (Qv.gvL h fun t g=>ht t (.inl g)) fun t g=>ht t (.inr g)
end
def ZEZ {P:Bs->Prop} {p:Pr} {r:Ru} (ht:∀t∈nvR r,P t):∀{n:Nat} {v w:Vs},Qv P v->YD p r n v=some w->Qv P w
 | 0,_,_,_,h=>by cases h
 | n+1,v,w,hv,h=>by
  simp only [nvR,TH] at ht;have h1:Qv P (XR p r v).1:=Qv.gvLs (Qv.gvEs hv fun t g=>ht t (.inl g)) fun t g=>ht t (.inr g)
  simp only [YD] at h;split at h
  ·exact ZEZ (by simpa only [nvR,TH] using ht) h1 h
  cases h;exact h1
def Qv.vars {P:Bs->Prop} {p:Pr} {r:Ru} (ht:∀t∈nvR r,P t):Qv P (Xq p r):=by
 have h0:Qv P []:=⟨.nil,fun _ h=>nomatch h⟩
 unfold Xq
 cases h:YD p r ((nvR r).length+1) [] with
 | none=>exact h0
 | some w=>exact ZEZ ht h0 h
mutual
def nvE_w:∀(e:Ex) (t:Bs),t∈nvE e->t.length<=wE e
 | .mk op text n args a,t,h=>by
  simp only [nvE] at h;simp only [wE];split at h
  ·simp at h;subst h;omega
  have:=nvEs_w args t h;omega
def nvEs_w:∀(l:List Ex) (t:Bs),t∈Znn l->t.length<=wEs l
 | e::l,t,h=>by
  simp only [Znn,TH] at h;simp only [wEs];rcases h with h | h
  ·have:=nvE_w e t h;omega
  have:=nvEs_w l t h;omega
end
mutual
def nvL_w:∀(x:Li) (t:Bs),t∈nvL x->t.length<=wL x
 | .mk op rel args body a,t,h=>by
  simp only [nvL,TH] at h;simp only [wL,<- Xs];rcases h with h | h
  ·have:=nvEs_w args t h;omega
  have:=nvLs_w body t h;omega
def nvLs_w:∀(l:List Li) (t:Bs),t∈ZnL l->t.length<=wLs l
 | x::l,t,h=>by
  simp only [ZnL,TH] at h;simp only [wLs];rcases h with h | h
  ·have:=nvL_w x t h;omega
  have:=nvLs_w l t h;omega
end
def nvR_w {r:Ru} {t:Bs} (h:t∈nvR r):t.length<=wRu r:=by
 simp only [nvR,TH] at h;simp only [wRu,<- Xs,<- X0];rcases h with h | h
 ·have:=nvEs_w _ t h;omega
 have:=nvLs_w _ t h;omega
def ZiH (p:Pr):∀l,NZ (Yx p l)
 | []=>.none
 | r::l=>by
  simp only [Yx];have h:=ZdW p r (Xq p r);split
  ·exact mq130
  exact ZiH p l
def ZiI {pl:Pl} {p:Pr} (h:(Zfz pl p).2=0):(Zaw (prU p)).2=0/\orF (Zeg p) (Yx p p.rules)=none:=by
 rw [Zbq] at h;split at h
 ·rename_i g;simp only at h;omega
 rename_i g
 cases hd:Zeg p with
 | some ae =>
  obtain ⟨a,e⟩:=ae;rw [hd] at h;have:=Zqe hd;simp only [orF] at h;omega
 | none =>
 cases hr:Yx p p.rules with
 | none=>exact ⟨oM,rfl⟩
 | some ae =>
 obtain ⟨a,e⟩:=ae;rw [hd,hr] at h;have:=ZiH p p.rules a e hr;simp only [orF] at h;omega
def ZqM {x y:Flt} (h:orF x y=none):x=none/\y=none:=by
 cases x with
 | none=>exact ⟨rfl,h⟩
 | some a=>cases h
def Zx4 {n:Nat} {p:Pr} (hw:wUn (prU p)<=n) (h:Yx p p.rules=none) {r:Ru} (hr:r∈p.rules):Qv (fun t=>t.length<=n) (Xq p r)/\(Xq p r).length<=64:=by
 have hm:=JT (f:=wRu) hr;simp only [prU,wUn,ZpL,szS] at hw;refine ⟨.vars fun t ht=>by have:=nvR_w ht;show t.length<=n;omega,?_⟩;have h1:=rules_none.1 h r hr;unfold WX at h1
 split at h1
 ·cases h1
 omega
def WI (pl:Pl) (p:Pr) (i:Int):Vs:=if (Zfz pl p).2=0/\0<=i then (match p.rules[i.toNat]? with | some r=>Xq p r | none=>[]) else []
def ZiJ {n:Nat} {pl:Pl} {p:Pr} {i:Int} (hw:wUn (prU p)<=n):Qv (fun t=>t.length<=n) (WI pl p i)/\(WI pl p i).length<=64:=by
 have h0:Qv (fun t=>t.length<=n) []:=⟨.nil,fun _ h=>nomatch h⟩
 unfold WI
 split
 ·rename_i h
  split
  ·rename_i r hr
   exact Zx4 hw (ZqM (ZiI h.1).2).2 (TT hr)
  exact ⟨h0,T7 _⟩
 exact ⟨h0,T7 _⟩
def ZqN {pl:Pl} {p:Pr} {i:Int} (h:Zfz pl (rnP p)=Zfz pl p):WI pl (rnP p) i=rnV (WI pl p i):=by
 unfold WI
 rw [h];split
 ·rw [show (rnP p).rules=p.rules.map rnR from rfl,Th]
  cases p.rules[i.toNat]? with
  | none=>rfl
  | some r=>exact Ztt p r
 rfl
def Ztv {pl:Pl} {p:Pr} {a b e f:Int} (h1:Zfz pl p=(a,e)) (h2:Zfz pl (rnP p)=(b,f)) (e1:¬e=160) (e2:¬e=3) (f1:¬f=160) (f2:¬f=3):Zfz pl (rnP p)=Zfz pl p:=by
 have key:∀{q:Pr} {a e:Int},Zfz pl q=(a,e)->¬e=160->¬e=3->(Zaw (prU q)).2=0:=fun {q a e} h g1 g2=>by
  rcases ZqI (prU q) with g | g | g
  ·exact g
  ·unfold Zfz at h
   rw [Tj oM,g] at h
   cases h;exact absurd rfl g2
  unfold Zfz at h
  rw [Tj oM,g] at h
  cases h;exact absurd rfl g1
 exact ZAZ (key h1 e1 e2) (key h2 f1 f2)
def ZA3 {v:Vs} {s:Bs}:s∈v.map (·.1)->∃n,lkM s v=some n:=by
 induction v with
 | nil=>intro h;cases h
 | cons x v ih =>
 intro h
 obtain ⟨y,n⟩:=x;simp only [lkM]
 by_cases g:s=y
 ·rw [Sg g];exact ⟨_,rfl⟩
 rw [decide_eq_false g];refine ih ?_;rcases Tt.1 h with h | h
 ·exact absurd h g
 exact h
open Go.Proofs
variable {w0:World} {nG:Nat}
def Zko (m:Nat):Zp:=fun args σ K=>match args,σ with
 | [.d (.sl rows)],⟨[],[],0⟩=>∃pl l,rows=Zm pl l/\(wEs l<m/\m<=16777216)/\K (.ret (.d (.sl (Zm pl (VW l))))) ⟨[],[],0⟩
 | _,_=>False
def Zny (pl:Pl) {l:List Ex} {j:Nat} (h:j<l.length):Zm pl (VW (l.take (j+1)))=Zm pl (VW (l.take j))++[ZQ pl (rnE l[j])]:=by
 have hm:∀l,VW l=l.map rnE:=fun l=>by
  induction l with
  | nil=>rfl
  | cons x l ih=>simp only [VW,Tx,ih]
 rw [Zb,Zb,hm,hm,List.take_add_one,Tb h];simp only [Sc,Option.toList_some,Tx,TM]
def Znz (pl:Pl) {l:List Li} {j:Nat} (h:j<l.length):Yf pl (Zcd (l.take (j+1)))=Yf pl (Zcd (l.take j))++[Y5 pl (rnL l[j])]:=by
 rw [Zl,Zl,Zd3,Zd3,List.take_add_one,Tb h];simp only [Sc,Option.toList_some,Tx,TM]
def Zur {m:Nat} (ht:TO w0 nG [(6,spB Zko m)]):PC w0 nG 6 (Zko m):=by
 refine pwt ht Tryz.func6 fun args σ K h=>?_
 unfold Zko at h
 split at h
 ·obtain ⟨pl,l,rfl,⟨hw,hm⟩,h⟩:=h;have hl:(Zm pl l).length=l.length:=by rw [Zb,Td]
  have yw:=Zn wE l;rw [<- Xs] at yw;refine pwu [(3,⟨[3,4],[0],fun vs σ=>∃j:Nat,vs=[.sl 0 55 (Zm pl (VW (l.take j))),.d (.int .i64 j)]/\σ=⟨[],[0],1⟩/\j<=l.length,
   mu2 l.length⟩)] 0 false ?_
  conv=>whnf
  refine ⟨⟨0,rfl,rfl,oM⟩,?_⟩
  rintro vs σ1 ⟨j,rfl,rfl,hj⟩
  conv=>whnf
  refine ZEH (fun hc=>?_) (fun hc=>?_);rotate_left
  ·have hc:¬(j:Int)<((Zm pl l).length:Nat):=hc;exact mq110
  have ab:j<l.length:=by have hc:(j:Int)<((Zm pl l).length:Nat):=hc;omega
  have hg:=Zr wE l j ab;rw [<- Xs] at hg;have hr:(Zm pl l)[(j:Int).toNat]?=some (ZQ pl l[j]):=by rw [Tl,Zb,Th,Tb ab];rfl
  have ht:=Zny pl ab;have yg:(Zm pl (VW (l.take j))).length=j:=by rw [Zb,Td,WZ,List.length_take];omega
  have hμ:((l.length:Int) - ((j:Int)+1)).toNat<((l.length:Int) - (j:Int)).toNat:=oM;generalize l[j]=x at ht hr hg;obtain ⟨op,text,num,args,a⟩:=x;simp only [wE] at hg;(conv=>whnf);refine ⟨_,oM,hr,wN ?_⟩;refine ZEH (fun h1=>wN ?_) (fun h1=>wN ?_)
  ·have h1:op=1:=by have h1:(op:Int)=1:=h1;omega
   rw [show rnE (.mk op text num args a)=.mk op (text++[49]) num (VW args) a by simp only [rnE,Tj h1]] at ht;refine ⟨by simp only [Te,Tg];omega,wN ?_⟩;exact mq61
  have h1:¬op=1:=by have h1:¬(op:Int)=1:=h1;omega
  rw [show rnE (.mk op text num args a)=.mk op text num (VW args) a by simp only [rnE,Tf h1]] at ht;exact mq61
 exact h.elim
def ZBK:∀m,PC w0 nG 6 (Zko m)
 | 0=>Zur ⟨ZB (Ze Tryz.func6 kR rfl),trivial⟩
 | m+1=>Zur ⟨ZC (sp:=Zko) (ZBK m),trivial⟩
def ZnA (m:Nat):Zp:=fun args σ K=>match args,σ with
 | [.d (.sl rows)],⟨[],[],0⟩=>∃pl l,rows=Yf pl l/\(wLs l<m/\m<=16777216)/\K (.ret (.d (.sl (Yf pl (Zcd l))))) ⟨[],[],0⟩
 | _,_=>False
def Zus {m:Nat} (ht:TO w0 nG [(6,Zko m),(7,spB ZnA m)]):PC w0 nG 7 (ZnA m):=by
 refine pwt ht Tryz.func7 fun args σ K h=>?_
 unfold ZnA at h
 split at h
 ·obtain ⟨pl,l,rfl,⟨hw,hm⟩,h⟩:=h;have hl:(Yf pl l).length=l.length:=by rw [Zl,Td]
  have yw:=Zn wL l;rw [<- X0] at yw;refine pwu [(3,⟨[3,4],[0],fun vs σ=>∃j:Nat,vs=[.sl 0 57 (Yf pl (Zcd (l.take j))),.d (.int .i64 j)]/\σ=⟨[],[0],1⟩/\j<=l.length,
   mu2 l.length⟩)] 0 false ?_
  conv=>whnf
  refine ⟨⟨0,rfl,rfl,oM⟩,?_⟩
  rintro vs σ1 ⟨j,rfl,rfl,hj⟩
  conv=>whnf
  refine ZEH (fun hc=>?_) (fun hc=>?_);rotate_left
  ·have hc:¬(j:Int)<((Yf pl l).length:Nat):=hc;exact mq110
  have ab:j<l.length:=by have hc:(j:Int)<((Yf pl l).length:Nat):=hc;omega
  have hg:=Zr wL l j ab;rw [<- X0] at hg;have hr:(Yf pl l)[(j:Int).toNat]?=some (Y5 pl l[j]):=by rw [Tl,Zl,Th,Tb ab];rfl
  have ht:=Znz pl ab;have yg:(Yf pl (Zcd (l.take j))).length=j:=by rw [Zl,Td,Zd3,Td,List.length_take];omega
  have hμ:((l.length:Int) - ((j:Int)+1)).toNat<((l.length:Int) - (j:Int)).toNat:=oM;generalize l[j]=x at ht hr hg;obtain ⟨op,text,args,body,a⟩:=x;simp only [wL,<- Xs] at hg;simp only [rnL] at ht;(conv=>whnf);refine ⟨_,oM,hr,wN ?_⟩;refine ⟨pl,args,rfl,⟨oM,oM⟩,wN ?_⟩;refine ⟨oM,pl,body,rfl,⟨oM,oM⟩,wN ?_⟩;refine ⟨fun r hr=>by simp at hr;subst hr;rfl,?_,?_,?_⟩
  ·show ((Yf pl (Zcd (l.take j))).length+1) * 80<=2 ^ 47;omega
  ·show (Yf pl (Zcd (l.take j))).length+1<=2 ^ 47;omega
  conv=>whnf
  refine Zi ?_;exact ⟨⟨j+1,by rw [ht];rfl,rfl,oM⟩,hμ⟩
 exact h.elim
def ZDM:∀m,PC w0 nG 7 (ZnA m)
 | 0=>Zus ⟨ZBK _,ZB (Ze Tryz.func7 kR rfl),trivial⟩
 | m+1=>Zus ⟨ZBK _,ZC (sp:=ZnA) (ZDM m),trivial⟩
def Zcz:Zp:=fun args σ K=>match args,σ with
 | [],⟨[],[],0⟩=>K (.ret (.d (.bool true))) ⟨[],[],0⟩
 | _,_=>False
def Ztw:PC w0 nG 46 Zfu:=ZxG ⟨Zly,trivial⟩
def Zut:PC w0 nG 45 Zay:=Zp8 ⟨Zly,trivial⟩
def Zb2:PC w0 nG 51 VU:=Zp9 ⟨Ztw,trivial⟩
def Zuu:PC w0 nG 44 ZdN:=ZsV ⟨ZsT ⟨ZsR ⟨ZsP ⟨Zut,trivial⟩,trivial⟩,trivial⟩,trivial⟩
def ZDN:PC w0 nG 22 Zs2:=ZAC ⟨Zs1 ⟨ZsZ ⟨ZsX ⟨Zuu,trivial⟩,trivial⟩,trivial⟩,Zuu,Zut,Ztw,trivial⟩
def ZqO:PC w0 nG 21 Zcs:=Zqd ⟨Zj8 ⟨Zj6,trivial⟩,Zkb ⟨Zj9,trivial⟩,trivial⟩
def ZA6:PC w0 nG 96 ZgP:=Zqa ⟨Ztw,trivial⟩
def Zx5:PC w0 nG 97 Zaz:=Znl ⟨Zb2,trivial⟩
def ZCU:PC w0 nG 99 Zqg:=ZAE ⟨Zb2,trivial⟩
def Zx6:PC w0 nG 98 Zkf:=ZAF
def ZlR:PC w0 nG 52 ZdQ:=Zs4 ⟨Zx5,Zx6,trivial⟩
def ZlS:PC w0 nG 53 ZdR:=Zs6 ⟨ZCU,trivial⟩
def kGv:∀m,PC w0 nG 25 (ZxI m)
 | 0=>ZAG ⟨ZB (Ze Tryz.func25 kR rfl),ZlR,trivial⟩
 | m+1=>ZAG ⟨ZC (sp:=ZxI) (kGv m),ZlR,trivial⟩
def kRt:∀m,PC w0 nG 90 (ZxJ m)
 | 0=>Zuh ⟨ZB (Ze Tryz.func90 kR rfl),ZCU,ZlR,Zx6,trivial⟩
 | m+1=>Zuh ⟨ZC (sp:=ZxJ) (kRt m),ZCU,ZlR,Zx6,trivial⟩
def ZCV (m:Nat):PC w0 nG 24 (Zqi m):=ZAI ⟨kGv m,Zb2,trivial⟩
def ZEn (m:Nat):PC w0 nG 24 (Zta m):=ZAL ⟨kRt m,Zb2,trivial⟩
def ZA7:∀m,PC w0 nG 26 (ZfE m)
 | 0=>Zql ⟨ZB (Ze Tryz.func26 kR rfl),kGv 0,ZCV 0,ZlS,trivial⟩
 | m+1=>Zql ⟨ZC (sp:=ZfE) (ZA7 m),kGv _,ZCV _,ZlS,trivial⟩
def Zx7 (m:Nat):PC w0 nG 48 (ZfF m):=ZxM ⟨ZEn m,trivial⟩
def ZA8:∀m,PC w0 nG 49 (ZdT m)
 | 0=>Zqs ⟨ZB (Ze Tryz.func49 kR rfl),kRt 0,Zx7 0,ZlS,trivial⟩
 | m+1=>Zqs ⟨ZC (sp:=ZdT) (ZA8 m),kRt _,Zx7 _,ZlS,trivial⟩
def kH1:PC w0 nG 92 ZBI:=ZCK
def kH2:PC w0 nG 93 ZBJ:=ZCO ⟨Ztw,ZxS ⟨ZxQ ⟨ZxO ⟨ZA6,trivial⟩,trivial⟩,trivial⟩,trivial⟩
def ZDO:∀m,PC w0 nG 91 (Znq m)
 | 0=>Zul ⟨ZB (Ze Tryz.func91 kR rfl),kH1,Zb2,Zx6,trivial⟩
 | m+1=>Zul ⟨ZC (sp:=Znq) (ZDO m),kH1,Zb2,Zx6,trivial⟩
def ZDP:∀m,PC w0 nG 91 (Znr m)
 | 0=>Zum ⟨ZB (Ze Tryz.func91 kR rfl),kH2,Zb2,Zx6,trivial⟩
 | m+1=>Zum ⟨ZC (sp:=Znr) (ZDP m),kH2,Zb2,Zx6,trivial⟩
def ZA9 (m:Nat):PC w0 nG 50 (ZdU m):=Ztf ⟨Zqy (ZDO m) (ZDP m),trivial⟩
def ZqP (m:Nat):PC w0 nG 23 (Zcx m):=Zqz ⟨Zx7 m,ZA8 m,ZA9 m,trivial⟩
def Zkp (m:Nat):PC w0 nG 14 (ZaE m):=Zqq ⟨ZCV m,ZA7 m,trivial⟩
def Zuv {n:Nat} (hp:PC w0 nG 20 (Zni XV JP Zaw n)):PC w0 nG 8 (ZdX n):=Zth ⟨ZqE ⟨hp,ZqO,ZDN,Zkp _,ZqP _,trivial⟩,trivial⟩
end Go.PM.Lex
end

section
namespace Go.PM
def ZnB {G:GE} {g:FuncId} {sp:Zp} (jl:WO G.P g)
  (h:∀args σ K,sp args σ K->∀(e:Env) (w:World) (vs:Array Value),SRel G e σ w->ArgsRel G e σ w args vs->Calls G.P g vs w fun en w'=>∃pv v,en=.returned v/\K (.ret pv) σ/\Grows w w'/\VRel G e σ w' pv v):PCalls G g sp where
 enters:=jl
 calls:=fun args σ K hs n e w vs hS ha=>by
  refine CallsIn.mono (callsIn_wide.2 (h args σ K hs e w vs hS ha)) fun en w' ⟨pv,v,he,hK,hg,hv⟩=>?_
  subst he;exact ⟨.ret pv,σ,e,hK,⟨v,rfl,hv⟩,hS.grow hg,(hg.stepped e σ).toLater⟩
def Zx8 {G:GE} {e:Env} {bx:List Box} {w:World} {k b off:Nat} (hS:SRel G e ⟨bx,[],k⟩ w) (hb:w.heap.size<=b):okc e ⟨bx,[],k⟩ b off:=by
 refine ⟨fun h=>?_,fun i hi h=>?_,fun t ht=>(by cases ht),fun q hq=>?_⟩
 ·have:=hS.xlt _ _ h;omega
 ·have:=hS.lt hi;omega
 have:=(hS.hid _ _ hq).2.1;omega
end Go.PM
namespace Go.PM.Lex
open Go.Proofs Go.RowKit Go.Maps Go.Sort
variable {w0:World} {nG:Nat}
def ZqQ:Zp:=fun args σ K=>match args,σ with
 | [.mp 0],⟨[.dmap m],[],0⟩=>K (.ret (.func 29 [] [.ptr 1 0])) ⟨[.dmap m,.cells 69 [.mp 0]],[],0⟩
 | _,_=>False
def Zx9:PC w0 nG 16 ZqQ:=by
 refine pwe Tryz.func16 fun args σ K h=>?_
 unfold ZqQ at h
 split at h
 ·refine pwv [] 2 false ?_;exact h
 exact h.elim
abbrev Xb (l:List Bs):List (List D):=l.map fun s=>[.str s]
def ZgZ:Zp:=fun args σ K=>match args,σ with
 | [.func f [] [.ptr 0 0]],⟨[.cells t [.mp 1],.dmap m],[],0⟩=>(f=29/\(m.map (·.1)).Nodup/\m.length<=1048576/\∀x∈m.map (·.1),x.length<=1073741824) /\
   ∀l:List Bs,l.Perm (m.map (·.1))->K (.ret (.d (.sl (Xb l)))) ⟨[.cells t [.mp 1],.dmap m],[],0⟩
 | _,_=>False
def ZlT:∀{m:List (Bs×MV)} {i:Nat} {k:Bs},(ZaL m)[2 * i]?=some (.d (.str k))->(m.map (·.1))[i]?=some k
 | [],i,k,h=>by simp [ZaL] at h
 | (x,v)::m,0,k,h=>by simp [ZaL] at h;simp [h]
 | (x,v)::m,i+1,k,h=>by
  rw [show 2 * (i+1)=2 * i+2 by omega] at h;have:=ZlT (m:=m) (i:=i) (k:=k) (by simpa [ZaL] using h);simpa using this
def ZqR {G:GE} {e:Env} {σ:St} {w:World} {m:List (Bs×MV)} {b:Nat} {P:Program} {k:TypeId} (hk:P.underlying k=some .string) (hB:BRel G e σ w (.dmap m) b) (hn:(m.map (·.1)).Nodup) (hl:m.length<=1048576) (hx:∀x∈m.map (·.1),x.length<=1073741824) :
  ∃D0:DataW Unit,w.ownsMap P k (fun _=>some (.nil,[])) b m.length D0/\(strKeys D0).Perm (m.map (·.1))/\Maps.size D0=m.length:=by
 obtain ⟨bn,ck,⟨l5,ep⟩,es,h1,h2,h3,h4⟩:=hB;rw [Zf0] at h3;have aa:es.toList.length=m.length:=sO;have hes:es.size≤1048576:=oM;have hb:es.toList.map (·.born)=bn:=List.ext_getElem? fun i=>by
  rw [Th,Tw]
  cases hu:es[i]? with
  | none=>exact (T6 (by have:=Array.getElem?_eq_none_iff.1 hu;omega)).symm
  | some u=>exact (h4 i u hu).1.symm
 have ur:es.toList.map (·.key)=(m.map (·.1)).map fun s=>Value.string ⟨s.toArray⟩:=List.ext_getElem? fun i=>by
  rw [Th,Tw]
  cases hu:es[i]? with
  | none=>exact (T6 (by have:=Array.getElem?_eq_none_iff.1 hu;simp;omega)).symm
  | some u =>
  obtain ⟨_,kk,x,g1,_,g3,_⟩:=h4 i u hu;rw [Th,ZlT g1];simp [g3]
 have aco:∀s:Bs,s∈m.map (·.1)->Go.keyOf P k (.string ⟨s.toArray⟩)=some (.string s):=fun s hs=>by
  have:=hx s hs;have hm:s.length<=maxLen:=TZ this dM;simp [Go.keyOf,hk,mapKey,ByteArray.size,hm]
 have cj:∀u∈es.toList,∃s,s∈m.map (·.1)/\u.key=.string ⟨s.toArray⟩:=fun u hu=>by
  have:u.key∈es.toList.map (·.key):=List.mem_map_of_mem hu
  rw [ur] at this;obtain ⟨s,h,g⟩:=Sh.1 this;exact ⟨s,h,g.symm⟩
 have xj:∀u∈es.toList,∀s,s∈m.map (·.1)->u.key=.string ⟨s.toArray⟩->WideElems.rd (H:=Unit) P k (fun _=>some (.nil,[])) u=some (.string s,.nil):=fun u hu s hs g=>by
  unfold WideElems.rd
  rw [g,aco s hs];rfl
 have yy:(es.toList.map (WideElems.rg (H:=Unit) P k fun _=>some (.nil,[]))).map (fun p=>strOf p.1)=m.map (·.1):=by
  have q:(es.toList.map (WideElems.rg (H:=Unit) P k fun _=>some (.nil,[]))).map (fun p=>(Value.string ⟨(strOf p.1).toArray⟩))=es.toList.map (·.key):=by
   rw [SE];refine Si fun u hu=>?_
   obtain ⟨s,hs,g⟩:=cj u hu;simp only [Function.comp,WideElems.rg,xj u hu s hs g,Sl,strOf,g]
  rw [ur] at q;have q2:=congrArg (List.map fun v:Value=>match v with | .string s=>s.data.toList | _=>[]) q;simpa [SE,Function.comp_def] using q2
 refine ⟨_, ⟨es, ck, h1, ⟨TZ hes dM,⟨fun x hx=>?_,?_,?_⟩,fun x hx=>?_⟩,oM,rfl⟩,?_,?_⟩
 ·exact ep _ (hb ▸ List.mem_map_of_mem hx)
 ·rw [hb];exact l5
 ·rw [ur];exact List.Pairwise.map _ (fun a b g e=>g (by simpa using e)) hn
 ·obtain ⟨s,hs,g⟩:=cj x hx;exact ⟨_,xj x hx s hs g⟩
 ·have:=(WideShapes.sorted_perm (es.toList.map (WideElems.rg (H:=Unit) P k fun _=>some (.nil,[])))).map fun p=>strOf p.1
  rw [yy] at this;exact this
 show (List.foldr DataW.insert [] _).length=_;rw [(WideShapes.sorted_perm _).length_eq,Td,aa]
def ZqS {G:GE} {e:Env} {bx:List Box} {w w':World} {k base el:Nat} {v:Value} {l:List Bs} (hS:SRel G e ⟨bx,[],k⟩ w) (hb:w.heap.size<=base) (h:w'.ownsRow base el 1 v l.length (l.map encStr)):DRel (okc e ⟨bx,[],k⟩) w' (.sl (Xb l)) v:=by
 obtain ⟨_,⟨rfl,h0⟩ | ⟨g,cap,cur,rfl,h1,h2,h3,_,h5,h6⟩⟩:=h
 ·rw [Sx.1 h0];exact .slnil
 have hl:(Xb l).length=l.length:=Td ..;rw [<- hl];refine .sl (Xb l) g 0 cap 1 (fun i _=>encStr (l.getD i [])) (by rw [hl];exact h3) (fun r hr=>?_) (fun i j hi hj=>?_) (fun i j _ _=>Zx8 hS oM) fun i j x hx=>?_
 ·obtain ⟨s,_,rfl⟩:=Sh.1 hr;rfl
 ·obtain rfl:j=0:=by omega
  rw [hl] at hi;have q:=congrArg (fun t=>t[i]?) h6;simp only [Nat.mul_one,List.getElem?_take,Tj hi,Tw,Th,Tb hi,Sb] at q;simp [World.cell?,h2,q,T2,Tb hi]
 rw [Th] at hx
 cases hi:l[i]? with
 | none=>rw [hi] at hx;cases hx
 | some s =>
 rw [hi] at hx
 match j,hx with
 | 0,hx =>
  simp at hx;subst hx;show DRel _ _ _ (encStr (l.getD i []));rw [T2,hi];exact .str s
 | j+1,hx=>simp at hx
def ZqT:PC w0 nG 15 ZgZ:=ZnB (Ze Tryz.func15 kR rfl) fun args σ K h e w vs hS ha=>by
 unfold ZgZ at h
 split at h
 ·rename_i f t m
  obtain ⟨⟨rfl,hn,hl,hx⟩,h⟩:=h;obtain ⟨u,rfl,hu⟩:=Zgo ha
  cases hu with
  | func _ _ _ va vc hva zj _ h2 =>
  obtain ⟨va⟩:=va;obtain rfl:va=[]:=Sx.1 hva;obtain ⟨vc⟩:=vc
  match vc,zj with
  | [pv],_ =>
  have hp:=h2 0 _ pv rfl rfl
  cases hp with
  | ptr _ _ eh =>
  obtain ⟨cs,g1,g2,g3⟩:=hS.box 0 _ rfl;obtain ⟨cs⟩:=cs
  match cs,g2 with
  | [mv],_ =>
  have hm:=(g3 0 _ mv rfl rfl).1
  cases hm with
  | mp _ co =>
  have az:w.cell? ⟨e.β 0,0,none⟩=some (.map (some (e.β 1))):=by simp [World.cell?,g1]
  obtain ⟨D0,ho,yz,hsz⟩:=ZqR (P:=Tryz.prog) (k:=9) Tryz.underlying9 (hS.box 1 _ rfl) hn hl hx;have acp:=AnyZ.keys_gives (ρ:=Tryz.iter29_ren) Tryz.iter29 Fence.wide 2 trivial rfl oM (e.β 0) (e.β 1) m.length D0 w (hS.lt eh) az ho;have hc:=AnyZ.sorted_in Tryz.sorted15 Fence.wide 5 trivial trivial trivial trivial rfl oM ⟨fun blk off cap ss W hH fb hsz=>callsIn_wide.2 (AnyM.slices_Sort_string Tryz.sort28 blk off cap ss W hH fb hsz),fun p cap W=>callsIn_wide.2 (AnyM.slices_Sort_string_none Tryz.sort28 p cap W)⟩ (Ze Tryz.func28 kR rfl) 29 _ trivial (Ze Tryz.func29 kR rfl) _ _ (by rw [hsz];exact TZ hl dM) (by rw [hsz];omega) w acp;refine (callsIn_wide.1 hc).mono ?_
  rintro en w' ⟨v,ss,rfl,we,ce,_,cm⟩
  have hp:(ss.mergeSort fun x y=>decide (x<=y)).Perm (m.map (·.1)):=(List.mergeSort_perm ss _).trans (we.trans yz)
  rw [<- (List.mergeSort_perm ss fun x y=>decide (x<=y)).length_eq] at ce;exact ⟨_,v,rfl,h _ hp,ZEN cm,.d _ _ (ZqS hS (Tr _) ce)⟩
 exact h.elim
end Go.PM.Lex
end

section
namespace Go.PM.Lex
open Go.Proofs
variable {w0:World} {nG:Nat}
abbrev Zhk (v:Vs) (l:List Bs):List (List D):=XW (l.map fun s=>(lkM s v).getD 0)
def UG {l k:List Bs} (h:Xb l=Xb k):l=k:=by
 have e:=congrArg (List.map fun r:List D=>match r with | [.str s]=>s | _=>[]) h;simpa [SE,Function.comp_def] using e
def Zkq (v:Vs):(mvM mvI v).map (·.1)=v.map (·.1):=by
 unfold mvM;simp [Function.comp_def]
def ZlU (n:Nat):Zp:=fun args σ K=>match args,σ with
 | [.agg c,.d (.int .i64 i)],⟨[],[],0⟩=>∃pl p,c=(UC pl p).map .d/\(JP n (prU p)/\n<=16777216/\ZbW p<=2097152)/\∀v,WI pl p i=v->∀(l:List Bs) (e:Int),l.Perm (v.map (·.1))->K (.ret (.tuple [.d (.sl (Xb l)),.d (.sl (Zhk v l)),.d (.int .i64 e)])) ⟨[],[],0⟩
 | _,_=>False
abbrev vBx (pl:Pl) (p:Pr) (r:Ru) (v:Vs):List Box:=.cells 26 (Zkc pl p)::.cells 26 (Zkc pl p)::.cells 60 [.d (.int .i64 0),.d (.int .i64 0)]::(Zuf pl p 3++[.cells 60 [.d (.int .i64 0),.d (.int .i64 0)],.cells 32 ((Zy pl r).map .d),.dmap (mvM mvI v),
 .cells 71 [.ptr 6 0,.d (.str r.head),.d (.sl (Zm pl r.args)),.d (.sl (Yf pl r.body)),.d (.int .i64 (pl r.at')),.mp 11,.d (.bool false)],.cells 69 [.mp 11]])
def ZqU (n:Nat):Tbl:=[(13,ZaG n),(14,ZaE 2097152),(16,ZqQ),(15,ZgZ)]
def ZqV {n:Nat} (ht:TO w0 nG (ZqU n)):PC w0 nG 9 (ZlU n):=by
 refine Wu ZI mixed (tbl:=ZqU n) ht Tryz.func9 rfl kR kR ?_;intro args σ K h
 unfold ZlU at h
 split at h
 ·rename_i i
  obtain ⟨pl,⟨p1,p2,p3⟩,rfl,⟨hc,hn,hz⟩,h⟩:=h;have h:=h _ rfl;have hp:BP ⟨p1,p2,p3⟩:=by unfold BP;omega
  have kx:(p3.map (Zy pl)).length=p3.length:=Td ..;have bad:WI pl ⟨p1,p2,p3⟩ i=[]->∀e:Int,K (.ret (.tuple [.d (.sl []),.d (.sl []),.d (.int .i64 e)])) ⟨[],[],0⟩:=fun g e=>h [] e (by rw [g];exact .nil)
  by_cases hk:(Zfz pl ⟨p1,p2,p3⟩).2=0
  ·obtain ⟨ho,ge⟩:=ZiI hk;obtain ⟨hd,hru⟩:=ZqM ge
   by_cases hi:0<=i/\i<p3.length
   ·have ax:OKP ⟨p1,p2,p3⟩:=⟨hp,Zun _ hd⟩
    have ab:i.toNat<p3.length:=oM;have cj:=TE ab;have cd:p3[i.toNat]?=some p3[i.toNat]:=Tb ab;have hv:WI pl ⟨p1,p2,p3⟩ i=Xq ⟨p1,p2,p3⟩ p3[i.toNat]:=by
     unfold WI
     rw [Tj ⟨hk,hi.1⟩];show (match p3[i.toNat]? with | some r=>_ | none=>_)=_;rw [cd]
    have hvk:=ZiJ (pl:=pl) (i:=i) hc.2.1;rw [hv] at h hvk;have hr:(p3.map (Zy pl))[i.toNat]?=some (Zy pl p3[i.toNat]):=by rw [Th,cd];rfl
    have i5:JL p3[i.toNat]<=2097152:=by have:=JT (f:=JL) cj;simp only [ZbW] at hz;omega
    have pb:=ZiB ho cj;generalize p3[i.toNat]=r at h hvk hr i5 pb;obtain ⟨r1,r2,r3,r4⟩:=r;obtain ⟨⟨f8,mo⟩,hvl⟩:=hvk;generalize hV:Xq ⟨p1,p2,p3⟩ ⟨r1,r2,r3,r4⟩=v at h f8 mo hvl;refine ⟨Zo [(10,⟨[11,50],[9,10,48,49],fun w σ=>∃(l:List Bs) (j:Nat),w=[.ptr 12 0,.d (.sl (Xb l)),.d (.sl (Xb l)),.d (.int .i64 (Xb l).length),.sl 0 3 (Zhk v (l.take j)),.d (.int .i64 j)]/\σ=⟨vBx pl ⟨p1,p2,p3⟩ ⟨r1,r2,r3,r4⟩ v,[0],1⟩/\j<=l.length/\l.Perm (v.map (·.1)),
     fun w _=>match w with | [_,_,_,.d (.int _ n),_,.d (.int _ j)]=>(n - j).toNat | _=>0⟩)],Xn [],Yd [10],0,false,sM,Tc rfl,?_⟩
    conv=>whnf
    refine ⟨pl,⟨p1,p2,p3⟩,rfl,⟨hc,hn,hz⟩,fun g=>absurd ho g,fun _ a e g2=>(by rw [ge] at g2;cases g2),fun _ _=>wN ?_⟩
    (repeat (refine ZEH (fun g=>absurd hi (by first | (have g:i<0:=g;omega) | (have g:((p3.map (Zy pl)).length:Int)<=i:=g;omega))) (fun _=>?_);conv=>whnf))
    refine ⟨_,hi.1,hr,wN ?_⟩;refine ⟨pl,⟨p1,p2,p3⟩,⟨r1,r2,r3,r4⟩,rfl,rfl,ax,⟨i5,dM⟩,pb,?_⟩;rw [hV];(conv=>whnf);refine ⟨⟨rfl,by rw [Zkq];exact f8,by unfold mvM;rw [Td];omega,fun x hx=>by rw [Zkq] at hx;have:=mo x hx;omega⟩,fun l hl=>wN ?_⟩;rw [Zkq] at hl;have sc:l.length<=64:=by rw [hl.length_eq,Td];exact hvl
    refine ⟨⟨l,0,rfl,rfl,oM,hl⟩,?_⟩
    rintro w σ1 ⟨l',j,hw,rfl,hj,hl'⟩
    obtain rfl:l=l':=UG (by
     have e:=congrArg (fun t:List PV=>t[1]?) hw;have e:=Option.some.inj e
     injection e with e
     injection e)
    have hw:w=[.sl 0 3 (Zhk v (l.take j)),.d (.int .i64 j)]:=congrArg (List.drop 4) hw;subst hw;(conv=>whnf);refine ZEH (fun hq=>?_) (fun hq=>?_);rotate_left
    ·have hq:¬(j:Int)<((Xb l).length:Nat):=hq;have o9:(Xb l).length=l.length:=Td ..;(conv=>whnf);rw [List.take_of_length_le oM];exact h l 0 hl
    have o9:(Xb l).length=l.length:=Td ..;have ab:j<l.length:=by have hq:(j:Int)<((Xb l).length:Nat):=hq;omega
    obtain ⟨m,hm⟩:=ZA3 (hl.mem_iff.1 (TE ab));have hr:(Xb l)[(j:Int).toNat]?=some [.str l[j]]:=by rw [Tl,Th,Tb ab];rfl
    have ht:Zhk v (l.take (j+1))=Zhk v (l.take j)++[[.int .i64 m]]:=by
     simp only [Zhk,XW];rw [List.take_add_one,Tb ab];simp only [Sc,Option.toList_some,Tx,TM,hm,Sl]
    have yg:(Zhk v (l.take j)).length=j:=by simp [Zhk,XW];omega
    generalize l[j]=s at hm hr;(conv=>whnf);refine ⟨_,oM,hr,wN ?_⟩;refine optK.yes (a:=.one (.int .i64 m)) (by rw [ZK,hm];rfl) (wN ?_);refine ⟨fun r hr=>by simp at hr;subst hr;rfl,?_,?_,?_⟩
    ·show ((Zhk v (l.take j)).length+1) * 8<=2 ^ 47;omega
    ·show (Zhk v (l.take j)).length+1<=2 ^ 47;omega
    conv=>whnf
    refine Zi ?_;refine ⟨⟨l,j+1,by rw [ht];rfl,rfl,oM,hl⟩,?_⟩;show (((Xb l).length:Int) - ((j:Int)+1)).toNat<(((Xb l).length:Int) - (j:Int)).toNat;omega
   have hv:WI pl ⟨p1,p2,p3⟩ i=[]:=by
    unfold WI
    split
    ·rename_i g
     rw [T6 (by show p3.length<=_;omega)]
    rfl
   have bad:=bad hv;refine ⟨Zo [],Xn [],Yd [],0,false,sM,Tc rfl,wN ?_⟩;refine ⟨pl,⟨p1,p2,p3⟩,rfl,⟨hc,hn,hz⟩,fun g=>absurd ho g,fun _ a e g2=>(by rw [ge] at g2;cases g2),fun _ _=>wN ?_⟩;refine ZEH (fun g=>wN ?_) (fun g=>wN ?_)
   ·exact bad _
   have i6:((p3.map (Zy pl)).length:Int)<=i:=by have g:¬i<0:=g;omega
   (repeat (first | (refine ZEH (fun q=>absurd q g) (fun _=>?_);conv=>whnf) | (refine ZEH (fun _=>?_) (fun q=>absurd i6 q);conv=>whnf)))
   exact bad _
  have hv:WI pl ⟨p1,p2,p3⟩ i=[]:=by
   unfold WI
   rw [Tf (fun g=>hk g.1)]
  have bad:=bad hv;refine ⟨Zo [],Xn [],Yd [],0,false,sM,Tc rfl,wN ?_⟩;refine ⟨pl,⟨p1,p2,p3⟩,rfl,⟨hc,hn,hz⟩,fun g=>wN ?_,fun g a e g2=>wN ?_,fun g g2=>absurd (by rw [Zbq,Tf (fun q=>q g),g2]) hk⟩
  ·refine ZEJ (fun _=>wN ?_) (fun g3=>absurd (by have g3:((Zaw (prU ⟨p1,p2,p3⟩)).2:Int)=0:=g3;omega) g)
   (repeat (refine ⟨rfl,?_⟩;conv=>whnf))
   exact bad _
  have he:e≠0:=by
   intro q
   subst q;exact hk (by rw [Zbq,Tf (fun q=>q g),g2];rfl)
  refine ZEJ (fun _=>wN ?_) (fun g3=>absurd (by have g3:(e:Int)=0:=g3;omega) he)
  (repeat (refine ⟨rfl,?_⟩;conv=>whnf))
  exact bad _
 exact h.elim
def ZCW {n:Nat} (hp:PC w0 nG 20 (Zni XV JP Zaw n)):PC w0 nG 9 (ZlU n):=ZqV ⟨ZqE ⟨hp,ZqO,ZDN,Zkp _,ZqP _,trivial⟩,Zkp _,Zx9,ZqT,trivial⟩
def Zd4 (n:Nat):Zp:=fun args σ K=>match args,σ with
 | [.agg c1,.d (.int .i64 i)],⟨[],[],0⟩=>(∃pl p,c1=(UC pl p).map .d/\(JP n (prU p)/\n<=4194304/\ZbW p<=2097152))/\K (.ret (.d (.bool true))) ⟨[],[],0⟩
 | _,_=>False
def ZfQ (n:Nat):Tbl:=[(4,Zp5 UC ZbW bd5 6000),(5,Zcz),(8,ZdX (2 * n)),(9,ZlU (2 * n)),(6,Zko 16777216),(7,ZnA 16777216)]
def Ztx {r:Ru} {m:Nat} (h:wRu r<=m):wEs r.args<m+1/\wLs r.body<m+1:=by
 unfold wRu at h
 rw [<- Xs,<- X0] at h;omega
abbrev nBx (pl:Pl) (p:Pr) (j:Nat):List Box:=[.cells 26 ((UC pl p).map .d),.cells 26 [.d (.sl (p.types.map (Zs pl))),.d (.sl (p.rels.map (ZF pl))),.sl 0 32 (((p.rules.take j).map rnR).map (Zy pl))]]
abbrev nBz (pl:Pl) (p:Pr):List Box:=[.cells 26 ((UC pl p).map .d),.cells 26 [.d (.sl (p.types.map (Zs pl))),.d (.sl (p.rels.map (ZF pl))),.sl 0 32 ((p.rules.map rnR).map (Zy pl))]]
def Zya (pl:Pl) (p:Pr):nBx pl p p.rules.length=nBz pl p:=by unfold nBx;rw [Sj]
def ZnC {n:Nat} (ht:TO w0 nG (ZfQ n)):PC w0 nG 3 (Zd4 n):=by
 refine Wu ZI mixed (tbl:=ZfQ n) ht Tryz.func3 rfl kR kR ?_;intro args σ K h
 unfold Zd4 at h
 split at h
 ·rename_i i
  obtain ⟨⟨pl,⟨p1,p2,p3⟩,rfl,⟨hc,hn,hz⟩⟩,h⟩:=h;have kx:(p3.map (Zy pl)).length=p3.length:=Td ..;have hwr:∀r∈p3,wRu r<=4194304:=fun r hr=>by
   have hm:=JT (f:=wRu) hr;have h2:=hc.2.1;simp only [prU,wUn,ZpL,szS] at h2;omega
  have hp3:p3.length<=4194304:=by
   have hm:=Zn JL p3;simp only [ZbW] at hz;omega
  have hcp:JP (2 * n) (prU ⟨p1,p2,p3⟩):=⟨hc.1,by have:=hc.2.1;omega,hc.2.2⟩
  have hcq:=Ztu hc hn;have hzq:ZbW (rnP ⟨p1,p2,p3⟩)<=2097152:=by rw [Zx0];exact hz
  obtain ⟨⟨f8,mo⟩,hvl⟩:=ZiJ (pl:=pl) (i:=i) hc.2.1;generalize hV:WI pl ⟨p1,p2,p3⟩ i=v at f8 mo hvl;refine ⟨Zo [(6,⟨[6],[1,2,5],fun vs σ=>∃j:Nat,vs=[.d (.int .i64 j)]/\σ=⟨nBx pl ⟨p1,p2,p3⟩ j,[0],1⟩/\j<=p3.length,
    mu1 p3.length⟩),
   (21,⟨[18],[12,13,15,16],fun vs σ=>∃(l k:List Bs) (j:Nat),vs=[.d (.sl (Xb l)),.d (.sl (Zhk v l)),.d (.sl (Xb k)),.d (.sl (Zhk (rnV v) k)),.d (.int .i64 j)]/\σ=⟨nBz pl ⟨p1,p2,p3⟩,[0],1⟩/\l.Perm (v.map (·.1))/\k.Perm ((rnV v).map (·.1))/\j<=l.length,
    fun vs _=>match vs with | [_,_,_,_,.d (.int _ j)]=>((v.length:Int) - j).toNat | _=>0⟩),
   (25,⟨[19,20],[12,13,15,16,18],fun vs σ=>∃(l k:List Bs) (j m:Nat) (f:Bool) (s:Bs),vs=[.d (.sl (Xb l)),.d (.sl (Zhk v l)),.d (.sl (Xb k)),.d (.sl (Zhk (rnV v) k)),.d (.int .i64 j),.d (.bool f),.d (.int .i64 m)]/\σ=⟨nBz pl ⟨p1,p2,p3⟩,[0],1⟩ /\
     l.Perm (v.map (·.1))/\k.Perm ((rnV v).map (·.1))/\m<=k.length/\l[j]?=some s/\(f=true\/∃m',m<=m'/\k[m']?=some (s++[49])),
    fun vs _=>match vs with | [_,_,_,_,_,_,.d (.int _ j)]=>((v.length:Int) - j).toNat | _=>0⟩)],Xn [],Yd [21,25],0,false,sM,Tc rfl,?_⟩
  conv=>whnf
  refine ⟨pl,⟨p1,p2,p3⟩,1073741824,rfl,⟨⟨dM,dM⟩,dM,oM,dM⟩,fun r lk bi=>wN ?_⟩;refine ZEH (fun hcr=>wN ?_) (fun hcr=>wN ?_)
  ·exact h
  refine ⟨⟨0,rfl,rfl,oM⟩,?_⟩
  rintro vs σ1 ⟨j,rfl,rfl,hj⟩
  by_cases mf:j=p3.length
  rotate_left
  ·conv=>whnf
   refine ZEH (fun hq=>?_) (fun hq=>absurd (by have hq:¬(j:Int)<((p3.map (Zy pl)).length:Nat):=hq;omega) mf);have ab:j<p3.length:=by have hq:(j:Int)<((p3.map (Zy pl)).length:Nat):=hq;omega
   have hr:(p3.map (Zy pl))[(j:Int).toNat]?=some (Zy pl p3[j]):=by rw [Tl,Th,Tb ab];rfl
   have hw:=Ztx (hwr _ (TE ab));have ht:((p3.take (j+1)).map rnR).map (Zy pl)=((p3.take j).map rnR).map (Zy pl)++[Zy pl (rnR p3[j])]:=by
    rw [List.take_add_one,Tb ab];simp only [Sc,Option.toList_some,Tx,TM]
   have yg:(((p3.take j).map rnR).map (Zy pl)).length=j:=sO;have hμ:((p3.length:Int) - ((j:Int)+1)).toNat<((p3.length:Int) - (j:Int)).toNat:=oM;generalize p3[j]=x at hr hw ht;obtain ⟨r1,r2,r3,r4⟩:=x;(conv=>whnf);refine ⟨_,oM,hr,wN ?_⟩;refine ⟨pl,r2,rfl,⟨by have:=hw.1;simp only at this;omega,dM⟩,wN ?_⟩;refine ⟨pl,r3,rfl,⟨by have:=hw.2;simp only at this;omega,dM⟩,wN ?_⟩;refine ⟨fun r hr=>by simp at hr;subst hr;rfl,?_,?_,?_⟩
   ·show ((((p3.take j).map rnR).map (Zy pl)).length+1) * 72<=2 ^ 47;omega
   ·show (((p3.take j).map rnR).map (Zy pl)).length+1<=2 ^ 47;omega
   conv=>whnf
   refine Zi ?_;exact ⟨⟨j+1,rfl,by unfold nBx;rw [ht];rfl,oM⟩,hμ⟩
  subst mf;rw [show nBx pl ⟨p1,p2,p3⟩ p3.length=nBz pl ⟨p1,p2,p3⟩ from Zya pl ⟨p1,p2,p3⟩];(conv=>whnf);refine ZEH (fun hq=>absurd hq (by show ¬(p3.length:Int)<((p3.map (Zy pl)).length:Nat);omega)) (fun hq=>wN ?_);refine ⟨pl,⟨p1,p2,p3⟩,rfl,⟨hcp,oM,hz⟩,fun a e hae=>wN ?_⟩;refine ⟨pl,rnP ⟨p1,p2,p3⟩,rfl,⟨hcq,oM,hzq⟩,fun b f hbf=>?_⟩
  by_cases e1:e=160
  ·subst e1;exact mq52
  by_cases e2:e=3
  ·subst e2;exact mq52
  by_cases f1:f=160
  ·subst f1;exact mq151
  by_cases f2:f=3
  ·subst f2;exact mq151
  have y3:=Ztv hae hbf e1 e2 f1 f2;have hq:=ZqN (i:=i) y3;rw [hV] at hq;obtain ⟨rfl,rfl⟩:b=a/\f=e:=by
   rw [y3,hae] at hbf
   cases hbf;exact ⟨rfl,rfl⟩
  conv=>whnf
  (repeat (refine ZEH (fun g=>absurd g (by assumption)) (fun _=>?_);conv=>whnf))
  refine ⟨pl,⟨p1,p2,p3⟩,rfl,⟨hcp,oM,hz⟩,fun v' t7 l e3 hl=>?_⟩;rw [hV] at t7;subst t7;(conv=>whnf);refine ⟨pl,rnP ⟨p1,p2,p3⟩,rfl,⟨hcq,oM,hzq⟩,fun v' t7 k e4 hk=>?_⟩;rw [hq] at t7;subst t7;have sc:l.length=v.length:=by rw [hl.length_eq,Td]
  have n7:l.length=k.length:=Zx3 hl hk;have o9:(Xb l).length=l.length:=Td ..;have hrk:(Xb k).length=k.length:=Td ..;have yq:((Xb l).length:Int)=((Xb k).length:Nat):=oM;(conv=>whnf)
  (repeat (first | (refine ZEJ (fun g=>absurd rfl g) (fun _=>?_);conv=>whnf) | (refine ZEJ (fun g=>absurd yq g) (fun _=>?_);conv=>whnf)))
  refine ⟨⟨l,k,0,rfl,rfl,hl,hk,oM⟩,?_⟩
  rintro vs σ1 ⟨l',k',j,bo,rfl,_,_,hj⟩
  obtain rfl:l=l':=UG (by
   have e:=Option.some.inj (congrArg (fun t:List PV=>t[0]?) bo)
   injection e with e
   injection e)
  obtain rfl:k=k':=UG (by
   have e:=Option.some.inj (congrArg (fun t:List PV=>t[2]?) bo)
   injection e with e
   injection e)
  have bo:vs=[.d (.int .i64 j)]:=congrArg (List.drop 4) bo;subst bo;(conv=>whnf);refine ZEH (fun lh=>?_) (fun lh=>?_);rotate_left
  ·exact mq52
  have ab:j<l.length:=by have lh:(j:Int)<((Xb l).length:Nat):=lh;omega
  have cj:=TE ab;have lf:l[j]?=some l[j]:=Tb ab;obtain ⟨mm,acs,act⟩:=T9 (ZA2 hl hk cj);have gk:k[mm]?=some (l[j]++[49]):=by rw [Tb acs,act]
  have ee:=mo _ (hl.mem_iff.1 cj);generalize l[j]=s at lf gk ee;have hμ:((v.length:Int) - ((j:Int)+1)).toNat<((v.length:Int) - (j:Int)).toNat:=oM;(conv=>whnf);refine ⟨⟨l,k,j,0,false,s,rfl,rfl,hl,hk,oM,lf,.inr ⟨mm,oM,gk⟩⟩,?_⟩
  rintro vs σ1 ⟨l',k',j',m,f,s',bo,rfl,_,_,hm,l0,hf⟩
  obtain rfl:l=l':=UG (by
   have e:=Option.some.inj (congrArg (fun t:List PV=>t[0]?) bo)
   injection e with e
   injection e)
  obtain rfl:k=k':=UG (by
   have e:=Option.some.inj (congrArg (fun t:List PV=>t[2]?) bo)
   injection e with e
   injection e)
  obtain rfl:j=j':=by
   have e:=Option.some.inj (congrArg (fun t:List PV=>t[4]?) bo)
   injection e with e
   injection e with _ e
   omega
  have bo:vs=[.d (.bool f),.d (.int .i64 m)]:=congrArg (List.drop 5) bo;subst bo;obtain rfl:s=s':=by rw [lf] at l0;cases l0;rfl
  have fx:k.length=v.length:=oM;(conv=>whnf);refine ZEH (fun qr=>?_) (fun qr=>?_);rotate_left
  ·have i6:k.length<=m:=by have qr:¬(m:Int)<((Xb k).length:Nat):=qr;omega
   rcases hf with rfl | ⟨m',g1,g2⟩
   ·conv=>whnf
    refine Zi ?_;exact ⟨⟨l,k,j+1,rfl,rfl,hl,hk,oM⟩,hμ⟩
   have:=(Ti.1 g2).1;omega
  have lg:m<k.length:=by have qr:(m:Int)<((Xb k).length:Nat):=qr;omega
  have yv:((v.length:Int) - ((m:Int)+1)).toNat<((v.length:Int) - (m:Int)).toNat:=oM
  cases f with
  | true =>
   conv=>whnf
   refine Zi ?_;exact ⟨⟨l,k,j,m+1,true,s,rfl,rfl,hl,hk,oM,lf,.inl rfl⟩,yv⟩
  | false =>
  obtain ⟨t,cn⟩:∃t,k[m]?=some t:=⟨_,Tb lg⟩
  have q1:(Xb k)[(m:Int).toNat]?=some [.str t]:=by rw [Tl,Th,cn];rfl
  have q2:(Xb l)[(j:Int).toNat]?=some [.str s]:=by rw [Tl,Th,lf];rfl
  have q3:(Zhk v l)[(j:Int).toNat]?=some [.int .i64 ((lkM s v).getD 0)]:=by rw [Tl];simp [Zhk,XW,lf]
  have q4:(Zhk (rnV v) k)[(m:Int).toNat]?=some [.int .i64 ((lkM t (rnV v)).getD 0)]:=by rw [Tl];simp [Zhk,XW,cn]
  conv=>whnf
  refine ⟨_,oM,q1,wN ?_⟩;refine ⟨_,oM,q2,wN ?_⟩;refine ⟨by simp only [Te,Tg];omega,wN ?_⟩;refine ZEH (fun g=>?_) (fun g=>wN ?_)
  ·rw [g,Zto] at q4;generalize (lkM s v).getD 0=nn at q3 q4;(conv=>whnf);refine ⟨_,oM,q3,wN ?_⟩;refine ⟨_,oM,q4,wN ?_⟩
   (repeat (refine ZEH (fun _=>?_) (fun g2=>absurd g g2);conv=>whnf))
   refine Zi ?_;exact ⟨⟨l,k,j,m+1,decide (nn=nn),s,rfl,rfl,hl,hk,oM,lf,.inl sM⟩,yv⟩
  have hf2:∃m',m+1<=m'/\k[m']?=some (s++[49]):=by
   rcases hf with hf | ⟨m',g1,g2⟩
   ·cases hf
   refine ⟨m',?_,g2⟩
   by_cases acu:m'=m
   ·subst acu;rw [cn] at g2
    cases g2
    exact absurd rfl g
   omega
  (repeat (refine ZEH (fun g2=>absurd g2 g) (fun _=>?_);conv=>whnf))
  refine Zi ?_;exact ⟨⟨l,k,j,m+1,false,s,rfl,rfl,hl,hk,oM,lf,.inr hf2⟩,yv⟩
 exact h.elim
end Go.PM.Lex
end

section
namespace Go.PM
structure T8 (α:Type) where
 (a0 a1 a2 a3 a4 a5 a6 a7:α)
section
variable {α:Type}
def T8.get (d:α) (t:T8 α):Nat->α
 | 0=>t.a0
 | 1=>t.a1
 | 2=>t.a2
 | 3=>t.a3
 | 4=>t.a4
 | 5=>t.a5
 | 6=>t.a6
 | 7=>t.a7
 | _=>d
def T8.set (t:T8 α) (x:α):Nat->T8 α
 | 0=>⟨x,t.a1,t.a2,t.a3,t.a4,t.a5,t.a6,t.a7⟩
 | 1=>⟨t.a0,x,t.a2,t.a3,t.a4,t.a5,t.a6,t.a7⟩
 | 2=>⟨t.a0,t.a1,x,t.a3,t.a4,t.a5,t.a6,t.a7⟩
 | 3=>⟨t.a0,t.a1,t.a2,x,t.a4,t.a5,t.a6,t.a7⟩
 | 4=>⟨t.a0,t.a1,t.a2,t.a3,x,t.a5,t.a6,t.a7⟩
 | 5=>⟨t.a0,t.a1,t.a2,t.a3,t.a4,x,t.a6,t.a7⟩
 | 6=>⟨t.a0,t.a1,t.a2,t.a3,t.a4,t.a5,x,t.a7⟩
 | 7=>⟨t.a0,t.a1,t.a2,t.a3,t.a4,t.a5,t.a6,x⟩
 | _=>t
def lt8 {P:Nat->Prop} {i:Nat} (h:i<8) (h0:P 0) (h1:P 1) (h2:P 2) (h3:P 3) (h4:P 4) (h5:P 5) (h6:P 6) (h7:P 7):P i:=by
 match i,h with
 | 0,_=>exact h0
 | 1,_=>exact h1
 | 2,_=>exact h2
 | 3,_=>exact h3
 | 4,_=>exact h4
 | 5,_=>exact h5
 | 6,_=>exact h6
 | 7,_=>exact h7
def ZEV (d:α) (t:T8 α) (x:α) {i j:Nat} (hi:i<8) (hj:j<8):(t.set x i).get d j=(match Nat.beq i j with | true=>x | false=>t.get d j):=by
 refine lt8 (P:=fun i=>(t.set x i).get d j=(match Nat.beq i j with | true=>x | false=>t.get d j)) hi ?_ ?_ ?_ ?_ ?_ ?_ ?_ ?_ <;> exact lt8 (P:=fun j=>T8.get d (T8.set t x _) j=(match Nat.beq _ j with | true=>x | false=>t.get d j)) hj rfl rfl rfl rfl rfl rfl rfl rfl
end
abbrev T64:=T8 (T8 PV)
def no8:T8 PV:=⟨.undef,.undef,.undef,.undef,.undef,.undef,.undef,.undef⟩
def no64:T64:=⟨no8,no8,no8,no8,no8,no8,no8,no8⟩
def Zyb (j:Nat):no8.get .undef j=.undef:=by unfold T8.get;split <;> rfl
def Zty (j:Nat):no64.get no8 j=no8:=by unfold T8.get;split <;> rfl
def Zkr (h:T64) (n:Nat):PV:=(h.get no8 (Nat.div n 8)).get .undef (Nat.mod n 8)
def Ztz (h:T64) (x:PV) (n:Nat):T64:=h.set ((h.get no8 (Nat.div n 8)).set x (Nat.mod n 8)) (Nat.div n 8)
def d8 {n:Nat} (h:n<64):Nat.div n 8<8:=Nat.div_lt_of_lt_mul h
def m8 (n:Nat):Nat.mod n 8<8:=Nat.mod_lt _ dM
def m64 (n:Nat):Nat.mod n 64<64:=Nat.mod_lt _ dM
def Zuw {k i j:Nat} (hk:0<k):Nat.beq i j=(match Nat.beq (Nat.div i k) (Nat.div j k) with | true=>Nat.beq (Nat.mod i k) (Nat.mod j k) | false=>false):=by
 have hi:k * Nat.div i k+Nat.mod i k=i:=Nat.div_add_mod i k;have hj:k * Nat.div j k+Nat.mod j k=j:=Nat.div_add_mod j k
 cases hb:Nat.beq (Nat.div i k) (Nat.div j k) with
 | false =>
  cases hc:Nat.beq i j with
  | false=>rfl
  | true=>rw [Tk hc,Nat.beq_refl] at hb;cases hb
 | true =>
 have h1:=Tk hb;simp only;rw [Bool.eq_iff_iff,Nat.beq_eq,Nat.beq_eq]
 constructor
 ·intro h;rw [h]
 intro h;rw [<- hi,<- hj,h1,h]
def Zd5 (h:T64) (x:PV) {i j:Nat} (hi:i<64) (hj:j<64):Zkr (Ztz h x i) j=(match Nat.beq i j with | true=>x | false=>Zkr h j):=by
 unfold Zkr Ztz
 rw [ZEV _ _ _ (d8 hi) (d8 hj),Zuw (k:=8) (i:=i) (j:=j) dM]
 cases hb:Nat.beq (Nat.div i 8) (Nat.div j 8) with
 | false=>rfl
 | true =>
 simp only;rw [ZEV _ _ _ (m8 i) (m8 j),Tk hb]
structure FT where
 h:T64
 r:List T64
def FT.leaf:FT:=⟨no64,[]⟩
def FT.blk (t:FT) (k:Nat):T64:=match k with
 | 0=>t.h
 | k+1=>match t.r[k]? with | some m=>m | none=>no64
def FT.get (t:FT) (n:Nat):PV:=Zkr (t.blk (Nat.div n 64)) (Nat.mod n 64)
def FT.put (x:PV) (t:FT) (n:Nat):Option FT:=match Nat.div n 64 with
 | 0=>some ⟨Ztz t.h x (Nat.mod n 64),t.r⟩
 | k+1=>match t.r[k]? with
  | some m=>some ⟨t.h,t.r.set k (Ztz m x (Nat.mod n 64))⟩
  | none=>none
def FT.full (n:Nat):FT:=⟨no64,List.replicate n no64⟩
def ZE1 (k:Nat):(FT.full k).get=fun _=>.undef:=by
 funext n
 have:(FT.full k).blk (Nat.div n 64)=no64:=by
  unfold FT.blk FT.full
  split
  ·rfl
  simp only [Se];split <;> rename_i h <;> split at h <;> first | (cases h;rfl) | (cases h;done) | rfl
 unfold FT.get Zkr
 rw [this,Zty,Zyb]
def ZEW {x:PV} {t:FT} {n:Nat} {t':FT} (h:t.put x n=some t'):t'.get=V4 t.get n x:=by
 funext j
 show Zkr (t'.blk _) _=(match Nat.beq n j with | true=>x | false=>Zkr (t.blk _) _);rw [Zuw (k:=64) (i:=n) (j:=j) dM];unfold FT.put at h
 split at h
 ·rename_i hk
  cases h
  rw [hk]
  cases hj:Nat.div j 64 with
  | zero=>exact Zd5 _ _ (m64 n) (m64 j)
  | succ k=>rfl
 rename_i k hk
 split at h
 ·rename_i m hm
  cases h
  rw [hk]
  cases hj:Nat.div j 64 with
  | zero=>rfl
  | succ k' =>
  have ab:k<t.r.length:=(Ti.1 hm).1
  cases hb:Nat.beq (k+1) (k'+1) with
  | true =>
   have:=Tk hb;have:k=k':=oM;subst this;simp only [FT.blk,SA ab,hm];exact Zd5 _ _ (m64 n) (m64 j)
  | false =>
  have ai:k≠k':=fun he=>by subst he;rw [Nat.beq_refl] at hb;cases hb
  simp only [FT.blk,SH ai]
 cases h
def argT:Nat->List PV->FT->Option FT
 | _,[],t=>some t
 | i,v::vs,t=>match argT (i+1) vs t with | some t=>t.put v i | none=>none
def ZlV {t0:FT} (h0:t0.get=fun _=>.undef):∀{vs:List PV} {i:Nat} {t:FT},argT i vs t0=some t->t.get=ZcH i vs
 | [],i,t,h=>by simp only [argT,Option.some.injEq] at h;subst h;rw [h0];rfl
 | v::vs,i,t,h=>by
  simp only [argT] at h;split at h
  ·rename_i t1 h1;rw [ZEW h,ZlV h0 h1];rfl
  cases h
section
variable {α β:Type}
def ZnD (n:Nat) (k:Nat->Option α):Option α:=match n with
 | 0=>k 0
 | m+1=>k (Nat.succ m)
def ZCX (n:Int) (k:Int->Option α):Option α:=match n with
 | .ofNat m=>ZnD m fun m=>k (.ofNat m)
 | .negSucc m=>ZnD m fun m=>k (.negSucc m)
def ZDQ (b:Bool) (k:Bool->Option α):Option α:=match b with | true=>k true | false=>k false
def ZyC (l:List β) (k:List β->Option α):Option α:=match l with
 | []=>k []
 | x::l=>ZyC l fun l=>k (x::l)
def ZCY (x:D) (k:D->Option α):Option α:=match x with
 | .int q n=>ZCX n fun n=>k (.int q n)
 | .bool b=>ZDQ b fun b=>k (.bool b)
 | .str s=>ZyC s fun s=>k (.str s)
 | .sl rows=>ZyC rows fun rows=>k (.sl rows)
 | .nilp=>k .nilp
 | .nilf=>k .nilf
 | .nili=>k .nili
def ZBL (v:PV) (k:PV->Option α):Option α:=match v with
 | .d x=>ZCY x fun x=>k (.d x)
 | .undef=>k .undef
 | .ptr b off=>ZnD b fun b=>ZnD off fun off=>k (.ptr b off)
 | .elem r off=>ZnD off fun off=>k (.elem r off)
 | .sl t e rows=>ZnD t fun t=>ZyC rows fun rows=>k (.sl t e rows)
 | .nils e=>k (.nils e)
 | .asl b off n=>k (.asl b off n)
 | .func f a c=>k (.func f a c)
 | .iface t v=>k (.iface t v)
 | .agg cs=>k (.agg cs)
 | .tuple vs=>k (.tuple vs)
 | .raw v=>k (.raw v)
 | .mp b=>ZnD b fun b=>k (.mp b)
 | .nilm=>k .nilm
def ZyD (l:List PV) (k:List PV->Option α):Option α:=match l with
 | []=>k []
 | v::l=>ZBL v fun v=>ZyD l fun l=>k (v::l)
def ZyE (l:List Nat) (k:List Nat->Option α):Option α:=match l with
 | []=>k []
 | n::l=>ZnD n fun n=>ZyE l fun l=>k (n::l)
def ZnM (l:List Box) (k:List Box->Option α):Option α:=match l with
 | []=>k []
 | .cells t cs::l=>ZyD cs fun cs=>ZnM l fun l=>k (.cells t cs::l)
 | .iter s p::l=>ZnD p fun p=>ZnM l fun l=>k (.iter s p::l)
 | .map cs bn ck::l=>ZyD cs fun cs=>ZyE bn fun bn=>ZnD ck fun ck=>ZnM l fun l=>k (.map cs bn ck::l)
 | x::l=>ZnM l fun l=>k (x::l)
def ZqW (σ:St) (k:St->Option α):Option α:=ZnM σ.bx fun bx=>ZyE σ.tk fun tk=>ZnD σ.nx fun nx=>k ⟨bx,tk,nx⟩
def JX (n:Nat) (k:Nat->Option α):ZnD n k=k n:=by cases n <;> rfl
def Zyc (n:Int) (k:Int->Option α):ZCX n k=k n:=by cases n <;> simp only [ZCX,JX]
def Zyd (n:Bool) (k:Bool->Option α):ZDQ n k=k n:=by cases n <;> rfl
def Zks:∀(l:List β) (k:List β->Option α),ZyC l k=k l
 | [],_=>rfl
 | x::l,k=>by simp only [ZyC,Zks l]
def Zye (x:D) (k:D->Option α):ZCY x k=k x:=by cases x <;> simp only [ZCY,Zyc,Zyd,Zks]
def ZqX (v:PV) (k:PV->Option α):ZBL v k=k v:=by cases v <;> simp only [ZBL,Zye,JX,Zks]
def Zd6:∀(l:List PV) (k:List PV->Option α),ZyD l k=k l
 | [],_=>rfl
 | v::l,k=>by simp only [ZyD,ZqX,Zd6 l]
def Zd7:∀(l:List Nat) (k:List Nat->Option α),ZyE l k=k l
 | [],_=>rfl
 | n::l,k=>by simp only [ZyE,JX,Zd7 l]
def JY:∀(l:List Box) (k:List Box->Option α),ZnM l k=k l
 | [],_=>rfl
 | .cells t cs::l,k=>by simp only [ZnM,Zd6,JY l]
 | .iter s p::l,k=>by simp only [ZnM,JX,JY l]
 | .loop a b c::l,k=>by simp only [ZnM,JY l]
 | .dmap m::l,k=>by simp only [ZnM,JY l]
 | .smap el m fo::l,k=>by simp only [ZnM,JY l]
 | .map cs bn ck::l,k=>by simp only [ZnM,Zd6,Zd7,JX,JY l]
def Zg0 (σ:St) (k:St->Option α):ZqW σ k=k σ:=by simp only [ZqW,JY,Zd7,JX]
end
end Go.PM
end

section
namespace Go.PM
def ieq:Int->Int->Bool
 | .ofNat m,.ofNat n=>Nat.beq m n
 | .negSucc m,.negSucc n=>Nat.beq m n
 | _,_=>false
def ilt:Int->Int->Bool
 | .ofNat m,.ofNat n=>Nat.ble (m+1) n
 | .negSucc m,.negSucc n=>Nat.ble (n+1) m
 | .negSucc _,.ofNat _=>true
 | .ofNat _,.negSucc _=>false
def ZqY (a b:Int):ieq a b=decide (a=b):=by
 cases a <;> cases b <;> simp only [ieq]
 ·rw [Bool.eq_iff_iff,Nat.beq_eq,decide_eq_true_iff,Int.ofNat_eq_natCast,Int.ofNat_eq_natCast];omega
 ·simp
 ·simp
 rw [Bool.eq_iff_iff,Nat.beq_eq,decide_eq_true_iff];simp
def ZiK (a b:Int):ilt a b=decide (a<b):=by
 cases a <;> cases b <;> simp only [ilt]
 ·rw [Bool.eq_iff_iff,SO,decide_eq_true_iff,Int.ofNat_eq_natCast,Int.ofNat_eq_natCast];omega
 ·symm;rw [decide_eq_false_iff_not,Int.ofNat_eq_natCast];omega
 ·symm;rw [decide_eq_true_iff,Int.ofNat_eq_natCast];omega
 rw [Bool.eq_iff_iff,SO,decide_eq_true_iff];omega
def ZBa (a b:Int):(!ilt a b)=decide (b<=a):=by
 rw [ZiK,<- decide_not];congr 1;rw [eq_iff_iff];omega
def ZDR:IntKind->Nat
 | .i8=>127 | .i16=>32767 | .i32=>2147483647 | .i64=>9223372036854775807 | .u8=>255 | .u16=>65535 | .u32=>4294967295 | .u64=>18446744073709551615
def Zg1 (k:IntKind) (n:Int):Int:=match n with
 | .ofNat m=>match Nat.ble m (ZDR k) with | true=>.ofNat m | false=>k.wrap (.ofNat m)
 | .negSucc m=>k.wrap (.negSucc m)
def Zg2 (k:IntKind) (n:Int):Zg1 k n=k.wrap n:=by
 cases n with
 | negSucc m=>rfl
 | ofNat m =>
 simp only [Zg1];split
 ·rename_i h
  have h:=Tc h
  symm
  cases k <;> simp only [ZDR] at h <;> simp [IntKind.wrap,IntKind.bits,IntKind.signed] <;> omega
 rfl
def ZeA:List UInt8->List UInt8->Bool
 | [],[]=>true
 | a::x,b::y=>match Nat.beq a.toNat b.toNat with | true=>ZeA x y | false=>false
 | _,_=>false
def Zg3:∀(a b:List UInt8),ZeA a b=decide (a=b)
 | [],[]=>rfl
 | [],_::_=>by simp [ZeA]
 | _::_,[]=>by simp [ZeA]
 | a::x,b::y=>by
  simp only [ZeA];split
  ·rename_i h
   have:a=b:=UInt8.toNat_inj.1 (Tk h);subst this;rw [Zg3 x y];simp
  rename_i h
  symm;rw [decide_eq_false_iff_not]
  intro he;cases he;simp at h
def Zyf (op:BinOp) (k:IntKind) (a b:Int):Option PV:=match op with
 | .add=>some (.d (.int k (Zg1 k (a+b)))) | .sub=>some (.d (.int k (Zg1 k (a - b)))) | .mul=>some (.d (.int k (Zg1 k (a * b))))
 | .quo=>match ieq b 0 with | true=>none | false=>some (.d (.int k (Zg1 k (a.tdiv b))))
 | .rem=>match ieq b 0 with | true=>none | false=>some (.d (.int k (a.tmod b)))
 | .and=>some (.d (.int k (Vz .and k a b))) | .or=>some (.d (.int k (Vz .or k a b))) | .xor=>some (.d (.int k (Vz .xor k a b))) | .andNot=>some (.d (.int k (Vz .andNot k a b)))
 | .eql=>some (.d (.bool (ieq a b))) | .neq=>some (.d (.bool (!ieq a b))) | .lss=>some (.d (.bool (ilt a b))) | .leq=>some (.d (.bool (!ilt b a)))
 | .gtr=>some (.d (.bool (ilt b a))) | .geq=>some (.d (.bool (!ilt a b)))
 | _=>none
def ZtA {op:BinOp} {k:IntKind} {a b:Int} {v:PV} {K:PV->Prop} (h:Zyf op k a b=some v) (hK:K v):ZtS op k a b K:=by
 have hw:∀n,K (.d (.int k (Zg1 k n)))->Zb3 k n K:=fun n h=>.inr (by rw [<- Zg2];exact h)
 cases op <;> simp only [Zyf,ZtS,Yi] at h |- <;> first
  | (cases h;first | exact hw _ hK | exact hK | (rw [ZBa] at hK;exact hK) | (simp only [ZqY,ZiK] at hK;exact hK))
  | (rw [ZqY] at h
     split at h
     ·cases h
     rename_i hd;cases h;exact ⟨of_decide_eq_false hd,by first | exact hw _ hK | exact hK⟩)
  | (cases h;done)
def ZDS (op:BinOp) (a b:List UInt8):Option PV:=match op with
 | .add=>match Nat.ble (a.length+b.length+1) 4611686018427387904 with | true=>some (.d (.str (a++b))) | false=>none
 | .eql=>some (.d (.bool (ZeA a b))) | .neq=>some (.d (.bool (!ZeA a b)))
 | .lss=>some (.d (.bool (Op.bytesLess a b))) | .geq=>some (.d (.bool (!Op.bytesLess a b)))
 | .leq=>some (.d (.bool (Op.bytesLess a b || ZeA a b))) | .gtr=>some (.d (.bool (!(Op.bytesLess a b || ZeA a b))))
 | _=>none
def shR (op:BinOp) (k:IntKind) (a b:Int):Option PV:=match op with
 | .shl=>match ilt b 0 with | true=>none | false=>some (.d (.int k (Zg1 k (a * 2 ^ (min b.toNat k.bits)))))
 | .shr=>match ilt b 0 with | true=>none | false=>some (.d (.int k (a.fdiv (2 ^ (min b.toNat k.bits)))))
 | _=>none
def ZBM:BinOp->Bool | .shl=>true | .shr=>true | _=>false
def Zyg (T:Tab) (op:BinOp) (t:TypeId) (x y:Operand) (px py:PV):Option PV :=
 match px,py with
 | .d (.int k a),.d (.int k' b)=>match ZBM op with
  | true=>shR op k a b
  | false=>match keq k k' with | true=>Zyf op k a b | false=>none
 | .d (.str a),.d (.str b)=>ZDS op a b
 | _,_=>none
def ZtB {T:Tab} {op:BinOp} {t:TypeId} {x y:Operand} {px py v:PV} {K:PV->Prop} (h:Zyg T op t x y px py=some v) (hK:K v):Zri T op t x y px py K:=by
 unfold Zyg at h
 unfold Zri
 split at h
 ·rename_i k a k' b
  cases hs:ZBM op with
  | true =>
   rw [hs] at h;simp only [shR] at h
   cases op <;> simp only [ZBM] at hs <;> first | (cases hs;done) | skip
   all_goals
    simp only [ZiK] at h |-;split at h
    ·cases h
    rename_i h1;cases h
    refine ⟨by have:=of_decide_eq_false h1;omega,?_⟩
    first | exact hK | (exact .inr (by rw [<- Zg2];exact hK))
  | false =>
  rw [hs] at h;simp only at h;split at h
  ·rename_i hq
   cases op <;> simp only [ZBM] at hs <;> first | (cases hs;done) | (simp only [hq];exact ZtA h hK)
  cases h
 ·rename_i a b
  simp only [ZDS] at h
  cases op <;> simp only [<- Zg3] at h |- <;> first
   | (cases h;exact hK)
   | (split at h
      ·rename_i hl;cases h;exact ⟨by have:=Tc hl;omega,hK⟩
      cases h)
   | (cases h;done)
 split
 ·exact False.elim (by solve_by_elim)
 ·exact False.elim (by solve_by_elim)
 cases op <;> simp only at h |- <;> first
  | (split at h
     ·rename_i hr;cases h;exact peqR_ok hr hK
     cases h)
  | (cases h;done)
end Go.PM
end

section
namespace Go.PM
def Zd8 (lo hi:Option PV) (len:Nat):Option (Nat×Nat) :=
 match lo,hi with
 | none,none=>some (0,len)
 | some x,none=>match x with
  | .d (.int _ (.ofNat n))=>match Nat.ble n len with | true=>some (n,len) | false=>none
  | _=>none
 | none,some y=>match y with
  | .d (.int _ (.ofNat m))=>match Nat.ble m len with | true=>some (0,m) | false=>none
  | _=>none
 | some x,some y=>match x,y with
  | .d (.int _ (.ofNat n)),.d (.int _ (.ofNat m))=>match Nat.ble n m,Nat.ble m len with | true,true=>some (n,m) | _,_=>none
  | _,_=>none
def ZiL {lo hi:Option PV} {len:Nat} {a b:Nat} {K:Nat->Nat->Prop} (h:Zd8 lo hi len=some (a,b)) (hK:K a b):X2 lo hi len K:=by
 unfold Zd8 at h
 unfold X2
 split at h
 ·cases h;exact hK
 ·exact mq123
 ·exact mq123
 split at h
 ·split at h
  ·rename_i co f6;cases h;have:=Tc co;have h2:=Tc f6;exact ⟨Int.natCast_nonneg _,Int.ofNat_le.2 this,Int.ofNat_le.2 h2,hK⟩
  cases h
 cases h
def ZlW (sz:Nat):List (List D)->Bool
 | []=>true
 | r::l=>match Nat.beq r.length sz with | true=>ZlW sz l | false=>false
def Zd9 {sz:Nat}:∀{l:List (List D)},ZlW sz l=true->∀r∈l,r.length=sz
 | [],_,r,hr=>by cases hr
 | x::l,h,r,hr=>by
  simp only [ZlW] at h;split at h
  ·rename_i hb
   rcases Tt.1 hr with rfl | hr
   ·exact Tk hb
   exact Zd9 h r hr
  cases h
def W6:TK->Bool | .other=>true | _=>false
def ZlX (x:PV) (lo hi:Option PV):Option PV:=match x with
 | .d (.str s)=>match Zd8 lo hi s.length with | some (a,b)=>some (.d (.str (cut s a b))) | none=>none
 | _=>none
def Zkt (T:Tab) (t:TypeId) (x:PV) (lo hi:Option PV):Option PV:=match (T.get t).kind with
 | .string=>ZlX x lo hi
 | _=>none
def U1 {k:TK} (h:W6 k=false) {X:Prop}:X->(match (generalizing:=false) k with | .other=>False | _=>X):=fun x=>by
 cases k <;> first | exact x | (cases h;done)
def ZnE {T:Tab} {t:TypeId} {x:PV} {lo hi:Option PV} {v:PV} {K:PV->Prop} (h:Zkt T t x lo hi=some v) (hK:K v):VY T t x lo hi K:=by
 unfold Zkt at h
 unfold VY
 split at h
 ·rename_i hk
  simp only [hk];unfold ZlX at h
  split at h
  ·split at h
   ·rename_i hb;cases h;exact ZiL hb hK
   cases h
  cases h
 cases h
def ZBb (T:Tab) (t:TypeId) (cs:List PV) (off:Nat):Option PV:=match (T.get t).kind.isAgg with
 | true=>match W8 (T.get t).size (cs.drop off) with | some l=>some (.agg l) | none=>none
 | false=>match W6 (T.get t).kind with | true=>none | false=>cs[off]?
def ZBc (T:Tab) (t:TypeId) (r:List D) (off:Nat):Option PV:=match (T.get t).kind.isAgg with
 | true=>match W8 (T.get t).size (r.drop off) with | some l=>some (.agg (l.map .d)) | none=>none
 | false=>match W6 (T.get t).kind with | true=>none | false=>match r[off]? with | some v=>some (.d v) | none=>none
def ZlY (T:Tab) (t:TypeId) (x:PV) (bx:List Box):Option PV:=match x with
 | .ptr b off=>match bx[b]? with
  | some (.cells _ cs)=>ZBb T t cs off
  | _=>none
 | .elem r off=>ZBc T t r off
 | _=>none
def ZiM {T:Tab} {t:TypeId} {x:PV} {bx:List Box} {v:PV} {K:PV->Prop} (h:ZlY T t x bx=some v) (hK:K v):Jm T t x bx K:=by
 unfold ZlY at h
 unfold Jm
 split at h
 ·split at h
  ·rename_i hb
   simp only [hb];unfold ZBb at h
   split at h <;> rename_i hk <;> simp only [hk]
   ·split at h
    ·rename_i h1;cases h;simp only [h1];exact hK
    cases h
   split at h
   ·cases h
   rename_i ho;refine U1 ho ?_;rw [h];exact hK
  cases h
 ·unfold ZBc at h
  split at h <;> rename_i hk <;> simp only [hk]
  ·split at h
   ·rename_i h1;cases h;simp only [h1];exact hK
   cases h
  split at h
  ·cases h
  rename_i ho
  refine U1 ho ?_;split at h
  ·rename_i h1;cases h;rw [h1];exact hK
  cases h
 cases h
def Vx (T:Tab) (fs:List (Nat×Nat)) (ρ:Operand->PV):List (Nat×Operand)->List PV->Option (List PV)
 | [],cs=>some cs
 | (i,x)::ps,cs=>match fs[i]?,(ρ x).cells with
  | some (o,t),some l=>match Nat.beq l.length (T.get t).size,Nat.ble (o+l.length) cs.length,W6 (T.get t).kind with
   | true,true,false=>Vx T fs ρ ps (ZT cs o l)
   | _,_,_=>none
  | _,_=>none
def ZaI {T:Tab} {fs:List (Nat×Nat)} {ρ:Operand->PV}:∀{ps:List (Nat×Operand)} {cs r:List PV} {K:List PV->Prop},Vx T fs ρ ps cs=some r->K r->Z8 T fs ρ ps cs K
 | [],cs,r,K,h,hK=>by simp only [Vx,Option.some.injEq] at h;subst h;exact hK
 | (i,x)::ps,cs,r,K,h,hK=>by
  unfold Vx at h
  unfold Z8
  split at h
  ·rename_i o t l h1 h2
   simp only [h1,h2];split at h
   ·rename_i h3 h4 h5
    simp only [h3,h4];split
    ·rename_i he;rw [he] at h5;cases h5
    ·exact ZaI h hK
    rename_i hn _;exact (hn rfl rfl).elim
   cases h
  cases h
end Go.PM
end

section
namespace Go.PM
def ZtC (T:Tab) (ty:TypeId) (v:PV):Option PV:=match v with
 | .nils _=>match (T.get ty).kind with | .slice e=>some (.nils e) | _=>some (.nils 0)
 | v=>some v
def ZlZ {T:Tab} {ty:TypeId} {v u:PV} {K:PV->Prop} (h:ZtC T ty v=some u) (hK:K u):(match (generalizing:=false) v with | .nils _=>(match (T.get ty).kind with | .slice e=>K (.nils e) | _=>K (.nils 0)) | v=>K v):=by
 cases v <;> simp only [ZtC] at h |- <;> first
  | (cases h;exact hK)
  | (cases hk:(T.get ty).kind <;> rw [hk] at h <;> cases h <;> exact hK)
def ZBd (c a b:PV):Option PV:=match c with | .d (.bool true)=>some a | .d (.bool false)=>some b | _=>none
def Zux (T:Tab) (t:TypeId) (ρ:Operand->PV) (ps:List (Nat×Operand)):Option PV:=match (T.get t).kind with
 | .struct fs=>match Vx T fs ρ ps (T.get t).zero with | some cs=>some (.agg cs) | none=>none
 | _=>none
def ZiN (v:PV):Option PV:=match v with
 | .ptr b off=>some (.ptr b off)
 | .elem r off=>some (.elem r off)
 | _=>none
def unR (op:UnOp) (v:PV):Option PV:=match op,v with
 | .not,.d (.bool b)=>some (.d (.bool (!b)))
 | _,_=>none
def ZBe (T:Tab) (s d:TypeId) (v:PV):Option PV:=match (T.get s).kind with
 | .other=>none
 | .slice e=>none
 | _=>match (T.get d).kind,v with
  | .int k,.d (.int _ n)=>some (.d (.int k (Zg1 k n)))
  | .string,.d (.str s)=>some (.d (.str s))
  | _,_=>none
def ZfR (T:Tab) (s:TypeId) (v:PV) (i:Nat):Option PV:=match (T.get s).kind with
 | .struct fs=>match fs[i]?,v with
  | some (o,_),.ptr b off=>some (.ptr b (off+o))
  | some (o,_),.elem r off=>some (.elem r (off+o))
  | _,_=>none
 | _=>none
def Zuy (T:Tab) (t:TypeId) (v i:PV):Option PV:=match i with
 | .d (.int _ (.ofNat n))=>match (T.get t).kind,v with
  | .string,.d (.str s)=>(match s[n]? with | some b=>some (.d (.int .u8 b.toNat)) | none=>none)
  | _,_=>none
 | _=>none
def ZfS (T:Tab) (t:TypeId) (v i:PV):Option PV:=match i with
 | .d (.int _ (.ofNat n))=>match (T.get t).kind with
  | .slice e=>match W6 (T.get e).kind with
   | true=>none
   | false=>match v with
    | .d (.sl rows)=>(match rows[n]? with | some r=>(match Nat.beq r.length (T.get e).size with | true=>some (.elem r 0) | false=>none) | none=>none)
    | .sl _ _ rows=>(match rows[n]? with | some r=>(match Nat.beq r.length (T.get e).size with | true=>some (.elem r 0) | false=>none) | none=>none)
    | _=>none
  | _=>none
 | _=>none
def Zl0 (v:PV) (i:Nat):Option PV:=match v with
 | .tuple vs=>vs[i]?
 | _=>none
def ZDT (T:Tab) (t:TypeId) (v:PV) (bx:List Box):Option PV:=match (T.get t).kind with
 | .string=>(match v with | .d (.str s)=>some (.d (.int .i64 s.length)) | _=>none)
 | .slice _=>match v with
  | .asl _ _ n=>none
  | v=>(match toD v with | some (.sl rows)=>some (.d (.int .i64 rows.length)) | _=>none)
 | _=>none
def ZDU (a b:PV):Option PV:=match a,b with
 | .d (.int k a),.d (.int k' b)=>(match keq k k',ilt b a with | true,true=>some (.d (.int k b)) | true,false=>some (.d (.int k a)) | _,_=>none)
 | _,_=>none
def Zl1 (T:Tab) (b:Builtin) (ts:List TypeId) (vs:List PV) (bx:List Box):Option PV:=match b,ts,vs with
 | .len,t::_,[v]=>ZDT T t v bx
 | .min,_,[a,b]=>ZDU a b
 | _,_,_=>none
def Zuz (T:Tab) (ρ:Operand->PV) (bx:List Box) (c:Call):Option PV:=match c with
 | { callee:=.builtin b,args,argTypes }=>Zl1 T b argTypes.toList (args.toList.map ρ) bx
 | _=>none
def ZCZ (T:Tab) (o:Op) (ty:TypeId) (ρ:Operand->PV) (bx:List Box):Option PV:=match o with
 | .move x=>ZtC T ty (ρ x)
 | .assign x=>ZtC T ty (ρ x)
 | .pick c a b=>ZBd (ρ c) (ρ a) (ρ b)
 | .build t ps=>Zux T t ρ ps.toList
 | .load t a=>ZlY T t (ρ a) bx
 | .nilCheck x=>ZiN (ρ x)
 | .binOp op t x y _=>Zyg T op t x y (ρ x) (ρ y)
 | .unOp op _ x=>unR op (ρ x)
 | .convert s d x=>ZBe T s d (ρ x)
 | .fieldAddr s x i=>ZfR T s (ρ x) i
 | .index t x i=>Zuy T t (ρ x) (ρ i)
 | .indexAddr t x i=>ZfS T t (ρ x) (ρ i)
 | .slice t x lo hi none=>Zkt T t (ρ x) (lo.map ρ) (hi.map ρ)
 | .extract x i=>Zl0 (ρ x) i
 | .call c=>Zuz T ρ bx c
 | _=>none
def Zyh {T:Tab} {o:Op} {ty:TypeId} {ρ:Operand->PV} {bx:List Box} {v:PV} {K:PV->Prop} (h:ZCZ T o ty ρ bx=some v) (hK:K v):qop T o ty ρ bx K:=by
 unfold ZCZ at h
 split at h
 ·exact ZlZ h hK
 ·exact ZlZ h hK
 ·unfold ZBd at h
  exact mq152
 ·unfold Zux at h
  simp only [qop];split at h
  ·rename_i hk
   simp only [hk];split at h
   ·rename_i h1;cases h;exact ZaI h1 hK
   cases h
  cases h
 ·exact ZiM h hK
 ·unfold ZiN at h
  exact mq152
 ·exact ZtB h hK
 ·unfold unR at h
  simp only [qop];split at h
  ·rename_i hx;cases h;simp only [hx];exact hK
  cases h
 ·unfold ZBe at h
  simp only [qop];split at h
  ·cases h
  ·cases h
  rename_i ew ia
  split
  ·rename_i hk;exact (ew hk).elim
  ·rename_i hk;exact (ia _ hk).elim
  split at h
  ·rename_i h1 h2;cases h;simp only [h1,h2];exact .inr (by rw [<- Zg2];exact hK)
  ·exact mq143
  cases h
 ·unfold ZfR at h
  simp only [qop];split at h
  ·rename_i hk
   simp only [hk];split at h
   ·exact mq143
   ·exact mq143
   cases h
  cases h
 ·unfold Zuy at h
  simp only [qop];split at h
  ·rename_i n hi
   simp only [hi];split at h
   ·rename_i s h1 h2
    simp only [h1,h2];split at h
    ·rename_i b hb
     cases h
     have ab:=(Ti.1 hb).1;refine ⟨Int.natCast_nonneg _,Int.ofNat_lt.2 ab,?_⟩;have:List.getD s (Int.ofNat n).toNat 0=b:=by show List.getD s n 0=b;rw [T2,hb];rfl
     rw [this];exact hK
    cases h
   cases h
  cases h
 ·unfold ZfS at h
  simp only [qop];split at h
  ·rename_i n hi
   simp only [hi];split at h
   ·rename_i hk
    simp only [hk];split at h
    ·cases h
    rename_i ho
    refine U1 ho ?_;split at h
    ·exact mq101
    ·exact mq101
    cases h
   cases h
  cases h
 ·exact ZnE h hK
 ·unfold Zl0 at h
  simp only [qop];split at h
  ·rename_i hx;simp only [hx,h];exact hK
  cases h
 ·unfold Zuz at h
  split at h
  ·unfold Zl1 at h
   simp only [qop];split at h
   ·rename_i h1 h2
    simp only [h1,h2];unfold ZDT at h
    split at h
    ·rename_i hk;simp only [hk];split at h
     ·cases h;exact hK
     cases h
    ·rename_i hk
     simp only [hk];split at h
     ·cases h
     rename_i hn
     split at h
     ·rename_i hd
      cases h
      split
      ·exact (hn _ _ _ rfl).elim
      simp only [hd];exact hK
     cases h
    cases h
   ·rename_i h1
    simp only [h1];unfold ZDU at h
    split at h
    ·split at h
     ·rename_i hq hl
      cases h
      simp only [hq];rw [ZiK] at hl;have hl:=Su hl;rw [Int.min_eq_right oM];exact hK
     ·rename_i hq hl
      cases h
      simp only [hq];rw [ZiK] at hl;have hl:=of_decide_eq_false hl;rw [Int.min_eq_left oM];exact hK
     cases h
    cases h
   cases h
  cases h
 cases h
end Go.PM
end

section
namespace Go.PM
def ZqZ (T:Tab) (e:Nat):Option (List D):=match W6 (T.get e).kind,Zl9 (T.get e).zero with
 | false,some z=>(match Nat.ble 1 z.length with | true=>some z | false=>none)
 | _,_=>none
def Zq0 {T:Tab} {e:Nat} {z:List D} (h:ZqZ T e=some z):W6 (T.get e).kind=false/\Zl9 (T.get e).zero=some z/\Nat.ble 1 z.length=true:=by
 unfold ZqZ at h
 split at h
 ·rename_i h1 h2
  split at h
  ·rename_i h3;cases h;exact ⟨h1,h2,h3⟩
  cases h
 cases h
def Zl2 (T:Tab) (t:TypeId) (n:Nat) (ρ:Operand->PV) (ps:List (Nat×Operand)):Option (Nat×List (List D)):=match (T.get t).kind with
 | .slice e=>match ZqZ T e with
  | some z=>(match Nat.ble (n * z.length) 16777216,ZaM z ρ n ps with | true,some rows=>some (e,rows) | _,_=>none)
  | none=>none
 | _=>none
def Zyi (T:Tab) (o:Op) (ty:TypeId) (ρ:Operand->PV) (bx:List Box):Option PV:=match Zi2 T o with
 | some x=>none
 | none=>match o with
  | .buildSlice t n ps=>(match Zl2 T t n ρ ps.toList with | some (_,rows)=>some (.d (.sl rows)) | none=>none)
  | .makeSlice t l c=>none
  | o=>ZCZ T o ty ρ bx
def ZtD {T:Tab} {o:Op} {ty:TypeId} {ρ:Operand->PV} {bx:List Box} {v:PV} {K:PV->Prop} (h:Zyi T o ty ρ bx=some v) (hK:K v):ZfV T o ty ρ bx K:=by
 unfold Zyi at h
 unfold ZfV
 split at h
 ·rename_i x hx
  cases h
 rename_i hx
 simp only [hx];split at h
 ·rename_i t n ps _
  simp only;split at h
  ·rename_i rows hb
   cases h
   unfold Zl2 at hb
   split at hb
   ·rename_i hk
    simp only [hk];split at hb
    ·rename_i z hz
     obtain ⟨h1,h2,h3⟩:=Zq0 hz;refine U1 h1 ?_;simp only [h2];split at hb
     ·rename_i h4 h5;cases hb;simp only [h3,h4,h5];exact hK
     cases hb
    cases hb
   cases hb
  cases h
 ·cases h
 rename_i ew ia
 have:=Zyh h hK;split
 ·exact (ew _ _ _ rfl).elim
 ·exact (ia _ _ _ rfl).elim
 exact this
def ZuA (T:Tab) (e:Nat) (σ:St):Option (PV×St):=match W6 (T.get e).kind with
 | true=>none
 | false=>some (.ptr σ.bx.length 0,σ.new (.cells e (T.get e).zero))
def ZDV (e:Nat) (v:PV) (σ:St):Option (PV×St):=match v.cells with
 | some l=>some (.ptr σ.bx.length 0,σ.new (.cells e l))
 | none=>none
def ZuB (T:Tab) (t:TypeId) (a v:PV) (σ:St):Option (PV×St):=match a with
 | .ptr b off=>match σ.bx[b]?,v.cells with
  | some (.cells ty cs),some l=>(match Nat.beq l.length (T.get t).size,Nat.ble (off+l.length) cs.length,W6 (T.get t).kind with
   | true,true,false=>some (.undef,σ.set b (.cells ty (ZT cs off l)))
   | _,_,_=>none)
  | _,_=>none
 | _=>none
def ZuC (T:Tab) (t:TypeId) (v:PV) (σ:St):Option (PV×St):=match (T.get t).kind,v with
 | .string,.d (.str s)=>some (.ptr σ.bx.length 0,σ.new (.iter s 0))
 | _,_=>none
def ZBf (v:PV) (σ:St):Option (PV×St):=match v with
 | .ptr b 0=>match σ.bx[b]? with
  | some (.iter s pos)=>(match Nat.ble (pos+1) s.length with
   | true=>some (.tuple [.d (.bool true),.d (.int .i64 pos),.d (.int .i32 (decodeL s pos).1)],σ.set b (.iter s (pos+(decodeL s pos).2)))
   | false=>some (.tuple [.d (.bool false)],σ))
  | _=>none
 | _=>none
def ZDW (T:Tab) (el:Nat) (s:PV) (more:List (List D)) (σ:St):Option (PV×St):=match W6 (T.get el).kind,Nat.ble 1 (T.get el).size,ZlW (T.get el).size more with
 | false,true,true=>match s with
  | .nils _=>(match Nat.ble (more.length * (T.get el).bytes) 140737488355328,Nat.ble more.length 140737488355328 with
   | true,true=>some (.sl σ.nx el more,{ σ with tk:=σ.nx::σ.tk,nx:=σ.nx+1 })
   | _,_=>none)
  | .sl tok e2 rows=>(match Zeh tok σ.tk,Nat.beq e2 el,Nat.ble ((rows.length+more.length) * (T.get el).bytes) 140737488355328,Nat.ble (rows.length+more.length) 140737488355328 with
   | true,true,true,true=>some (.sl σ.nx el (rows++more),{ σ with tk:=σ.nx::UH tok σ.tk,nx:=σ.nx+1 })
   | _,_,_,_=>none)
  | _=>none
 | _,_,_=>none
def Zq1 (T:Tab) (ts:List TypeId) (vs:List PV) (σ:St):Option (PV×St):=match ts,vs with
 | [t,tx],[s,x]=>match (T.get t).kind with
  | .slice el=>(match WK T tx el x with | some more=>ZDW T el s more σ | none=>none)
  | _=>none
 | _,_=>none
def ZC0 (T:Tab) (o:Op) (ρ:Operand->PV) (σ:St):Option (PV×St):=match o with
 | .alloc e=>ZuA T e σ
 | .box e x=>ZDV e (ρ x) σ
 | .store t a x=>ZuB T t (ρ a) (asT T t (ρ x)) σ
 | .range t x=>ZuC T t (ρ x) σ
 | .next x true=>ZBf (ρ x) σ
 | .call { callee:=.builtin .append,args,argTypes }=>Zq1 T argTypes.toList (args.toList.map ρ) σ
 | _=>none
def Zyj {T:Tab} {o:Op} {ρ:Operand->PV} {σ σ':St} {v:PV} {K:PV->St->Prop} (h:ZC0 T o ρ σ=some (v,σ')) (hK:K v σ'):eop T o ρ σ K:=by
 unfold ZC0 at h
 unfold eop
 split at h
 ·unfold ZuA at h
  split at h
  ·cases h
  rename_i ho;cases h;exact U1 ho hK
 ·unfold ZDV at h
  simp only;split at h
  ·rename_i hc;cases h;simp only [hc];exact hK
  cases h
 ·unfold ZuB at h
  simp only;split at h
  ·rename_i ha
   simp only [ha];split at h
   ·rename_i hb hc
    simp only [hb,hc];split at h
    ·rename_i h1 h2 h3
     cases h
     simp only [h1,h2];split
     ·rename_i he;rw [he] at h3;cases h3
     ·exact hK
     rename_i hn _;exact (hn rfl rfl).elim
    cases h
   cases h
  cases h
 ·unfold ZuC at h
  simp only;split at h
  ·exact mq143
  cases h
 ·unfold ZBf at h
  simp only;split at h
  ·rename_i ha
   simp only [ha];split at h
   ·rename_i s pos hb
    simp only [hb];split at h
    ·rename_i hl
     cases h
     rw [Sg (show pos<s.length from Tc hl)];exact hK
    rename_i hl
    cases h
    rw [decide_eq_false (show ¬pos<s.length from fun g=>by rw [Nat.ble_eq_true_of_le g] at hl;cases hl)];exact hK
   cases h
  cases h
 ·unfold Zq1 at h
  simp only;split at h
  ·rename_i h1 h2
   simp only [h1,h2];split at h
   ·rename_i hk
    simp only [hk];split at h
    ·rename_i hm
     unfold ZDW at h
     split at h
     ·rename_i ho hs hr
      refine U1 ho ?_;simp only [hs,hm];split at h
      ·split at h
       ·rename_i h3 h4
        cases h
        exact ⟨Zd9 hr,Tc h3,Tc h4,hK⟩
       cases h
      ·split at h
       ·rename_i h3 h4 h5 h6
        cases h
        simp only [h3,h4];exact ⟨Zd9 hr,Tc h5,Tc h6,hK⟩
       cases h
      cases h
     cases h
    cases h
   cases h
  cases h
 cases h
end Go.PM
end

section
namespace Go.PM
abbrev TS:=FT×St
abbrev ZBg:=PExit×FT×St
abbrev W7:=FuncId->List PV->St->Option (PEnd×St)
def ZyF (t:FT) (d:Option Nat) (v:PV) (σ:St):Option TS:=match d with
 | some i=>ZBL v fun v=>match t.put v i with | some t=>some (t,σ) | none=>none
 | none=>some (t,σ)
def Zbt {t:FT} {d:Option Nat} {v:PV} {σ:St} {s:TS} {K:Frame->St->Prop} (h:ZyF t d v σ=some s) (hK:K s.1.get s.2):Zhl t.get d v fun f=>K f σ:=by
 rw [ZY];unfold ZyF at h
 cases d with
 | none=>cases h;exact hK
 | some i =>
 simp only [ZqX] at h;split at h
 ·rename_i t' ht
  cases h
  have:=ZEW ht;simp only at hK;rw [this] at hK;exact hK
 cases h
def Zq2 (call:W7) (fv:PV) (args:List PV) (σ:St):Option (PV×St):=match fv with
 | .func g first caps=>(match call g (first++args++caps) σ with | some (.ret v,σ)=>some (v,σ) | _=>none)
 | _=>none
def ZuD (t:FT) (d:Option Nat) (r:Option (PV×St)):Option TS:=match r with
 | some (v,σ)=>ZqW σ fun σ=>ZyF t d v σ
 | none=>none
def ZDX (call:W7) (T:Tab) (o:Oper) (t:FT) (σ:St):Option (PV×St):=match o.op with
 | .call { callee:=.value x,args,.. }=>Zq2 call (ev t.get x) (args.toList.map (ev t.get)) σ
 | .panic x=>none
 | op=>ZC0 T op (ev t.get) σ
def ZiO (call:W7) (T:Tab) (o:Oper) (t:FT) (σ:St):Option TS:=match YQ o.op with
 | false=>(match Zyi T o.op o.type (ev t.get) σ.bx with | some v=>ZyF t o.dst v σ | none=>none)
 | true=>ZuD t o.dst (ZDX call T o t σ)
structure CxR (C:Cx) (call:W7) (T:Tab) (N:Nat):Prop where
 T:C.T=T
 call:∀{g args σ pe σ'} {K:PEnd->St->Prop},call g args σ=some (pe,σ')->K pe σ'->C.call g args σ K
 bsl:C.bsl=fun _=>false
 unr:C.unr=fun _=>N+1
 cut:C.cut=fun _=>none
 foc:C.foc=fun _=>false
def CxR.calm {C:Cx} {call:W7} {T:Tab} {N:Nat} (h:CxR C call T N):CxR C.calm call T N:=⟨h.T,h.call,h.bsl,h.unr,h.cut,h.foc⟩
section
variable {C:Cx} {call:W7} {T:Tab} {N:Nat} {Q:PQ} {K:Frame->St->Prop}
def Zea (hC:CxR C call T N) {o:Oper} {t:FT} {σ:St} {s:TS} (h:ZiO call T o t σ=some s) (hK:K s.1.get s.2):XS C o t.get σ Q K:=by
 unfold ZiO at h
 unfold XS
 split at h
 ·rename_i he
  simp only [he,hC.T];split at h
  ·rename_i hq;exact ZtD hq (Zbt h hK)
  cases h
 rename_i he
 simp only [he];unfold ZuD at h
 split at h
 ·rename_i v σ1 hq
  rw [Zg0] at h;unfold ZDX at hq
  split at hq
  ·rename_i x args _ ho
   simp only [ho];unfold Zq2 at hq
   unfold ZcD
   split at hq
   ·rename_i hf
    simp only [hf];split at hq
    ·rename_i hc
     cases hq
     refine hC.call hc ?_;simp only [ZL];exact Zbt h hK
    cases hq
   cases hq
  ·cases hq
  rename_i ew ia
  split
  ·rename_i ho;exact (ew _ _ _ ho).elim
  ·rename_i ho;exact (ia _ ho).elim
  rw [hC.T];refine Zyj hq ?_;simp only [ZL];exact Zbt h hK
 cases h
def Zl3 (call:W7) (T:Tab) (all:List Oper) (o:Oper) (t:FT) (σ:St):Option TS:=match o.guard with
 | none=>ZiO call T o t σ
 | some (j,want)=>match Wk all j with
  | some s=>(match t.get s with
   | .d (.bool b)=>(match b,want with
    | true,true=>ZiO call T o t σ
    | false,false=>ZiO call T o t σ
    | _,_=>ZyF t o.dst (.raw Go.undef) σ)
   | .raw (.tuple _)=>ZyF t o.dst (.raw Go.undef) σ
   | _=>none)
  | none=>none
def ZiP (hC:CxR C call T N) {all:List Oper} {o:Oper} {t:FT} {σ:St} {s:TS} (h:Zl3 call T all o t σ=some s) (hK:K s.1.get s.2):W9 C all Q o t.get σ K:=by
 unfold Zl3 at h
 unfold W9
 split at h
 ·rename_i hg;simp only [hg];exact Zea hC h hK
 rename_i j want hg
 simp only [hg];split at h
 ·rename_i hs
  simp only [hs];split at h
  ·rename_i b hb
   simp only [hb]
   cases b <;> cases want <;> simp only at h
   ·exact ZEY (by simp only [Xf hb];exact Zea hC h hK)
   ·exact ZEY (by simp only [Xf hb];exact Zbt h hK)
   ·exact ZEX (by simp only [Xf hb];exact Zbt h hK)
   exact ZEX (by simp only [Xf hb];exact Zea hC h hK)
  ·rename_i hb;simp only [hb];exact Zbt h hK
  cases h
 cases h
def ZtE (call:W7) (T:Tab) (all:List Oper):List Oper->FT->St->Option TS
 | [],t,σ=>some (t,σ)
 | o::rest,t,σ=>match Zl3 call T all o t σ with
  | some (t,σ)=>ZtE call T all rest t σ
  | none=>none
def Zl4 (hC:CxR C call T N) {all:List Oper}:∀{l:List Oper} {t:FT} {σ:St} {s:TS},ZtE call T all l t σ=some s->Q .normal s.1.get s.2->ZnJ C all Q l t.get σ
 | [],t,σ,s,h,hQ=>by cases h;exact hQ
 | o::rest,t,σ,s,h,hQ=>by
  unfold ZtE at h
  unfold ZnJ Zho
  have ho:ZeP C o=false:=by
   unfold ZeP
   rw [hC.bsl]
   cases o.dst <;> cases o.guard <;> rfl
  rw [ho];split at h
  ·rename_i hs
   exact ZiP hC hs (Zl4 hC h hQ)
  cases h
end
end Go.PM
end

section
namespace Go.PM
def ZBh {k k':IntKind} (h:keq k k'=true):k=k':=by cases k <;> cases k' <;> first | rfl | (cases h;done)
mutual
def Zro:D->D->Bool
 | .bool a,.bool b=>(match a,b with | true,true=>true | false,false=>true | _,_=>false)
 | .int k a,.int k' b=>(match keq k k' with | true=>ieq a b | false=>false)
 | .str a,.str b=>ZeA a b
 | .sl a,.sl b=>ZfT a b
 | .nilp,.nilp=>true
 | .nilf,.nilf=>true
 | .nili,.nili=>true
 | _,_=>false
def ZnF:List D->List D->Bool
 | [],[]=>true
 | x::l,y::m=>(match Zro x y with | true=>ZnF l m | false=>false)
 | _,_=>false
def ZfT:List (List D)->List (List D)->Bool
 | [],[]=>true
 | x::l,y::m=>(match ZnF x y with | true=>ZfT l m | false=>false)
 | _,_=>false
end
mutual
def Zq3:∀{x y:D},Zro x y=true->x=y
 | .bool a,y,h=>by
  cases y <;> simp only [Zro] at h <;> first | (cases h;done) | skip
  rename_i b;cases a <;> cases b <;> first | rfl | (cases h;done)
 | .int k a,y,h=>by
  cases y <;> simp only [Zro] at h <;> first | (cases h;done) | skip
  split at h
  ·rename_i hk;rw [ZqY] at h;rw [ZBh hk,Su h]
  cases h
 | .str a,y,h=>by
  cases y <;> simp only [Zro] at h <;> first | (cases h;done) | skip
  rw [Zg3] at h;rw [Su h]
 | .sl a,y,h=>by
  cases y <;> simp only [Zro] at h <;> first | (cases h;done) | skip
  rw [Zeb h]
 | .nilp,y,h=>by cases y <;> simp only [Zro] at h <;> first | rfl | (cases h;done)
 | .nilf,y,h=>by cases y <;> simp only [Zro] at h <;> first | rfl | (cases h;done)
 | .nili,y,h=>by cases y <;> simp only [Zro] at h <;> first | rfl | (cases h;done)
def Zg4:∀{x y:List D},ZnF x y=true->x=y
 | [],y,h=>by cases y <;> simp only [ZnF] at h <;> first | rfl | (cases h;done)
 | x::l,y,h=>by
  cases y <;> simp only [ZnF] at h <;> first | (cases h;done) | skip
  split at h
  ·rename_i h1;rw [Zq3 h1,Zg4 h]
  cases h
def Zeb:∀{x y:List (List D)},ZfT x y=true->x=y
 | [],y,h=>by cases y <;> simp only [ZfT] at h <;> first | rfl | (cases h;done)
 | x::l,y,h=>by
  cases y <;> simp only [ZfT] at h <;> first | (cases h;done) | skip
  split at h
  ·rename_i h1;rw [Zg4 h1,Zeb h]
  cases h
end
mutual
def ZBN:PV->PV->Bool
 | .d x,.d y=>Zro x y
 | .undef,.undef=>true
 | .ptr a b,.ptr c d=>(match Nat.beq a c with | true=>Nat.beq b d | false=>false)
 | .nils a,.nils b=>Nat.beq a b
 | .sl a b r,.sl c d q=>(match Nat.beq a c,Nat.beq b d with | true,true=>ZfT r q | _,_=>false)
 | .elem r a,.elem q b=>(match Nat.beq a b with | true=>ZnF r q | false=>false)
 | .agg x,.agg y=>Zku x y
 | .tuple x,.tuple y=>Zku x y
 | _,_=>false
def Zku:List PV->List PV->Bool
 | [],[]=>true
 | x::l,y::m=>(match ZBN x y with | true=>Zku l m | false=>false)
 | _,_=>false
end
mutual
def Zkv:∀{x y:PV},ZBN x y=true->x=y
 | x,y,h=>by
  cases x <;> cases y <;> simp only [ZBN] at h <;> first
   | (cases h;done)
   | rfl
   | rw [Zq3 h]
   | rw [Tk h]
   | rw [Zg5 h]
   | (split at h <;> first
     | (cases h;done)
     | (rename_i h1 h2;rw [Tk h1,Tk h2,Zeb h])
     | (rename_i h1;rw [Tk h1,Tk h])
     | (rename_i h1;rw [Tk h1,Zg4 h])
     | (rename_i h1;rw [Tk h1,Zkv h]))
def Zg5:∀{x y:List PV},Zku x y=true->x=y
 | [],y,h=>by cases y <;> simp only [Zku] at h <;> first | rfl | (cases h;done)
 | x::l,y,h=>by
  cases y <;> simp only [Zku] at h <;> first | (cases h;done) | skip
  split at h
  ·rename_i h1;rw [Zkv h1,Zg5 h]
  cases h
end
def ZC1:Option (Nat×List PV×List (List UInt8×MV))->Option (Nat×List PV×List (List UInt8×MV))->Bool
 | some (n,a,[]),some (m,b,[])=>(match Nat.beq n m,Zku a b with | true,true=>true | _,_=>false)
 | none,none=>true
 | _,_=>false
def Zyk {x y:Option (Nat×List PV×List (List UInt8×MV))} (h:ZC1 x y=true):x=y:=by
 unfold ZC1 at h
 split at h
 ·split at h
  ·rename_i h1 h2;rw [Tk h1,Zg5 h2]
  cases h
 ·rfl
 cases h
def Zq4 (ms:List Nat) (j:Nat) (pre post:List Box):List Ld->Bool
 | []=>true
 | ⟨i,b,off,n⟩::l=>match anc ms i j with
  | true=>Zq4 ms j pre post l
  | false=>match ZC1 (ZV pre b off n) (ZV post b off n) with | true=>Zq4 ms j pre post l | false=>false
def Zg6 {ms:List Nat} {j:Nat} {pre post:List Box} {X:Prop} (hX:X):∀{l:List Ld},Zq4 ms j pre post l=true->ZnQ ms j pre post l X
 | [],_=>hX
 | ⟨i,b,off,n⟩::l,h=>by
  unfold Zq4 at h
  unfold ZnQ
  split at h
  ·rename_i h1;simp only [h1];exact Zg6 hX h
  rename_i h1
  simp only [h1];split at h
  ·rename_i h2;exact ⟨Zyk h2,Zg6 hX h⟩
  cases h
def ZiQ (call:W7) (T:Tab) (all:List Oper) (ms:List Nat):List (Nat×Oper)->List Ld->FT->St->Option TS
 | [],_,t,σ=>some (t,σ)
 | (i,o)::rest,ctx,t,σ=>match Zl3 call T all o t σ with
  | some (t',σ')=>(match YQ o.op with
   | true=>(match Zq4 ms i σ.bx σ'.bx ctx with | true=>ZiQ call T all ms rest ctx t' σ' | false=>none)
   | false=>ZiQ call T all ms rest (V5 T o i t.get ctx) t' σ')
  | none=>none
def Zec {C:Cx} {call:W7} {T:Tab} {N:Nat} {Q:PQ} (hC:CxR C call T N) {all:List Oper} {ms:List Nat}:∀{l:List (Nat×Oper)} {ctx:List Ld} {t:FT} {σ:St} {s:TS},ZiQ call T all ms l ctx t σ=some s->Q .normal s.1.get s.2->X5 C all ms Q l ctx t.get σ
 | [],_,t,σ,s,h,hQ=>by cases h;exact hQ
 | (i,o)::rest,ctx,t,σ,s,h,hQ=>by
  unfold ZiQ at h
  unfold X5 X4
  split at h
  ·rename_i t1 σ1 hs
   refine ZiP hC hs ?_;simp only;split at h
   ·rename_i he
    simp only [he];split at h
    ·rename_i hc;exact Zg6 (Zec hC h hQ) hc
    cases h
   rename_i he
   simp only [he,hC.T];exact Zec hC h hQ
  cases h
def ZtF (S:FT->St->Option ZBg):Nat->FT->St->Option ZBg
 | 0,_,_=>none
 | n+1,t,σ=>match S t σ with
  | some (.normal,t,σ)=>ZtF S n t σ
  | r=>r
def ZDY (call:W7) (T:Tab) (ops:List Oper) (draw:Bool) (t:FT) (σ:St):Option TS:=match draw with
 | false=>ZtE call T ops ops t σ
 | true=>(match ZcG ops,ZeQ (Wl ops []) none (ZD 0 ops) with
  | none,true=>ZiQ call T ops (Wl ops []) (ZfX ops) [] t σ
  | _,_=>none)
def ZiR (call:W7) (T:Tab) (N:Nat):Code->FT->St->Option ZBg
 | .skip,t,σ=>some (.normal,t,σ)
 | .region _ ops draw,t,σ=>(match ZDY call T ops.toList draw t σ with | some (t,σ)=>some (.normal,t,σ) | none=>none)
 | .seq a b,t,σ=>(match ZiR call T N a t σ with
  | some (.normal,t,σ)=>ZiR call T N b t σ
  | r=>r)
 | .cond c x y,t,σ=>(match ev t.get c with
  | .d (.bool true)=>ZiR call T N x t σ
  | .d (.bool false)=>ZiR call T N y t σ
  | _=>none)
 | .block id b,t,σ=>(match ZiR call T N b t σ with
  | some (.exit i,t,σ)=>(match Nat.beq i id with | true=>some (.normal,t,σ) | false=>some (.exit i,t,σ))
  | r=>r)
 | .scope b,t,σ=>(match ZiR call T N b t σ with
  | some (.goto _,_,_)=>none
  | r=>r)
 | .exit id,t,σ=>some (.exit id,t,σ)
 | .ret,t,σ=>some (.ret,t,σ)
 | .loop b,t,σ=>ZtF (fun t σ=>ZiR call T N b t σ) (N+1) t σ
 | _,_,_=>none
def Zl5 {S:FT->St->Option ZBg} {W:PQ->Frame->St->Prop} (hS:∀{Q t σ e t' σ'},S t σ=some (e,t',σ')->Q e t'.get σ'->W Q t.get σ):∀{n:Nat} {Q:PQ} {t:FT} {σ:St} {e:PExit} {t':FT} {σ':St},ZtF S n t σ=some (e,t',σ')->Q e t'.get σ'->Zbw W Q n t.get σ
 | 0,_,_,_,_,_,_,h,_=>by cases h
 | n+1,Q,t,σ,e,t',σ',h,hQ=>by
  unfold ZtF at h
  unfold Zbw
  split at h
  ·rename_i t1 σ1 hs
   exact hS hs (Zl5 hS h hQ)
  rename_i hn
  refine hS h ?_;split
  ·exact (hn _ _ h).elim
  exact hQ
def Zyl {C:Cx} {call:W7} {T:Tab} {N:Nat} (hC:CxR C call T N):∀(c:Code) {Q:PQ} {t:FT} {σ:St} {e:PExit} {t':FT} {σ':St},ZiR call T N c t σ=some (e,t',σ')->Q e t'.get σ'->W C c Q t.get σ:=by
 intro c
 induction c with
 | region id ops draw =>
  intro Q t σ e t' σ' h hQ
  simp only [ZiR] at h;simp only [W,hC.foc,WR];split at h
  ·rename_i t1 σ1 hr
   cases h
   unfold ZDY at hr
   split at hr
   ·exact Zl4 hC hr hQ
   split at hr
   ·rename_i h1 h2
    simp only [h1,h2];exact Zec hC.calm hr hQ
   cases hr
  cases h
 | seq a b iha ihb =>
  intro Q t σ e t' σ' h hQ
  simp only [ZiR] at h;simp only [W,hC.cut];split at h
  ·rename_i t1 σ1 h1
   exact iha h1 (ihb h hQ)
  rename_i hn
  refine iha h ?_;split
  ·exact (hn _ _ h).elim
  exact hQ
 | cond c x y ihx ihy =>
  intro Q t σ e t' σ' h hQ
  simp only [ZiR] at h;simp only [W];split at h
  ·rename_i hc;simp only [hc];exact ZEX (ihx h hQ)
  ·rename_i hc;simp only [hc];exact ZEY (ihy h hQ)
  cases h
 | block id b ih =>
  intro Q t σ e t' σ' h hQ
  simp only [ZiR] at h;simp only [W];split at h
  ·rename_i i t1 σ1 h1
   refine ih h1 ?_;simp only;split at h
   ·rename_i hb;cases h;simp only [hb];exact hQ
   rename_i hb;cases h;simp only [hb];exact hQ
  rename_i hn
  refine ih h ?_;split
  ·exact (hn _ _ _ h).elim
  exact hQ
 | scope b ih =>
  intro Q t σ e t' σ' h hQ
  simp only [ZiR] at h;simp only [W];split at h
  ·cases h
  rename_i hn
  refine ih h ?_;split
  ·exact (hn _ _ _ h).elim
  exact hQ
 | loop b ih =>
  intro Q t σ e t' σ' h hQ
  simp only [ZiR] at h;simp only [W,hC.unr];exact Zl5 (W:=fun Q f σ=>W C b Q f σ) (fun h hQ=>ih h hQ) h hQ
 | skip=>intro Q t σ e t' σ' h hQ;cases h;exact hQ
 | exit id=>intro Q t σ e t' σ' h hQ;cases h;exact hQ
 | ret=>intro Q t σ e t' σ' h hQ;cases h;exact hQ
 | _=>intro Q t σ e t' σ' h hQ;cases h
end Go.PM
end

section
namespace Go.PM
abbrev N1:=List Nat->Nat->PV->PV×List Nat×Nat
def VX (cl:PV->PV) (n:Nat):N1:=fun tk k v=>match v with
 | .sl t e rows=>(match Zeh t tk with
  | true=>(.sl k e rows,UH t tk,k+1)
  | false=>(.d (.sl rows),tk,k))
 | .nils e=>(.sl k e [],tk,k+1)
 | v=>(match bnd n v with
  | true=>(cl v,tk,k)
  | false=>(.undef,tk,k))
def JZ (f:N1):List PV->List Nat->Nat->List PV×List Nat×Nat
 | [],tk,k=>([],tk,k)
 | v::l,tk,k=>match f tk k v with
  | (v,tk,k)=>match JZ f l tk k with
   | (l,tk,k)=>(v::l,tk,k)
def ZaJ (n:Nat):N1:=fun tk k v=>match v with
 | .agg cs=>(match JZ (VX cleanN n) cs tk k with | (cs,tk,k)=>(.agg cs,tk,k))
 | v=>VX cleanN n tk k v
def ZtG {n:Nat} {tk:List Nat} {k:Nat} {v:PV} {K:PV->List Nat->Nat->Prop} (h:K (VX clean n tk k v).1 (VX clean n tk k v).2.1 (VX clean n tk k v).2.2):Zrp n tk k v K:=by
 cases v <;> simp only [VX,Zrp,ZO] at h |- <;> first
  | exact h
  | (split at h <;> rename_i hb <;> simp only [hb] <;> exact h)
def ZiS {n:Nat} {tk:List Nat} {k:Nat} {v:PV} {K:PV->List Nat->Nat->Prop} (h:K (VX cleanN n tk k v).1 (VX cleanN n tk k v).2.1 (VX cleanN n tk k v).2.2):ZcE n tk k v K:=by
 cases v <;> simp only [VX,ZcE,ZO] at h |- <;> first
  | exact h
  | (split at h <;> rename_i hb <;> simp only [hb] <;> exact h)
def Zg7 {n:Nat}:∀{l:List PV} {tk:List Nat} {k:Nat} {K:List PV->List Nat->Nat->Prop},K (JZ (VX clean n) l tk k).1 (JZ (VX clean n) l tk k).2.1 (JZ (VX clean n) l tk k).2.2->Zrq n l tk k K
 | [],_,_,_,h=>h
 | v::l,tk,k,K,h=>ZtG (Zg7 h)
def ZiT {n:Nat}:∀{l:List PV} {tk:List Nat} {k:Nat} {K:List PV->List Nat->Nat->Prop},K (JZ (VX cleanN n) l tk k).1 (JZ (VX cleanN n) l tk k).2.1 (JZ (VX cleanN n) l tk k).2.2->Zi4 n l tk k K
 | [],_,_,_,h=>h
 | v::l,tk,k,K,h=>ZiS (ZiT h)
def Zq5 {n:Nat} {tk:List Nat} {k:Nat} {v:PV} {K:PV->List Nat->Nat->Prop} (h:K (ZaJ n tk k v).1 (ZaJ n tk k v).2.1 (ZaJ n tk k v).2.2):Zhp n tk k v K:=by
 unfold Zhp
 split
 ·exact ZiT h
 rename_i hn
 refine ZiS ?_;have:ZaJ n tk k v=VX cleanN n tk k v:=by cases v <;> first | rfl | exact (hn _ rfl).elim
 rw [this] at h;exact h
def Zed {n:Nat}:∀{l:List PV} {tk:List Nat} {k:Nat} {K:List PV->List Nat->Nat->Prop},K (JZ (ZaJ n) l tk k).1 (JZ (ZaJ n) l tk k).2.1 (JZ (ZaJ n) l tk k).2.2->Zi5 n l tk k K
 | [],_,_,_,h=>h
 | v::l,tk,k,K,h=>Zq5 (Zed h)
def Zq6 (n:Nat):Nat->List Box->List Nat->Nat->Option (List Box×List Nat×Nat)
 | 0,_,tk,k=>some ([],tk,k)
 | m+1,.cells t cs::l,tk,k=>(match JZ (VX clean n) cs tk k with
  | (cs,tk,k)=>match Zq6 n m l tk k with | some (l,tk,k)=>some (.cells t cs::l,tk,k) | none=>none)
 | _,_,_,_=>none
def Zg8 {n:Nat}:∀{m:Nat} {bs:List Box} {tk:List Nat} {k:Nat} {r:List Box×List Nat×Nat} {K:List Box->List Nat->Nat->Prop},Zq6 n m bs tk k=some r->K r.1 r.2.1 r.2.2->ZcF n m bs tk k K
 | 0,_,_,_,_,_,h,hK=>by cases h;exact hK
 | m+1,[],tk,k,r,K,h,hK=>by cases h
 | m+1,x::l,tk,k,r,K,h,hK=>by
  cases x with
  | cells t cs =>
   simp only [Zq6] at h;simp only [ZcF];refine Zg7 ?_;split at h
   ·rename_i hb;cases h;exact Zg8 hb hK
   cases h
  | _=>cases h
def ZtH (bs:List Nat) (bx:List Box):List Nat->Option (List Box)
 | []=>some []
 | b::l=>match bx[b]? with
  | some (.cells t cs)=>(match ZtH bs bx l with | some r=>some (.cells t (Zgf bs cs)::r) | none=>none)
  | _=>none
def Zl6 {bs:List Nat} {bx:List Box}:∀{l:List Nat} {r:List Box} {K:List Box->Prop},ZtH bs bx l=some r->K r->Zmw bs bx l K
 | [],r,K,h,hK=>by cases h;exact hK
 | b::l,r,K,h,hK=>by
  unfold ZtH at h
  unfold Zmw
  split at h
  ·rename_i hb
   simp only [hb];split at h
   ·rename_i hs;cases h;exact Zl6 hs hK
   cases h
  cases h
def Zq7 (bb:Box->Box):List Nat->List Box->List Box->Option (List Box)
 | [],xs,acc=>some (acc++xs.map bb)
 | b::l,x::xs,acc=>Zq7 bb l xs (acc.set b (bb x))
 | _::_,[],_=>none
def ZiU {bb:Box->Box}:∀{l:List Nat} {xs acc r:List Box} {K:List Box->Prop},Zq7 bb l xs acc=some r->K r->Zel bb l xs acc K
 | [],xs,acc,r,K,h,hK=>by cases h;exact hK
 | b::l,x::xs,acc,r,K,h,hK=>ZiU (l:=l) h hK
 | _::_,[],_,_,_,h,_=>by cases h
abbrev RFn:=List PV->St->Option (PEnd×St)
def Zq8 (r:RFn):Zp:=fun args σ K=>∃pe σ',r args σ=some (pe,σ')/\K pe σ'
def Zym (own:Bool) (n:Nat) (args:List PV) (tk:List Nat):List PV×List Nat×Nat:=match own with
 | true=>JZ (ZaJ n) args tk 0
 | false=>JZ (VX clean n) args tk 0
def U2 (own:Bool) (r:RFn) (args:List PV) (σ:St):Option (PEnd×St) :=
 ZyE (Zac σ.bx (σ.bx.length+1) 0 (Za0 args [])) fun bs=>match ZhJ bs,ZtH bs σ.bx bs,Zym own bs.length (Zgf bs args) σ.tk with
  | true,some cb,(args',tk,k)=>(match Zq6 bs.length bs.length cb tk k with
   | some (cb',rest,k)=>ZyD args' fun args'=>ZqW ⟨cb',toks k,k⟩ fun σ2=>(match r args' σ2 with
    | some (pe,σ3)=>(match Zq7 (Za2 bs bs.length σ.bx.length σ.nx) bs σ3.bx σ.bx with
     | some bx=>ZqW ⟨bx,rest++σ3.tk.map (σ.nx+·),σ.nx+σ3.nx⟩ fun σ4=>some (ZrI bs bs.length σ.bx.length σ.nx pe,σ4)
     | none=>none)
    | none=>none)
   | none=>none)
  | _,_,_=>none
def mdR:Bool->Nat | true=>2 | false=>0
def Zee {own:Bool} {r:RFn} {args:List PV} {σ:St} {pe:PEnd} {σ':St} {K:PEnd->St->Prop} (h:U2 own r args σ=some (pe,σ')) (hK:K pe σ'):VF (mdR own) (Zq8 r) args σ K:=by
 unfold U2 at h
 unfold VF
 simp only [Zad,Zae,Wp];simp only [Zd7] at h;split at h
 ·rename_i cb args' tk k h1 h2 h3
  simp only [h1];refine Zl6 h2 ?_;have key:∀{X:List PV->List Nat->Nat->Prop},X args' tk k->ZnR (mdR own) (Zac σ.bx (σ.bx.length+1) 0 (Za0 args [])).length (Zgf (Zac σ.bx (σ.bx.length+1) 0 (Za0 args [])) args) σ.tk 0 X:=by
   intro X hX
   cases own with
   | true=>exact Zed (by simp only [Zym] at h3;rw [h3];exact hX)
   | false=>exact Zg7 (by simp only [Zym] at h3;rw [h3];exact hX)
  refine key ?_;split at h
  ·rename_i hb
   refine Zg8 hb ?_;simp only [Zd6,Zg0] at h;split at h
   ·rename_i hr
    refine ⟨_,_,hr,?_⟩;split at h
    ·rename_i jz;cases h;exact ZiU jz hK
    cases h
   cases h
  cases h
 cases h
def Zkw (T:Tab) (t:FT) (bx:List Box):List ResultVar->Option (List PV)
 | []=>some []
 | .tmp i::l=>(match Zkw T t bx l with | some vs=>some (t.get i::vs) | none=>none)
 | .cell a ty::l=>(match ZlY T ty (t.get a) bx,Zkw T t bx l with | some v,some vs=>some (v::vs) | _,_=>none)
def ZcA {T:Tab} {t:FT} {bx:List Box}:∀{l:List ResultVar} {vs:List PV} {K:List PV->Prop},Zkw T t bx l=some vs->K vs->pres T t.get bx l K
 | [],vs,K,h,hK=>by cases h;exact hK
 | .tmp i::l,vs,K,h,hK=>by
  simp only [Zkw] at h;simp only [pres,ZO];split at h
  ·rename_i h1;cases h;exact ZcA h1 hK
  cases h
 | .cell a ty::l,vs,K,h,hK=>by
  simp only [Zkw] at h;simp only [pres];split at h
  ·rename_i h1 h2;cases h;refine ZiM h1 ?_;rw [ZO];exact ZcA h2 hK
  cases h
def Zg9 (n:Nat):Nat->List Box->Bool
 | 0,_=>true
 | _,[]=>true
 | m+1,.cells _ cs::l=>(match ZnP n cs with | true=>Zg9 n m l | false=>false)
 | m+1,_::l=>Zg9 n m l
def ZC2 (k0:Nat) (v:PV) (σ:St):Nat:=match bnd k0 v,Zg9 k0 k0 σ.bx with
 | true,true=>k0
 | _,_=>σ.bx.length
def Zq9 (keep:Nat) (v:PV) (σ:St):Option (PV×St):=match bnd keep v,JZ (ZaJ keep) [v] σ.tk 0 with
 | true,([v],tk,k)=>(match Zq6 keep keep σ.bx tk k with
  | some (bs,_,k)=>some (v,⟨bs,toks k,k⟩)
  | none=>none)
 | _,_=>none
def Zra {keep:Nat} {v v':PV} {σ σ':St} {K:PV->St->Prop} (h:Zq9 keep v σ=some (v',σ')) (hK:K v' σ'):J1 true keep true v σ K:=by
 unfold Zq9 at h
 unfold J1
 split at h
 ·rename_i h1 h2
  simp only [h1];unfold Ub
  simp only;refine Zed ?_;rw [h2];split at h
  ·rename_i hb;cases h;exact Zg8 hb hK
  cases h
 cases h
def Zrb (p:PV->PEnd) (k0:Nat) (v:PV) (σ:St):Option (PEnd×St):=ZnD (ZC2 k0 v σ) fun keep=>match Nat.ble k0 keep,Zq9 keep v σ with
 | true,some (v,σ)=>some (p v,σ)
 | _,_=>none
def Zha {p:PV->PEnd} {k0:Nat} {v:PV} {σ:St} {pe:PEnd} {σ':St} (h:Zrb p k0 v σ=some (pe,σ')):∃keep,k0<=keep/\∀{K:PEnd->St->Prop},K pe σ'->J1 true keep true v σ fun v σ=>K (p v) σ:=by
 unfold Zrb at h
 simp only [JX] at h;split at h
 ·rename_i h1 h2;cases h;exact ⟨_,Tc h1,fun hK=>Zra h2 hK⟩
 cases h
def ZBi (T:Tab) (fn:Func) (k0:Nat) (r:Option ZBg):Option (PEnd×St):=match r with
 | some (.normal,t,σ)=>(match Zkw T t σ.bx fn.results.toList with | some vs=>Zrb .ret k0 (Uc vs) σ | none=>none)
 | some (.ret,t,σ)=>(match Zkw T t σ.bx fn.results.toList with | some vs=>Zrb .ret k0 (Uc vs) σ | none=>none)
 | some (.panic v,_,σ)=>Zrb .panic k0 v σ
 | _=>none
end Go.PM
end

section
namespace Go.PM
def cxR (call:W7) (T:Tab) (N:Nat):Cx:=⟨T,fun g args σ K=>∃pe σ',call g args σ=some (pe,σ')/\K pe σ',ZmB,Zc9,fun _=>ZtY,fun _=>N+1,fun _=>false,fun _=>false,true,fun _=>none,fun _=>false,fun _=>false⟩
def ZBj {call:W7} {T:Tab} {N:Nat}:CxR (cxR call T N) call T N:=⟨rfl,fun h hK=>⟨_,_,h,hK⟩,rfl,rfl,rfl,rfl⟩
def Zyn (call:W7) (T:Tab) (N:Nat) (fn:Func):RFn:=fun args σ =>
 match argT 0 args (FT.full (Nat.div fn.ntmps 64)),Nat.ble args.length fn.ntmps with
 | some t,true=>ZBi T fn σ.bx.length (ZiR call T N (YW fn) t σ)
 | _,_=>none
def ZBk (fn:Func):Bool:=match fn.body with
 | some c => (match ZA fn.ntmps c, fn.name == "runtime.NumGoroutine" with | true, false => true | _, _ => false)
 | none=>false
section
variable {G:GE} {T:Tab} {call:W7} {N:Nat}
def Zyo {fn : Func} (h : ZBk fn = true) : ∃ c, fn.body = some c /\ ZA fn.ntmps c = true /\ (fn.name == "runtime.NumGoroutine") = false := by
 unfold ZBk at h
 cases hb:fn.body with
 | none=>rw [hb] at h;cases h
 | some c =>
 rw [hb] at h;simp only at h;split at h
 ·rename_i h1 h2;exact ⟨c,rfl,h1,h2⟩
 cases h
def ZBl (call:W7):FuncId->List PV->St->(PEnd->St->Prop)->Prop:=fun g args σ K=>∃pe σ',call g args σ=some (pe,σ')/\K pe σ'
def ZtI (hT:TabOK T G.P) (be:G.P.follows .mixedOrders=true) (hc:CallSem G (ZBl call)) {g:FuncId} {fn:Func} (hf:G.P.funcs[g]?=some fn) (hk:ZBk fn=true):PCalls G g (Zq8 (Zyn call T N fn)):=by
 obtain ⟨c,hb,ax,av⟩:=Zyo hk;refine ⟨Ze hf av hb,fun args σ K hs n e w vs hS ha=>?_⟩;obtain ⟨pe,σ',hr,hK⟩:=hs;unfold Zyn at hr
 split at hr
 ·rename_i t ht aa
  have ht:=ZlV (ZE1 _) ht;have go:∀keep,(∀e1 t1 σ1,ZiR call T N (YW fn) t σ=some (e1,t1,σ1)->ZnW true T fn keep true K e1 t1.get σ1)->σ.bx.length<=keep->CallsIn (fw none) n G.P g vs w (Y8 G e σ w K):=fun keep hQ gd=>by
   cases ah:ZiR call T N (YW fn) t σ with
   | none=>rw [ah] at hr;cases hr
   | some out =>
   obtain ⟨e1,t1,σ1⟩:=out;refine Zcn (C:=cxR call T N) hT hc (fun _ _ _ _ h=>h) (fun _ _ _ _ _ h=>h) be hf hb ax (ag:=true) (own:=true) gd (Tc aa) ?_ hS ha;unfold WFG
   rw [<- ht];exact Zyl ZBj _ ah (hQ _ _ _ ah)
  unfold ZBi at hr
  split at hr
  ·exact mq95
  ·exact mq95
  ·rename_i v t1 σ1 ah
   obtain ⟨keep,ec,bl⟩:=Zha hr;exact go keep (fun e2 t2 σ2 h=>by rw [ah] at h;cases h;exact bl hK) ec
  cases hr
 cases hr
end
def fnR (P:Program) (call:W7) (T:Tab) (N:Nat) (g:FuncId):RFn:=match P.funcs[g]? with
 | some fn=>(match ZBk fn with | true=>Zyn call T N fn | false=>fun _ _=>none)
 | none=>fun _ _=>none
def Zce (P:Program) (T:Tab) (own:Nat->Bool) (N:Nat):Nat->W7
 | 0=>fun _ _ _=>none
 | n+1=>fun g args σ=>match own g with
  | true=>U2 true (fnR P (Zce P T own N n) T N g) args σ
  | false=>U2 false (fnR P (Zce P T own N n) T N g) (Xc args) σ
def Zrc {G:GE} {T:Tab} (hT:TabOK T G.P) (be:G.P.follows .mixedOrders=true) {own:Nat->Bool} {N:Nat} :
  ∀n,(∀g,(∃args σ x,fnR G.P (Zce G.P T own N n) T N g args σ=some x)->PCalls G g (Zq8 (fnR G.P (Zce G.P T own N n) T N g)))/\CallSem G (ZBl (Zce G.P T own N n)):=by
 have step:∀call:W7,CallSem G (ZBl call)->∀g,(∃args σ x,fnR G.P call T N g args σ=some x)->PCalls G g (Zq8 (fnR G.P call T N g)):=by
  intro call hc g hx
  obtain ⟨a0,s0,x0,hx⟩:=hx;unfold fnR at hx |-
  cases hf:G.P.funcs[g]? with
  | none=>simp only [hf] at hx;cases hx
  | some fn =>
  simp only [hf] at hx;simp only
  cases hk:ZBk fn with
  | false=>simp only [hk] at hx;cases hx
  | true=>exact ZtI hT be hc hf hk
 intro n
 induction n with
 | zero =>
  have h0:CallSem G (ZBl (Zce G.P T own N 0)):=fun g args σ K h=>by
   obtain ⟨_,_,h,_⟩:=h
   cases h
  exact ⟨step _ h0,h0⟩
 | succ n ih =>
 have hs:CallSem G (ZBl (Zce G.P T own N (n+1))):=fun g args σ K h=>by
  obtain ⟨pe,σ',h,hK⟩:=h;simp only [Zce] at h;have live:∀own' args,U2 own' (fnR G.P (Zce G.P T own N n) T N g) args σ=some (pe,σ')->PCalls G g (Zq8 (fnR G.P (Zce G.P T own N n) T N g)):=fun own' args h=>by
   refine ih.1 g ?_;unfold U2 at h
   simp only [Zd7] at h;split at h
   ·split at h
    ·simp only [Zd6,Zg0] at h;split at h
     ·rename_i hr;exact ⟨_,_,_,hr⟩
     cases h
    cases h
   cases h
  split at h
  ·exact XD (live _ _ h) (Zee h hK)
  have:=XD (live _ _ h) (Zee h hK);exact ⟨this.1,fun ro n e w vs hS ha=>this.2 ro n e w vs hS (ha.clean (Later.refl e σ w))⟩
 exact ⟨step _ hs,hs⟩
def ZnG {G:GE} {T:Tab} (hT:TabOK T G.P) (be:G.P.follows .mixedOrders=true) {own:Nat->Bool} {N n:Nat} {g:FuncId} {args:List PV} {σ:St} {pe:PEnd} {σ':St}
  (h:fnR G.P (Zce G.P T own N n) T N g args σ=some (pe,σ')):PCalls G g fun a s K=>a=args/\s=σ/\K pe σ' :=
 have hP:=(Zrc hT be n).1 g ⟨_,_,_,h⟩
 ⟨hP.enters,fun a s K hs=>by obtain ⟨rfl,rfl,hK⟩:=hs;exact hP.calls _ _ _ ⟨_,_,h,hK⟩⟩
end Go.PM
end
