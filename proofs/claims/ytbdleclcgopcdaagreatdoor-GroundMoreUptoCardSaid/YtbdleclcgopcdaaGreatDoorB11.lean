/- A part of the proof: plain logic, contracts and laws over the given program. -/
import Derived.Test.YtbdleclcgopcdaaGreatDoorB10
set_option linter.unusedVariables false
set_option linter.unusedSimpArgs false
set_option linter.all false
set_option maxRecDepth 100000
set_option maxHeartbeats 16000000
section
namespace Go.PM
def ZE7:PV->Option PV
 | .d x=>some (.d x)
 | .sl _ _ rows=>some (.d (.sl rows))
 | _=>none
def ZCa:List PV->Option (List PV)
 | []=>some []
 | v::l=>match ZE7 v,ZCa l with | some x,some y=>some (x::y) | _,_=>none
def Zmr:∀{l k:List PV},ZCa l=some k->k.length=l.length/\∀(i:Nat) (x y:PV),l[i]?=some x->k[i]?=some y->ZE7 x=some y
 | [],k,h=>by cases h;exact ⟨rfl,fun i x y hx=>by simp at hx⟩
 | v::l,k,h=>by
  simp only [ZCa] at h;split at h
  ·rename_i a b h1 h2
   cases h
   obtain ⟨g1,g2⟩:=Zmr h2;refine ⟨by simp [g1],fun i x y hx hy=>?_⟩
   cases i with
   | zero=>simp at hx hy;subst hx hy;exact h1
   | succ i=>exact g2 i x y (by simpa using hx) (by simpa using hy)
  cases h
def Zoh {G:GE} {g:FuncId} {sp:Zn} (h:PCalls G g sp):PCalls G g fun args σ K=>σ.bx=[]/\∃ar,ZCa args=some ar/\sp ar ⟨[],[],0⟩ fun pe σ'=>K pe σ' where
 enters:=h.enters
 calls:=fun args σ K ⟨hb,ar,hf,hs⟩ n e w vs hS ha=>by
  obtain ⟨bx,tk,nx⟩:=σ;obtain rfl:bx=[]:=hb;obtain ⟨g1,g2⟩:=Zmr hf
  let e':Env:={ e with M:=fun _=>none }
  have ao:∀b off,okc e ⟨[],tk,nx⟩ b off->okc e' ⟨[],[],0⟩ b off:=fun b off ho=>⟨ho.1,fun i hi=>(by simp at hi),fun t ht=>(nomatch ht),ho.2.2.2⟩
  have hD:∀d v,DRel (okc e ⟨[],tk,nx⟩) w d v->DRel (okc e' ⟨[],[],0⟩) w d v:=fun d v hd=>hd.mono fun b off u hu ho=>⟨ao b off ho,hu⟩
  have hS':SRel G e' ⟨[],[],0⟩ w:={
   inj:=fun i j hi=>(by simp at hi)
   box:=fun i x hx=>(by simp at hx)
   low:=fun i hi=>(by simp at hi)
   tkn:=fun t ht=>(nomatch ht)
   own:=fun t ht=>(nomatch ht)
   dis:=fun t t' ht=>(nomatch ht)
   xlt:=hS.xlt
   xown:=fun t ht=>(nomatch ht)
   hid:=fun b q hq=>by
    obtain ⟨k1,k2,k3,k4,k5⟩:=hS.hid b q hq;exact ⟨k1,k2,fun i hi=>(by simp at hi),fun t ht=>(nomatch ht),k5⟩
   glob:=hS.glob
   big:=hS.big }
  have hA:ArgsRel G e' ⟨[],[],0⟩ w ar vs:=by
   refine ⟨by rw [ha.1,g1],fun i y u hy hu=>?_⟩;have hi:=(Ti.1 hy).1;have hx:args[i]?=some args[i]:=Ta oM;have hv:=ha.2 i _ u hx hu;have hq:=g2 i _ y hx hy;generalize args[i]=x at hv hq
   cases hv with
   | d x v hd=>cases hq;exact .d _ _ (hD _ _ hd)
   | sl t el rows v hn hd ht=>cases hq;exact .d _ _ (hD _ _ hd)
   | _=>cases hq
  have hL0:Later e ⟨[],tk,nx⟩ w e' ⟨[],[],0⟩ w:={
   Later.refl e ⟨[],tk,nx⟩ w with
   pres:=fun b off u hu ho=>⟨ao b off ho,hu⟩
   ftok:=fun t ht=>(nomatch ht) }
  refine (h.calls ar _ _ hs n e' w vs hS' hA).mono fun en w' ⟨pe,σ',e2,hK,hE,iz,hL⟩=>⟨pe,σ',e2,hK,hE,iz,hL0.trans hL⟩
end Go.PM
namespace Go.PM.Lex
def Kq (P:Bs->Prop) (m:Bv):Prop:=(m.map (·.1)).Nodup/\∀t∈m.map (·.1),P t
def Kq.put {P:Bs->Prop} {t:Bs} {m:Bv} (h:Kq P m) (ht:P t):Kq P (Z6 t true m):=by
 unfold Kq
 rw [Zaw];split
 ·exact h
 rename_i g
 refine ⟨List.nodup_append.2 ⟨h.1,sM,fun a ha b hb=>?_⟩,fun x hx=>?_⟩
 ·simp at hb;subst hb;exact fun e=>g (e ▸ ha)
 rcases TD.1 hx with hx | hx
 ·exact h.2 x hx
 simp at hx;subst hx;exact ht
mutual
def Kq.pat {P:Bs->Prop}:∀(e:Ex) {m:Bv},Kq P m->(∀t∈nvE e,P t)->Kq P (Zjx e m)
 | .mk op t n args a,m,h,ht=>by
  simp only [nvE] at ht;simp only [Zjx]
  by_cases h1:op=1
  ·rw [Tk h1] at ht |-;exact h.put (ht t sM)
  rw [Tf h1] at ht |-;split
  ·exact ZGe args h ht
  exact h
def ZGe {P:Bs->Prop}:∀(l:List Ex) {m:Bv},Kq P m->(∀t∈Zjw l,P t)->Kq P (Uz l m)
 | [],_,h,_=>h
 | e::l,m,h,ht=>by
  simp only [Zjw,TD] at ht;exact ZGe l (Kq.pat e h fun t g=>ht t (.inl g)) fun t g=>ht t (.inr g)
end
def Kq.side {P:Bs->Prop} {a b:Ex} {m:Bv} (h:Kq P m) (ht:∀t∈nvE a,P t):Kq P (Z7 m a b):=by
 unfold Z7
 split
 ·exact Kq.pat a h ht
 exact h
def Kq.bind {P:Bs->Prop}:∀(x:Li) {m:Bv},Kq P m->(∀t∈nvL x,P t)->Kq P (Vn m x)
 | .mk op rel args body a,m,h,ht=>by
  simp only [nvL,TD] at ht;simp only [Vn];split
  ·split
   ·exact ZGe args h fun t g=>ht t (.inl g)
   exact h
  split
  ·split
   ·rename_i a b
    simp only [Zjw,TD] at ht;exact (h.side fun t g=>ht t (.inl (.inl g))).side fun t g=>ht t (.inl (.inr (.inl g)))
   exact h
  exact h
def Kq.binds {P:Bs->Prop}:∀(l:List Li) {m:Bv},Kq P m->(∀t∈Vr l,P t)->Kq P (ZA m l)
 | [],_,h,_=>h
 | x::l,m,h,ht=>by
  simp only [Vr,TD] at ht;exact Kq.binds l (Kq.bind x h fun t g=>ht t (.inl g)) fun t g=>ht t (.inr g)
def Kq.bindsT {P:Bs->Prop} {l:List Li} (ht:∀t∈Vr l,P t):∀(k:Nat) {m r:Bv},Kq P m->bindsT l k m=some r->Kq P r
 | 0,_,_,_,h=>by cases h
 | k+1,m,r,hm,h=>by
  simp only [Lex.bindsT] at h;have h1:=hm.binds l ht;split at h
  ·exact Kq.bindsT ht k h1 h
  cases h;exact h1
def Kq.bindsF {P:Bs->Prop} {l:List Li} {m:Bv} (hm:Kq P m) (ht:∀t∈Vr l,P t):Kq P (bindsF l m):=Kq.bindsT ht _ hm (Vo l m)
def ZGg {P:Bs->Prop}:∀(l:List Bs) {m:Bv},Kq P m->(∀t∈l,P t)->Kq P (setOf m l)
 | [],_,h,_=>h
 | t::l,m,h,ht=>ZGg l (h.put (ht t sM)) fun s hs=>ht s (Tx _ hs)
def ZfS {l:List Li}:∀(k:Nat) {m r:Bv},bindsT l k m=some r->unB (Vr l) r+r.length<=unB (Vr l) m+m.length
 | 0,_,_,h=>by cases h
 | k+1,m,r,h=>by
  simp only [bindsT] at h;have h1:=(UU (X:=Vr l) l m fun t h=>h).2.2;split at h
  ·exact TT (ZfS k h) h1
  cases h;exact h1
def ZfT (l:List Li) (m:Bv):(bindsF l m).length<=(Vr l).length+m.length:=by
 have h1:=ZfS _ (Vo l m);have h2:unB (Vr l) m<=(Vr l).length:=List.countP_le_length;omega
def Zi7 (l:List Bs):∀m:Bv,(setOf m l).length<=m.length+l.length:=by
 induction l with
 | nil=>intro m;exact Tu _
 | cons t l ih =>
 intro m
 have h1:=ih (Z6 t true m);have h2:(Z6 t true m).length<=m.length+1:=by
  have:=congrArg List.length (Zaw t m);simp only [Td] at this;rw [this];split <;> simp
 simp only [Te];show (setOf (Z6 t true m) l).length<=_;omega
def Zoi {l:List Bs} {j:Nat} (h:j<l.length) (m:Bv):setOf m (l.take (j+1))=Z6 l[j] true (setOf m (l.take j)):=by
 rw [List.take_add_one,Ta h,Zry];rfl
mutual
def ZCb:∀(e:Ex) (t:Bs),t∈nvE e->t.length<=wE e
 | .mk op text n args a,t,h=>by
  simp only [nvE] at h;simp only [wE];split at h
  ·simp at h;subst h;omega
  have:=ZkV args t h;omega
def ZkV:∀(l:List Ex) (t:Bs),t∈Zjw l->t.length<=wEs l
 | e::l,t,h=>by
  simp only [Zjw,TD] at h;simp only [wEs];rcases h with h | h
  ·have:=ZCb e t h;omega
  have:=ZkV l t h;omega
end
mutual
def ZCc:∀(x:Li) (t:Bs),t∈nvL x->t.length<=wL x
 | .mk op rel args body a,t,h=>by
  simp only [nvL,TD] at h;simp only [wL,<- Zft];rcases h with h | h
  ·have:=ZkV args t h;omega
  have:=ZkW body t h;omega
def ZkW:∀(l:List Li) (t:Bs),t∈Vr l->t.length<=wLs l
 | x::l,t,h=>by
  simp only [Vr,TD] at h;simp only [wLs];rcases h with h | h
  ·have:=ZCc x t h;omega
  have:=ZkW l t h;omega
end
def Zhb:∀l k:List Li,Zai (l++k)=Zai l+Zai k
 | [],k=>by simp [Zai]
 | x::l,k=>by simp only [T5,Zai,Zhb l k];omega
def Zrz:∀l k:List Li,wLs (l++k)=wLs l+wLs k
 | [],k=>by simp [wLs]
 | x::l,k=>by simp only [T5,wLs,Zrz l k];omega
end Go.PM.Lex
end

section
namespace Go.PM
def low0 (n:Nat):PV->Bool
 | .d _=>true
 | .ptr b _=>Nat.ble (b+1) n
 | .mp b=>Nat.ble (b+1) n
 | .nilm=>true
 | .raw _=>true
 | _=>false
def ZzU (n:Nat):List PV->Bool
 | []=>true
 | v::l=>low0 n v && ZzU n l
def lowV (n:Nat):PV->Bool
 | .agg cs=>ZzU n cs
 | v=>low0 n v
def Zoj (n:Nat):List PV->Bool
 | []=>true
 | v::l=>lowV n v && Zoj n l
def lowB (n:Nat):Box->Bool
 | .cells _ cs=>ZzU n cs
 | .dmap _=>true
 | .loop _ _ _=>true
 | _=>false
def Zd3 (n:Nat):List Box->Bool
 | []=>true
 | v::l=>lowB n v && Zd3 n l
def UA:List Box->Bool
 | []=>true
 | .cells _ _::l=>UA l
 | .dmap _::l=>UA l
 | .loop _ _ _::l=>UA l
 | .iter _ _::l=>UA l
 | _::_=>false
def Zhc {n:Nat}:∀{l:List PV} {i:Nat} {x:PV},ZzU n l=true->l[i]?=some x->low0 n x=true
 | v::l,0,x,h,hx=>by simp [ZzU] at h;simp at hx;rw [<- hx];exact h.1
 | v::l,i+1,x,h,hx=>by simp [ZzU] at h;exact Zhc h.2 (by simpa using hx)
def Zi8 {n:Nat}:∀{l:List PV} {i:Nat} {x:PV},Zoj n l=true->l[i]?=some x->lowV n x=true
 | v::l,0,x,h,hx=>by simp [Zoj] at h;simp at hx;rw [<- hx];exact h.1
 | v::l,i+1,x,h,hx=>by simp [Zoj] at h;exact Zi8 h.2 (by simpa using hx)
def Zd4 {n:Nat}:∀{l:List Box} {i:Nat} {x:Box},Zd3 n l=true->l[i]?=some x->lowB n x=true
 | v::l,0,x,h,hx=>by simp [Zd3] at h;simp at hx;rw [<- hx];exact h.1
 | v::l,i+1,x,h,hx=>by simp [Zd3] at h;exact Zd4 h.2 (by simpa using hx)
def ZfU:∀{l:List Box} {i:Nat} {x:Box},UA l=true->l[i]?=some x->UA [x]=true
 | v::l,0,x,h,hx=>by simp at hx;subst hx;cases v <;> first | rfl | (simp [UA] at h)
 | v::l,i+1,x,h,hx=>by
  refine ZfU (l:=l) ?_ (by simpa using hx)
  cases v <;> first | exact h | (simp [UA] at h)
section
variable {G:GE} {e e1 e2:Env} {σ σ1 σ2:St} {w w2:World} {n:Nat}
def VRel.low0 (hβ:∀i,i<n->e2.β i=e.β i) (hn:n<=σ2.bx.length) (hD:∀d v,DRel (okc e σ) w d v->DRel (okc e2 σ2) w2 d v) {x:PV} {u:Value} (hl:low0 n x=true) (h:VRel G e σ w x u):VRel G e2 σ2 w2 x u:=by
 cases h with
 | d x v h=>exact .d _ _ (hD _ _ h)
 | ptr b off h =>
  have hb:=Tc hl;rw [<- hβ b hb];exact .ptr b off oM
 | mp b h =>
  have hb:=Tc hl;rw [<- hβ b hb];exact .mp b oM
 | nilm=>exact .nilm
 | raw=>exact .raw _
 | _=>simp [PM.low0] at hl
def VRel.lowV (hβ:∀i,i<n->e2.β i=e.β i) (hn:n<=σ2.bx.length) (hD:∀d v,DRel (okc e σ) w d v->DRel (okc e2 σ2) w2 d v) {x:PV} {u:Value} (hl:lowV n x=true) (h:VRel G e σ w x u):VRel G e2 σ2 w2 x u:=by
 have gen:∀{x u},PM.low0 n x=true->VRel G e σ w x u->VRel G e2 σ2 w2 x u:=fun hl h=>h.low0 hβ hn hD hl
 cases h with
 | agg cs vs hs h h1=>exact .agg cs vs hs (fun i x u hx hu=>gen (Zhc hl hx) (h i x u hx hu)) h1
 | d x _ h=>exact gen hl (.d x _ h)
 | ptr b off h=>exact gen hl (.ptr b off h)
 | mp b h=>exact gen hl (.mp b h)
 | nilm=>exact .nilm
 | raw=>exact .raw _
 | _=>simp [PM.lowV,PM.low0] at hl
def BRel.lowB (hβ:∀i,i<n->e2.β i=e.β i) (hn:n<=σ2.bx.length) (hD:∀d v,DRel (okc e σ) w d v->DRel (okc e2 σ2) w2 d v) {x:Box} {b:Nat} (hb:w2.heap[b]?=w.heap[b]?) (hl:lowB n x=true) (h:BRel G e σ w x b):BRel G e2 σ2 w2 x b:=by
 cases x with
 | cells t cs =>
  obtain ⟨vs,h1,h2,h3⟩:=h;exact ⟨vs,hb.trans h1,h2,fun i x u hx hu=>⟨(h3 i x u hx hu).1.low0 hβ hn hD (Zhc hl hx),(h3 i x u hx hu).2⟩⟩
 | dmap m=>exact h.dmapTo hb hD
 | loop st pd r=>exact Eq.trans hb h
 | _=>simp [PM.lowB] at hl
def Env.hide (e:Env) (σ:St) (n:Nat):Env:={ e with X:=fun b off=>e.X b off\/∃i,n<=i/\i<σ.bx.length/\e.β i=b }
def St.low (σ:St) (n:Nat):St:=⟨σ.bx.take n,[],σ.nx⟩
def ZF2 (hn:n<=σ.bx.length):(σ.low n).bx.length=n:=by simp [St.low];omega
def Zhd (hn:n<=σ.bx.length) {b off:Nat} (h:okc e σ b off):okc (e.hide σ n) (σ.low n) b off :=
 ⟨fun hx=>hx.elim h.1 fun ⟨i,_,hi,he⟩=>h.2.1 i hi he,fun i hi=>h.2.1 i (by rw [ZF2 hn] at hi;omega),fun t ht=>(nomatch ht),h.2.2.2⟩
def DRel.hide (hn:n<=σ.bx.length) {d:D} {v:Value} (h:DRel (okc e σ) w d v):DRel (okc (e.hide σ n) (σ.low n)) w d v:=h.mono fun b off u hu ho=>⟨Zhd hn ho,hu⟩
def SRel.hide (hS:SRel G e σ w) (hn:n<=σ.bx.length) (hl:Zd3 n (σ.bx.take n)=true):SRel G (e.hide σ n) (σ.low n) w where
 inj:=fun i j hi hj=>by rw [ZF2 hn] at hi hj;exact hS.inj i j oM oM
 box:=fun i x hx=>by
  have gf:(σ.bx.take n)[i]?=some x:=hx;have hi:=(Ti.1 gf).1;rw [List.length_take] at hi;have h0:σ.bx[i]?=some x:=by rw [SG] at gf;split at gf;exact gf;cases gf
  exact BRel.lowB (e:=e) (σ:=σ) (w:=w) (e2:=e.hide σ n) (σ2:=σ.low n) (w2:=w) (fun _ _=>rfl) (Nat.le_of_eq (ZF2 hn).symm) (fun _ _ h=>h.hide hn) rfl (Zd4 hl gf) (hS.box i x h0)
 low:=fun i hi=>by rw [ZF2 hn] at hi;exact hS.low i oM
 tkn:=fun t ht=>(nomatch ht)
 own:=fun t ht=>(nomatch ht)
 dis:=fun t t' ht=>(nomatch ht)
 xlt:=fun b off hx=>hx.elim (hS.xlt b off) fun ⟨i,_,hi,he⟩=>he ▸ hS.lt hi
 xown:=fun t ht=>(nomatch ht)
 hid:=fun b q hq=>by
  obtain ⟨h1,h2,h3,h4,h5⟩:=hS.hid b q hq;exact ⟨h1,h2,fun i hi=>h3 i (by rw [ZF2 hn] at hi;omega),fun t ht=>(nomatch ht),fun off ho hx=>hx.elim (h5 off ho) fun ⟨i,_,hi,he⟩=>h3 i hi he⟩
 glob:=hS.glob
 big:=hS.big
def Later.hide {e0:Env} {σ0:St} {w0:World} (h:Later e0 σ0 w0 e σ w) (hn:n<=σ.bx.length) (h0:σ0.bx.length<=n):Later e0 σ0 w0 (e.hide σ n) (σ.low n) w where
 len:=by rw [ZF2 hn];exact h0
 beta:=h.beta
 X:=fun b off hx=>.inl (h.X b off hx)
 pres:=fun b off u hu ho=>let ⟨h1,h2⟩:=h.pres b off u hu ho;⟨Zhd hn h1,h2⟩
 blocks:=h.blocks
 size:=h.size
 os:=h.os
 tape:=h.tape
 output:=h.output
 fresh:=fun i h1 h2=>h.fresh i h1 (by rw [ZF2 hn] at h2;omega)
 ftok:=fun t ht=>(nomatch ht)
 fhid:=h.fhid
def ArgsRel.hide {args:List PV} {vs:Array Value} (h:ArgsRel G e σ w args vs) (hn:n<=σ.bx.length) (hl:Zoj n args=true):ArgsRel G (e.hide σ n) (σ.low n) w args vs :=
 ⟨h.1,fun i x u hx hu=>VRel.lowV (e:=e) (σ:=σ) (w:=w) (e2:=e.hide σ n) (σ2:=σ.low n) (w2:=w) (fun _ _=>rfl) (Nat.le_of_eq (ZF2 hn).symm) (fun _ _ h=>h.hide hn) (Zi8 hl hx) (h.2 i x u hx hu)⟩
def Env.show (e e':Env):Env:=⟨e.β,e'.M,e.X,e'.H⟩
def St.show (σ σ':St) (n:Nat):St:=⟨σ'.bx.take n++σ.bx.drop n,[],σ.nx+σ'.nx⟩
def Zul {σ':St} (hn:n<=σ.bx.length) (o7:n<=σ'.bx.length):(σ.show σ' n).bx.length=σ.bx.length:=by simp [St.show];omega
def SRel.show {e':Env} {σ':St} {w':World} (hS:SRel G e σ w) (ht:σ.tk=[]) (hn:n<=σ.bx.length) (ha:UA (σ.bx.drop n)=true) (hS':SRel G e' σ' w') (hL:Later (e.hide σ n) (σ.low n) w e' σ' w') (hl:Zd3 n (σ'.bx.take n)=true) :
  SRel G (e.show e') (σ.show σ' n) w'/\Later e σ w (e.show e') (σ.show σ' n) w':=by
 have o7:n<=σ'.bx.length:=by have:=hL.len;rw [ZF2 hn] at this;exact this
 have hβ:∀i,i<n->e'.β i=e.β i:=fun i hi=>hL.beta i (by rw [ZF2 hn];exact hi)
 have hlen:=Zul (σ':=σ') hn o7;have hX:∀i,n<=i->i<σ.bx.length->∀off,e'.X (e.β i) off:=fun i h1 h2 off=>hL.X _ _ (.inr ⟨i,h1,h2,rfl⟩)
 have ao:∀b off,okc e' σ' b off->okc (e.show e') (σ.show σ' n) b off:=fun b off ho=>by
  refine ⟨fun hx=>ho.1 (hL.X _ _ (.inl hx)),fun i hi he=>?_,fun t ht=>(nomatch ht),ho.2.2.2⟩;rw [hlen] at hi
  by_cases h:i<n
  ·exact ho.2.1 i oM ((hβ i h).trans he)
  exact ho.1 (by have:=hX i oM hi off;rw [show e.β i=b from he] at this;exact this)
 have hD:∀d v,DRel (okc e' σ') w' d v->DRel (okc (e.show e') (σ.show σ' n)) w' d v:=fun d v h=>h.mono fun b off u hu ho=>⟨ao b off ho,hu⟩
 have hst:Stepped e σ w (e.show e') (σ.show σ' n) w':={
  len:=Nat.le_of_eq hlen.symm
  beta:=fun _ _=>rfl
  X:=fun _ _ h=>h
  pres:=fun b off u hu ho=>let ⟨h1,h2⟩:=hL.pres b off u hu (Zhd hn ho);⟨ao _ _ h1,h2⟩
  blocks:=fun b hb hi _ hh=>hL.blocks b hb (fun i h=>hi i (by rw [ZF2 hn] at h;omega)) (fun t ht=>(nomatch ht)) hh
  size:=hL.size
  os:=hL.os
  tape:=hL.tape
  output:=hL.output
  fresh:=fun i h1 h2=>by rw [hlen] at h2;omega
  ftok:=fun t ht=>(nomatch ht)
  fhid:=fun b hb=>(hL.fhid b hb).elim .inl fun h=>h.elim (fun ⟨t,ht,_⟩=>nomatch ht) fun h=>.inr (.inr h)
  nx:=Nat.le_add_right _ _
  toks:=fun t _ ht=>(nomatch ht)
  own:=fun t _ ht=>(nomatch ht) }
 refine ⟨{ inj:=fun i j hi hj=>by rw [hlen] at hi hj;exact hS.inj i j hi hj,box:=fun i x hx=>?_,low:=fun i hi=>by rw [hlen] at hi;exact hS.low i hi,tkn:=fun t ht=>(nomatch ht),own:=fun t ht=>(nomatch ht),dis:=fun t t' ht=>(nomatch ht),xlt:=fun b off hx=>(TA (hS.xlt b off hx) hL.size:b<w'.heap.size),xown:=fun t ht=>(nomatch ht),hid:=fun b q hq=>?_,glob:=hS'.glob,big:=hS'.big },hst.toLater⟩
 ·have hx:(σ'.bx.take n++σ.bx.drop n)[i]?=some x:=hx
  by_cases h:i<n
  ·rw [TJ sO] at hx;have h0:σ'.bx[i]?=some x:=by rw [SG,Tk h] at hx;exact hx
   have:=(hS'.box i x h0).lowB (e2:=e.show e') (σ2:=σ.show σ' n) (w2:=w') (n:=n) (fun i hi=>(hβ i hi).symm) (by rw [hlen];exact hn) hD rfl (Zd4 hl hx);rw [hβ i h] at this;exact this
  rw [TU sO] at hx;have ct:(σ'.bx.take n).length=n:=sO;have qf:=ZfU ha hx;rw [ct,SF,show n+(i - n)=i by omega] at hx;have hi:=(Ti.1 hx).1;have hB:=hS.box i x hx;have gp:w'.heap[e.β i]?=w.heap[e.β i]?:=hL.blocks _ (hS.lt hi) (fun j hj he=>by
   rw [ZF2 hn] at hj;have:=hS.inj j i oM hi he;omega) (fun t ht=>nomatch ht) (by
   show e.H (e.β i)=none
   cases hq:e.H (e.β i) with
   | none=>rfl
   | some q=>exact absurd rfl ((hS.hid _ _ hq).2.2.1 i hi))
  cases x with
  | cells t cs =>
   obtain ⟨vs,h1,h2,h3⟩:=hB;exact ⟨vs,gp.trans h1,h2,fun i x u hx hu=>⟨(h3 i x u hx hu).1.step hst,(h3 i x u hx hu).2⟩⟩
  | dmap m=>exact hB.dmapTo gp fun d v h=>h.later hst.toLater
  | loop st pd r=>exact Eq.trans gp hB
  | iter s p=>exact Eq.trans gp hB
  | _=>simp [UA] at qf
 obtain ⟨h1,h2,h3,h4,h5⟩:=hS'.hid b q hq;refine ⟨h1,h2,fun i hi he=>?_,fun t ht=>(nomatch ht),fun off ho hx=>h5 off ho (hL.X _ _ (.inl hx))⟩;rw [hlen] at hi
 by_cases h:i<n
 ·exact h3 i oM ((hβ i h).trans he)
 exact h5 q.2 (Tu _) (by have:=hX i oM hi q.2;rw [show e.β i=b from he] at this;exact this)
end
def Zy6 (n:Nat) (σ:St) (K:PEnd->St->Prop) (pe:PEnd) (σ':St):Prop:=∃b:Bool,pe=.ret (.d (.bool b))/\Zd3 n (σ'.bx.take n)=true/\K (.ret (.d (.bool b))) (σ.show σ' n)
def ZrA (n:Nat) (args:List PV) (σ:St):Prop:=σ.tk=[]/\Nat.ble n σ.bx.length=true/\Zd3 n (σ.bx.take n)=true/\UA (σ.bx.drop n)=true/\Zoj n args=true
def Zvp (n:Nat) (raw:Raw):Raw:=fun v args σ K=>ZrA n args σ/\raw v args (σ.low n) (Zy6 n σ K)
def ZrB (n:Nat) (raw:Raw) (it:Zfe):Zfe:=fun g args _ σ K=>ZrA n args σ/\it g args raw (σ.low n) (Zy6 n σ K)
section
variable {G:GE} {e0:Env} {σ0:St} {w0:World}
def ZfV {e:Env} {σ:St} {w w':World} {n:Nat} {args:List PV} {K:PEnd->St->Prop} {en:Ending} (hS:SRel G e σ w) (ho:ZrA n args σ) (h:YB G (e.hide σ n) (σ.low n) w (Zy6 n σ K) en w'):YB G e σ w K en w':=by
 obtain ⟨pe,σ',e',⟨b,rfl,hl,hK⟩,⟨v,rfl,hv⟩,hS',hL⟩:=h;obtain ⟨h1,h2,h3,h4,h5⟩:=ho;obtain ⟨g1,g2⟩:=hS.show h1 (Tc h2) h4 hS' hL hl;refine ⟨_,_,_,hK,⟨v,rfl,?_⟩,g1,g2⟩
 cases hv with
 | d _ _ hd=>cases hd;exact .d _ _ (.bool b)
def Zok {raw:Raw} {n:Nat} (h:RawSem G e0 σ0 w0 raw) (hn:σ0.bx.length<=n):RawSem G e0 σ0 w0 (Zvp n raw):=fun v args σ K ⟨ho,hc⟩=>by
 obtain ⟨l,hl,hr⟩:=h v args _ _ hc;refine ⟨l,hl,fun ro k e w vs hS hL ha=>?_⟩;have aj:=Tc ho.2.1;obtain ⟨f,tmps,asg,body,hy,hR⟩:=hr ro k _ w vs (hS.hide aj ho.2.2.1) (hL.hide aj hn) (ha.hide aj ho.2.2.2.2);exact ⟨f,tmps,asg,body,hy,hR.mono fun en w' hA=>ZfV hS ho hA⟩
def ZkX {raw:Raw} {it:Zfe} {n:Nat} (ki:IterSem G it) (h:RawSem G e0 σ0 w0 raw) (hn:σ0.bx.length<=n):IterAt G e0 σ0 w0 (ZrB n raw it):=fun g args _ σ K ⟨ho,hc⟩=>by
 obtain ⟨gu,hr⟩:=ki g args raw _ _ hc;refine ⟨gu,fun k e w vs hS hL ha _=>?_⟩;have aj:=Tc ho.2.1;exact (hr k _ w vs (hS.hide aj ho.2.2.1) (ha.hide aj ho.2.2.2.2) (h.later (hL.hide aj hn))).mono fun en w' hA=>ZfV hS ho hA
end
def ZE8 (T:Tab) (tbl:Tbl) (n:Nat) (raw:Raw) (it:Zfe) (loops:Nat->LoopAnn):Cx:=⟨T,ZF4 tbl,Zvp n raw,ZrB n raw it,loops,fun _=>0,fun _=>false,fun _=>false,true,fun _=>none,fun _=>false,fun _=>false⟩
def ZrC {G : GE} {T : Tab} {tbl : Tbl} (hT : TabOK T G.P) (az : G.P.follows .mixedOrders = true) (ht : TblOK G tbl) (hm : TblM tbl) {it : Zfe} (ki : IterSem G it) {g : FuncId} {fn : Func} {c : Code} (hf : G.P.funcs[g]? = some fn) (hb : fn.body = some c) (ak : (fn.name == "runtime.NumGoroutine") = false)
  (ao:ZE fn.ntmps c=true) {ci:Zfe} (h:∀g' args raw σ K,ci g' args raw σ K->g'=g/\args.length<=fn.ntmps/\∃loops,WF (ZE8 T tbl σ.bx.length raw it loops) fn σ.bx.length false args σ K):IterSem G ci:=fun g' args raw σ K hc=>by
 obtain ⟨rfl,hlen,loops,hw⟩:=h g' args raw σ K hc;refine ⟨Ze hf ak hb,fun n e w vs hS ac gw=>?_⟩;exact Ue az (C:=ZE8 T tbl σ.bx.length raw it loops) ⟨hT,ht.sem,Zok gw (Tu _),ZkX ki gw (Tu _),.inl rfl⟩ ⟨fun _ h1 h2=>hT.one h1 h2,hm.mono,fun _ _ _ _ h=>h.elim,fun _ _ _ _ _ h=>h.elim,rfl⟩ hf hb ao (Tu _) hlen hw hS ac
end Go.PM
end
