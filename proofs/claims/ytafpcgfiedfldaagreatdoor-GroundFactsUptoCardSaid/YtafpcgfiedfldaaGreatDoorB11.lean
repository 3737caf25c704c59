/- A part of the proof: plain logic, contracts and laws over the given program. -/
import Derived.Test.YtafpcgfiedfldaaGreatDoorB10
set_option linter.unusedVariables false
set_option linter.unusedSimpArgs false
set_option linter.all false
set_option maxRecDepth 100000
set_option maxHeartbeats 16000000
section
namespace Go.PM
def low0 (n:Nat):PV->Bool
 | .d _=>true
 | .ptr b _=>Nat.ble (b+1) n
 | .mp b=>Nat.ble (b+1) n
 | .nilm=>true
 | .raw _=>true
 | _=>false
def Zzd (n:Nat):List PV->Bool
 | []=>true
 | v::l=>low0 n v && Zzd n l
def lowV (n:Nat):PV->Bool
 | .agg cs=>Zzd n cs
 | v=>low0 n v
def ZnT (n:Nat):List PV->Bool
 | []=>true
 | v::l=>lowV n v && ZnT n l
def lowB (n:Nat):Box->Bool
 | .cells _ cs=>Zzd n cs
 | .dmap _=>true
 | .loop _ _ _=>true
 | _=>false
def Zd8 (n:Nat):List Box->Bool
 | []=>true
 | v::l=>lowB n v && Zd8 n l
def UA:List Box->Bool
 | []=>true
 | .cells _ _::l=>UA l
 | .dmap _::l=>UA l
 | .loop _ _ _::l=>UA l
 | .iter _ _::l=>UA l
 | _::_=>false
def Zhf {n:Nat}:∀{l:List PV} {i:Nat} {x:PV},Zzd n l=true->l[i]?=some x->low0 n x=true
 | v::l,0,x,h,hx=>by simp [Zzd] at h;simp at hx;rw [<- hx];exact h.1
 | v::l,i+1,x,h,hx=>by simp [Zzd] at h;exact Zhf h.2 (by simpa using hx)
def ZiX {n:Nat}:∀{l:List PV} {i:Nat} {x:PV},ZnT n l=true->l[i]?=some x->lowV n x=true
 | v::l,0,x,h,hx=>by simp [ZnT] at h;simp at hx;rw [<- hx];exact h.1
 | v::l,i+1,x,h,hx=>by simp [ZnT] at h;exact ZiX h.2 (by simpa using hx)
def Zd9 {n:Nat}:∀{l:List Box} {i:Nat} {x:Box},Zd8 n l=true->l[i]?=some x->lowB n x=true
 | v::l,0,x,h,hx=>by simp [Zd8] at h;simp at hx;rw [<- hx];exact h.1
 | v::l,i+1,x,h,hx=>by simp [Zd8] at h;exact Zd9 h.2 (by simpa using hx)
def Zf1:∀{l:List Box} {i:Nat} {x:Box},UA l=true->l[i]?=some x->UA [x]=true
 | v::l,0,x,h,hx=>by simp at hx;subst hx;cases v <;> first | rfl | (simp [UA] at h)
 | v::l,i+1,x,h,hx=>by
  refine Zf1 (l:=l) ?_ (by simpa using hx)
  cases v <;> first | exact h | (simp [UA] at h)
section
variable {G:GE} {e e1 e2:Env} {σ σ1 σ2:St} {w w2:World} {n:Nat}
def VRel.low0 (hβ:∀i,i<n->e2.β i=e.β i) (hn:n<=σ2.bx.length) (hD:∀d v,DRel (okc e σ) w d v->DRel (okc e2 σ2) w2 d v) {x:PV} {u:Value} (hl:low0 n x=true) (h:VRel G e σ w x u):VRel G e2 σ2 w2 x u:=by
 cases h with
 | d x v h=>exact .d _ _ (hD _ _ h)
 | ptr b off h =>
  have hb:=Tc hl;rw [<- hβ b hb];exact .ptr b off oM
 | mp b h =>
  have hb:=Tc hl;rw [<- hβ b hb];exact .mp b oM
 | nilm=>exact .nilm
 | raw=>exact .raw _
 | _=>simp [PM.low0] at hl
def VRel.lowV (hβ:∀i,i<n->e2.β i=e.β i) (hn:n<=σ2.bx.length) (hD:∀d v,DRel (okc e σ) w d v->DRel (okc e2 σ2) w2 d v) {x:PV} {u:Value} (hl:lowV n x=true) (h:VRel G e σ w x u):VRel G e2 σ2 w2 x u:=by
 have gen:∀{x u},PM.low0 n x=true->VRel G e σ w x u->VRel G e2 σ2 w2 x u:=fun hl h=>h.low0 hβ hn hD hl
 cases h with
 | agg cs vs hs h h1=>exact .agg cs vs hs (fun i x u hx hu=>gen (Zhf hl hx) (h i x u hx hu)) h1
 | d x _ h=>exact gen hl (.d x _ h)
 | ptr b off h=>exact gen hl (.ptr b off h)
 | mp b h=>exact gen hl (.mp b h)
 | nilm=>exact .nilm
 | raw=>exact .raw _
 | _=>simp [PM.lowV,PM.low0] at hl
def BRel.lowB (hβ:∀i,i<n->e2.β i=e.β i) (hn:n<=σ2.bx.length) (hD:∀d v,DRel (okc e σ) w d v->DRel (okc e2 σ2) w2 d v) {x:Box} {b:Nat} (hb:w2.heap[b]?=w.heap[b]?) (hl:lowB n x=true) (h:BRel G e σ w x b):BRel G e2 σ2 w2 x b:=by
 cases x with
 | cells t cs =>
  obtain ⟨vs,h1,h2,h3⟩:=h;exact ⟨vs,hb.trans h1,h2,fun i x u hx hu=>⟨(h3 i x u hx hu).1.low0 hβ hn hD (Zhf hl hx),(h3 i x u hx hu).2⟩⟩
 | dmap m=>exact h.dmapTo hb hD
 | loop st pd r=>exact Eq.trans hb h
 | _=>simp [PM.lowB] at hl
def Env.hide (e:Env) (σ:St) (n:Nat):Env:={ e with X:=fun b off=>e.X b off\/∃i,n<=i/\i<σ.bx.length/\e.β i=b }
def St.low (σ:St) (n:Nat):St:=⟨σ.bx.take n,[],σ.nx⟩
def ZFA (hn:n<=σ.bx.length):(σ.low n).bx.length=n:=by simp [St.low];omega
def Zhg (hn:n<=σ.bx.length) {b off:Nat} (h:okc e σ b off):okc (e.hide σ n) (σ.low n) b off :=
 ⟨fun hx=>hx.elim h.1 fun ⟨i,_,hi,he⟩=>h.2.1 i hi he,fun i hi=>h.2.1 i (by rw [ZFA hn] at hi;omega),fun t ht=>(nomatch ht),h.2.2.2⟩
def DRel.hide (hn:n<=σ.bx.length) {d:D} {v:Value} (h:DRel (okc e σ) w d v):DRel (okc (e.hide σ n) (σ.low n)) w d v:=h.mono fun b off u hu ho=>⟨Zhg hn ho,hu⟩
def SRel.hide (hS:SRel G e σ w) (hn:n<=σ.bx.length) (hl:Zd8 n (σ.bx.take n)=true):SRel G (e.hide σ n) (σ.low n) w where
 inj:=fun i j hi hj=>by rw [ZFA hn] at hi hj;exact hS.inj i j oM oM
 box:=fun i x hx=>by
  have ge:(σ.bx.take n)[i]?=some x:=hx;have hi:=(Ti.1 ge).1;rw [List.length_take] at hi;have h0:σ.bx[i]?=some x:=by rw [SO] at ge;split at ge;exact ge;cases ge
  exact BRel.lowB (e:=e) (σ:=σ) (w:=w) (e2:=e.hide σ n) (σ2:=σ.low n) (w2:=w) (fun _ _=>rfl) (Nat.le_of_eq (ZFA hn).symm) (fun _ _ h=>h.hide hn) rfl (Zd9 hl ge) (hS.box i x h0)
 low:=fun i hi=>by rw [ZFA hn] at hi;exact hS.low i oM
 tkn:=fun t ht=>(nomatch ht)
 own:=fun t ht=>(nomatch ht)
 dis:=fun t t' ht=>(nomatch ht)
 xlt:=fun b off hx=>hx.elim (hS.xlt b off) fun ⟨i,_,hi,he⟩=>he ▸ hS.lt hi
 xown:=fun t ht=>(nomatch ht)
 hid:=fun b q hq=>by
  obtain ⟨h1,h2,h3,h4,h5⟩:=hS.hid b q hq;exact ⟨h1,h2,fun i hi=>h3 i (by rw [ZFA hn] at hi;omega),fun t ht=>(nomatch ht),fun off ho hx=>hx.elim (h5 off ho) fun ⟨i,_,hi,he⟩=>h3 i hi he⟩
 glob:=hS.glob
 big:=hS.big
def Later.hide {e0:Env} {σ0:St} {w0:World} (h:Later e0 σ0 w0 e σ w) (hn:n<=σ.bx.length) (h0:σ0.bx.length<=n):Later e0 σ0 w0 (e.hide σ n) (σ.low n) w where
 len:=by rw [ZFA hn];exact h0
 beta:=h.beta
 X:=fun b off hx=>.inl (h.X b off hx)
 pres:=fun b off u hu ho=>let ⟨h1,h2⟩:=h.pres b off u hu ho;⟨Zhg hn h1,h2⟩
 blocks:=h.blocks
 size:=h.size
 os:=h.os
 tape:=h.tape
 output:=h.output
 fresh:=fun i h1 h2=>h.fresh i h1 (by rw [ZFA hn] at h2;omega)
 ftok:=fun t ht=>(nomatch ht)
 fhid:=h.fhid
def ArgsRel.hide {args:List PV} {vs:Array Value} (h:ArgsRel G e σ w args vs) (hn:n<=σ.bx.length) (hl:ZnT n args=true):ArgsRel G (e.hide σ n) (σ.low n) w args vs :=
 ⟨h.1,fun i x u hx hu=>VRel.lowV (e:=e) (σ:=σ) (w:=w) (e2:=e.hide σ n) (σ2:=σ.low n) (w2:=w) (fun _ _=>rfl) (Nat.le_of_eq (ZFA hn).symm) (fun _ _ h=>h.hide hn) (ZiX hl hx) (h.2 i x u hx hu)⟩
def Env.show (e e':Env):Env:=⟨e.β,e'.M,e.X,e'.H⟩
def St.show (σ σ':St) (n:Nat):St:=⟨σ'.bx.take n++σ.bx.drop n,[],σ.nx+σ'.nx⟩
def ZtK {σ':St} (hn:n<=σ.bx.length) (pb:n<=σ'.bx.length):(σ.show σ' n).bx.length=σ.bx.length:=by simp [St.show];omega
def SRel.show {e':Env} {σ':St} {w':World} (hS:SRel G e σ w) (ht:σ.tk=[]) (hn:n<=σ.bx.length) (ha:UA (σ.bx.drop n)=true) (hS':SRel G e' σ' w') (hL:Later (e.hide σ n) (σ.low n) w e' σ' w') (hl:Zd8 n (σ'.bx.take n)=true) :
  SRel G (e.show e') (σ.show σ' n) w'/\Later e σ w (e.show e') (σ.show σ' n) w':=by
 have pb:n<=σ'.bx.length:=by have:=hL.len;rw [ZFA hn] at this;exact this
 have hβ:∀i,i<n->e'.β i=e.β i:=fun i hi=>hL.beta i (by rw [ZFA hn];exact hi)
 have hlen:=ZtK (σ':=σ') hn pb;have hX:∀i,n<=i->i<σ.bx.length->∀off,e'.X (e.β i) off:=fun i h1 h2 off=>hL.X _ _ (.inr ⟨i,h1,h2,rfl⟩)
 have av:∀b off,okc e' σ' b off->okc (e.show e') (σ.show σ' n) b off:=fun b off ho=>by
  refine ⟨fun hx=>ho.1 (hL.X _ _ (.inl hx)),fun i hi he=>?_,fun t ht=>(nomatch ht),ho.2.2.2⟩;rw [hlen] at hi
  by_cases h:i<n
  ·exact ho.2.1 i oM ((hβ i h).trans he)
  exact ho.1 (by have:=hX i oM hi off;rw [show e.β i=b from he] at this;exact this)
 have hD:∀d v,DRel (okc e' σ') w' d v->DRel (okc (e.show e') (σ.show σ' n)) w' d v:=fun d v h=>h.mono fun b off u hu ho=>⟨av b off ho,hu⟩
 have hst:Stepped e σ w (e.show e') (σ.show σ' n) w':={
  len:=Nat.le_of_eq hlen.symm
  beta:=fun _ _=>rfl
  X:=fun _ _ h=>h
  pres:=fun b off u hu ho=>let ⟨h1,h2⟩:=hL.pres b off u hu (Zhg hn ho);⟨av _ _ h1,h2⟩
  blocks:=fun b hb hi _ hh=>hL.blocks b hb (fun i h=>hi i (by rw [ZFA hn] at h;omega)) (fun t ht=>(nomatch ht)) hh
  size:=hL.size
  os:=hL.os
  tape:=hL.tape
  output:=hL.output
  fresh:=fun i h1 h2=>by rw [hlen] at h2;omega
  ftok:=fun t ht=>(nomatch ht)
  fhid:=fun b hb=>(hL.fhid b hb).elim .inl fun h=>h.elim (fun ⟨t,ht,_⟩=>nomatch ht) fun h=>.inr (.inr h)
  nx:=Nat.le_add_right _ _
  toks:=fun t _ ht=>(nomatch ht)
  own:=fun t _ ht=>(nomatch ht) }
 refine ⟨{ inj:=fun i j hi hj=>by rw [hlen] at hi hj;exact hS.inj i j hi hj,box:=fun i x hx=>?_,low:=fun i hi=>by rw [hlen] at hi;exact hS.low i hi,tkn:=fun t ht=>(nomatch ht),own:=fun t ht=>(nomatch ht),dis:=fun t t' ht=>(nomatch ht),xlt:=fun b off hx=>(TA (hS.xlt b off hx) hL.size:b<w'.heap.size),xown:=fun t ht=>(nomatch ht),hid:=fun b q hq=>?_,glob:=hS'.glob,big:=hS'.big },hst.toLater⟩
 ·have hx:(σ'.bx.take n++σ.bx.drop n)[i]?=some x:=hx
  by_cases h:i<n
  ·rw [TH sO] at hx;have h0:σ'.bx[i]?=some x:=by rw [SO,Tk h] at hx;exact hx
   have:=(hS'.box i x h0).lowB (e2:=e.show e') (σ2:=σ.show σ' n) (w2:=w') (n:=n) (fun i hi=>(hβ i hi).symm) (by rw [hlen];exact hn) hD rfl (Zd9 hl hx);rw [hβ i h] at this;exact this
  rw [TT sO] at hx;have cq:(σ'.bx.take n).length=n:=sO;have qj:=Zf1 ha hx;rw [cq,SE,show n+(i - n)=i by omega] at hx;have hi:=(Ti.1 hx).1;have hB:=hS.box i x hx;have gp:w'.heap[e.β i]?=w.heap[e.β i]?:=hL.blocks _ (hS.lt hi) (fun j hj he=>by
   rw [ZFA hn] at hj;have:=hS.inj j i oM hi he;omega) (fun t ht=>nomatch ht) (by
   show e.H (e.β i)=none
   cases hq:e.H (e.β i) with
   | none=>rfl
   | some q=>exact absurd rfl ((hS.hid _ _ hq).2.2.1 i hi))
  cases x with
  | cells t cs =>
   obtain ⟨vs,h1,h2,h3⟩:=hB;exact ⟨vs,gp.trans h1,h2,fun i x u hx hu=>⟨(h3 i x u hx hu).1.step hst,(h3 i x u hx hu).2⟩⟩
  | dmap m=>exact hB.dmapTo gp fun d v h=>h.later hst.toLater
  | loop st pd r=>exact Eq.trans gp hB
  | iter s p=>exact Eq.trans gp hB
  | _=>simp [UA] at qj
 obtain ⟨h1,h2,h3,h4,h5⟩:=hS'.hid b q hq;refine ⟨h1,h2,fun i hi he=>?_,fun t ht=>(nomatch ht),fun off ho hx=>h5 off ho (hL.X _ _ (.inl hx))⟩;rw [hlen] at hi
 by_cases h:i<n
 ·exact h3 i oM ((hβ i h).trans he)
 exact h5 q.2 (Tt _) (by have:=hX i oM hi q.2;rw [show e.β i=b from he] at this;exact this)
end
def Zyn (n:Nat) (σ:St) (K:PEnd->St->Prop) (pe:PEnd) (σ':St):Prop:=∃b:Bool,pe=.ret (.d (.bool b))/\Zd8 n (σ'.bx.take n)=true/\K (.ret (.d (.bool b))) (σ.show σ' n)
def Zq3 (n:Nat) (args:List PV) (σ:St):Prop:=σ.tk=[]/\Nat.ble n σ.bx.length=true/\Zd8 n (σ.bx.take n)=true/\UA (σ.bx.drop n)=true/\ZnT n args=true
def ZuK (n:Nat) (raw:Raw):Raw:=fun v args σ K=>Zq3 n args σ/\raw v args (σ.low n) (Zyn n σ K)
def Zq4 (n:Nat) (raw:Raw) (it:Zfp):Zfp:=fun g args _ σ K=>Zq3 n args σ/\it g args raw (σ.low n) (Zyn n σ K)
section
variable {G:GE} {e0:Env} {σ0:St} {w0:World}
def Zf2 {e:Env} {σ:St} {w w':World} {n:Nat} {args:List PV} {K:PEnd->St->Prop} {en:Ending} (hS:SRel G e σ w) (ho:Zq3 n args σ) (h:YD G (e.hide σ n) (σ.low n) w (Zyn n σ K) en w'):YD G e σ w K en w':=by
 obtain ⟨pe,σ',e',⟨b,rfl,hl,hK⟩,⟨v,rfl,hv⟩,hS',hL⟩:=h;obtain ⟨h1,h2,h3,h4,h5⟩:=ho;obtain ⟨g1,g2⟩:=hS.show h1 (Tc h2) h4 hS' hL hl;refine ⟨_,_,_,hK,⟨v,rfl,?_⟩,g1,g2⟩
 cases hv with
 | d _ _ hd=>cases hd;exact .d _ _ (.bool b)
def ZnU {raw:Raw} {n:Nat} (h:RawSem G e0 σ0 w0 raw) (hn:σ0.bx.length<=n):RawSem G e0 σ0 w0 (ZuK n raw):=fun v args σ K ⟨ho,hc⟩=>by
 obtain ⟨l,hl,hr⟩:=h v args _ _ hc;refine ⟨l,hl,fun ro k e w vs hS hL ha=>?_⟩;have aj:=Tc ho.2.1;obtain ⟨f,tmps,asg,body,hy,hR⟩:=hr ro k _ w vs (hS.hide aj ho.2.2.1) (hL.hide aj hn) (ha.hide aj ho.2.2.2.2);exact ⟨f,tmps,asg,body,hy,hR.mono fun en w' hA=>Zf2 hS ho hA⟩
def ZkL {raw:Raw} {it:Zfp} {n:Nat} (kl:IterSem G it) (h:RawSem G e0 σ0 w0 raw) (hn:σ0.bx.length<=n):IterAt G e0 σ0 w0 (Zq4 n raw it):=fun g args _ σ K ⟨ho,hc⟩=>by
 obtain ⟨jc,hr⟩:=kl g args raw _ _ hc;refine ⟨jc,fun k e w vs hS hL ha _=>?_⟩;have aj:=Tc ho.2.1;exact (hr k _ w vs (hS.hide aj ho.2.2.1) (ha.hide aj ho.2.2.2.2) (h.later (hL.hide aj hn))).mono fun en w' hA=>Zf2 hS ho hA
end
def ZEx (T:Tab) (tbl:Tbl) (n:Nat) (raw:Raw) (it:Zfp) (loops:Nat->LoopAnn):Cx:=⟨T,ZFC tbl,ZuK n raw,Zq4 n raw it,loops,fun _=>0,fun _=>false,fun _=>false,true,fun _=>none,fun _=>false,fun _=>false⟩
def Zq5 {G : GE} {T : Tab} {tbl : Tbl} (hT : TabOK T G.P) (az : G.P.follows .mixedOrders = true) (ht : TblOK G tbl) (hm : TblM tbl) {it : Zfp} (kl : IterSem G it) {g : FuncId} {fn : Func} {c : Code} (hf : G.P.funcs[g]? = some fn) (hb : fn.body = some c) (ak : (fn.name == "runtime.NumGoroutine") = false)
  (av:ZD fn.ntmps c=true) {ci:Zfp} (h:∀g' args raw σ K,ci g' args raw σ K->g'=g/\args.length<=fn.ntmps/\∃loops,WF (ZEx T tbl σ.bx.length raw it loops) fn σ.bx.length false args σ K):IterSem G ci:=fun g' args raw σ K hc=>by
 obtain ⟨rfl,hlen,loops,hw⟩:=h g' args raw σ K hc;refine ⟨Zf hf ak hb,fun n e w vs hS ac gw=>?_⟩;exact Uh az (C:=ZEx T tbl σ.bx.length raw it loops) ⟨hT,ht.sem,ZnU gw (Tt _),ZkL kl gw (Tt _),.inl rfl⟩ ⟨fun _ h1 h2=>hT.one h1 h2,hm.mono,fun _ _ _ _ h=>h.elim,fun _ _ _ _ _ h=>h.elim,rfl⟩ hf hb av (Tt _) hlen hw hS ac
end Go.PM
end
