/- A part of the proof: plain logic, contracts and laws over the given program. -/
import Derived.Scope
import Derived.RangeFuncRecord
import Derived.RangeFuncCalls
import Derived.RangeFuncLeaves
import Derived.Laws.Sem
import Derived.RecoverIn
import Derived.Test.YtcifacgjebbdbaaGreatDoorB03
set_option linter.unusedVariables false
set_option linter.unusedSimpArgs false
set_option linter.all false
set_option maxRecDepth 100000
set_option maxHeartbeats 16000000
noncomputable section
section
namespace Go.PM
def Xw {P:Program} {b:Go.Frame} {a:Act} {k:List Item} {cs:List Go.Frame} {w:World} {c:Code} :
  step P (lone (b.atR a (.code (.scope c)::k)) cs w)=.next (lone (b.atR a (.code c::.inScope c::k)) cs w) :=
 step_lone_go (by simp [stepG,stepG.exec,Go.Frame.atR])
def Zgf {P:Program} {b:Go.Frame} {a:Act} {k:List Item} {cs:List Go.Frame} {w:World} {c:Code} :
  step P (lone (b.atR a (.inScope c::k)) cs w)=.next (lone (b.atR a k) cs w) :=
 step_lone_go (by simp [stepG,stepG.exec,Go.Frame.atR])
def Zmp {F:Fence} {n:Nat} {P:Program} {Q:Exit->Act->World->Prop} {a:Act} {w:World} {c:Code} (h:c.wpIn F n P (Exit.noGoto Q) a w):(Code.scope c).wpIn F n P Q a w:=by
 intro b k cs uj hb hr
 have h0:(lone (b.atR a (.code (.scope c)::k)) cs w).fenced P F:=fenced_calm hb hr rfl;obtain ⟨e,a₁,w₁,hq,nt⟩:=h b (.inScope c::k) cs uj hb hr
 cases e with
 | normal=>exact ⟨.normal,a₁,w₁,hq,.head h0 Xw (StepsIn.trans nt (.one (fenced_calm hb hr rfl) Zgf))⟩
 | exit id =>
  have hx:exitTo id (.inScope c::k)=exitTo id k:=by simp [exitTo]
  exact ⟨.exit id,a₁,w₁,hq,fun k' hk=>.head h0 Xw (nt.1 k' (by rw [hx];exact hk)),
   fun n9 hk=>let ⟨k₁,h1,h2⟩:=nt.2 n9 (by rw [hx];exact hk);⟨k₁,h1,.head h0 Xw h2⟩⟩
 | goto l=>exact hq.elim
 | ret=>exact ⟨_,a₁,w₁,hq,.of_steps (.one h0 Xw) nt⟩
 | panic ch=>exact ⟨_,a₁,w₁,hq,.of_steps (.one h0 Xw) nt⟩
 | outgrown=>exact ⟨_,a₁,w₁,hq,.of_steps (.one h0 Xw) nt⟩
def Zog (N:Nat):List Oper->Bool
 | []=>true
 | o::l=>(match o.dst with | some d=>Nat.ble (d+1) N | none=>true) && Zog N l
def ZJ (N:Nat):Code->Bool
 | .region _ ops draw=>Zog N ops.toList && (!draw || (match ZeV ops.toList with | none=>(match Zhu (W5 ops.toList []) none (ZK 0 ops.toList) with | true=>Zn6 ops.toList | false=>Zu7 ops.toList) | some h=>Zob ops.toList h))
 | .seq a b=>ZJ N a && ZJ N b
 | .cond _ a b=>ZJ N a && ZJ N b
 | .block _ b=>ZJ N b
 | .loop b=>ZJ N b
 | .scope b=>ZJ N b
 | .rangeFunc _ ps a b=>ps.toList.all (fun p=>Nat.ble (p+1) N) && ZJ N a && ZJ N b
 | _=>true
def Za8 {N:Nat}:∀{l:List Oper},Zog N l=true->∀o∈l,∀d,o.dst=some d->d<N
 | [],_,o,ho=>by cases ho
 | x::l,h,o,ho=>by
  simp only [Zog,Tm] at h;rcases Tv.1 ho with rfl | ho
  ·intro d hd
   have:=h.1;rw [hd] at this;exact Tc this
  exact Za8 h.2 o ho
def Jm {ks:List Nat}:∀{l:List Oper},YW l ks=true->∀o∈l,∀d,o.dst=some d->d∉ks
 | [],_,o,ho=>by cases ho
 | x::l,h,o,ho=>by
  simp only [YW,Tm] at h;rcases Tv.1 ho with rfl | ho
  ·intro d hd hm
   have:=h.1;rw [hd] at this;simp only [TZ] at this;rw [(Ys _ _).2 hm] at this;cases this
  exact Jm h.2 o ho
def Kept (ks:List Nat) (t0 t:Array Value):Prop:=∀i,i∈ks->t.getD i Go.undef=t0.getD i Go.undef
def Kept.set {ks:List Nat} {t0 t:Array Value} (h:Kept ks t0 t) {d:Nat} (hd:d∉ks) (v:Value):Kept ks t0 (t.setIfInBounds d v):=fun i hi=>by
 have ai:d≠i:=fun e=>hd (e ▸ hi)
 rw [<- h i hi];simp [T3,ai]
def V4 {ks ls:List Nat}:∀{l:List Oper},YW l ks=true->YW l ls=true->YW l (ks++ls)=true
 | [],_,_=>rfl
 | o::l,h1,h2=>by
  simp only [YW,Tm] at h1 h2 |-;refine ⟨?_,V4 h1.2 h2.2⟩;have h1:=h1.1;have h2:=h2.1
  cases hd:o.dst with
  | none=>rfl
  | some d =>
  rw [hd] at h1 h2;simp only [TZ] at h1 h2 |-
  cases h3:Zhn d (ks++ls) with
  | false=>rfl
  | true =>
  rcases TJ.1 ((Ys _ _).1 h3) with h4 | h4
  ·rw [(Ys _ _).2 h4] at h1;cases h1
  rw [(Ys _ _).2 h4] at h2;cases h2
def Zes {ks ls:List Nat}:∀{c:Code},Yi ks c=true->Yi ls c=true->Yi (ks++ls) c=true:=by
 intro c
 induction c with
 | region id ops draw=>exact fun h1 h2=>V4 h1 h2
 | seq a b iha ihb=>intro h1 h2;simp only [Yi,Tm] at h1 h2 |-;exact ⟨iha h1.1 h2.1,ihb h1.2 h2.2⟩
 | cond c a b iha ihb=>intro h1 h2;simp only [Yi,Tm] at h1 h2 |-;exact ⟨iha h1.1 h2.1,ihb h1.2 h2.2⟩
 | block id b ih=>intro h1 h2;exact ih h1 h2
 | loop b ih=>intro h1 h2;exact ih h1 h2
 | scope b ih=>intro h1 h2;exact ih h1 h2
 | _=>intro _ _;rfl
def Y1:∀c:Code,Yi [] c=true:=by
 intro c
 induction c with
 | region id ops draw =>
  have:∀l:List Oper,YW l []=true:=by
   intro l
   induction l with
   | nil=>rfl
   | cons o l ih=>simp only [YW,ih,Bool.and_true];cases o.dst <;> rfl
  exact this _
 | seq a b iha ihb=>simp [Yi,iha,ihb]
 | cond c a b iha ihb=>simp [Yi,iha,ihb]
 | block id b ih=>exact ih
 | loop b ih=>exact ih
 | scope b ih=>exact ih
 | _=>rfl
section
variable {G:GE} {C:Cx} {e0 e:Env} {σ0 σ:St} {w0 w:World} {a:Act} {f:Frame} {Q:PQ} {ro:Option Nat} {n:Nat} {ds:Nat×List Deferred×Bool} {N:Nat}
def Zac {base:Frame} {tm:Array Value} (hb:FRel G e σ w base tm):∀{live:List Nat} {vs:List PV},(∀(k i:Nat) (x:PV),live[k]?=some i->vs[k]?=some x->VRel G e σ w x (tm.getD i Go.undef))->FRel G e σ w (Zf0 base live vs) tm
 | [],vs,_=>by cases vs <;> exact hb
 | i::is,[],_=>hb
 | i::is,v::vs,h=>by
  intro j
  have ih:=Zac hb (live:=is) (vs:=vs) fun k i x h1 h2=>h (k+1) i x (by simpa using h1) (by simpa using h2)
  simp only [Zf0]
  by_cases jk:i=j
  ·subst jk;rw [Yx];exact h 0 i v sM sM
  rw [Xe _ _ jk];exact ih j
def Zc8 {f0:Frame} {tm:Array Value}:∀{keep:List Nat},(∀i,i∈keep->VRel G e σ w (clean (f0 i)) (tm.getD i Go.undef))->FRel G e σ w (Zi1 f0 keep) tm
 | [],_=>fun i=>.undef _
 | i::is,h=>by
  intro j
  simp only [Zi1]
  by_cases jk:i=j
  ·subst jk;rw [Yx];exact h i sM
  rw [Xe _ _ jk];exact Zc8 (fun k hk=>h k (TA _ hk)) j
def ZrH {ks:List Nat} {t0:Array Value} {b:Code} (ihb:∀(Q:PQ) {e:Env} {σ:St} {w:World} {a:Act} {f:Frame},SRel G e σ w->FRel G e σ w f a.tmps->Later e0 σ0 w0 e σ w->a.tmps.size=N->Marks ds e σ w a.defers->Kept ks t0 a.tmps->W C b Q f σ->b.wpIn (fw ro) n G.P (ZP G e0 σ0 w0 ds N (Kept ks t0) Q) a w)
  (x:Exit) (a:Act) (w:World) (h:ZP G e0 σ0 w0 ds N (Kept ks t0) (fun e f σ=>match e with | .normal=>W C b Q f σ | e=>Q e f σ) x a w):Exit.then (b.wpIn (fw ro) n G.P (ZP G e0 σ0 w0 ds N (Kept ks t0) Q)) (ZP G e0 σ0 w0 ds N (Kept ks t0) Q) x a w:=by
 obtain ⟨pe,f,e,σ,hq,hx,h1,h2,h3,h4,h5,h6⟩:=h
 cases pe with
 | normal=>obtain rfl:x=.normal:=hx;exact ihb Q h1 h2 h3 h4 h5 h6 hq
 | exit id=>obtain rfl:x=.exit id:=hx;exact ⟨.exit id,f,e,σ,hq,rfl,h1,h2,h3,h4,h5,h6⟩
 | goto l=>obtain rfl:x=.goto l:=hx;exact ⟨.goto l,f,e,σ,hq,rfl,h1,h2,h3,h4,h5,h6⟩
 | ret=>obtain rfl:x=.ret:=hx;exact ⟨.ret,f,e,σ,hq,rfl,h1,h2,h3,h4,h5,h6⟩
 | panic p=>obtain ⟨v,rfl,hv⟩:=hx;exact ⟨.panic p,f,e,σ,hq,⟨v,rfl,hv⟩,h1,h2,h3,h4,h5,h6⟩
def Zmq {Z:Array Value->Prop} {id:Nat} (x:Exit) (a:Act) (w:World) (h:ZP G e0 σ0 w0 ds N Z (fun e f σ=>match e with | .exit i=>(match Nat.beq i id with | true=>Q .normal f σ | false=>Q (.exit i) f σ) | e=>Q e f σ) x a w) :
  Exit.inBlock id (ZP G e0 σ0 w0 ds N Z Q) x a w:=by
 obtain ⟨pe,f,e,σ,hq,hx,au⟩:=h
 cases pe with
 | normal=>obtain rfl:x=.normal:=hx;exact ⟨.normal,f,e,σ,hq,rfl,au⟩
 | exit i =>
  obtain rfl:x=.exit i:=hx;simp only [Exit.inBlock]
  by_cases hi:i=id
  ·subst hi;rw [Th rfl];simp only [show Nat.beq i i=true from sM] at hq;exact ⟨.normal,f,e,σ,hq,rfl,au⟩
  rw [Tf hi];have:Nat.beq i id=false:=by
   cases hb:Nat.beq i id with
   | false=>rfl
   | true=>exact absurd (Tp hb) hi
  simp only [this] at hq;exact ⟨.exit i,f,e,σ,hq,rfl,au⟩
 | goto l=>obtain rfl:x=.goto l:=hx;exact ⟨.goto l,f,e,σ,hq,rfl,au⟩
 | ret=>obtain rfl:x=.ret:=hx;exact ⟨.ret,f,e,σ,hq,rfl,au⟩
 | panic p=>obtain ⟨v,rfl,hv⟩:=hx;exact ⟨.panic p,f,e,σ,hq,⟨v,rfl,hv⟩,au⟩
def Zmr {Z:Array Value->Prop} (x:Exit) (a:Act) (w:World) (h:ZP G e0 σ0 w0 ds N Z (fun e f σ=>match e with | .goto _=>False | e=>Q e f σ) x a w) :
  Exit.noGoto (ZP G e0 σ0 w0 ds N Z Q) x a w:=by
 obtain ⟨pe,f,e,σ,hq,hx,au⟩:=h
 cases pe with
 | normal=>obtain rfl:x=.normal:=hx;exact ⟨.normal,f,e,σ,hq,rfl,au⟩
 | exit i=>obtain rfl:x=.exit i:=hx;exact ⟨.exit i,f,e,σ,hq,rfl,au⟩
 | goto l=>exact hq.elim
 | ret=>obtain rfl:x=.ret:=hx;exact ⟨.ret,f,e,σ,hq,rfl,au⟩
 | panic p=>obtain ⟨v,rfl,hv⟩:=hx;exact ⟨.panic p,f,e,σ,hq,⟨v,rfl,hv⟩,au⟩
def Zgg (hS:SRel G e σ w) {b:Nat} {st st':LoopState} {pd pd':Option Code} {r:Loop} (hb:σ.bx[b]?=some (.loop st pd r)) :
  Stepped e σ w e (σ.set b (.loop st' pd' r)) (w.putObj (e.β b) (.loop { r with state:=st',pending:=pd' }))/\SRel G e (σ.set b (.loop st' pd' r)) (w.putObj (e.β b) (.loop { r with state:=st',pending:=pd' })):=by
 have nk:w.heap[e.β b]?=some (.loop { r with state:=st,pending:=pd }):=hS.box b _ hb;exact Uh hS hb rfl rfl rfl World.putObj_size (fun k hk=>World.putObj_heap_other hk) fun _=>World.putObj_heap_same (To.1 nk).1
def ZhM:∀{ps:List Nat} {f:Frame} {args:List PV} {tm:Array Value} {vs:List Value},FRel G e σ w f tm->vs.length=args.length->(∀(i:Nat) (x:PV) (u:Value),args[i]?=some x->vs[i]?=some u->VRel G e σ w x u)->(∀p∈ps,p<tm.size) ->
  FRel G e σ w (ZnD f ps args) ((ps.zip vs).foldl (fun tmps (x:Nat×Value)=>tmps.setIfInBounds x.1 x.2) tm)/\((ps.zip vs).foldl (fun tmps (x:Nat×Value)=>tmps.setIfInBounds x.1 x.2) tm).size=tm.size
 | [],f,args,tm,vs,hF,hl,hr,hp=>by simp only [ZnD,List.zip_nil_left,List.foldl_nil,and_true];exact hF
 | p::ps,f,[],tm,[],hF,hl,hr,hp=>⟨hF,rfl⟩
 | p::ps,f,x::args,tm,u::vs,hF,hl,hr,hp=>by
   simp only [List.zip_cons_cons,List.foldl_cons,ZnD];have h1:FRel G e σ w (Uc f p x) (tm.setIfInBounds p u):=by
    have:=FRel.put (a:={ tmps:=tm,defers:=[] }) (d:=some p) hF (hr 0 x u rfl rfl) (fun i hi=>by cases hi;exact hp p sM);exact this
   obtain ⟨g1,g2⟩:=ZhM (ps:=ps) h1 (by simpa using hl) (fun i y v hy hv=>hr (i+1) y v (by simpa using hy) (by simpa using hv)) (fun q hq=>by simpa using hp q (by simp [hq]));exact ⟨g1,by rw [g2];simp⟩
def Marks.push {lo:Nat×List Deferred×Bool} {l:List Deferred} (hS:SRel G e σ w) (hf:lo.2.2=false) (h:Marks lo e σ w l):Marks lo e σ (w.alloc (.deferred (some []))) (J6 w.heap.size::l):=by
 obtain ⟨h0,rs,h1,_,h2,h3⟩:=h;have hg:=Grows.alloc w (.deferred (some []));have nq:∀r∈rs,r<w.heap.size:=fun r hr=>(To.1 (h3 r hr).2.1).1
 refine ⟨Sa h0 hg.size,w.heap.size::rs,by rw [h1];rfl,fun h=>by (rw [hf] at h;cases h),List.nodup_cons.2 ⟨fun hm=>by have:=nq _ hm;omega,h2⟩,fun r hr=>?_⟩;rcases Tv.1 hr with rfl | hr
 ·refine ⟨h0,heap_alloc_new w _,fun i hi=>by have:=hS.lt hi;omega,fun t ht p hp=>?_,(by
   cases hq:e.H w.heap.size with
   | none=>rfl
   | some q=>have:=(hS.hid _ _ hq).2.1;omega)⟩
  obtain ⟨_,_,cs,ty,fz,hh⟩:=hS.own t ht p hp;have:=(To.1 hh).1;omega
 obtain ⟨g1,g2,g3,g4⟩:=h3 r hr;exact ⟨g1,(hg.old r (nq r hr)).trans g2,g3,g4⟩
def ZrI {o:Oper} {d:Nat} (hd:o.dst=some d):∀{l:List Oper},o∈l->Zeq d l=true:=fun {l} ho=>by
 induction l with
 | nil=>cases ho
 | cons x l ih =>
 rcases Tv.1 ho with rfl | ho
 ·unfold Zeq
  rw [hd];show (match Nat.beq d d with | true=>true | false=>Zeq d l)=true;rw [Nat.beq_refl]
 unfold Zeq
 split
 ·split
  ·rfl
  exact ih ho
 exact ih ho
def ZhN (bf:G.P.follows .mixedOrders=true) {id:Nat} {ops:Array Oper} {draw:Bool} (hC:CxOK G C ro e0 σ0 w0) (hM:CxMono C.calm) (ao:ZJ N (.region id ops draw)=true) {ks:List Nat} {t0:Array Value} (du:Yi ks (.region id ops draw)=true)
  (hS:SRel G e σ w) (hF:FRel G e σ w f a.tmps) (hL:Later e0 σ0 w0 e σ w) (hN:a.tmps.size=N) (bc:Marks ds e σ w a.defers) (hZ:Kept ks t0 a.tmps) (h:WR C ops.toList draw Q f σ):(Code.region id ops draw).wpIn (fw ro) n G.P (ZP G e0 σ0 w0 ds N (Kept ks t0) Q) a w:=by
 simp only [ZJ,Tm] at ao;have hd:∀o,o∈ops->∀d,o.dst=some d->d<N/\∀t v,Kept ks t0 t->Kept ks t0 (t.setIfInBounds d v):=fun o ho d w6 =>
  ⟨Za8 ao.1 o (TN.1 ho) d w6,fun t v hk=>hk.set (Jm du o (TN.1 ho) d w6) v⟩
 cases draw with
 | false =>
  refine wpIn_region ?_;have:=Ze7 (ro:=ro) (n:=n) hC hd ops.toList 0 (fun j=>sM) hS hF hL hN bc hZ h;rw [List.range_eq_range'];simpa using this
 | true =>
 have io:=ao.2;simp only [Bool.not_true,SL] at io;simp only [WR] at h;have i7:Later e0 σ0 w0 e σ { w with drawn:=w.drawn+1 }:=hL.trans { Later.refl e σ w with };have hst:Stepped e σ w e σ { w with drawn:=w.drawn+1 }:={ Stepped.refl e σ w with }
 have jw:SRel G e σ { w with drawn:=w.drawn+1 }:={ hS with box:=fun i x hx=>(hS.box i x hx).step hst rfl HKeep.rfl' }
 have hF':=hF.step hst
 let Z:Array Value->Prop:=fun t=>Kept ks t0 t/\∀i,Zeq i ops.toList=false->t.getD i Go.undef=a.tmps.getD i Go.undef
 have hd':∀o,o∈ops->∀d,o.dst=some d->d<N/\∀t v,Z t->Z (t.setIfInBounds d v):=fun o ho d w6=>⟨(hd o ho d w6).1,fun t v hz=>⟨(hd o ho d w6).2 t v hz.1,fun i hi=>by
  have ai:d≠i:=fun he=>by
   subst he;rw [ZrI w6 (TN.1 ho)] at hi;cases hi
  rw [<- hz.2 i hi];simp [T3,ai]⟩⟩
 have hC':=hC.later i7;have fin:∀x a' w',ZP G e σ { w with drawn:=w.drawn+1 } ds N Z (Zi2 C ops.toList f Q) x a' w'->ZP G e0 σ0 w0 ds N (Kept ks t0) Q x a' w':=fun x a' w' hp=>by
  obtain ⟨pe,f',e',σ',hq,hx,g1,g2,g3,g4,g5,g6⟩:=hp
  cases pe with
  | panic p =>
   refine ⟨.panic p,_,e',σ',hq,hx,g1,fun i=>?_,i7.trans g3,g4,g5,g6.1⟩;unfold Cx.pd
   cases C.pk with
   | false=>exact .undef _
   | true =>
   show VRel _ _ _ _ (match Zeq i ops.toList with | true=>PV.undef | false=>clean (f i)) _
   cases hw:Zeq i ops.toList with
   | true=>exact .undef _
   | false =>
   rw [g6.2 i hw];exact (hF'.clean g3) i
  | normal=>exact ⟨_,f',e',σ',hq,hx,g1,g2,i7.trans g3,g4,g5,g6.1⟩
  | ret=>exact ⟨_,f',e',σ',hq,hx,g1,g2,i7.trans g3,g4,g5,g6.1⟩
  | exit id=>exact ⟨_,f',e',σ',hq,hx,g1,g2,i7.trans g3,g4,g5,g6.1⟩
  | goto l=>exact ⟨_,f',e',σ',hq,hx,g1,g2,i7.trans g3,g4,g5,g6.1⟩
 have hZ':Z a.tmps:=⟨hZ,fun _ _=>rfl⟩
 have hR:Later e σ { w with drawn:=w.drawn+1 } e σ { w with drawn:=w.drawn+1 }:=Later.refl _ _ _;refine wpIn_mono (wpIn_region_any (Q:=ZP G e σ { w with drawn:=w.drawn+1 } ds N Z (Zi2 C ops.toList f Q)) bf ?_) fin;split at h
 ·rename_i hh
  rw [hh] at io;simp only at io;split at h
  ·rename_i hch
   rw [hch] at io;exact Zmk hC'.calm hM hd' io jw hF' hR hN (bc.later hst.toLater) hZ' h
  rename_i hch
  rw [hch] at io;exact Zof hC'.calm hM hd' io jw hF' hR hN (bc.later hst.toLater) hZ' h
 rename_i hl hh
 rw [hh] at io;exact Zmo hC'.calm hM hd' hh io jw hF' hR hN (bc.later hst.toLater) hZ' h
def Zc9 (bf:G.P.follows .mixedOrders=true):∀(c:Code) {C:Cx} {ro:Option Nat} {e0:Env} {σ0:St} {w0:World} {N:Nat} {ds:Nat×List Deferred×Bool} {n:Nat},CxOK G C ro e0 σ0 w0->CxMono C.calm->(ds.2.2=true->∀g args raw σ K,¬C.iter g args raw σ K)->ZJ N c=true->∀(ks:List Nat) (t0:Array Value),Yi ks c=true->∀(Q:PQ) {e:Env} {σ:St} {w:World} {a:Act} {f:Frame},
  SRel G e σ w->FRel G e σ w f a.tmps->Later e0 σ0 w0 e σ w->a.tmps.size=N->Marks ds e σ w a.defers->Kept ks t0 a.tmps->W C c Q f σ->c.wpIn (fw ro) n G.P (ZP G e0 σ0 w0 ds N (Kept ks t0) Q) a w:=by
 intro c
 induction c with
 | skip=>intro C ro e0 σ0 w0 N ds n hC hM et _ ks t0 _ Q e σ w a f hS hF hL hN bc hZ h;exact wpIn_skip ⟨.normal,f,e,σ,h,rfl,hS,hF,hL,hN,bc,hZ⟩
 | label l=>intro C ro e0 σ0 w0 N ds n hC hM et _ ks t0 _ Q e σ w a f hS hF hL hN bc hZ h;exact wpIn_label ⟨.normal,f,e,σ,h,rfl,hS,hF,hL,hN,bc,hZ⟩
 | exit id=>intro C ro e0 σ0 w0 N ds n hC hM et _ ks t0 _ Q e σ w a f hS hF hL hN bc hZ h;exact wpIn_exit ⟨.exit id,f,e,σ,h,rfl,hS,hF,hL,hN,bc,hZ⟩
 | goto l=>intro C ro e0 σ0 w0 N ds n hC hM et _ ks t0 _ Q e σ w a f hS hF hL hN bc hZ h;exact wpIn_goto ⟨.goto l,f,e,σ,h,rfl,hS,hF,hL,hN,bc,hZ⟩
 | ret=>intro C ro e0 σ0 w0 N ds n hC hM et _ ks t0 _ Q e σ w a f hS hF hL hN bc hZ h;exact wpIn_ret ⟨.ret,f,e,σ,h,rfl,hS,hF,hL,hN,bc,hZ⟩
 | region id ops draw =>
  intro C ro e0 σ0 w0 N ds n hC hM et ao ks t0 du Q0 e σ w a f hS hF hL hN bc hZ h
  have core:∀{Q:PQ} {e:Env} {σ:St},SRel G e σ w->FRel G e σ w f a.tmps->Later e0 σ0 w0 e σ w->Marks ds e σ w a.defers->WR C ops.toList draw Q f σ->(Code.region id ops draw).wpIn (fw ro) n G.P (ZP G e0 σ0 w0 ds N (Kept ks t0) Q) a w:=fun {Q e σ} hS hF hL bc h=>ZhN bf hC hM ao du hS hF hL hN bc hZ h
  simp only [W] at h;split at h
  ·exact core hS hF hL bc h
  obtain ⟨b,k,h⟩:=h;obtain ⟨e1,σ1,h,hst,ii⟩:=Zjh hS h;rw [ZZ] at h;refine wpIn_mono (core ii (hF.step hst) (hL.trans hst.toLater) (bc.later hst.toLater) h) fun x a' w' hp=>?_
  obtain ⟨pe,f',e',σ',hq,hx,g1,g2,g3,g4,g5,g6⟩:=hp
  cases pe with
  | normal =>
   obtain ⟨e2,σ2,hq,km,jx⟩:=Zge g1 (K:=fun σ=>Xv σ fun σ=>Q0 .normal f' σ) hq;rw [ZZ] at hq;exact ⟨.normal,f',e2,σ2,hq,hx,jx,g2.step km,g3.trans km.toLater,g4,g5.later km.toLater,g6⟩
  | _=>exact hq.elim
 | seq x y ihx ihy =>
  intro C ro e0 σ0 w0 N ds n hC hM et ao ks t0 du Q e σ w a f hS hF hL hN bc hZ h
  simp only [ZJ,Tm] at ao;simp only [Yi,Tm] at du;simp only [W] at h;split at h
  ·exact wpIn_seq (wpIn_mono (ihx hC hM et ao.1 ks t0 du.1 _ hS hF hL hN bc hZ h) (ZrH fun Q {e σ w a f}=>ihy hC hM et ao.2 ks t0 du.2 Q))
  rename_i live I gk
  obtain ⟨h1,h2⟩:=h;refine wpIn_seq (wpIn_mono (ihx hC hM et ao.1 ks t0 du.1 _ hS hF hL hN bc hZ h1) fun x' a' w' hp=>?_);obtain ⟨pe,f',e',σ',hq,hx,g1,g2,g3,g4,g5,g6⟩:=hp
  cases pe with
  | normal =>
   obtain rfl:x'=.normal:=hx;obtain ⟨vs0,σ1,e1,hI,ii,lp,aa,bv⟩:=ZkI g1 hq;have za:FRel G e1 σ1 w' (Zf0 (fun _=>.undef) live vs0) a'.tmps:=Zac (fun i=>.undef _) fun k i x h1 h2=>bv k (f' i) x _ (by rw [Tj,h1];rfl) h2 (g2 i)
   exact ihy hC hM et ao.2 ks t0 du.2 Q ii za (g3.drop lp g3.len) g4 (g5.drop lp) g6 (h2 _ _ hI)
  | exit id=>obtain rfl:x'=.exit id:=hx;exact ⟨.exit id,f',e',σ',hq,rfl,g1,g2,g3,g4,g5,g6⟩
  | goto l=>obtain rfl:x'=.goto l:=hx;exact ⟨.goto l,f',e',σ',hq,rfl,g1,g2,g3,g4,g5,g6⟩
  | ret=>obtain rfl:x'=.ret:=hx;exact ⟨.ret,f',e',σ',hq,rfl,g1,g2,g3,g4,g5,g6⟩
  | panic p=>obtain ⟨v,rfl,hv⟩:=hx;exact ⟨.panic p,f',e',σ',hq,⟨v,rfl,hv⟩,g1,g2,g3,g4,g5,g6⟩
 | cond c x y ihx ihy =>
  intro C ro e0 σ0 w0 N ds n hC hM et ao ks t0 du Q e σ w a f hS hF hL hN bc hZ h
  simp only [ZJ,Tm] at ao;simp only [Yi,Tm] at du;simp only [W] at h;have hv:=ZbL hF c;split at h
  ·rename_i t hc
   rw [hc] at hv
   cases t with
   | true=>exact wpIn_cond_true hv.dbool (ihx hC hM et ao.1 ks t0 du.1 _ hS hF hL hN bc hZ h)
   | false=>exact wpIn_cond_false hv.dbool (ihy hC hM et ao.2 ks t0 du.2 _ hS hF hL hN bc hZ h)
  exact h.elim
 | block id b ih =>
  intro C ro e0 σ0 w0 N ds n hC hM et ao ks t0 du Q e σ w a f hS hF hL hN bc hZ h
  exact wpIn_block (wpIn_mono (ih hC hM et ao ks t0 du _ hS hF hL hN bc hZ h) Zmq)
 | scope b ih =>
  intro C ro e0 σ0 w0 N ds n hC hM et ao ks t0 du Q e σ w a f hS hF hL hN bc hZ h
  exact Zmp (wpIn_mono (ih hC hM et ao ks t0 du _ hS hF hL hN bc hZ h) Zmr)
 | loop b ih =>
  intro C ro e0 σ0 w0 N ds n hC hM et ao ks t0 du Q e σ w a f hS hF hL hN bc hZ h
  simp only [W] at h;generalize C.loop (keyOf b)=A at h;split at h
  ·rename_i m0 _
   generalize m0+1=m at h
   let J:Nat->Frame->St->Act->World->Prop:=fun k f1 σ1 a1 w1=>∃e1,ZeW (fun Q f σ=>W C b Q f σ) Q k f1 σ1/\SRel G e1 σ1 w1/\FRel G e1 σ1 w1 f1 a1.tmps/\Later e σ w e1 σ1 w1/\a1.tmps.size=N/\Marks ds e1 σ1 w1 a1.defers/\Kept ks a.tmps a1.tmps
   let In:Act->World->Prop:=fun a1 w1=>∃k f1 σ1,J k f1 σ1 a1 w1
   let Mu:Act->World->Nat->Prop:=fun a1 w1 m=>∃f1 σ1,J m f1 σ1 a1 w1
   have least:∀a1 w1,In a1 w1->∃m,Mu a1 w1 m/\∀m',Mu a1 w1 m'->m<=m':=fun a1 w1 ⟨k,f1,σ1,hJ⟩=>by
    have:∀m,Mu a1 w1 m->∃m,Mu a1 w1 m/\∀m',Mu a1 w1 m'->m<=m':=by
     intro m
     induction m using Nat.strongRecOn with
     | _ m ihm =>
     intro hm
     exact mq119
    exact this _ ⟨f1,σ1,hJ⟩
   classical
   let mu:Act->World->Nat:=fun a1 w1=>if hh:∃m,Mu a1 w1 m/\∀m',Mu a1 w1 m'->m<=m' then Classical.choose hh else 0
   have zb:∀a1 w1,In a1 w1->Mu a1 w1 (mu a1 w1)/\∀m',Mu a1 w1 m'->mu a1 w1<=m':=fun a1 w1 uv=>by
    have hh:=least a1 w1 uv;simp only [mu,dif_pos hh];exact Classical.choose_spec hh
   refine wpIn_loop In mu ⟨m,f,σ,e,h,hS,hF,Later.refl e σ w,hN,bc,fun i _=>rfl⟩ ?_;intro a1 w1 uv
   obtain ⟨⟨f2,σ2,⟨e2,hU,jx,uh,m8,hN2,uw,hK2⟩⟩,_⟩:=zb a1 w1 uv;generalize jj:mu a1 w1=mm at hU
   cases mm with
   | zero=>exact hU.elim
   | succ mm =>
   simp only [ZeW] at hU;have hb:=ih (n:=n) (hC.later hL) hM et ao ks a.tmps du _ jx uh m8 hN2 uw hK2 hU;refine wpIn_mono hb fun x a' w' hp=>?_
   obtain ⟨pe,f',e',σ',hq,hx,h1,h2,h3,h4,h5,h6⟩:=hp;have qu:Kept ks t0 a'.tmps:=fun i hi=>(h6 i hi).trans (hZ i hi)
   cases pe with
   | normal =>
    obtain rfl:x=.normal:=hx;have hJ:J mm f' σ' a' w':=⟨e',hq,h1,h2,h3,h4,h5,h6⟩
    have o3:In a' w':=⟨mm,f',σ',hJ⟩
    refine ⟨o3,?_⟩;have:=(zb a' w' o3).2 _ ⟨f',σ',hJ⟩;exact Nat.lt_succ_of_le this
   | exit id=>obtain rfl:x=.exit id:=hx;exact ⟨.exit id,f',e',σ',hq,rfl,h1,h2,hL.trans h3,h4,h5,qu⟩
   | goto l=>obtain rfl:x=.goto l:=hx;exact ⟨.goto l,f',e',σ',hq,rfl,h1,h2,hL.trans h3,h4,h5,qu⟩
   | ret=>obtain rfl:x=.ret:=hx;exact ⟨.ret,f',e',σ',hq,rfl,h1,h2,hL.trans h3,h4,h5,qu⟩
   | panic p=>obtain ⟨v,rfl,hv⟩:=hx;exact ⟨.panic p,f',e',σ',hq,⟨v,rfl,hv⟩,h1,h2,hL.trans h3,h4,h5,qu⟩
  have key:∀A:LoopAnn,Yi A.keep b=true->(Jg (C.ag (keyOf b)) σ.bx.length (A.live.map f) σ fun vs σ0=>A.I vs σ0 /\
    ∀vs σ1,A.I vs σ1->W C b (fun e f' σ'=>match e with
     | .normal=>Jg (C.ag (keyOf b)) σ1.bx.length (A.live.map f') σ' fun vs' σ''=>A.I vs' σ''/\A.μ vs' σ''<A.μ vs σ1
     | e=>Q e f' σ') (Zf0 (Zi1 f A.keep) A.live vs) σ1)->(Code.loop b).wpIn (fw ro) n G.P (ZP G e0 σ0 w0 ds N (Kept ks t0) Q) a w:=fun A jt h=>by
   obtain ⟨vs0,σ1,e1,⟨hI,mg⟩,ii,lp,aa,bv⟩:=Zc2 hS h;have lq:∀{e':Env} {σ':St} {w':World} {tm:Array Value},Later e σ w e' σ' w'->Kept (ks++A.keep) a.tmps tm->∀i,i∈A.keep->VRel G e' σ' w' (clean (f i)) (tm.getD i Go.undef):=fun {e' σ' w' tm} hl hk i hi=>by
    rw [hk i (TJ.2 (.inr hi))];exact VRel.clean hl.len hl.beta hl.pres (hF i) (hF i).bnd
   have sc:∀(f':Frame) (tm:Array Value) (vs':List PV) {e':Env} {σ':St} {w':World} {e'':Env} {σ'':St},FRel G e' σ' w' f' tm->(∀(i:Nat) (x y:PV) (u:Value),(A.live.map f')[i]?=some x->vs'[i]?=some y->VRel G e' σ' w' x u->VRel G e'' σ'' w' y u) ->
     ∀(k i:Nat) (x:PV),A.live[k]?=some i->vs'[k]?=some x->VRel G e'' σ'' w' x (tm.getD i Go.undef):=fun f' tm vs' {e' σ' w' e'' σ''} hf hv k i x h1 h2 =>
    hv k (f' i) x _ (by rw [Tj,h1];rfl) h2 (hf i)
   let J:List PV->St->Act->World->Prop:=fun vs σ1 a1 w1=>∃e1,A.I vs σ1/\SRel G e1 σ1 w1/\FRel G e1 σ1 w1 (Zf0 (Zi1 f A.keep) A.live vs) a1.tmps/\Later e σ w e1 σ1 w1/\a1.tmps.size=N/\Marks ds e1 σ1 w1 a1.defers/\Kept (ks++A.keep) a.tmps a1.tmps
   let In:Act->World->Prop:=fun a1 w1=>∃vs σ1,J vs σ1 a1 w1
   let Mu:Act->World->Nat->Prop:=fun a1 w1 m=>∃vs σ1,J vs σ1 a1 w1/\A.μ vs σ1=m
   have least:∀a1 w1,In a1 w1->∃m,Mu a1 w1 m/\∀m',Mu a1 w1 m'->m<=m':=fun a1 w1 ⟨vs,σ1,hJ⟩=>by
    have:∀m,Mu a1 w1 m->∃m,Mu a1 w1 m/\∀m',Mu a1 w1 m'->m<=m':=by
     intro m
     induction m using Nat.strongRecOn with
     | _ m ihm =>
     intro hm
     exact mq119
    exact this _ ⟨vs,σ1,hJ,rfl⟩
   classical
   let mu:Act->World->Nat:=fun a1 w1=>if hh:∃m,Mu a1 w1 m/\∀m',Mu a1 w1 m'->m<=m' then Classical.choose hh else 0
   have zb:∀a1 w1,In a1 w1->Mu a1 w1 (mu a1 w1)/\∀m',Mu a1 w1 m'->mu a1 w1<=m':=fun a1 w1 uv=>by
    have hh:=least a1 w1 uv;simp only [mu,dif_pos hh];exact Classical.choose_spec hh
   have qv:Later e σ w e1 σ1 w:=(Later.refl e σ w).drop lp (Tz _);have o4:Kept (ks++A.keep) a.tmps a.tmps:=fun i _=>rfl
   refine wpIn_loop In mu ⟨vs0,σ1,e1,hI,ii,?_,qv,hN,bc.drop lp,o4⟩ ?_
   ·exact Zac (Zc8 (lq qv o4)) (sc f a.tmps vs0 hF bv)
   intro a1 w1 uv
   obtain ⟨⟨vs,σ2,⟨e2,ga,jx,uh,m8,hN2,uw,hK2⟩,hm⟩,_⟩:=zb a1 w1 uv;have hb:=ih (n:=n) (hC.later hL) hM et ao (ks++A.keep) a.tmps (Zes du jt) _ jx uh m8 hN2 uw hK2 (mg vs σ2 ga);refine wpIn_mono hb fun x a' w' hp=>?_
   obtain ⟨pe,f',e',σ',hq,hx,h1,h2,h3,h4,h5,h6⟩:=hp;have qu:Kept ks t0 a'.tmps:=fun i hi=>(h6 i (TJ.2 (.inl hi))).trans (hZ i hi)
   cases pe with
   | normal =>
    obtain rfl:x=.normal:=hx;obtain ⟨vs',σ3,e3,⟨hI3,ab⟩,ip,o5,jy,acx⟩:=Zc2 h1 hq;have w7:Later e σ w e3 σ3 w':=h3.drop o5 m8.len;have hJ:J vs' σ3 a' w':=⟨e3,hI3,ip,Zac (Zc8 (lq w7 h6)) (sc f' a'.tmps vs' h2 acx),w7,h4,h5.drop o5,h6⟩
    have o3:In a' w':=⟨vs',σ3,hJ⟩
    refine ⟨o3,?_⟩;have:=(zb a' w' o3).2 _ ⟨vs',σ3,hJ,rfl⟩;rw [<- hm];exact Nat.lt_of_le_of_lt this ab
   | exit id=>obtain rfl:x=.exit id:=hx;exact ⟨.exit id,f',e',σ',hq,rfl,h1,h2,hL.trans h3,h4,h5,qu⟩
   | goto l=>obtain rfl:x=.goto l:=hx;exact ⟨.goto l,f',e',σ',hq,rfl,h1,h2,hL.trans h3,h4,h5,qu⟩
   | ret=>obtain rfl:x=.ret:=hx;exact ⟨.ret,f',e',σ',hq,rfl,h1,h2,hL.trans h3,h4,h5,qu⟩
   | panic p=>obtain ⟨v,rfl,hv⟩:=hx;exact ⟨.panic p,f',e',σ',hq,⟨v,rfl,hv⟩,h1,h2,hL.trans h3,h4,h5,qu⟩
  split at h
  ·rename_i jt
   split at h
   ·exact key _ jt h
   exact key (A.tied f) jt h
  exact h.elim
 | rangeFunc g ps asg body iha ihb =>
  intro C ro e0 σ0 w0 N ds n hC hM et ao ks t0 du Q e σ w a f hS hF hL hN bc hZ h
  simp only [ZJ,Tm] at ao;simp only [W] at h;split at h
  ·rename_i gid first caps hg
   have hv:=ZbL hF g;rw [hg] at hv;generalize hgv:a.eval g=gv at hv
   cases hv with
   | func _ _ _ va vc ha hc h1 h2 =>
   have uj:ro=none:=by
    rcases hC.out with h0 | h0
    ·exact h0
    exact absurd (h 0 default) (h0 _ _ _ _ _)
   subst uj;refine wpIn_rangeFunc fun fn _=>?_
   have hMi:CxMono C.inner.calm:=⟨hM.one,hM.call,hM.raw,hM.iter,rfl⟩
   have hdf:ds.2.2=false:=by
    cases co:ds.2.2 with
    | false=>rfl
    | true=>exact absurd (h 0 default) (et co _ _ _ _ _)
   let rec0:Loop:={ state:=.ready,pending:=none,fn,tmps:=a.tmps,params:=ps,assign:=asg,body,defers:=w.heap.size }
   let wA:=w.alloc (.deferred (some []))
   have hgA:Grows w wA:=Grows.alloc w _;have hSA:SRel G e σ wA:=hS.grow hgA;have ux:Stepped e σ w e σ wA:=hgA.stepped e σ;have acz:Marks ds e σ wA (J6 w.heap.size::a.defers):=bc.push hS hdf;have hsz:wA.heap.size=w.heap.size+1:=by simp [wA]
   obtain ⟨qw,ii,_⟩:=Ug hSA (.loop .ready none rec0) (.loop rec0) (fun _ _ _ _ hh=>hh);have w5:(e.more σ.bx.length wA.heap.size).β σ.bx.length=w.heap.size+1:=by simp [Env.more,hsz]
   have nk:=h (w.heap.size+1) rec0;obtain ⟨jo,i9⟩:=hC.iter _ _ _ _ _ nk;have uy:ArgsRel G (e.more σ.bx.length wA.heap.size) (σ.new (.loop .ready none rec0)) (wA.alloc (.loop rec0)) (first++.raw (.func (.yield (w.heap.size+1)) #[] #[])::caps) (va++#[.func (.yield (w.heap.size+1)) #[] #[]]++vc):=by
    rw [List.append_cons];refine (ArgsRel.append (ArgsRel.append ⟨ha,fun i x u hx hu=>((h1 i x u hx hu).step ux).step qw⟩ ⟨rfl,fun i x u hx hu=>?_⟩) ⟨hc,fun i x u hx hu=>((h2 i x u hx hu).step ux).step qw⟩)
    match i with
    | 0=>cases hx;cases hu;exact .raw _
    | n+1=>cases hx
   have qv:Later e σ w (e.more σ.bx.length wA.heap.size) (σ.new (.loop .ready none rec0)) (wA.alloc (.loop rec0)):=ux.toLater.trans qw.toLater;have sd:σ.bx.length<(σ.new (.loop .ready none rec0)).bx.length:=by rw [ZED];omega
   refine ⟨w.heap.size+1,[J6 w.heap.size],wA.alloc (.loop rec0),{ target:=.fn (.func gid) vc,args:=va++#[.func (.yield (w.heap.size+1)) #[] #[]] },wA.alloc (.loop rec0),gid,va++#[.func (.yield (w.heap.size+1)) #[] #[]]++vc,wA.alloc (.loop rec0),
    run_enterLoop_outer fn a.tmps ps asg body,?_,fun _ _=>trivial,?_,fun hh=>by simp [fw] at hh,?_⟩
   ·show (Deferred.ofValue (a.eval g) _).run _ _=_;rw [hgv];simp [Deferred.ofValue,rangeCall,Act.eval]
   ·simp only [invoke];exact jo _ _
   refine (i9 (n - 1) _ _ _ ii (hL.trans qv) uy ?_).mono fun en w3 hA=>?_
   ·
    intro v args σ' K hr
    obtain ⟨rfl,ef,hal,hWA⟩:=hr;refine ⟨w.heap.size+1,rfl,fun ro n e' w' vs jw i7 ug=>?_⟩;have fj:σ.bx.length<σ'.bx.length:=(Tk.1 ef).1;have hβ':e'.β σ.bx.length=w.heap.size+1:=(i7.beta _ sd).trans w5;have o6:w'.heap[w.heap.size+1]?=some (.loop rec0):=by have:=jw.box _ _ ef;rw [hβ'] at this;exact this
    have bv:vs.size=rec0.params.size:=by rw [ug.1,hal];simp [rec0]
    refine ⟨_,_,_,_,run_yield o6 bv,?_⟩;have hF0:FRel G e' σ' w' (V0 f) a.tmps:=hF.clean (qv.trans i7);have ui:∀p∈ps.toList,p<a.tmps.size:=fun p hp=>by
     have:=Tq.1 ao.1.1 p hp;rw [hN];exact Tc this
    have se:(rec0.params.zip vs).foldl (fun tmps (x:Nat×Value)=>tmps.setIfInBounds x.1 x.2) rec0.tmps=(ps.toList.zip vs.toList).foldl (fun tmps (x:Nat×Value)=>tmps.setIfInBounds x.1 x.2) a.tmps:=by
     rw [<- Array.foldl_toList,Array.toList_zip]
    obtain ⟨za,lf⟩:=ZhM (ps:=ps.toList) (args:=args) (vs:=vs.toList) hF0 (by simpa using ug.1) (fun i x u hx hu=>ug.2 i x u hx (by simpa using hu)) ui;refine roundIn_of_wpIn trivial ?_;have hCr:CxOK G C.inner (some (w.heap.size+1)) e' σ' w':=⟨hC.tab,hC.call,hC.raw.later (hL.trans (qv.trans i7)),fun _ _ _ _ _ hh=>hh.elim,.inr fun _ _ _ _ _ hh=>hh⟩
    have hwa:=iha (n:=n) (ds:=(0,[],false)) hCr hMi (fun h=>by cases h) ao.1.2 [] #[] (Y1 _) _ (a:={ tmps:=(rec0.params.zip vs).foldl (fun tmps (x:Nat×Value)=>tmps.setIfInBounds x.1 x.2) rec0.tmps,defers:=[] }) jw (by rw [se];exact za) (Later.refl _ _ _) (by rw [se];exact lf.trans hN) (Marks.nil _ _ (Se _)) (fun i hi=>by cases hi) hWA;refine wpIn_mono hwa fun x1 a1 w1 hp=>?_
    obtain ⟨pe,f1,e1,σ1,hq,hx,k1,k2,k3,k4,k5,k6⟩:=hp
    cases pe with
    | normal =>
     obtain rfl:x1=.normal:=hx;obtain ⟨bu,hWB⟩:=hq;obtain ⟨km,jx⟩:=Zgg (st':=.busy) (pd':=none) k1 bu;have uz:e1.β σ.bx.length=w.heap.size+1:=(k3.beta _ fj).trans hβ';have u7:w1.heap[w.heap.size+1]?=some (.loop rec0):=by have:=k1.box _ _ bu;rw [uz] at this;exact this
     refine ⟨_,run_beginRound u7 rfl,?_⟩;rw [uz] at km jx;have hwb:=ihb (n:=n) (ds:=(0,[],false)) (hCr.later (k3.trans km.toLater)) hMi (fun h=>by cases h) ao.2 [] #[] (Y1 _) _ jx (k2.step km) (Later.refl _ _ _) k4 (k5.later km.toLater) (fun i hi=>by cases hi) hWB;refine wpIn_mono hwb fun x2 a2 w2 jq=>?_
     obtain ⟨pe2,f2,e2,σ2,mf,ca,m1,m2,m3,m4,m5,m6⟩:=jq;have dl:σ.bx.length<(σ1.set σ.bx.length (.loop .busy none rec0)).bx.length:=by simp only [St.set,SE];exact (Tk.1 bu).1
     have y9:e2.β σ.bx.length=w.heap.size+1:=(m3.beta _ dl).trans uz;have m8:Later e' σ' w' e2 σ2 w2:=(k3.trans km.toLater).trans m3;have fin:∀(jump:Option Code),Zzb σ.bx.length rec0 (if jump.isNone then .ready else .done) jump jump.isNone σ2 K->∃v w'',(Instr.endRound (w.heap.size+1) jump).run G.P w2=.ok v w''/\Y9 G e' σ' w' K (.returned v) w'':=fun jump hq=>by
      obtain ⟨zc,hK⟩:=hq;have vd:w2.heap[w.heap.size+1]?=some (.loop { rec0 with state:=.busy,pending:=none }):=by have:=m1.box _ _ zc;rw [y9] at this;exact this
      have vg:=Zgg (st':=if jump.isNone then .ready else .done) (pd':=jump) m1 zc;rw [y9] at vg;exact ⟨_,_,run_endRound jump vd,_,_,e2,hK,⟨_,rfl,.mkbool⟩,vg.2,m8.trans vg.1.toLater⟩
     cases pe2 with
     | normal=>obtain rfl:x2=.normal:=ca;exact fin none mf
     | ret=>obtain rfl:x2=.ret:=ca;exact fin (some .ret) mf
     | exit id=>obtain rfl:x2=.exit id:=ca;exact fin (some (.exit id)) mf
     | goto t=>obtain rfl:x2=.goto t:=ca;exact fin (some (.goto t)) mf
     | panic p=>exact mf.elim
    | exit id=>exact hq.elim
    | goto t=>exact hq.elim
    | ret=>exact hq.elim
    | panic p=>exact hq.elim
   
   obtain ⟨pe,σ3,e3,hk,hE,ip,w7⟩:=hA;have hLs:=qv.trans w7;have zd:Marks ds e3 σ3 w3 (J6 w.heap.size::a.defers):=(acz.later qw.toLater).later w7;have hβ3:e3.β σ.bx.length=w.heap.size+1:=(w7.beta _ sd).trans w5
   cases pe with
   | panic p =>
    obtain ⟨u,rfl,hr⟩:=hE;exact ⟨.panic p,_,e3,σ3,hk,⟨u,rfl,hr⟩,ip,fun i=>.undef _,hL.trans hLs,hN,zd,hZ⟩
   | ret p =>
   obtain ⟨u,rfl,hr⟩:=hE;unfold ZkC at hk
   simp only at hk;split at hk
   ·rename_i st pd r ef
    have o6:w3.heap[w.heap.size+1]?=some (.loop { r with state:=st,pending:=pd }):=by have:=ip.box _ _ ef;rw [hβ3] at this;exact this
    have nu:=Zgg (st':=.exhausted) (pd':=pd) ip ef;rw [hβ3] at nu;obtain ⟨nu,hS4⟩:=nu;have ge:∀(pe:PExit) (x:Exit),Q pe (V0 f) (σ3.set σ.bx.length (.loop .exhausted pd r))->Zze G e3 (σ3.set σ.bx.length (.loop .exhausted pd r)) (w3.putObj (w.heap.size+1) (.loop { r with state:=.exhausted,pending:=pd })) pe x ->
      ZP G e0 σ0 w0 ds N (Kept ks t0) Q x { a with defers:=[J6 w.heap.size]++a.defers } (w3.putObj (w.heap.size+1) (.loop { r with state:=.exhausted,pending:=pd })):=fun pe x hq hx =>
     ⟨pe,_,e3,_,hq,hx,hS4,hF.clean (hLs.trans nu.toLater),hL.trans (hLs.trans nu.toLater),hN,zd.later nu.toLater,hZ⟩
    have ce:∀(hb:st≠.busy),(Instr.endLoop (w.heap.size+1)).run G.P w3=.ok pd (w3.putObj (w.heap.size+1) (.loop { r with state:=.exhausted,pending:=pd })):=fun hb=>run_endLoop o6 hb
    have go:st≠.busy->ZnE σ.bx.length r (V0 f) Q σ3 pd->rangePost (fw none) n G.P (w.heap.size+1) (ZP G e0 σ0 w0 ds N (Kept ks t0) Q) { a with defers:=[J6 w.heap.size]++a.defers } (.returned u) w3:=fun hb hq=>by
     refine ⟨pd,_,ce hb,?_⟩;unfold ZnE at hq
     split at hq
     ·exact ge .normal .normal hq rfl
     ·exact wpIn_ret (ge .ret .ret hq rfl)
     ·rename_i id;exact wpIn_exit (ge (.exit id) (.exit id) hq rfl)
     ·rename_i t;exact wpIn_goto (ge (.goto t) (.goto t) hq rfl)
     exact hq.elim
    cases st with
    | busy=>exact hk.elim
    | ready=>exact go sM hk
    | done=>exact go sM hk
    | exhausted=>exact go sM hk
   exact hk.elim
  exact h.elim
 | _=>intro C ro e0 σ0 w0 N ds n hC hM et _ ks t0 _ Q e σ w a f hS hF hL hN bc hZ h;exact h.elim
end
end Go.PM
end

section
namespace Go.PM
abbrev Zm:=List PV->St->(PEnd->St->Prop)->Prop
structure PCalls (G:GE) (g:FuncId) (sp:Zm):Prop where
 enters:Wr G.P g
 calls:∀args σ K,sp args σ K->∀(n:Nat) (e:Env) (w:World) (vs:Array Value),SRel G e σ w->ArgsRel G e σ w args vs->CallsIn (fw none) n G.P g vs w (Y9 G e σ w K)
def Zl {P : Program} {f : FuncId} {fn : Func} {c : Code} (hf : P.funcs[f]? = some fn) (av : (fn.name == "runtime.NumGoroutine") = false) (hb : fn.body = some c) : Wr P f := fun args w => by
 have h1 : fn.name ≠ "runtime.NumGoroutine" := by simpa using av
 simp [callFunc,hf,h1,hb]
section
variable {G:GE} {C:Cx} {e:Env} {σ:St} {w:World} {f:Frame} {n:Nat} {tm:Array Value}
def Zy1 (tm:Array Value):ResultVar->Sem Value
 | .tmp t=>pure (tm.getD t Go.undef)
 | .cell a t=>do loadVar t (<- asAddr (tm.getD a Go.undef))
def Zgh {P:Program} {t:TypeId} {v u:Value} (hv:∃a,v=.pointer (some a)) (h:(Instr.loadAt t v).run P w=.ok u w):(do loadVar t (<- asAddr v):Sem Value).run P w=.ok u w:=by
 obtain ⟨a,rfl⟩:=hv;simpa [Instr.loadAt,Instr.sureAddr,asAddr] using h
def Za9 (hT:TabOK C.T G.P) (hS:SRel G e σ w) (hF:FRel G e σ w f tm):∀{l:List ResultVar} {K:List PV->Prop},pres C.T f σ.bx l K ->
  ∃pvs vs,K pvs/\(l.mapM (Zy1 tm)).run G.P w=.ok vs w/\vs.length=pvs.length/\∀(i:Nat) (x:PV) (u:Value),pvs[i]?=some x->vs[i]?=some u->VRel G e σ w x u
 | [],K,h=>⟨[],[],h,rfl,rfl,fun i x u hx=>by simp at hx⟩
 | .tmp t::l,K,h=>by
  simp only [pres,Z7] at h;obtain ⟨pvs,vs,hK,hr,hl,hv⟩:=Za9 hT hS hF h;refine ⟨f t::pvs,tm.getD t Go.undef::vs,hK,?_,by simp [hl],fun i x u hx hu=>?_⟩
  ·rw [List.mapM_cons];simp only [Zy1,Sem.run_bind,Sem.run_pure,Result.andThen,hr]
  cases i with
  | zero=>simp only [SB,Option.some.injEq] at hx hu;subst hx;subst hu;exact hF t
  | succ i=>exact hv i x u (by simpa using hx) (by simpa using hu)
 | .cell a t::l,K,h=>by
  simp only [pres] at h;have ac1:∃a',tm.getD a Go.undef=.pointer (some a'):=by
   have:=hF a;generalize tm.getD a Go.undef=v at this;generalize f a=x at this h
   cases this with
   | ptr b off _=>exact ⟨_,rfl⟩
   | elem r off b o u _ _ _=>exact ⟨_,rfl⟩
   | _=>exact h.elim
  obtain ⟨pv,u0,hk,lr,aj⟩:=Ze0 hT hS (hF a) h;rw [Z7] at hk;obtain ⟨pvs,vs,hK,hr,hl,hv⟩:=Za9 hT hS hF hk;refine ⟨pv::pvs,u0::vs,hK,?_,by simp [hl],fun i x u hx hu=>?_⟩
  ·rw [List.mapM_cons];have:=Zgh ac1 aj;simp only [Zy1];rw [Sem.run_bind,this];simp only [Sem.run_bind,Sem.run_pure,Result.andThen,hr]
  cases i with
  | zero=>simp only [SB,Option.some.injEq] at hx hu;subst hx;subst hu;exact lr
  | succ i=>exact hv i x u (by simpa using hx) (by simpa using hu)
def Wb (hT:TabOK C.T G.P) (hS:SRel G e σ w) (hF:FRel G e σ w f tm) {fn:Func} {K:List PV->Prop} (h:pres C.T f σ.bx fn.results.toList K) :
  ∃pvs v,K pvs/\(results fn tm).run G.P w=.ok v w/\VRel G e σ w (Ju pvs) v:=by
 obtain ⟨pvs,vs,hK,hr,hl,hv⟩:=Za9 hT hS hF h;have kc:(results fn tm).run G.P w=.ok (if h:vs.toArray.size=1 then vs.toArray[0] else .tuple vs.toArray) w:=by
  have ac2:results fn tm=(do let vs <- fn.results.mapM (Zy1 tm);pure (if h:vs.size=1 then vs[0] else .tuple vs)):=by
   unfold results
   congr 1
  have h1:fn.results.mapM (Zy1 tm)=List.toArray <$> fn.results.toList.mapM (Zy1 tm):=by
   conv=>lhs;rw [show fn.results=fn.results.toList.toArray from sM]
   exact List.mapM_toArray
  rw [ac2,h1,Sem.run_bind,Sem.run_map,hr];rfl
 refine ⟨pvs,_,hK,kc,?_⟩
 match pvs,vs,hl,hv with
 | [],[],_,hv=>exact .tuple [] #[] rfl (fun i x u hx=>by simp at hx)
 | [x],[u],_,hv=>exact hv 0 x u rfl rfl
 | x::y::l,u::v::m,hl,hv =>
  have:¬((u::v::m).toArray.size=1):=sM;rw [dif_neg this];exact .tuple _ _ (by simpa using hl) (fun i a b ha hb=>hv i a b ha (by simpa using hb))
def Wv {e0:Env} {σ0:St} {w0:World} {keep:Nat} {own:Bool} {pv:PV} {v:Value} {K:PV->St->Prop} (hS:SRel G e σ w) (hL:Later e0 σ0 w0 e σ w) (hk:σ0.bx.length<=keep) (hv:VRel G e σ w pv v)
  {ag:Bool} (h:ZeY ag keep own pv σ K):∃pv' σ' e',K pv' σ'/\VRel G e' σ' w pv' v/\SRel G e' σ' w/\Later e0 σ0 w0 e' σ' w:=by
 unfold ZeY at h
 split at h
 ·rename_i hb
  cases own with
  | true =>
   simp only at h;obtain ⟨vs',σ',e',hK,jw,hd,aa,bv⟩:=Zc2 hS h
   match vs',aa,hK with
   | [y],_,hK=>exact ⟨y,σ',e',hK,bv 0 pv y v rfl rfl hv,jw,hL.drop hd hk⟩
  | false =>
  simp only at h;obtain ⟨bs,tk',as',hK,hx,hI,cp,hn,ma⟩:=W7 (as:=[]) (ZEJ σ.tk [] (fun t ht=>by cases ht)) h;exact ⟨clean pv,_,e.re as',hK,(NV.cl pv hb).rel hn hI cp hv,Zga hS hn hI cp ma,hL.drop (Zc1 hn hI cp) hk⟩
 exact h.elim
def Zad {vs:Array Value}:∀(args:List PV) (i:Nat),(∀(k:Nat) (x:PV),args[k]?=some x->VRel G e σ w x (vs.getD (i+k) Go.undef))->FRel G e σ w (Zeo i args) vs
 | [],i,_=>fun j=>.undef _
 | a::args,i,h=>by
  intro j
  simp only [Zeo]
  by_cases jk:i=j
  ·subst jk;rw [Yx];exact h 0 a sM
  rw [Xe _ _ jk];exact Zad args (i+1) (fun k x hx=>by have:=h (k+1) x (by simpa using hx);rwa [show i+(k+1)=i+1+k by omega] at this) j
def VRel.world {w':World} (hc:∀b off u,w.cell? ⟨b,off,none⟩=some u->w'.cell? ⟨b,off,none⟩=some u) (hb:∀(b:Nat) (cs:Array Value) (ty:TypeId) (fz:Nat×Nat),w.heap[b]?=some (Obj.cells cs ty fz)->w'.heap[b]?=some (Obj.cells cs ty fz)) {x:PV} {v:Value} (h:VRel G e σ w x v):VRel G e σ w' x v:=by
 have hd:∀{x:D} {v:Value},DRel (okc e σ) w x v->DRel (okc e σ) w' x v:=fun hd=>hd.mono fun b off u hu ho=>⟨ho,hc b off u hu⟩
 induction h with
 | d x v h=>exact .d _ _ (hd h)
 | undef v=>exact .undef _
 | ptr b off h=>exact .ptr b off h
 | asl b off n h=>exact .asl b off n h
 | elem r off b o u y4 ho hu=>exact .elem r off b o u (fun j hj=>hc _ _ _ (y4 j hj)) ho (fun j x hx=>hd (hu j x hx))
 | sl t el rows v hn mj ht =>
  refine .sl t el rows v hn (hd mj) fun h=>?_
  rcases ht h with h1 | ⟨sz,g1,g2,g3,b,off,cap,cs,ty,fz,g4,g5,g6,g7,g8⟩
  ·exact .inl h1
  exact .inr ⟨sz,g1,g2,g3,b,off,cap,cs,ty,fz,g4,g5,g6,hb _ _ _ _ g7,g8⟩
 | nils el=>exact .nils el
 | func f a c va vc ha y4 _ _ ih1 ih2=>exact .func f a c va vc ha y4 ih1 ih2
 | iface t x v _ ih=>exact .iface t x v ih
 | agg cs vs hs _ h1 ih=>exact .agg cs vs hs ih h1
 | tuple cs vs hs _ ih=>exact .tuple cs vs hs ih
 | raw v=>exact .raw v
 | mp b h=>exact .mp b h
 | nilm=>exact .nilm
def ZrJ {r:Nat} (hS:SRel G e σ w) (hr:w.heap[r]?=some (.deferred (some []))) (hb:(∀i,i<σ.bx.length->e.β i≠r)/\e.H r=none) (hg:G.nG<=r) :
  SRel G e σ (w.putObj r (.deferred none))/\(∀x v,VRel G e σ w x v->VRel G e σ (w.putObj r (.deferred none)) x v)/\∀(e0:Env) (σ0:St) (w0:World),Later e0 σ0 w0 e σ w->w0.heap.size<=r->Later e0 σ0 w0 e σ (w.putObj r (.deferred none)):=by
 have lh:∀k,k≠r->(w.putObj r (.deferred none)).heap[k]?=w.heap[k]?:=fun k hk=>World.putObj_heap_other hk
 have ay:∀b off u,w.cell? ⟨b,off,none⟩=some u->b≠r:=fun b off u hu he=>by
  subst he;simp [World.cell?,hr] at hu
 have hc:∀b off u,w.cell? ⟨b,off,none⟩=some u->(w.putObj r (.deferred none)).cell? ⟨b,off,none⟩=some u:=fun b off u hu=>by
  have:=ay b off u hu;simpa [World.cell?,lh b this] using hu
 have qd:∀(b:Nat) (cs:Array Value) (ty:TypeId) (fz:Nat×Nat),w.heap[b]?=some (Obj.cells cs ty fz)->(w.putObj r (.deferred none)).heap[b]?=some (Obj.cells cs ty fz):=fun b cs ty fz h=>by
  have:b≠r:=fun he=>by subst he;rw [hr] at h;cases h
  rw [lh b this];exact h
 have hV:∀x v,VRel G e σ w x v->VRel G e σ (w.putObj r (.deferred none)) x v:=fun x v h=>h.world hc qd
 refine ⟨?_,hV,fun e0 σ0 w0 hL lr=>?_⟩
 ·exact {
   inj:=hS.inj
   box:=fun i x hx=>by
    have hi:=(Tk.1 hx).1;have hB:=hS.box i x hx;have bm:=lh (e.β i) (hb.1 i hi)
    cases x with
    | cells t cs =>
     obtain ⟨vs,g1,g2,g3⟩:=hB;exact ⟨vs,bm.trans g1,g2,fun k y u hy hu=>⟨hV _ _ (g3 k y u hy hu).1,(g3 k y u hy hu).2⟩⟩
    | iter s p=>exact bm.trans hB
    | loop st pd r=>exact bm.trans hB
    | dmap m=>exact hB.dmapTo bm fun d v hv=>by have q:=hV _ _ (VRel.d (G:=G) d v hv);cases q;assumption
    | smap el m fo =>
     have:=hB.smapTo bm id (fun _=>rfl) (fun _=>rfl) (fun _ _ _ _ hv=>hV _ _ hv) fun b q hq _=>⟨hq,lh b fun he=>by rw [he,hb.2] at hq;cases hq⟩
     rwa [show (fo.map fun kv=>(kv.1,id kv.2))=fo by cases fo <;> rfl] at this
    | map cs bn ck=>exact hB.mapTo bm rfl fun i x y hx hy=>by rw [hx] at hy;cases hy;exact ⟨fun v hv=>hV _ _ hv,fun d hd=>hd⟩
   low:=hS.low
   tkn:=hS.tkn
   own:=fun t ht p hp=>by
    obtain ⟨q1,q2,cs,ty,fz,q3⟩:=hS.own t ht p hp;exact ⟨q1,q2,cs,ty,fz,qd _ _ _ _ q3⟩
   dis:=hS.dis
   xlt:=fun b off hx=>by rw [World.putObj_size];exact hS.xlt b off hx
   hid:=fun b q hq=>by rw [World.putObj_size];exact hS.hid b q hq
   xown:=hS.xown
   glob:=fun b hbg=>(lh b oM).trans (hS.glob b hbg)
   big:=by rw [World.putObj_size];exact hS.big }
 exact {
  len:=hL.len
  beta:=hL.beta
  X:=hL.X
  pres:=fun b off u hu ho=>let ⟨h1,h2⟩:=hL.pres b off u hu ho;⟨h1,hc b off u h2⟩
  blocks:=fun b ab hn ht hh=>(lh b oM).trans (hL.blocks b ab hn ht hh)
  fhid:=hL.fhid
  size:=by rw [World.putObj_size];exact hL.size
  os:=hL.os
  tape:=hL.tape
  output:=hL.output
  fresh:=hL.fresh
  ftok:=hL.ftok }
def Ul {fn:Func} {R:Ending->World->Prop} {u:FrameMode} {e0:Env} {σ0:St} {w0:World} (hu:u≠.run):∀(rs:List Nat) {w:World},rs.Nodup->(∀r,r∈rs->w0.heap.size<=r/\w.heap[r]?=some (.deferred (some []))/\(∀i,i<σ.bx.length->e.β i≠r)/\e.H r=none) ->
  G.nG<=w0.heap.size->SRel G e σ w->FRel G e σ w f tm->Later e0 σ0 w0 e σ w->(∀pv v,VRel G e σ w pv v->∀w',SRel G e σ w'->FRel G e σ w' f tm->Later e0 σ0 w0 e σ w'->VRel G e σ w' pv v->True) ->
  (∀w',(∀x v,VRel G e σ w x v->VRel G e σ w' x v)->SRel G e σ w'->FRel G e σ w' f tm->Later e0 σ0 w0 e σ w'->LeavesIn (fw none) n G.P fn tm R [] u w')->LeavesInM (fw none) n G.P fn tm R (rs.map J6) u w
 | [],w,_,_,_,hS,hF,hL,_,ce=>by
  simp only [TM,LeavesInM];exact ce w (fun _ _ h=>h) hS hF hL
 | r::rs,w,im,ov,hG,hS,hF,hL,_,ce=>by
  obtain ⟨h1,h2,h3⟩:=ov r sM;obtain ⟨jw,hV,i7⟩:=ZrJ hS h2 h3 (Sa hG h1);simp only [TD,LeavesInM];refine ⟨hu,.inl ⟨r,_,rfl,run_takeDeferred h2,?_⟩⟩;refine Ul hu rs (List.nodup_cons.1 im).2 (fun q hq=>?_) hG jw (fun i=>hV _ _ (hF i)) (i7 _ _ _ hL h1) (fun _ _ _ _ _ _ _ _=>trivial) (fun w' hV'=>ce w' fun x v h=>hV' x v (hV x v h));obtain ⟨g1,g2,g3⟩:=ov q (TA _ hq);have ai:q≠r:=fun e=>(List.nodup_cons.1 im).1 (e ▸ hq)
  exact ⟨g1,(World.putObj_heap_other ai).trans g2,g3⟩
def Zda (bf:G.P.follows .mixedOrders=true) {g:FuncId} {fn:Func} {c:Code} (hC:CxOK G C none e σ w) (hM:CxMono C.calm) (hf:G.P.funcs[g]?=some fn) (hb:fn.body=some c) (ao:ZJ fn.ntmps c=true)
  {args:List PV} {Q:PQ} {K:PEnd->St->Prop} (aa:args.length<=fn.ntmps) (h:W C c Q (Zeo 0 args) σ)
  (hQ:∀(pe:PExit) (f:Frame) (σ':St),Q pe f σ'->match pe with
   | .normal | .ret=>pres C.T f σ'.bx fn.results.toList fun vs=>∀(e':Env) (w':World) (v:Value),SRel G e' σ' w'->VRel G e' σ' w' (Ju vs) v->Later e σ w e' σ' w'->Y9 G e σ w K (.returned v) w'
   | .panic p=>∀(e':Env) (w':World) (v:Value),SRel G e' σ' w'->VRel G e' σ' w' p v->Later e σ w e' σ' w'->Y9 G e σ w K (.panicked [{ v:=v,recovered:=false }]) w'
   | _=>False)
  {vs:Array Value} (hS:SRel G e σ w) (af:ArgsRel G e σ w args vs):CallsIn (fw none) n G.P g vs w (Y9 G e σ w K):=by
 have hsz:vs.size=args.length:=af.1;have hF:FRel G e σ w (Zeo 0 args) (vs++Array.replicate (fn.ntmps - vs.size) undef):=Zad args 0 fun k x hx=>by
  exact mq32
 have hw:=Zc9 (n:=n) (ro:=none) (ds:=(w.heap.size,[],false)) bf c hC hM (fun h=>by cases h) ao [] #[] (Y1 c) _ (a:={ tmps:=vs++Array.replicate (fn.ntmps - vs.size) undef,defers:=[] }) hS hF (Later.refl e σ w) sO (Marks.nil e σ (Tz _)) (fun i hi=>by cases hi) h;refine callsIn_of_wp_marks hf hb trivial (wpIn_mono hw fun x a' w' hp=>?_);obtain ⟨pe,f',e',σ',hq,hx,h1,h2,h3,h4,⟨_,rs,h5,_,h5n,h5r⟩,h6⟩:=hp;have h5:a'.defers=rs.map J6:=by rw [h5];exact T2 _
 have jd:=hQ pe f' σ' hq;have ov:∀r,r∈rs->w.heap.size<=r/\w'.heap[r]?=some (.deferred (some []))/\(∀i,i<σ'.bx.length->e'.β i≠r)/\e'.H r=none:=fun r hr=>let ⟨g1,g2,g3,_,g4⟩:=h5r r hr;⟨g1,g2,g3,g4⟩
 have ends:∀(jd:pres C.T f' σ'.bx fn.results.toList fun vs=>∀(e':Env) (w':World) (v:Value),SRel G e' σ' w'->VRel G e' σ' w' (Ju vs) v->Later e σ w e' σ' w'->Y9 G e σ w K (.returned v) w'),LeavesInM (fw none) n G.P fn a'.tmps (Y9 G e σ w K) a'.defers .returning w':=fun jd=>by
  rw [h5];refine Ul sM rs h5n ov hS.big h1 h2 h3 (fun _ _ _ _ _ _ _ _=>trivial) fun w2 _ k1 k2 k3=>?_
  obtain ⟨pvs,v,hl,hr,hv⟩:=Wb hC.tab k1 k2 jd;exact ⟨v,hr,hl e' w2 v k1 hv k3⟩
 cases pe with
 | normal=>obtain rfl:x=.normal:=hx;exact ends jd
 | ret=>obtain rfl:x=.ret:=hx;exact ends jd
 | panic p =>
  obtain ⟨v,rfl,hv⟩:=hx;show LeavesInM (fw none) n G.P fn a'.tmps (Y9 G e σ w K) a'.defers (.panicking _) w';rw [h5];refine Ul sM rs h5n ov hS.big h1 h2 h3 (fun _ _ _ _ _ _ _ _=>trivial) fun w2 hV k1 k2 k3=>?_
  exact jd e' w2 v k1 (hV _ _ hv) k3
 | exit id=>exact jd.elim
 | goto l=>exact jd.elim
def ZbT (bf:G.P.follows .mixedOrders=true) {g:FuncId} {fn:Func} {c:Code} (hC:CxOK G C none e σ w) (hM:CxMono C.calm) (hf:G.P.funcs[g]?=some fn) (hb:fn.body=some c) (ao:ZJ fn.ntmps c=true)
  {ag:Bool} {keep:Nat} {own:Bool} {args:List PV} {R:PEnd->St->Prop} (hk:σ.bx.length<=keep) (aa:args.length<=fn.ntmps) (h:WFG ag C fn keep own args σ R) {vs:Array Value} (hS:SRel G e σ w) (af:ArgsRel G e σ w args vs) :
  CallsIn (fw none) n G.P g vs w (Y9 G e σ w R):=by
 have zf:Xs fn=c:=by simp [Xs,hb]
 unfold WFG at h
 rw [zf] at h;have presM:∀{T:Tab} {f:Frame} {bx:List Box} {l:List ResultVar} {K K':List PV->Prop},(∀vs,K vs->K' vs)->pres T f bx l K->pres T f bx l K':=by
  intro T f bx l
  induction l with
  | nil=>exact fun hK h=>hK _ h
  | cons r l ih =>
  intro K K' hK h
  exact mq78
 refine Zda bf hC hM hf hb ao aa h (fun pe f' σ' hq=>?_) hS af;have fin:∀{pv:PV} {p:PV->PEnd} {en:Value->Ending},(∀(pv:PV) (e:Env) (σ:St) (w:World) v,VRel G e σ w pv v->ZnT G e σ w (p pv) (en v))->(ZeY ag keep own pv σ' fun v σ''=>R (p v) σ'')->∀(e':Env) (w':World) (v:Value),SRel G e' σ' w'->VRel G e' σ' w' pv v->Later e σ w e' σ' w'->Y9 G e σ w R (en v) w':=fun {pv p en} hpe hl e' w' v jw hv hL=>by
  obtain ⟨pv',σ'',e'',hK,hv',ac3,ac4⟩:=Wv jw hL hk hv hl;exact ⟨p pv',σ'',e'',hK,hpe _ _ _ _ _ hv',ac3,ac4⟩
 cases pe with
 | normal=>exact presM (fun vs hl=>fin (p:=.ret) (en:=.returned) (fun _ _ _ _ v h=>⟨v,rfl,h⟩) hl) hq
 | ret=>exact presM (fun vs hl=>fin (p:=.ret) (en:=.returned) (fun _ _ _ _ v h=>⟨v,rfl,h⟩) hl) hq
 | panic p=>exact fin (p:=.panic) (en:=fun v=>.panicked [{ v:=v,recovered:=false }]) (fun _ _ _ _ v h=>⟨v,rfl,h⟩) hq
 | exit id=>exact hq.elim
 | goto l=>exact hq.elim
end
end Go.PM
end

section
namespace Go.PM
mutual
def Zu8:PV->List Nat->List Nat
 | .ptr b _,acc=>match Zhn b acc with | true=>acc | false=>acc++[b]
 | .asl b _ _,acc=>match Zhn b acc with | true=>acc | false=>acc++[b]
 | .mp b,acc=>match Zhn b acc with | true=>acc | false=>acc++[b]
 | .func _ a c,acc=>Zet c (Zet a acc)
 | .iface _ v,acc=>Zu8 v acc
 | .agg cs,acc=>Zet cs acc
 | .tuple vs,acc=>Zet vs acc
 | _,acc=>acc
def Zet:List PV->List Nat->List Nat
 | [],acc=>acc
 | v::l,acc=>Zet l (Zu8 v acc)
end
def Zfb (bx:List Box):Nat->Nat->List Nat->List Nat
 | 0,_,acc=>acc
 | n+1,i,acc=>match acc[i]? with
  | none=>acc
  | some b=>match bx[b]? with
   | some (.cells _ cs)=>Zfb bx n (i+1) (Zet cs acc)
   | some (.map cs _ _)=>Zfb bx n (i+1) (Zet cs acc)
   | _=>Zfb bx n (i+1) acc
def Zms:List PV->List Nat->(List Nat->Prop)->Prop
 | [],acc,K=>K acc
 | v::l,acc,K=>ZcN (Zu8 v acc) fun acc=>Zms l acc K
def Zfc (bx:List Box):Nat->Nat->List Nat->(List Nat->Prop)->Prop
 | 0,_,acc,K=>K acc
 | n+1,i,acc,K=>match acc[i]? with
  | none=>K acc
  | some b=>match bx[b]? with
   | some (.cells _ cs)=>Zms cs acc fun acc=>Zfc bx n (i+1) acc K
   | some (.map cs _ _)=>Zms cs acc fun acc=>Zfc bx n (i+1) acc K
   | _=>Zfc bx n (i+1) acc K
def Zcs {K:List Nat->Prop}:∀(l:List PV) (acc:List Nat),Zms l acc K=K (Zet l acc)
 | [],_=>rfl
 | v::l,acc=>by simp only [Zms,Zet,Vh,Zcs l]
def Zdb {bx:List Box} {K:List Nat->Prop}:∀(n i:Nat) (acc:List Nat),Zfc bx n i acc K=K (Zfb bx n i acc)
 | 0,_,_=>rfl
 | n+1,i,acc=>by
  unfold Zfc Zfb
  split
  ·rfl
  split <;> simp only [Zcs,Zdb n]
def Zdc (b:Nat):List Nat->Nat->Option Nat
 | [],_=>none
 | x::l,i=>match Nat.beq x b with | true=>some i | false=>Zdc b l (i+1)
def ZkO:List Nat->Bool
 | []=>true
 | x::l=>match Zhn x l with | true=>false | false=>ZkO l
mutual
def ZrK (bs:List Nat):PV->PV
 | .ptr b o=>match Zdc b bs 0 with | some i=>.ptr i o | none=>.undef
 | .asl b o n=>match Zdc b bs 0 with | some i=>.asl i o n | none=>.undef
 | .func f a c=>.func f (ZiT bs a) (ZiT bs c)
 | .iface t v=>.iface t (ZrK bs v)
 | .agg cs=>.agg (ZiT bs cs)
 | .tuple vs=>.tuple (ZiT bs vs)
 | .d x=>.d x
 | .undef=>.undef
 | .elem r o=>.elem r o
 | .sl t e rows=>.sl t e rows
 | .nils e=>.nils e
 | .raw v=>.raw v
 | .mp b=>match Zdc b bs 0 with | some i=>.mp i | none=>.undef
 | .nilm=>.nilm
def ZiT (bs:List Nat):List PV->List PV
 | []=>[]
 | v::l=>ZrK bs v::ZiT bs l
end
def Zoh (bs:List Nat) (bx:List Box):List Nat->(List Box->Prop)->Prop
 | [],K=>K []
 | b::l,K=>match bx[b]? with
  | some (.cells t cs)=>Zoh bs bx l fun r=>K (.cells t (ZiT bs cs)::r)
  | some (.iter s p)=>Zoh bs bx l fun r=>K (.iter s p::r)
  | some (.map cs bn ck)=>Zoh bs bx l fun r=>K (.map (ZiT bs cs) bn ck::r)
  | some (.dmap m)=>Zoh bs bx l fun r=>K (.dmap m::r)
  | some (.smap el m none)=>Zoh bs bx l fun r=>K (.smap el m none::r)
  | some (.smap _ _ (some _))=>False
  | some (.loop _ _ _)=>False
  | none=>False
mutual
def Zdd (bs:List Nat) (m L nx:Nat):PV->PV
 | .ptr i o=>match bs[i]? with | some b=>.ptr b o | none=>.ptr (L+(i - m)) o
 | .asl i o n=>match bs[i]? with | some b=>.asl b o n | none=>.asl (L+(i - m)) o n
 | .sl t e rows=>.sl (nx+t) e rows
 | .func f a c=>.func f (Zba bs m L nx a) (Zba bs m L nx c)
 | .iface t v=>.iface t (Zdd bs m L nx v)
 | .agg cs=>.agg (Zba bs m L nx cs)
 | .tuple vs=>.tuple (Zba bs m L nx vs)
 | .d x=>.d x
 | .undef=>.undef
 | .elem r o=>.elem r o
 | .nils e=>.nils e
 | .raw v=>.raw v
 | .mp i=>match bs[i]? with | some b=>.mp b | none=>.mp (L+(i - m))
 | .nilm=>.nilm
def Zba (bs:List Nat) (m L nx:Nat):List PV->List PV
 | []=>[]
 | v::l=>Zdd bs m L nx v::Zba bs m L nx l
end
def Zde (bs:List Nat) (m L nx:Nat):Box->Box
 | .cells t cs=>.cells t (Zba bs m L nx cs)
 | .iter s p=>.iter s p
 | .loop st pd r=>.loop st pd r
 | .map cs bn ck=>.map (Zba bs m L nx cs) bn ck
 | .dmap c=>.dmap c
 | .smap el c fo=>.smap el c (fo.map fun kv=>(kv.1,Zdd bs m L nx kv.2))
def Zgi (bb:Box->Box):List Nat->List Box->List Box->(List Box->Prop)->Prop
 | [],xs,acc,K=>K (acc++xs.map bb)
 | b::l,x::xs,acc,K=>Zgi bb l xs (acc.set b (bb x)) K
 | _::_,[],_,_=>False
def Zu9 (bs:List Nat) (m L nx:Nat):PEnd->PEnd
 | .ret v=>.ret (Zdd bs m L nx v)
 | .panic v=>.panic (Zdd bs m L nx v)
def Zae (md:Nat) (sp:Zm) (args:List PV) (σ:St) (K:PEnd->St->Prop):Prop :=
 Zms args [] fun a=>Zfc σ.bx (σ.bx.length+1) 0 a fun bs=>ZcN bs fun bs=>match ZkO bs with
 | true=>Zoh bs σ.bx bs fun cb=>Zrt md bs.length (ZiT bs args) σ.tk 0 fun args' tk k=>Zep bs.length bs.length cb tk k fun cb' rest k =>
   sp args' ⟨cb',toks k,k⟩ fun pe σ3=>Zgi (Zde bs bs.length σ.bx.length σ.nx) bs σ3.bx σ.bx fun bx =>
    K (Zu9 bs bs.length σ.bx.length σ.nx pe) ⟨bx,rest++σ3.tk.map (σ.nx+·),σ.nx+σ3.nx⟩
 | false=>False
abbrev Zjm (sp:Zm) (args:List PV) (σ:St) (K:PEnd->St->Prop):Prop:=Zae 0 sp args σ K
def Zdf:∀{l:List Nat},ZkO l=true->∀(i j b:Nat),l[i]?=some b->l[j]?=some b->i=j
 | [],_,i,j,b,h,_=>by simp at h
 | x::l,h,i,j,b,hi,hj=>by
  simp only [ZkO] at h;split at h
  ·cases h
  rename_i hm
  have hx:∀k:Nat,l[k]?≠some x:=fun k hk=>by
   have:=(Ys x l).2 (T1 hk);rw [this] at hm;cases hm
  cases i with
  | zero =>
   cases j with
   | zero=>rfl
   | succ j=>simp at hi hj;subst hi;exact absurd hj (hx j)
  | succ i =>
  cases j with
  | zero=>simp at hi hj;subst hj;exact absurd hi (hx i)
  | succ j=>simp at hi hj;rw [Zdf h i j b hi hj]
def Zfd {b:Nat}:∀{l:List Nat} {i j:Nat},Zdc b l i=some j->i<=j/\l[j - i]?=some b
 | [],i,j,h=>by simp [Zdc] at h
 | x::l,i,j,h=>by
  simp only [Zdc] at h;split at h
  ·rename_i hb;cases h;simp [Tp hb]
  obtain ⟨h1,h2⟩:=Zfd h;refine ⟨oM,?_⟩;rw [show j - i=(j - (i+1))+1 by omega];simpa using h2
def WX {bs:List Nat}:∀{l:List PV} (i:Nat) (y:PV),(ZiT bs l)[i]?=some y->∃x,l[i]?=some x/\y=ZrK bs x
 | [],i,y,h=>by simp [ZiT] at h
 | x::l,i,y,h=>by
  cases i with
  | zero=>simp [ZiT] at h;exact ⟨x,sM,h.symm⟩
  | succ i=>simp only [ZiT,TV] at h;obtain ⟨z,h1,h2⟩:=WX i y h;exact ⟨z,by simpa using h1,h2⟩
def YD {bs:List Nat}:∀{l:List PV},(ZiT bs l).length=l.length
 | []=>rfl
 | x::l=>by simp [ZiT,YD]
def Ww {bs:List Nat} {m L nx:Nat}:∀{l:List PV} (i:Nat) (y:PV),(Zba bs m L nx l)[i]?=some y->∃x,l[i]?=some x/\y=Zdd bs m L nx x
 | [],i,y,h=>by simp [Zba] at h
 | x::l,i,y,h=>by
  cases i with
  | zero=>simp [Zba] at h;exact ⟨x,sM,h.symm⟩
  | succ i=>simp only [Zba,TV] at h;obtain ⟨z,h1,h2⟩:=Ww i y h;exact ⟨z,by simpa using h1,h2⟩
def YE {bs:List Nat} {m L nx:Nat}:∀{l:List PV},(Zba bs m L nx l).length=l.length
 | []=>rfl
 | x::l=>by simp [Zba,YE]
def Zul (bs:List Nat):Box->Box
 | .cells t cs=>.cells t (ZiT bs cs)
 | .iter s p=>.iter s p
 | .loop st pd r=>.loop st pd r
 | .map cs bn ck=>.map (ZiT bs cs) bn ck
 | .dmap m=>.dmap m
 | .smap el m fo=>.smap el m (fo.map fun kv=>(kv.1,ZrK bs kv.2))
def Zoi {bs:List Nat} {bx:List Box}:∀{l:List Nat} {K:List Box->Prop},Zoh bs bx l K->∃cb,K cb/\cb.length=l.length/\∀(j b:Nat),l[j]?=some b->∃x,bx[b]?=some x/\cb[j]?=some (Zul bs x)
 | [],K,h=>⟨[],h,rfl,fun j b hj=>by simp at hj⟩
 | b::l,K,h=>by
  simp only [Zoh] at h;split at h
  all_goals first
   | exact h.elim
   | (rename_i hb
      obtain ⟨cb,h1,h2,h3⟩:=Zoi h;refine ⟨_,h1,by simp [h2],fun j b' hj=>?_⟩
      cases j with
      | zero=>simp at hj;subst hj;exact ⟨_,hb,rfl⟩
      | succ j=>exact h3 j b' (by simpa using hj))
def ZkP {bb:Box->Box}:∀{bs:List Nat} {xs acc:List Box} {K:List Box->Prop},(∀(i j b:Nat),bs[i]?=some b->bs[j]?=some b->i=j)->(∀b,b∈bs->b<acc.length)->Zgi bb bs xs acc K ->
  ∃r,K r/\bs.length<=xs.length/\r.length=acc.length+(xs.length - bs.length)/\(∀(j b:Nat) (x:Box),bs[j]?=some b->xs[j]?=some x->r[b]?=some (bb x))/\(∀i,i<acc.length->i∉bs->r[i]?=acc[i]?) /\
   ∀i,acc.length<=i->r[i]?=xs[bs.length+(i - acc.length)]?.map bb
 | [],xs,acc,K,hn,hl,h=>⟨_,h,sM,sM,fun j b x hj=>by simp at hj,fun i hi _=>by rw [TU hi],fun i hi=>by rw [T5 hi,Tj];simp⟩
 | b::bs,x::xs,acc,K,hn,hl,h=>by
  simp only [Zgi] at h;have ab:b<acc.length:=hl b sM;obtain ⟨r,h1,h2,h3,h4,h5,h6⟩:=ZkP (bs:=bs) (fun i j c hi hj=>by have:=hn (i+1) (j+1) c (by simpa using hi) (by simpa using hj);omega) (fun c hc=>by rw [SE];exact hl c (TA _ hc)) h;have qn:b∉bs:=fun hm=>by
   obtain ⟨k,hk,hke⟩:=Sf hm;have:=hn 0 (k+1) b sM (by simp [Tb hk,hke]);omega
  refine ⟨r,h1,sO,by rw [h3,SE];simp,fun j c y hj hy=>?_,fun i hi vj=>?_,fun i hi=>?_⟩
  ·cases j with
   | zero =>
    simp only [SB,Option.some.injEq] at hj hy;subst hj;subst hy;rw [h5 b (by rw [SE];exact ab) qn,List.getElem?_set_self ab]
   | succ j=>exact h4 j c y (by simpa using hj) (by simpa using hy)
  ·have sa:b≠i:=fun e=>vj (e ▸ by simp)
   rw [h5 i (by rw [SE];exact hi) (fun hm=>vj (TA _ hm)),List.getElem?_set_ne sa]
  rw [h6 i (by rw [SE];exact hi),SE,Td,show bs.length+1+(i - acc.length)=bs.length+(i - acc.length)+1 by omega,TV]
 | b::bs,[],acc,K,hn,hl,h=>h.elim
section
variable {G:GE} {e:Env} {σ:St} {w:World}
def Zgj (e:Env) (σ:St) (bs rest:List Nat) (b off:Nat):Prop :=
 e.X b off\/(∃i,i<σ.bx.length/\i∉bs/\e.β i=b)\/(∃t,t∈rest/\∃p,e.M t=some p/\p.1=b/\p.2<=off)\/∃q,e.H b=some q/\q.2<=off/\∀i,i∈bs->e.β i≠q.1.1
open Classical in
def Zmt (e:Env) (bs:List Nat) (b:Nat):Option ((Nat×List UInt8)×Nat):=match e.H b with
 | none=>none
 | some q=>if ∃i,i∈bs/\e.β i=q.1.1 then some q else none
def handH_iff {e:Env} {bs:List Nat} {b:Nat} {q:(Nat×List UInt8)×Nat}:Zmt e bs b=some q↔e.H b=some q/\∃i,i∈bs/\e.β i=q.1.1:=by
 unfold Zmt
 cases h:e.H b with
 | none=>simp
 | some r =>
 simp only;split
 ·rename_i hx
  constructor
  ·intro g;cases g;exact ⟨rfl,hx⟩
  rintro ⟨g,_⟩;exact g
 rename_i hx
 constructor
 ·intro g;cases g
 rintro ⟨g,g2⟩;cases g;exact absurd g2 hx
def Env.handed (e:Env) (σ:St) (bs rest:List Nat):Env:=⟨fun j=>e.β (bs.getD j 0),e.M,Zgj e σ bs rest,Zmt e bs⟩
structure Hand (σ:St) (bs rest pass:List Nat) (cb:List Box):Prop where
 nodup:∀(i j b:Nat),bs[i]?=some b->bs[j]?=some b->i=j
 len:cb.length=bs.length
 get:∀(j b:Nat),bs[j]?=some b->∃x,σ.bx[b]?=some x/\cb[j]?=some (Zul bs x)
 restIn:∀t,t∈rest->t∈σ.tk
 passIn:∀t,t∈pass->t∈σ.tk/\t∉rest
variable {bs rest pass:List Nat} {cb:List Box}
def Hand.lt (h:Hand σ bs rest pass cb) {b:Nat} (hb:b∈bs):b<σ.bx.length:=by
 obtain ⟨k,hk,he⟩:=Sf hb;obtain ⟨x,hx,_⟩:=h.get k b (by rw [Tb hk,he]);exact (Tk.1 hx).1
def Hand.at (h:Hand σ bs rest pass cb) {j:Nat} (hj:j<bs.length):∃b,bs[j]?=some b/\b∈bs/\(e.handed σ bs rest).β j=e.β b:=by
 have:=Tb hj;exact ⟨bs[j],this,TE hj,by simp [Env.handed,this]⟩
def Zoj (hS:SRel G e σ w) (h:Hand σ bs rest pass cb) {b off:Nat} (ho:okc e σ b off):okc (e.handed σ bs rest) ⟨cb,pass,σ.nx⟩ b off:=by
 refine ⟨fun hX=>?_,fun j hj=>?_,fun t ht p hp uf=>ho.2.2.1 t (h.passIn t ht).1 p hp uf,fun q hq=>ho.2.2.2 q (handH_iff.1 hq).1⟩
 ·rcases hX with hX | ⟨i,h1,_,h2⟩ | ⟨t,h1,p,h2,h3,h4⟩ | ⟨q,h1,h2,_⟩
  ·exact ho.1 hX
  ·exact ho.2.1 i h1 h2
  ·have:=ho.2.2.1 t (h.restIn t h1) p h2 h3;omega
  have:=ho.2.2.2 q h1;omega
 obtain ⟨b',h1,h2,h3⟩:=h.at (e:=e) (show j<bs.length by rw [<- h.len];exact hj);rw [h3];exact ho.2.1 b' (h.lt h2)
def VRel.ren (hS:SRel G e σ w) (h:Hand σ bs rest pass cb) {x:PV} {v:Value} (hv:VRel G e σ w x v):VRel G (e.handed σ bs rest) ⟨cb,pass,σ.nx⟩ w (ZrK bs x) v:=by
 have hd:∀{x:D} {v:Value},DRel (okc e σ) w x v->DRel (okc (e.handed σ bs rest) ⟨cb,pass,σ.nx⟩) w x v:=fun hd=>hd.mono fun b off u hu ho=>⟨Zoj hS h ho,hu⟩
 have at':∀b i,Zdc b bs 0=some i->(e.handed σ bs rest).β i=e.β b/\i<cb.length:=fun b i hi=>by
  obtain ⟨_,h2⟩:=Zfd hi;simp only [Nat.sub_zero] at h2;exact ⟨by simp [Env.handed,h2],by rw [h.len];exact (Tk.1 h2).1⟩
 induction hv with
 | d x v hx=>exact .d _ _ (hd hx)
 | undef v=>exact .undef _
 | ptr b off hb =>
  simp only [ZrK]
  cases hi:Zdc b bs 0 with
  | none=>exact .undef _
  | some i =>
  obtain ⟨h1,h2⟩:=at' b i hi;rw [<- h1];exact .ptr i off h2
 | asl b off n hb =>
  simp only [ZrK]
  cases hi:Zdc b bs 0 with
  | none=>exact .undef _
  | some i =>
  obtain ⟨h1,h2⟩:=at' b i hi;rw [<- h1];exact .asl i off n h2
 | mp b hb =>
  simp only [ZrK]
  cases hi:Zdc b bs 0 with
  | none=>exact .undef _
  | some i =>
  obtain ⟨h1,h2⟩:=at' b i hi;rw [<- h1];exact .mp i h2
 | nilm=>exact .nilm
 | elem r off b o u hc ho hu=>exact .elem r off b o u hc (fun j hj=>Zoj hS h (ho j hj)) (fun j x hx=>hd (hu j x hx))
 | sl t el rows v hn mj ht=>exact .sl t el rows v hn (hd mj) fun hp=>ht (h.passIn t hp).1
 | nils el=>exact .nils el
 | func f a c va vc ha hc _ _ ih1 ih2 =>
  refine .func f _ _ va vc (by rw [YD];exact ha) (by rw [YD];exact hc) (fun i y u hy hu=>?_) (fun i y u hy hu=>?_)
  ·obtain ⟨x,hx,rfl⟩:=WX i y hy;exact ih1 i x u hx hu
  obtain ⟨x,hx,rfl⟩:=WX i y hy;exact ih2 i x u hx hu
 | iface t x v _ ih=>exact .iface t _ v ih
 | agg cs vs hs _ h1 ih=>exact .agg _ vs (by rw [YD];exact hs) (fun i y u hy hu=>by obtain ⟨x,hx,rfl⟩:=WX i y hy;exact ih i x u hx hu) h1
 | tuple cs vs hs _ ih=>exact .tuple _ vs (by rw [YD];exact hs) (fun i y u hy hu=>by obtain ⟨x,hx,rfl⟩:=WX i y hy;exact ih i x u hx hu)
 | raw v=>exact .raw _
def SRel.ren (hS:SRel G e σ w) (h:Hand σ bs rest pass cb):SRel G (e.handed σ bs rest) ⟨cb,pass,σ.nx⟩ w where
 inj:=fun i j hi hj he=>by
  obtain ⟨b,h1,h2,h3⟩:=h.at (e:=e) (show i<bs.length by rw [<- h.len];exact hi);obtain ⟨b',j9,bz,dg⟩:=h.at (e:=e) (show j<bs.length by rw [<- h.len];exact hj);rw [h3,dg] at he;have:=hS.inj b b' (h.lt h2) (h.lt bz) he;subst this;exact h.nodup i j b h1 j9
 box:=fun j y hy=>by
  have hj:=(Tk.1 hy).1;obtain ⟨b,h1,h2,h3⟩:=h.at (e:=e) (show j<bs.length by rw [<- h.len];exact hj);obtain ⟨x,hx,hcb⟩:=h.get j b h1;simp only at hy;rw [hcb] at hy
  cases hy
  have hB:=hS.box b x hx;rw [h3]
  cases x with
  | cells t cs =>
   obtain ⟨vs,g1,g2,g3⟩:=hB;refine ⟨vs,g1,by rw [YD];exact g2,fun i y u hy hu=>?_⟩;obtain ⟨z,hz,rfl⟩:=WX i y hy;exact ⟨(g3 i z u hz hu).1.ren hS h,(g3 i z u hz hu).2⟩
  | iter s p=>exact hB
  | loop st pd r=>exact hB
  | dmap m=>exact hB.dmapTo rfl fun d v hv=>by have q:VRel G _ _ _ (.d d) v:=(VRel.d (G:=G) d v hv).ren hS h;cases q;assumption
  | smap el m fo=>exact hB.smapTo rfl (ZrK bs) (fun _=>rfl) (fun _=>rfl) (fun _ _ _ _ hv=>hv.ren hS h) fun b' q hq od=>⟨handH_iff.2 ⟨hq,b,h2,od.symm⟩,rfl⟩
  | map cs bn ck=>exact hB.mapTo rfl YD fun i x y hx hy=>by obtain ⟨z,hz,rfl⟩:=WX i y hy;rw [hx] at hz;cases hz;exact ⟨fun v hv=>hv.ren hS h,fun d hd=>by subst hd;rfl⟩
 low:=fun j hj=>by
  obtain ⟨b,h1,h2,h3⟩:=h.at (e:=e) (show j<bs.length by rw [<- h.len];exact hj);rw [h3];exact hS.low b (h.lt h2)
 tkn:=fun t ht=>hS.tkn t (h.passIn t ht).1
 own:=fun t ht p hp=>by
  obtain ⟨h1,h2,h3⟩:=hS.own t (h.passIn t ht).1 p hp;refine ⟨h1,fun j hj=>?_,h3⟩;obtain ⟨b,g1,g2,g3⟩:=h.at (e:=e) (show j<bs.length by rw [<- h.len];exact hj);rw [g3];exact h2 b (h.lt g2)
 dis:=fun t t' ht kh=>hS.dis t t' (h.passIn t ht).1 (h.passIn t' kh).1
 xlt:=fun b off hX=>by
  rcases hX with hX | ⟨i,h1,_,h2⟩ | ⟨t,h1,p,h2,h3,h4⟩ | ⟨q,h1,_⟩
  ·exact hS.xlt b off hX
  ·rw [<- h2];exact hS.lt h1
  ·obtain ⟨_,_,cs,ty,fz,hh⟩:=hS.own t (h.restIn t h1) p h2;rw [<- h3];exact (To.1 hh).1
  exact (hS.hid _ _ h1).2.1
 xown:=fun t ht p hp off j8 hX=>by
  rcases hX with hX | ⟨i,h1,_,h2⟩ | ⟨t',h1,p',h2,h3,h4⟩ | ⟨q,h1,_⟩
  ·exact hS.xown t (h.passIn t ht).1 p hp off j8 hX
  ·exact (hS.own t (h.passIn t ht).1 p hp).2.1 i h1 h2
  ·exact hS.dis t' t (h.restIn t' h1) (h.passIn t ht).1 (fun e=>(h.passIn t ht).2 (e ▸ h1)) p' p h2 hp h3
  exact (hS.hid _ _ h1).2.2.2.1 t (h.passIn t ht).1 p hp rfl
 hid:=fun b q hq=>by
  obtain ⟨g0,i0,gi,gb⟩:=handH_iff.1 hq;obtain ⟨k1,k2,k3,k4,k5⟩:=hS.hid b q g0;refine ⟨k1,k2,fun j hj=>?_,fun t ht=>k4 t (h.passIn t ht).1,fun off j8 hX=>?_⟩
  ·obtain ⟨b',g1,g2,g3⟩:=h.at (e:=e) (show j<bs.length by rw [<- h.len];exact hj);rw [g3];exact k3 b' (h.lt g2)
  rcases hX with hX | ⟨i,h1,_,h2⟩ | ⟨t',h1,p',h2,h3,h4⟩ | ⟨q',h1,_,h3⟩
  ·exact k5 off j8 hX
  ·exact k3 i h1 h2
  ·exact k4 t' (h.restIn t' h1) p' h2 h3
  rw [g0] at h1;cases h1;exact h3 i0 gi gb
 glob:=hS.glob
 big:=hS.big
open Classical in
def ZhO (e:Env) (bs:List Nat) (e3:Env) (b:Nat):Option ((Nat×List UInt8)×Nat):=match e3.H b with
 | some q=>some q
 | none=>match e.H b with
  | none=>none
  | some q=>if ∃i,i∈bs/\e.β i=q.1.1 then none else some q
def Zbb {e:Env} {bs:List Nat} {e3:Env} {b:Nat} {q:(Nat×List UInt8)×Nat} (h:ZhO e bs e3 b=some q):e3.H b=some q\/(e3.H b=none/\e.H b=some q/\∀i,i∈bs->e.β i≠q.1.1):=by
 unfold ZhO at h
 split at h
 ·rename_i r hr;cases h;exact .inl hr
 rename_i hr
 split at h
 ·cases h
 rename_i r he
 split at h
 ·cases h
 rename_i hx;cases h;exact .inr ⟨hr,he,fun i hi hb=>hx ⟨i,hi,hb⟩⟩
def Zok {e:Env} {bs:List Nat} {e3:Env} {b:Nat} {q:(Nat×List UInt8)×Nat} (h:e3.H b=some q):ZhO e bs e3 b=some q:=by
 unfold ZhO;rw [h]
def Zol {e:Env} {bs:List Nat} {e3:Env} {b:Nat} {q:(Nat×List UInt8)×Nat} (h:e3.H b=none) (h2:e.H b=some q) (h3:∀i,i∈bs->e.β i≠q.1.1):ZhO e bs e3 b=some q:=by
 unfold ZhO;rw [h,h2];exact Tf fun ⟨i,hi,hb⟩=>h3 i hi hb
def Env.back (e:Env) (bs:List Nat) (L m nx:Nat) (e3:Env):Env:=⟨fun i=>if i<L then e.β i else e3.β (m+(i - L)),fun t=>if t<nx then e.M t else e3.M (t - nx),e.X,ZhO e bs e3⟩
structure Handed (e:Env) (σ:St) (w:World) (bs rest:List Nat) (e2:Env) (σ2:St):Prop where
 nodup:∀(i j b:Nat),bs[i]?=some b->bs[j]?=some b->i=j
 lt:∀b,b∈bs->b<σ.bx.length
 len:σ2.bx.length=bs.length
 beta:∀(j b:Nat),bs[j]?=some b->e2.β j=e.β b
 X:e2.X=Zgj e σ bs rest
 H:e2.H=Zmt e bs
 okc:∀b off,okc e σ b off->okc e2 σ2 b off
 tok:∀t,t∈σ2.tk->∀p,e2.M t=some p->∃t0,t0∈σ.tk/\t0∉rest/\e.M t0=some p
 restIn:∀t,t∈rest->t∈σ.tk
def Handed.hnone {e2:Env} {σ2:St} (h:Handed e σ w bs rest e2 σ2) {b:Nat} (hb:e.H b=none):e2.H b=none:=by
 rw [h.H]
 cases hq:Zmt e bs b with
 | none=>rfl
 | some q=>rw [(handH_iff.1 hq).1] at hb;cases hb
def SRel.tokH (hS:SRel G e σ w) {t:Nat} (ht:t∈σ.tk) {p:Nat×Nat} (hp:e.M t=some p):e.H p.1=none:=by
 cases hq:e.H p.1 with
 | none=>rfl
 | some q=>exact absurd rfl ((hS.hid _ _ hq).2.2.2.1 t ht p hp)
variable {e2 e3:Env} {σ2 σ3:St} {w':World} {bx:List Box}
structure Backed (σ:St) (bs:List Nat) (σ3:St) (bx:List Box):Prop where
 le:bs.length<=σ3.bx.length
 len:bx.length=σ.bx.length+(σ3.bx.length - bs.length)
 some:∀(j b:Nat) (x:Box),bs[j]?=some b->σ3.bx[j]?=some x->bx[b]?=some (Zde bs bs.length σ.bx.length σ.nx x)
 old:∀i,i<σ.bx.length->i∉bs->bx[i]?=σ.bx[i]?
 new:∀i,σ.bx.length<=i->bx[i]?=σ3.bx[bs.length+(i - σ.bx.length)]?.map (Zde bs bs.length σ.bx.length σ.nx)
abbrev Jn (σ:St) (rest:List Nat) (σ3:St) (bx:List Box):St:=⟨bx,rest++σ3.tk.map (σ.nx+·),σ.nx+σ3.nx⟩
def Ya {t:Nat} (hS:SRel G e σ w) (h:Handed e σ w bs rest e2 σ2) (ht:t∈(Jn σ rest σ3 bx).tk):(t∈rest/\t<σ.nx)\/∃t',t'∈σ3.tk/\t=σ.nx+t':=by
 rcases TJ.1 ht with h1 | h1
 ·exact .inl ⟨h1,hS.tkn t (h.restIn t h1)⟩
 obtain ⟨t',h2,h3⟩:=Ss.1 h1;exact .inr ⟨t',h2,h3.symm⟩
def Yp {L m nx t:Nat} (h:t<nx):(e.back bs L m nx e3).M t=e.M t:=by simp [Env.back,h]
def back_M_new {L m nx t:Nat}:(e.back bs L m nx e3).M (nx+t)=e3.M t:=by
 have:¬nx+t<nx:=oM;simp [Env.back,this]
def Z4 {L m nx i:Nat} (h:i<L):(e.back bs L m nx e3).β i=e.β i:=by simp [Env.back,h]
def Vm {L m nx i:Nat} (h:L<=i):(e.back bs L m nx e3).β i=e3.β (m+(i - L)):=by
 have:¬i<L:=oM;simp [Env.back,this]
def Zgk (h:Handed e σ w bs rest e2 σ2) (hL:Later e2 σ2 w e3 σ3 w') {i:Nat} (hi:i<σ.bx.length):(∃j,j<σ2.bx.length/\bs[j]?=some i/\e3.β j=e.β i)\/(i∉bs/\∀off,e3.X (e.β i) off):=by
 by_cases hm:i∈bs
 ·obtain ⟨j,hj,he⟩:=Sf hm;have hb:bs[j]?=some i:=by rw [Tb hj,he]
  have rt:j<σ2.bx.length:=by rw [h.len];exact hj
  exact .inl ⟨j,rt,hb,(hL.beta j rt).trans (h.beta j i hb)⟩
 exact .inr ⟨hm,fun off=>hL.X _ _ (by rw [h.X];exact .inr (.inl ⟨i,hi,hm,rfl⟩))⟩
def Zgl (hS:SRel G e σ w) (h:Handed e σ w bs rest e2 σ2) (hL:Later e2 σ2 w e3 σ3 w') (hb:Backed σ bs σ3 bx) {b off:Nat} (ho:okc e3 σ3 b off) :
  okc (e.back bs σ.bx.length bs.length σ.nx e3) (Jn σ rest σ3 bx) b off:=by
 have hX:¬Zgj e σ bs rest b off:=fun hk=>ho.1 (hL.X _ _ (by rw [h.X];exact hk))
 refine ⟨fun hx=>hX (.inl hx),fun i hi=>?_,fun t ht p hp uf=>?_,fun q hq=>?_⟩
 ·by_cases ab:i<σ.bx.length
  ·rw [Z4 ab];rcases Zgk h hL ab with ⟨j,hj,_,he⟩ | ⟨_,hx⟩
   ·rw [<- he];exact ho.2.1 j (TF hj hL.len)
   intro e;rw [<- e] at ho;exact ho.1 (hx off)
  rw [Vm oM];have aa:=hb.len;have ar:=hb.le;simp only at hi;exact ho.2.1 _ oM
 ·rcases Ya hS h ht with ⟨h1,h2⟩ | ⟨t',h1,rfl⟩
  ·rw [Yp h2] at hp;have:¬p.2<=off:=fun ar=>hX (.inr (.inr (.inl ⟨t,h1,p,hp,uf,ar⟩)))
   omega
  rw [back_M_new] at hp;exact ho.2.2.1 t' h1 p hp uf
 rcases Zbb hq with h1 | ⟨_,h1,h2⟩
 ·exact ho.2.2.2 q h1
 have:¬q.2<=off:=fun ar=>hX (.inr (.inr (.inr ⟨q,h1,ar,h2⟩)))
 omega
def VRel.back (hS:SRel G e σ w) (h:Handed e σ w bs rest e2 σ2) (hL:Later e2 σ2 w e3 σ3 w') (hb:Backed σ bs σ3 bx) {x:PV} {v:Value} (hv:VRel G e3 σ3 w' x v) :
  VRel G (e.back bs σ.bx.length bs.length σ.nx e3) (Jn σ rest σ3 bx) w' (Zdd bs bs.length σ.bx.length σ.nx x) v:=by
 have hd:∀{x:D} {v:Value},DRel (okc e3 σ3) w' x v->DRel (okc (e.back bs σ.bx.length bs.length σ.nx e3) (Jn σ rest σ3 bx)) w' x v:=fun hd=>hd.mono fun b off u hu ho=>⟨Zgl hS h hL hb ho,hu⟩
 have bk:∀i,i<σ3.bx.length->e3.β i=(e.back bs σ.bx.length bs.length σ.nx e3).β (match bs[i]? with | some b=>b | none=>σ.bx.length+(i - bs.length))/\(match bs[i]? with | some b=>b | none=>σ.bx.length+(i - bs.length))<bx.length:=fun i hi=>by
  have aa:=hb.len;have ar:=hb.le
  cases gw:bs[i]? with
  | some b =>
   have hj:=(Tk.1 gw).1;have ab:=h.lt b (T1 gw);refine ⟨?_,by show b<bx.length;omega⟩;rw [Z4 ab];exact (hL.beta i (by rw [h.len];exact hj)).trans (h.beta i b gw)
  | none =>
  have jn:bs.length<=i:=by simpa using gw
  show e3.β i=(e.back bs σ.bx.length bs.length σ.nx e3).β (σ.bx.length+(i - bs.length))/\σ.bx.length+(i - bs.length)<bx.length;refine ⟨?_,oM⟩;rw [Vm oM];congr 1;omega
 induction hv with
 | d x v hx=>exact .d _ _ (hd hx)
 | undef v=>exact .undef _
 | ptr i off hi =>
  obtain ⟨h1,h2⟩:=bk i hi;simp only [Zdd]
  cases gw:bs[i]? <;> rw [gw] at h1 h2 <;> (rw [h1];exact .ptr _ off h2)
 | asl i off n hi =>
  obtain ⟨h1,h2⟩:=bk i hi;simp only [Zdd]
  cases gw:bs[i]? <;> rw [gw] at h1 h2 <;> (rw [h1];exact .asl _ off n h2)
 | mp i hi =>
  obtain ⟨h1,h2⟩:=bk i hi;simp only [Zdd]
  cases gw:bs[i]? <;> rw [gw] at h1 h2 <;> (rw [h1];exact .mp _ h2)
 | nilm=>exact .nilm
 | elem r off b o u hc ho hu=>exact .elem r off b o u hc (fun j hj=>Zgl hS h hL hb (ho j hj)) (fun j x hx=>hd (hu j x hx))
 | sl t el rows v hn mj ht =>
  refine .sl _ el rows v (by show σ.nx+t<σ.nx+σ3.nx;omega) (hd mj) fun hp=>?_
  rcases Ya hS h hp with ⟨_,h2⟩ | ⟨t',h1,h2⟩
  ·omega
  obtain rfl:t=t':=by omega
  rcases ht h1 with ⟨g1,g2,g3⟩ | ⟨sz,g1,g2,g3,b,off,cap,cs,ty,fz,g4,g5,g6,g7,g8,g9,g10⟩
  ·exact .inl ⟨g1,g2,back_M_new.trans g3⟩
  exact .inr ⟨sz,g1,g2,g3,b,off,cap,cs,ty,fz,g4,g5,g6,g7,g8,g9,back_M_new.trans g10⟩
 | nils el=>exact .nils el
 | func f a c va vc ha hc _ _ ih1 ih2 =>
  refine .func f _ _ va vc (by rw [YE];exact ha) (by rw [YE];exact hc) (fun i y u hy hu=>?_) (fun i y u hy hu=>?_)
  ·obtain ⟨x,hx,rfl⟩:=Ww i y hy;exact ih1 i x u hx hu
  obtain ⟨x,hx,rfl⟩:=Ww i y hy;exact ih2 i x u hx hu
 | iface t x v _ ih=>exact .iface t _ v ih
 | agg cs vs hs _ h1 ih=>exact .agg _ vs (by rw [YE];exact hs) (fun i y u hy hu=>by obtain ⟨x,hx,rfl⟩:=Ww i y hy;exact ih i x u hx hu) h1
 | tuple cs vs hs _ ih=>exact .tuple _ vs (by rw [YE];exact hs) (fun i y u hy hu=>by obtain ⟨x,hx,rfl⟩:=Ww i y hy;exact ih i x u hx hu)
 | raw v=>exact .raw _
def ZbU (hS:SRel G e σ w) (h:Handed e σ w bs rest e2 σ2) (ip:SRel G e3 σ3 w') (hL:Later e2 σ2 w e3 σ3 w') (hb:Backed σ bs σ3 bx):Stepped e σ w (e.back bs σ.bx.length bs.length σ.nx e3) (Jn σ rest σ3 bx) w' where
 len:=by show σ.bx.length<=bx.length;rw [hb.len];omega
 beta:=fun i hi=>Z4 hi
 X:=fun _ _ h=>h
 pres:=fun b off u hu ho=>by
  obtain ⟨h1,h2⟩:=hL.pres b off u hu (h.okc b off ho);exact ⟨Zgl hS h hL hb h1,h2⟩
 blocks:=fun b ab hn ht hH=>hL.blocks b ab (fun j hj=>by
   have l9:j<bs.length:=by rw [<- h.len];exact hj
   have qx:=Tb l9;rw [h.beta j _ qx];exact hn _ (h.lt _ (TE l9))) (fun t xw p hp=>by
   obtain ⟨t0,h1,_,h2⟩:=h.tok t xw p hp;exact ht t0 h1 p h2) (h.hnone hH)
 size:=hL.size
 os:=hL.os
 tape:=hL.tape
 output:=hL.output
 fresh:=fun i h1 h2=>by
  rw [Vm h1];have aa:=hb.len;have ar:=hb.le;have:i<bx.length:=h2;exact hL.fresh _ (by rw [h.len];omega) oM
 ftok:=fun t ht p hp=>by
  rcases Ya hS h ht with ⟨h1,h2⟩ | ⟨t',h1,rfl⟩
  ·rw [Yp h2] at hp;exact .inr (.inl ⟨t,h.restIn t h1,p,hp,rfl⟩)
  rw [back_M_new] at hp;rcases hL.ftok t' h1 p hp with h2 | ⟨t0,h3,p0,h4,h5⟩ | h2
  ·exact .inl h2
  ·obtain ⟨t1,g1,_,g2⟩:=h.tok t0 h3 p0 h4;exact .inr (.inl ⟨t1,g1,p0,g2,h5⟩)
  exact .inr (.inr fun hn=>h2 (h.hnone hn))
 fhid:=fun b hb=>by
  cases hq:ZhO e bs e3 b with
  | none=>exact absurd hq hb
  | some q =>
  rcases Zbb hq with h1 | ⟨_,h1,_⟩
  ·rcases hL.fhid b (by rw [h1];simp) with h2 | ⟨t0,h3,p0,h4,h5⟩ | h2
   ·exact .inl h2
   ·obtain ⟨t1,g1,_,g2⟩:=h.tok t0 h3 p0 h4;exact .inr (.inl ⟨t1,g1,p0,g2,h5⟩)
   exact .inr (.inr fun hn=>h2 (h.hnone hn))
  exact .inr (.inr (by rw [h1];simp))
 nx:=Nat.le_add_right _ _
 toks:=fun t ab ht=>by
  rcases Ya hS h ht with ⟨h1,_⟩ | ⟨t',h1,rfl⟩
  ·exact ⟨h.restIn t h1,Yp ab⟩
  omega
 own:=fun t ab ht p hp ac5=>by
  rcases Ya hS h ht with ⟨h1,_⟩ | ⟨t',h1,rfl⟩
  ·obtain ⟨_,qn,_⟩:=hS.own t (h.restIn t h1) p hp;refine hL.blocks p.1 ac5 (fun j hj=>?_) (fun t2 la p2 jq=>?_) (h.hnone (hS.tokH (h.restIn t h1) hp))
   ·have l9:j<bs.length:=by rw [<- h.len];exact hj
    have qx:=Tb l9;rw [h.beta j _ qx];exact qn _ (h.lt _ (TE l9))
   obtain ⟨t0,g1,g2,g3⟩:=h.tok t2 la p2 jq;exact hS.dis t0 t g1 (h.restIn t h1) (fun e=>g2 (e ▸ h1)) p2 p g3 hp
  omega
def SRel.back (hS:SRel G e σ w) (h:Handed e σ w bs rest e2 σ2) (ip:SRel G e3 σ3 w') (hL:Later e2 σ2 w e3 σ3 w') (hb:Backed σ bs σ3 bx):SRel G (e.back bs σ.bx.length bs.length σ.nx e3) (Jn σ rest σ3 bx) w':=by
 have hst:=ZbU hS h ip hL hb;have aa:=hb.len;have ar:=hb.le;have ef:(Jn σ rest σ3 bx).bx.length=bx.length:=rfl;have il:∀i,σ.bx.length<=i->i<bx.length->(e.back bs σ.bx.length bs.length σ.nx e3).β i=e3.β (bs.length+(i - σ.bx.length))/\bs.length+(i - σ.bx.length)<σ3.bx.length/\w.heap.size<=e3.β (bs.length+(i - σ.bx.length)):=fun i h1 h2=>by
  have:=hst.fresh i h1 h2;rw [Vm h1] at this;exact ⟨Vm h1,oM,this⟩
 have au:∀t,t∈rest->∀p,e.M t=some p->p.1<w.heap.size:=fun t ht p hp=>by
  obtain ⟨_,_,cs,ty,fz,hh⟩:=hS.own t (h.restIn t ht) p hp;exact (To.1 hh).1
 constructor
 ·intro i j hi hj he
  by_cases h1:i<σ.bx.length <;> by_cases h2:j<σ.bx.length
  ·rw [Z4 h1,Z4 h2] at he;exact hS.inj i j h1 h2 he
  ·obtain ⟨g1,g2,g3⟩:=il j oM hj;rw [Z4 h1,g1] at he;have:=hS.lt h1;omega
  ·obtain ⟨g1,g2,g3⟩:=il i oM hi;rw [Z4 h2,g1] at he;have:=hS.lt h2;omega
  obtain ⟨g1,g2,g3⟩:=il i oM hi;obtain ⟨k1,k2,k3⟩:=il j oM hj;rw [g1,k1] at he;have:=ip.inj _ _ g2 k2 he;omega
 ·intro i x hx
  have hi:=(Tk.1 hx).1;simp only at hx hi;have hBk:∀(y:Box) (b:Nat),BRel G e3 σ3 w' y b->BRel G (e.back bs σ.bx.length bs.length σ.nx e3) (Jn σ rest σ3 bx) w' (Zde bs bs.length σ.bx.length σ.nx y) b:=fun y b hB=>by
   cases y with
   | cells t cs =>
    obtain ⟨vs,g1,g2,g3⟩:=hB;refine ⟨vs,g1,by rw [YE];exact g2,fun k z u hz hu=>?_⟩;obtain ⟨z',xy,rfl⟩:=Ww k z hz;exact ⟨(g3 k z' u xy hu).1.back hS h hL hb,(g3 k z' u xy hu).2⟩
   | iter s p=>exact hB
   | loop st pd r=>exact hB
   | dmap m=>exact hB.dmapTo rfl fun d v hv=>by have q:VRel G _ _ _ (.d d) v:=(VRel.d (G:=G) d v hv).back hS h hL hb;cases q;assumption
   | smap el m fo=>exact hB.smapTo rfl (Zdd bs bs.length σ.bx.length σ.nx) (fun _=>rfl) (fun _=>rfl) (fun _ _ _ _ hv=>hv.back hS h hL hb) fun b' q hq _=>⟨Zok hq,rfl⟩
   | map cs bn ck=>exact hB.mapTo rfl YE fun i x y hx hy=>by obtain ⟨z,hz,rfl⟩:=Ww i y hy;rw [hx] at hz;cases hz;exact ⟨fun v hv=>hv.back hS h hL hb,fun d hd=>by subst hd;rfl⟩
  by_cases h1:i<σ.bx.length
  ·rw [Z4 h1];rcases Zgk h hL h1 with ⟨j,hj,qx,he⟩ | ⟨vj,hX⟩
   ·have hj3:j<σ3.bx.length:=TF hj hL.len;have:=hb.some j i _ qx (Tb hj3);rw [this] at hx
    cases hx
    rw [<- he];exact hBk _ _ (ip.box j _ (Tb hj3))
   rw [hb.old i h1 vj] at hx;have notB:∀j,j<bs.length->∀b,bs[j]?=some b->e.β b≠e.β i:=fun j hj b hb he=>by
    have:=hS.inj _ _ (h.lt _ (T1 hb)) h1 he;exact vj (this ▸ T1 hb)
   have hnH:e.H (e.β i)=none:=by
    cases hq:e.H (e.β i) with
    | none=>rfl
    | some q=>exact absurd rfl ((hS.hid _ _ hq).2.2.1 i h1)
   refine (hS.box i x hx).step hst (hL.blocks _ (hS.lt h1) (fun j hj=>?_) (fun t ht p hp=>?_) (h.hnone hnH)) fun b' q hq hqi=>?_
   ·have l9:j<bs.length:=by rw [<- h.len];exact hj
    have qx:=Tb l9;rw [h.beta j _ qx];intro he
    have:=hS.inj _ _ (h.lt _ (TE l9)) h1 he;exact vj (this ▸ TE l9)
   ·obtain ⟨t0,g1,_,g2⟩:=h.tok t ht p hp;exact fun he=>(hS.own t0 g1 p g2).2.1 i h1 he.symm
   obtain ⟨k1,k2,k3,k4,k5⟩:=hS.hid b' q hq;have hnp:∀i',i'∈bs->e.β i'≠q.1.1:=fun i' fj he=>by
    have:=hS.inj _ _ (h.lt _ fj) h1 (he.trans hqi);exact vj (this ▸ fj)
   have oe:e2.H b'=none:=by
    rw [h.H]
    cases mf:Zmt e bs b' with
    | none=>rfl
    | some q2 =>
    obtain ⟨g1,i',g2,g3⟩:=handH_iff.1 mf;rw [hq] at g1;cases g1;exact absurd g3 (hnp i' g2)
   have la:∀t,t∈σ2.tk->∀p,e2.M t=some p->p.1≠b':=fun t ht p hp=>by
    obtain ⟨t0,g1,_,g2⟩:=h.tok t ht p hp;exact k4 t0 g1 p g2
   refine ⟨Zol ?_ hq hnp,hL.blocks b' k2 (fun j hj=>?_) la oe⟩
   ·cases hq3:e3.H b' with
    | none=>rfl
    | some q3 =>
    rcases hL.fhid b' (by rw [hq3];simp) with g1 | ⟨t0,g1,p0,g2,g3⟩ | g1
    ·omega
    ·exact absurd g3 (la t0 g1 p0 g2)
    exact absurd oe g1
   have l9:j<bs.length:=by rw [<- h.len];exact hj
   have qx:=Tb l9;rw [h.beta j _ qx];exact k3 _ (h.lt _ (TE l9))
  obtain ⟨g1,g2,g3⟩:=il i oM hi;rw [hb.new i oM,Tb g2] at hx
  cases hx
  rw [g1];exact hBk _ _ (ip.box _ _ (Tb g2))
 ·intro i hi
  by_cases h1:i<σ.bx.length
  ·rw [Z4 h1];exact hS.low i h1
  obtain ⟨g1,g2,g3⟩:=il i oM hi;rw [g1];exact ip.low _ g2
 ·intro t ht
  rcases Ya hS h ht with ⟨_,h2⟩ | ⟨t',h1,rfl⟩
  ·show t<σ.nx+σ3.nx;omega
  have:=ip.tkn t' h1;show σ.nx+t'<σ.nx+σ3.nx;omega
 ·intro t ht p hp
  rcases Ya hS h ht with ⟨h1,h2⟩ | ⟨t',h1,rfl⟩
  ·rw [Yp h2] at hp;obtain ⟨g1,g2,cs,ty,fz,g3⟩:=hS.own t (h.restIn t h1) p hp;refine ⟨g1,fun i hi=>?_,cs,ty,fz,(hst.own t h2 ht p hp (au t h1 p hp)).trans g3⟩
   by_cases h3:i<σ.bx.length
   ·rw [Z4 h3];exact g2 i h3
   obtain ⟨k1,k2,k3⟩:=il i oM hi;rw [k1];have:=au t h1 p hp;omega
  rw [back_M_new] at hp;obtain ⟨g1,g2,g3⟩:=ip.own t' h1 p hp;refine ⟨g1,fun i hi=>?_,g3⟩
  by_cases h3:i<σ.bx.length
  ·rw [Z4 h3];rcases Zgk h hL h3 with ⟨j,hj,_,he⟩ | ⟨_,hX⟩
   ·rw [<- he];exact g2 j (TF hj hL.len)
   intro he
   exact ip.xown t' h1 p hp p.2 (Tz _) (he ▸ hX p.2)
  obtain ⟨k1,k2,k3⟩:=il i oM hi;rw [k1];exact g2 _ k2
 ·intro t t' ht kh ai p p' hp ja
  have mixed:∀t t',t∈rest->t<σ.nx->t'∈σ3.tk->∀p p',e.M t=some p->e3.M t'=some p'->p.1≠p'.1:=fun t t' h1 h2 h3 p p' hp ja he=>by
   refine ip.xown t' h3 p' ja (max p.2 p'.2) (Nat.le_max_right _ _) ?_;exact hL.X _ _ (by rw [h.X];exact .inr (.inr (.inl ⟨t,h1,p,hp,he,Nat.le_max_left _ _⟩)))
  rcases Ya hS h ht with ⟨h1,h2⟩ | ⟨s,h1,rfl⟩ <;> rcases Ya hS h kh with ⟨k1,k2⟩ | ⟨s',k1,rfl⟩
  ·rw [Yp h2] at hp;rw [Yp k2] at ja;exact hS.dis t t' (h.restIn t h1) (h.restIn t' k1) ai p p' hp ja
  ·rw [Yp h2] at hp;rw [back_M_new] at ja;exact mixed t s' h1 h2 k1 p p' hp ja
  ·rw [back_M_new] at hp;rw [Yp k2] at ja;exact fun he=>mixed t' s k1 k2 h1 p' p ja hp he.symm
  rw [back_M_new] at hp ja;exact ip.dis s s' h1 k1 (fun e=>ai (by rw [e])) p p' hp ja
 ·intro b off hX
  exact TF (hS.xlt b off hX) hL.size
 ·intro t ht p hp off j8 hX
  rcases Ya hS h ht with ⟨h1,h2⟩ | ⟨t',h1,rfl⟩
  ·rw [Yp h2] at hp;exact hS.xown t (h.restIn t h1) p hp off j8 hX
  rw [back_M_new] at hp;refine ip.xown t' h1 p hp off j8 ?_;exact hL.X _ _ (by rw [h.X];exact .inl hX)
 ·intro b q hq
  rcases Zbb hq with g | ⟨g0,g,gn⟩
  ·obtain ⟨k1,k2,k3,k4,k5⟩:=ip.hid b q g;refine ⟨k1,k2,fun i hi=>?_,fun t ht p hp=>?_,fun off ho hX=>k5 off ho (hL.X _ _ (by rw [h.X];exact .inl hX))⟩
   ·by_cases h3:i<σ.bx.length
    ·rw [Z4 h3];rcases Zgk h hL h3 with ⟨j,hj,_,he⟩ | ⟨_,hX⟩
     ·rw [<- he];exact k3 j (TF hj hL.len)
     intro he
     exact k5 q.2 (Tz _) (he ▸ hX q.2)
    obtain ⟨g1,g2,g3⟩:=il i oM hi;rw [g1];exact k3 _ g2
   rcases Ya hS h ht with ⟨h1,h2⟩ | ⟨t',h1,rfl⟩
   ·rw [Yp h2] at hp;intro he
    refine k5 (max p.2 q.2) (Nat.le_max_right _ _) ?_;exact hL.X _ _ (by rw [h.X];exact .inr (.inr (.inl ⟨t,h1,p,hp,he,Nat.le_max_left _ _⟩)))
   rw [back_M_new] at hp;exact k4 t' h1 p hp
  obtain ⟨k1,k2,k3,k4,k5⟩:=hS.hid b q g;refine ⟨k1,TF k2 hL.size,fun i hi=>?_,fun t ht p hp=>?_,k5⟩
  ·by_cases h3:i<σ.bx.length
   ·rw [Z4 h3];exact k3 i h3
   obtain ⟨g1,g2,g3⟩:=il i oM hi;rw [g1];omega
  rcases Ya hS h ht with ⟨h1,h2⟩ | ⟨t',h1,rfl⟩
  ·rw [Yp h2] at hp;exact k4 t (h.restIn t h1) p hp
  rw [back_M_new] at hp;intro he
  refine ip.xown t' h1 p hp (max p.2 q.2) (Nat.le_max_left _ _) ?_;exact hL.X _ _ (by rw [h.X,he];exact .inr (.inr (.inr ⟨q,g,Nat.le_max_right _ _,gn⟩)))
 ·exact ip.glob
 exact ip.big
def Jo {md:Nat} {g:FuncId} {sp:Zm} (hP:PCalls G g sp) {args:List PV} {K:PEnd->St->Prop} (hv:Zae md sp args σ K) :
  Wr G.P g/\∀(ro:Option Nat) (n:Nat) (e:Env) (w:World) (vs:Array Value),SRel G e σ w->ArgsRel G e σ w args vs->CallsIn (fw ro) n G.P g vs w (Zzd G e σ w K):=by
 unfold Zae at hv
 simp only [Zcs,Zdb,Vh] at hv;generalize Zfb σ.bx (σ.bx.length+1) 0 (Zet args [])=bs at hv;split at hv
 ·rename_i im
  obtain ⟨cb,hv,o7,hcg⟩:=Zoi hv;obtain ⟨args',tk1,as1,hv,dv,mi,hal,hav⟩:=ZrC (as:=[]) (ZEJ σ.tk σ.tk fun _ h=>h) hv;obtain ⟨cb',rest,as2,hv,ca,ga,cp,ag3,ma⟩:=W7 mi hv;have ml:=Zdf im;have si:∀b,b∈bs->b<σ.bx.length:=fun b hb=>by
   obtain ⟨k,hk,he⟩:=Sf hb;obtain ⟨x,hx,_⟩:=hcg k b (by rw [Tb hk,he]);exact (Tk.1 hx).1
  have backOf:∀(pe:PEnd) (σ3:St),(Zgi (Zde bs bs.length σ.bx.length σ.nx) bs σ3.bx σ.bx fun bx=>K (Zu9 bs bs.length σ.bx.length σ.nx pe) (Jn σ rest σ3 bx))->∃bx,Backed σ bs σ3 bx/\K (Zu9 bs bs.length σ.bx.length σ.nx pe) (Jn σ rest σ3 bx):=fun pe σ3 hb=>by
   obtain ⟨bx,h1,h2,h3,h4,h5,h6⟩:=ZkP ml si hb;exact ⟨bx,⟨h2,h3,h4,h5,h6⟩,h1⟩
  refine ⟨hP.enters,fun ro n e w vs hS af=>?_⟩;have sj:∀t,t∈as2.filterMap id↔some t∈as2:=fun t=>by simp
  have o8:∀t,t∈as2.filterMap id->t∈σ.tk/\t∉rest:=fun t ht=>by
   obtain ⟨i,hi,he⟩:=Sf ((sj t).1 ht);exact ga.mem i t (by rw [Tb hi,he])
  have hH:Hand σ bs rest (as2.filterMap id) cb:=⟨ml,o7,hcg,ga.sub,o8⟩
  have ii:=hS.ren hH;have hIP:NInv (as2.filterMap id) [] as2:=⟨(fun t ht=>by cases ht),(fun i t hi=>⟨(sj t).2 (T1 hi),sM⟩),ga.inj⟩
  have jf:bs.length<=(St.mk cb (as2.filterMap id) σ.nx).bx.length:=Nat.le_of_eq o7.symm;have jx:=Zga ii jf hIP cp ma;have hD:=Zc1 (e:=e.handed σ bs rest) jf hIP cp;have hA2:ArgsRel G ((e.handed σ bs rest).re as2) ⟨cb',toks as2.length,as2.length⟩ w args' vs:=by
   refine ⟨by rw [af.1,hal,YD],fun i x u hx hu=>?_⟩;have hi:=(Tk.1 hx).1;rw [hal] at hi;have hy:=Tb hi;obtain ⟨z,hz,vq⟩:=WX i _ hy;have h1:=(af.2 i z u hz hu).ren hS hH;rw [<- vq] at h1;exact ((hav i _ x hy hx).ext ca).rel jf hIP cp h1
  have hHd:Handed e σ w bs rest ((e.handed σ bs rest).re as2) ⟨cb',toks as2.length,as2.length⟩:={
   nodup:=ml
   lt:=si
   len:=cp
   beta:=fun j b hj=>by simp [Env.re,Env.handed,hj]
   X:=rfl
   H:=rfl
   okc:=fun b off ho=>hD.okc b off (Zoj hS hH ho)
   tok:=fun t ht p hp=>by
    obtain ⟨t0,h1,h2⟩:=hD.tok t ht p hp;exact ⟨t0,(o8 t0 h1).1,(o8 t0 h1).2,h2⟩
   restIn:=ga.sub }
  have i9:=hP.calls _ _ _ hv n _ w vs jx hA2;have uj:∀R,CallsIn (fw none) n G.P g vs w R->CallsIn (fw ro) n G.P g vs w R:=fun R h=>by
   cases ro with
   | none=>exact h
   | some l=>exact h.inRound l
  refine (uj _ i9).mono fun en w' hA=>?_
  obtain ⟨pe,σ3,e3,hk,hE,ip,hL⟩:=hA;obtain ⟨bx,hB,hK⟩:=backOf pe σ3 hk;refine ⟨_,_,e.back bs σ.bx.length bs.length σ.nx e3,hK,?_,hS.back hHd ip hL hB,ZbU hS hHd ip hL hB⟩
  cases pe with
  | ret x=>obtain ⟨v,rfl,hr⟩:=hE;exact ⟨v,rfl,hr.back hS hHd hL hB⟩
  | panic x=>obtain ⟨v,rfl,hr⟩:=hE;exact ⟨v,rfl,hr.back hS hHd hL hB⟩
 exact hv.elim
def ZL (sp:Zm):Prop:=∀args σ (K K':PEnd->St->Prop),(∀e σ,K e σ->K' e σ)->sp args σ K->sp args σ K'
def ZhP {bs:List Nat} {bx:List Box}:∀{l:List Nat} {K K':List Box->Prop},(∀r,K r->K' r)->Zoh bs bx l K->Zoh bs bx l K'
 | [],K,K',hK,h=>hK _ h
 | b::l,K,K',hK,h=>by
  simp only [Zoh] at h |-;split at h
  all_goals first
   | exact ZhP (fun r hr=>hK _ hr) h
   | exact h.elim
def Zom {n:Nat} {tk:List Nat} {k:Nat} {v:PV} {K K':PV->List Nat->Nat->Prop} (hK:∀v t k,K v t k->K' v t k) (h:ZuX n tk k v K):ZuX n tk k v K':=by
 have gen:∀v,(match bnd n v with | true=>U8 (clean v) fun v=>K v tk k | false=>K .undef tk k:Prop)->(match bnd n v with | true=>U8 (clean v) fun v=>K' v tk k | false=>K' .undef tk k:Prop):=fun v h=>by
  split at h
  ·rw [Z7] at h |-;exact hK _ _ _ h
  exact hK _ _ _ h
 cases v with
 | sl t el rows =>
  simp only [ZuX] at h |-;split at h <;> exact hK _ _ _ h
 | nils el=>exact hK _ _ _ h
 | d x=>exact gen (.d x) h
 | undef=>exact gen .undef h
 | ptr b o=>exact gen (.ptr b o) h
 | asl b o n=>exact gen (.asl b o n) h
 | elem r o=>exact gen (.elem r o) h
 | func f a c=>exact gen (.func f a c) h
 | iface t v=>exact gen (.iface t v) h
 | agg cs=>exact gen (.agg cs) h
 | tuple cs=>exact gen (.tuple cs) h
 | raw v=>exact gen (.raw v) h
 | mp b=>exact gen (.mp b) h
 | nilm=>exact gen .nilm h
def Um {n:Nat}:∀{vs:List PV} {tk:List Nat} {k:Nat} {K K':List PV->List Nat->Nat->Prop},(∀v t k,K v t k->K' v t k)->Zug n vs tk k K->Zug n vs tk k K'
 | [],_,_,_,_,hK,h=>hK _ _ _ h
 | v::vs,_,_,_,_,hK,h=>Zom (fun v t k h=>Um (fun vs t k h=>hK _ _ _ h) h) h
def Zfe {n:Nat} {tk:List Nat} {k:Nat} {v:PV} {K K':PV->List Nat->Nat->Prop} (hK:∀v t k,K v t k->K' v t k) (h:ZfZ n tk k v K):ZfZ n tk k v K':=by
 have gen:∀v,(match bnd n v with | true=>U8 (cleanN v) fun v=>K v tk k | false=>K .undef tk k:Prop)->(match bnd n v with | true=>U8 (cleanN v) fun v=>K' v tk k | false=>K' .undef tk k:Prop):=fun v h=>by
  split at h
  ·rw [Z7] at h |-;exact hK _ _ _ h
  exact hK _ _ _ h
 cases v with
 | sl t el rows =>
  simp only [ZfZ] at h |-;split at h <;> exact hK _ _ _ h
 | nils el=>exact hK _ _ _ h
 | d x=>exact gen (.d x) h
 | undef=>exact gen .undef h
 | ptr b o=>exact gen (.ptr b o) h
 | asl b o n=>exact gen (.asl b o n) h
 | elem r o=>exact gen (.elem r o) h
 | func f a c=>exact gen (.func f a c) h
 | iface t v=>exact gen (.iface t v) h
 | agg cs=>exact gen (.agg cs) h
 | tuple cs=>exact gen (.tuple cs) h
 | raw v=>exact gen (.raw v) h
 | mp b=>exact gen (.mp b) h
 | nilm=>exact gen .nilm h
def Zff {n:Nat}:∀{vs:List PV} {tk:List Nat} {k:Nat} {K K':List PV->List Nat->Nat->Prop},(∀v t k,K v t k->K' v t k)->Zl6 n vs tk k K->Zl6 n vs tk k K'
 | [],_,_,_,_,hK,h=>hK _ _ _ h
 | v::vs,_,_,_,_,hK,h=>Zfe (fun v t k h=>Zff (fun vs t k h=>hK _ _ _ h) h) h
def Xg {n:Nat}:∀{m:Nat} {bs:List Box} {tk:List Nat} {k:Nat} {K K':List Box->List Nat->Nat->Prop},(∀v t k,K v t k->K' v t k)->Zep n m bs tk k K->Zep n m bs tk k K'
 | 0,_,_,_,_,_,hK,h=>by simp only [Zep] at h |-;exact hK _ _ _ h
 | _+1,[],_,_,_,_,_,h=>h.elim
 | _+1,.cells t cs::bs,_,_,_,_,hK,h=>by
  simp only [Zep] at h |-;exact Um (fun v t k h=>Xg (fun _ _ _ h=>hK _ _ _ h) h) h
 | _+1,.iter s p::bs,_,_,K,K',hK,h=>by
  simp only [Zep] at h |-;exact Xg (K:=fun l tk k=>K (.iter s p::l) tk k) (K':=fun l tk k=>K' (.iter s p::l) tk k) (fun _ _ _ h=>hK _ _ _ h) h
 | _+1,.loop st pd r::bs,_,_,K,K',hK,h=>by
  simp only [Zep] at h |-;exact Xg (K:=fun l tk k=>K (.loop st pd r::l) tk k) (K':=fun l tk k=>K' (.loop st pd r::l) tk k) (fun _ _ _ h=>hK _ _ _ h) h
 | _+1,.dmap m::bs,_,_,K,K',hK,h=>by
  simp only [Zep] at h |-;exact Xg (K:=fun l tk k=>K (.dmap m::l) tk k) (K':=fun l tk k=>K' (.dmap m::l) tk k) (fun _ _ _ h=>hK _ _ _ h) h
 | _+1,.smap el m none::bs,_,_,K,K',hK,h=>by
  simp only [Zep] at h |-;exact Xg (K:=fun l tk k=>K (.smap el m none::l) tk k) (K':=fun l tk k=>K' (.smap el m none::l) tk k) (fun _ _ _ h=>hK _ _ _ h) h
 | _+1,.smap _ _ (some _)::_,_,_,_,_,_,h=>h.elim
 | _+1,.map cs bn ck::bs,_,_,_,_,hK,h=>by
  simp only [Zep] at h |-;exact Um (fun v t k h=>Xg (fun _ _ _ h=>hK _ _ _ h) h) h
def Zfg {bb:Box->Box}:∀{bs:List Nat} {xs acc:List Box} {K K':List Box->Prop},(∀r,K r->K' r)->Zgi bb bs xs acc K->Zgi bb bs xs acc K'
 | [],_,_,_,_,hK,h=>by simp only [Zgi] at h |-;exact hK _ h
 | _::_,[],_,_,_,_,h=>h.elim
 | b::bs,x::xs,_,_,_,hK,h=>by simp only [Zgi] at h |-;exact Zfg hK h
def ZhQ {sp:Zm} (hsp:ZL sp):ZL (Zjm sp):=fun args σ K K' hK h=>by
 unfold Zjm Zae Zrt at h |-
 simp only [Zcs,Zdb,Vh] at h |-;split at h
 ·exact ZhP (fun cb h=>Um (fun a t k h=>Xg (fun cb' r k h=>hsp _ _ _ _ (fun pe σ3 h=>Zfg (fun bx h=>hK _ _ h) h) h) h) h) h
 exact h.elim
end
end Go.PM
end

section
namespace Go.PM
def Cx.up (C:Cx):Cx:={ C with call:=fun g args σ K=>∃K',C.call g args σ K'/\∀e σ,K' e σ->K e σ }
def Zmu {n:Nat} {tk:List Nat} {k:Nat} {v:PV} {K K':PV->List Nat->Nat->Prop} (hK:∀v t k,K v t k->K' v t k) (h:Zl7 n tk k v K):Zl7 n tk k v K':=by
 cases v with
 | agg cs=>exact Zff (fun v t k h=>hK _ _ _ h) h
 | _=>simp only [Zl7] at h |-;exact Zfe hK h
def Zfh {n:Nat}:∀{vs:List PV} {tk:List Nat} {k:Nat} {K K':List PV->List Nat->Nat->Prop},(∀v t k,K v t k->K' v t k)->Zl8 n vs tk k K->Zl8 n vs tk k K'
 | [],_,_,_,_,hK,h=>hK _ _ _ h
 | v::vs,_,_,_,_,hK,h=>Zmu (fun v t k h=>Zfh (fun vs t k h=>hK _ _ _ h) h) h
def Zmv {n:Nat} {vs:List PV} {σ:St} {K K':List PV->St->Prop} (hK:∀v s,K v s->K' v s) (h:ZnC n vs σ K):ZnC n vs σ K' :=
 Um (fun _ _ _ h=>Xg (fun _ _ _ h=>hK _ _ h) h) h
def Zdg {ag:Bool} {n:Nat} {vs:List PV} {σ:St} {K K':List PV->St->Prop} (hK:∀v s,K v s->K' v s) (h:Jg ag n vs σ K):Jg ag n vs σ K':=by
 cases ag with
 | true=>exact Zfh (fun _ _ _ h=>Xg (fun _ _ _ h=>hK _ _ h) h) h
 | false=>exact Zmv hK h
section
variable {C:Cx} {all:List Oper} {ms:List Nat} {Q Q':PQ}
abbrev Zcd (C:Cx):Prop:=(∀v args σ (K:PEnd->St->Prop),¬C.raw v args σ K)/\∀g args r σ (K:PEnd->St->Prop),¬C.iter g args r σ K
def ZrL (hr:Zcd C) (hQ:∀e f σ,Q e f σ->Q' e f σ) {o:Oper} {f:Frame} {σ:St} {K K':Frame->St->Prop} (hK:∀f σ,K f σ->K' f σ) (h:Wn C o f σ Q K):Wn C.up o f σ Q' K':=by
 unfold Wn at h |-
 simp only [ZZ,Z7] at h |-;split at h
 ·exact J7 (fun v hv=>by rw [Z3] at hv |-;exact hK _ _ hv) h
 split at h
 ·unfold ZeU at h |-
  split at h
  ·split at h
   ·refine ⟨_,h,fun e σ he=>?_⟩
    cases e with
    | ret v=>simp only at he |-;rw [Z3] at he |-;exact hK _ _ he
    | panic v=>exact hQ _ _ _ he
   exact (hr.2 _ _ _ _ _ h).elim
  ·exact (hr.1 _ _ _ _ h).elim
  exact h
 ·split at h
  ·exact hQ _ _ _ h
  exact h.elim
 exact Zcp (fun v σ hv=>by rw [Z3] at hv |-;exact hK _ _ hv) h
def Zct (hr:Zcd C) (hQ:∀e f σ,Q e f σ->Q' e f σ) {o:Oper} {f:Frame} {σ:St} {K K':Frame->St->Prop} (hK:∀f σ,K f σ->K' f σ) (h:V7 C all Q o f σ K):V7 C.up all Q' o f σ K':=by
 rw [YX] at h |-;split at h
 ·exact ZrL hr hQ hK h
 ·exact hK _ _ h
 exact h
def Zon {T:Tab} {o:Op} {ρ:Operand->PV} {σ:St} {K K':PV->St->Prop} (hK:∀v σ,K v σ->K' v σ) (h:Zy0 T o ρ σ K):Zy0 T o ρ σ K':=by
 unfold Zy0 at h |-
 (repeat' split at h) <;> first
  | exact h.elim
  | exact hK _ _ h
  | exact ⟨h.choose,h.choose_spec.1,h.choose_spec.2.1,hK _ _ h.choose_spec.2.2⟩
  | (rename_i hk;exfalso;simp_all;done)
def Zjn (hr:Zcd C) (hQ:∀e f σ,Q e f σ->Q' e f σ):∀{l:List Oper} {f:Frame} {σ:St},Zrj C all Q l f σ->Zrj C.up all Q' l f σ
 | [],f,σ,h=>hQ _ _ _ h
 | o::rest,f,σ,h=>by
  simp only [Zrj,ZkB] at h |-;show match ZkA C o with | true=>_ | false=>_
  cases hb:ZkA C o with
  | true =>
   rw [hb] at h;refine Zon (fun v σ hv=>?_) h;simp only [ZZ] at hv |-;rw [Z3] at hv |-;exact Zjn hr hQ hv
  | false =>
  rw [hb] at h;exact Zct hr hQ (fun f σ h=>Zjn hr hQ h) h
def Zgm (hr:Zcd C) (hQ:∀e f σ,Q e f σ->Q' e f σ) {i:Nat} {o:Oper} {ctx:List Ld} {f:Frame} {σ:St} {K K':List Ld->Frame->St->Prop} (hK:∀c f σ,K c f σ->K' c f σ) (h:Wo C all ms Q i o ctx f σ K):Wo C.up all ms Q' i o ctx f σ K':=by
 unfold Wo at h |-
 refine Zct hr hQ (fun f' σ' hk=>?_) h;exact mq118
def Zgn (hr:Zcd C) (hQ:∀e f σ,Q e f σ->Q' e f σ):∀{l:List (Nat×Oper)} {ctx:List Ld} {f:Frame} {σ:St},WP C all ms Q l ctx f σ->WP C.up all ms Q' l ctx f σ
 | [],_,f,σ,h=>hQ _ _ _ h
 | (i,o)::rest,ctx,f,σ,h=>Zgm hr hQ (fun _ _ _ h=>Zgn hr hQ h) h
def Zgo (hr:Zcd C) (hQ:∀e f σ,Q e f σ->Q' e f σ):∀(n:Nat) (l:List (Nat×Oper)) (c:List Ld) (f:Frame) (σ:St),Wp C all ms Q n l c f σ->Wp C.up all ms Q' n l c f σ
 | 0,[],_,_,_,h=>hQ _ _ _ h
 | _+1,[],_,_,_,h=>hQ _ _ _ h
 | 0,_::_,_,_,_,h=>h.elim
 | n+1,x::l,c,f,σ,h=>by
  unfold Wp at h |-
  split at h
  ·exact Zgm hr hQ (fun c f σ h=>Zgo hr hQ n _ c f σ h) h
  rw [conjE_iff] at h |-;exact fun p hp hw=>Zgm hr hQ (fun c f σ h=>Zgo hr hQ n _ c f σ h) (h p hp hw)
def Zmw {T:Tab} {h:Hole} {f:Frame} {σ:St} {K K':Frame->St->Prop} (hK:∀f σ,K f σ->K' f σ) (g:Zl9 T h f σ K):Zl9 T h f σ K':=by
 unfold Zl9 at g |-
 simp only [ZZ,Z3] at g |-
 (repeat' split at g) <;> first
  | exact g.elim
  | exact ⟨g.1,g.2.1,hK _ _ g.2.2⟩
  | exact ⟨g.1,g.2.1,g.2.2.1,hK _ _ g.2.2.2⟩
def ZrM (hr:Zcd C) (hQ:∀e f σ,Q e f σ->Q' e f σ) {h:Hole}:∀e f σ,ZnF C all h Q e f σ->ZnF C.up all h Q' e f σ:=fun e f σ g=>by
 cases e with
 | normal=>exact Zmw (fun f σ g=>Zct hr hQ (fun f σ g=>Zct hr hQ (fun f σ g=>hQ _ _ _ g) g) g) g
 | _=>exact hQ _ _ _ g
def Zzh {C:Cx} {Q Q':PQ} (hr:Zcd C) (hQ:∀e f σ,Q e f σ->Q' e f σ) {ops:List Oper} {draw:Bool} {f:Frame} {σ:St} (h:WR C ops draw Q f σ):WR C.up ops draw Q' f σ:=by
 have vr:Zcd C.calm:=⟨fun _ _ _ _ h=>h,fun _ _ _ _ _ h=>h⟩
 cases draw with
 | false=>simp only [WR] at h |-;exact Zjn hr hQ h
 | true =>
 simp only [WR] at h |-;have hQd:∀e f' σ,Zi2 C ops f Q e f' σ->Zi2 C.up ops f Q' e f' σ:=fun e f' σ h=>by
  cases e <;> exact hQ _ _ _ h
 cases hh:ZeV ops with
 | none =>
  simp only [hh] at h |-
  cases hc:Zhu (W5 ops []) none (ZK 0 ops) with
  | true=>simp only [hc] at h |-;exact Zgn (C:=C.calm) vr hQd h
  | false=>simp only [hc] at h |-;exact Zgo (C:=C.calm) vr hQd _ _ _ _ _ h
 | some x=>simp only [hh] at h |-;exact Zgn (C:=C.calm) vr (ZrM (C:=C.calm) vr hQd) h
def Zjo {b:Nat} {k:List UInt8} {σ:St} {K K':St->Prop} (hK:∀σ,K σ->K' σ) (h:ZeX b k σ K):ZeX b k σ K':=by
 unfold ZeX at h |-
 split at h
 ·rcases h.ex with ⟨a,ha,h⟩ | ⟨ha,h⟩
  ·exact .yes ha (hK _ h)
  exact .no ha (hK _ h)
 exact h.elim
def Zgp {b:Nat} {σ:St} {K K':St->Prop} (hK:∀σ,K σ->K' σ) (h:UH b σ K):UH b σ K':=by
 unfold UH at h |-
 (repeat' split at h) <;> first
  | exact h.elim
  | exact hK _ h
def ZhR {S S':PQ->Frame->St->Prop} (hS:∀Q Q' f σ,(∀e f σ,Q e f σ->Q' e f σ)->S Q f σ->S' Q' f σ):∀(n:Nat) {Q Q':PQ} {f:Frame} {σ:St},(∀e f σ,Q e f σ->Q' e f σ)->ZeW S Q n f σ->ZeW S' Q' n f σ
 | 0,_,_,_,_,_,h=>h
 | n+1,Q,Q',f,σ,hQ,h=>hS _ _ _ _ (fun e f σ h=>by cases e with | normal=>exact ZhR hS n hQ h | _=>exact hQ _ _ _ h) h
def Zjp {t:Bool} {X Y X' Y':Prop} (h1:X->X') (h2:Y->Y') (h:CondP t X Y):CondP t X' Y':=by cases t;exact h2 h;exact h1 h
def ZDx (hr:Zcd C) (hi:∀g a r σ K,¬C.iter g a r σ K):∀(c:Code) {Q Q':PQ} {f:Frame} {σ:St},(∀e f σ,Q e f σ->Q' e f σ)->W C c Q f σ->W C.up c Q' f σ:=by
 have vr:Zcd C.calm:=⟨fun _ _ _ _ h=>h,fun _ _ _ _ _ h=>h⟩
 intro c
 induction c with
 | region id ops draw =>
  intro Q Q' f σ hQ h
  simp only [W] at h |-;rw [show C.up.foc=C.foc from rfl]
  cases hf:C.foc id with
  | false=>rw [hf] at h;exact Zzh hr hQ h
  | true =>
  rw [hf] at h;obtain ⟨b,k,h⟩:=h;refine ⟨b,k,Zjo (fun σ h=>?_) h⟩;rw [ZZ] at h |-;refine Zzh hr (fun e f σ h=>?_) h
  cases e with
  | normal=>exact Zgp (K:=fun σ=>Xv σ fun σ=>Q .normal f σ) (K':=fun σ=>Xv σ fun σ=>Q' .normal f σ) (fun σ h=>by rw [ZZ] at h |-;exact hQ _ _ _ h) h
  | _=>exact h
 | seq a b iha ihb =>
  intro Q Q' f σ hQ h
  simp only [W] at h |-;rw [show C.up.cut=C.cut from rfl]
  cases hc:C.cut (keyOf b) with
  | none =>
   rw [hc] at h;exact iha (fun e f σ h=>by cases e with | normal=>exact ihb hQ h | _=>exact hQ _ _ _ h) h
  | some x =>
  rw [hc] at h;exact ⟨iha (fun e f σ h=>by cases e with | normal=>exact h | _=>exact hQ _ _ _ h) h.1,fun vs σ1 hI=>ihb hQ (h.2 vs σ1 hI)⟩
 | cond c x y ihx ihy =>
  intro Q Q' f σ hQ h
  simp only [W] at h |-;split at h
  ·exact Zjp (fun h=>ihx hQ h) (fun h=>ihy hQ h) h
  exact h
 | block id b ih =>
  intro Q Q' f σ hQ h
  simp only [W] at h |-;refine ih (fun e f σ h=>?_) h
  cases e with
  | exit i =>
   simp only at h |-;split at h <;> exact hQ _ _ _ h
  | _=>exact hQ _ _ _ h
 | scope b ih =>
  intro Q Q' f σ hQ h
  simp only [W] at h |-;refine ih (fun e f σ h=>?_) h
  cases e with
  | goto l=>exact h
  | _=>exact hQ _ _ _ h
 | loop b ih =>
  intro Q Q' f σ hQ h
  simp only [W] at h |-;rw [show C.up.unr=C.unr from rfl,show C.up.loop=C.loop from rfl,show C.up.tie=C.tie from rfl,show C.up.ag=C.ag from rfl]
  cases hu:C.unr (keyOf b) with
  | succ n =>
   rw [hu] at h;exact ZhR (S:=fun Q f σ=>W C b Q f σ) (S':=fun Q f σ=>W C.up b Q f σ) (fun Q Q' f σ hQ h=>ih hQ h) (n+1) hQ h
  | zero =>
  rw [hu] at h;simp only at h |-;split at h
  ·split at h
   ·exact mq123
   exact mq123
  exact h
 | rangeFunc g ps asg body iha ihb =>
  intro Q Q' f σ hQ h
  simp only [W] at h |-;split at h
  ·exact (hi _ _ _ _ _ (h 0 default)).elim
  exact h
 | _ =>
 intro Q Q' f σ hQ h
 first
  | exact hQ _ _ _ h
  | exact h
end
def CallSem.up {G:GE} {cc:FuncId->List PV->St->(PEnd->St->Prop)->Prop} (h:CallSem G cc):CallSem G (fun g args σ K=>∃K',cc g args σ K'/\∀e σ,K' e σ->K e σ):=fun g args σ K ⟨K',h1,h2⟩ =>
 ⟨(h g args σ K' h1).1,fun ro n e w vs hS ha=>((h g args σ K' h1).2 ro n e w vs hS ha).mono fun en w' ⟨pe,σ',e',hk,r⟩=>⟨pe,σ',e',h2 _ _ hk,r⟩⟩
def Zgq {G:GE} {C:Cx} (hT:TabOK C.T G.P) (dk:CallSem G C.call) (hr:Zcd C) (hi:∀g a r σ K,¬C.iter g a r σ K) (bf:G.P.follows .mixedOrders=true) {g:FuncId} {fn:Func} {c:Code} (hf:G.P.funcs[g]?=some fn) (hb:fn.body=some c) (ao:ZJ fn.ntmps c=true)
  {ag:Bool} {keep:Nat} {own:Bool} {args:List PV} {σ:St} {R:PEnd->St->Prop} (hk:σ.bx.length<=keep) (aa:args.length<=fn.ntmps) (h:WFG ag C fn keep own args σ R) {n:Nat} {e:Env} {w:World} {vs:Array Value} (hS:SRel G e σ w) (af:ArgsRel G e σ w args vs) :
  CallsIn (fw none) n G.P g vs w (Y9 G e σ w R) :=
 ZbT bf (C:=C.up) ⟨hT,dk.up,fun v a s K h=>(hr.1 v a s K h).elim,fun g a r s K h=>(hi g a r s K h).elim,.inl rfl⟩
  ⟨fun _ h1 h2=>hT.one h1 h2,fun _ _ _ K K' hK ⟨K0,h1,h2⟩=>⟨K0,h1,fun e σ h=>hK _ _ (h2 _ _ h)⟩,fun _ _ _ _ h=>h.elim,fun _ _ _ _ _ h=>h.elim,rfl⟩ hf hb ao hk aa (ag:=ag) (ZDx hr hi _ (fun _ _ _ h=>h) h) hS af
end Go.PM
end

section
namespace Go.PM
abbrev Tbl:=List (Nat×Zm)
def ZEF:Tbl->Nat->List PV->St->(PEnd->St->Prop)->Prop
 | [],_,_,_,_=>False
 | (g,sp)::l,n,args,σ,K=>match Nat.beq g n with
  | true=>Zjm sp args σ K
  | false=>ZEF l n args σ K
def TblOK (G:GE):Tbl->Prop
 | []=>True
 | (g,sp)::l=>PCalls G g sp/\TblOK G l
def TblM:Tbl->Prop
 | []=>True
 | (_,sp)::l=>ZL sp/\TblM l
def TblM.mono:∀{l:Tbl},TblM l->∀n args σ (K K':PEnd->St->Prop),(∀e σ,K e σ->K' e σ)->ZEF l n args σ K->ZEF l n args σ K'
 | [],_=>fun _ _ _ _ _ _ h=>h.elim
 | (g,sp)::l,⟨h1,h2⟩=>fun n args σ K K' hK h=>by
  simp only [ZEF] at h |-;split at h
  ·exact ZhQ h1 _ _ _ _ hK h
  exact TblM.mono h2 n args σ K K' hK h
def ZEH (md:Nat->Nat):Tbl->Nat->List PV->St->(PEnd->St->Prop)->Prop
 | [],_,_,_,_=>False
 | (g,sp)::l,n,args,σ,K=>match Nat.beq g n with
  | true=>Zae (md n) sp args σ K
  | false=>ZEH md l n args σ K
def TblOK.semM {G:GE} {md:Nat->Nat}:∀{l:Tbl},TblOK G l->CallSem G (ZEH md l)
 | [],_=>fun _ _ _ _ h=>h.elim
 | (g,sp)::l,⟨h1,h2⟩=>fun n args σ K h=>by
  simp only [ZEH] at h;split at h
  ·rename_i hb
   cases Tp hb
   exact Jo h1 h
  exact TblOK.semM h2 n args σ K h
def TblOK.sem {G:GE}:∀{l:Tbl},TblOK G l->CallSem G (ZEF l)
 | [],_=>fun _ _ _ _ h=>h.elim
 | (g,sp)::l,⟨h1,h2⟩=>fun n args σ K h=>by
  simp only [ZEF] at h;split at h
  ·rename_i hb
   cases Tp hb
   exact Jo h1 h
  exact TblOK.sem h2 n args σ K h
def Zoo:Value->List PV->St->(PEnd->St->Prop)->Prop:=fun _ _ _ _=>False
abbrev Raw:=Value->List PV->St->(PEnd->St->Prop)->Prop
abbrev Zrl:=FuncId->List PV->Raw->St->(PEnd->St->Prop)->Prop
def Zfi:Zrl:=fun _ _ _ _ _=>False
def Zzi:LoopAnn:=⟨[],[],fun _ _=>False,fun _ _=>0⟩
def Zk:List (Nat×LoopAnn)->Nat->LoopAnn
 | [],_=>Zzi
 | (k,a)::l,n=>match Nat.beq k n with | true=>a | false=>Zk l n
def ctx (T:Tab) (tbl:Tbl) (loops:Nat->LoopAnn):Cx:=⟨T,ZEF tbl,Zoo,Zfi,loops,fun _=>0,fun _=>false,fun _=>false,true,fun _=>none,fun _=>false,fun _=>false⟩
def ZC2 (T:Tab) (tbl:Tbl) (it:Zrl) (loops:Nat->LoopAnn):Cx:=⟨T,ZEF tbl,Zoo,it,loops,fun _=>0,fun _=>false,fun _=>false,true,fun _=>none,fun _=>false,fun _=>false⟩
def Zy2 (T:Tab) (tbl:Tbl) (md:Nat->Nat) (loops:Nat->LoopAnn) (unr:Nat->Nat) (ties bsl:Nat->Bool) (cut:Nat->Option (List Nat×(List PV->St->Prop))) (ag:Nat->Bool):Cx:=⟨T,ZEH md tbl,Zoo,Zfi,loops,unr,ties,bsl,true,cut,ag,fun _=>false⟩
def ZC3 (T:Tab) (tbl:Tbl) (md:Nat->Nat) (loops:Nat->LoopAnn) (unr:Nat->Nat) (ties bsl foc:Nat->Bool):Cx:=⟨T,ZEH md tbl,Zoo,Zfi,loops,unr,ties,bsl,true,fun _=>none,fun _=>false,foc⟩
def ZBV (nl:Nat->Bool) (k n:Nat):Nat:=match nl n with | true=>k | false=>0
abbrev ZBW (T:Tab) (tbl:Tbl) (loops:Nat->LoopAnn) (unr:Nat->Nat) (ties:Nat->Bool):Cx:=Zy2 T tbl (fun _=>0) loops unr ties (fun _=>false) (fun _=>none) (fun _=>false)
def ZrN (T:Tab) (tbl:Tbl) (loops:Nat->LoopAnn) (unr:Nat->Nat) (ties:Nat->Bool):Cx:=⟨T,ZEF tbl,Zoo,Zfi,loops,unr,ties,fun _=>false,true,fun _=>none,fun _=>false,fun _=>false⟩
def Zva:List (Nat×List Nat×(List PV->St->Prop))->Nat->Option (List Nat×(List PV->St->Prop))
 | [],_=>none
 | (k,a)::l,n=>match Nat.beq k n with | true=>some a | false=>Zva l n
def ZB:List Nat->Nat->Bool
 | [],_=>false
 | k::l,n=>match Nat.beq k n with | true=>true | false=>ZB l n
def Ye:List (Nat×Nat)->Nat->Nat
 | [],_=>0
 | (k,a)::l,n=>match Nat.beq k n with | true=>a | false=>Ye l n
def Zop (T:Tab) (tbl:Tbl) (it:Zrl) (gid:FuncId) (fn:Func) (loops:Nat->LoopAnn):Zrl:=fun g args raw σ K=>match Nat.beq gid g with
 | true=>Nat.ble args.length fn.ntmps=true/\W ⟨T,ZEF tbl,raw,it,loops,fun _=>0,fun _=>false,fun _=>false,true,fun _=>none,fun _=>false,fun _=>false⟩ (Xs fn) (fun e f σ'=>match e with
   | .normal | .ret=>pres T f σ'.bx fn.results.toList fun vs=>K (.ret (Ju vs)) σ'
   | .panic v=>K (.panic v) σ'
   | _=>False) (Zeo 0 args) σ
 | false=>False
def noIter_sem {G:GE}:IterSem G Zfi:=fun _ _ _ _ _ h=>h.elim
def Zmx {G : GE} {T : Tab} {tbl : Tbl} (hT : TabOK T G.P) (bf : G.P.follows .mixedOrders = true) (ht : TblOK G tbl) (hm : TblM tbl) {it : Zrl} (nk : IterSem G it) {gid : FuncId} {fn : Func} {c : Code} (hf : G.P.funcs[gid]? = some fn) (hb : fn.body = some c) (av : (fn.name == "runtime.NumGoroutine") = false)
  (ao:ZJ fn.ntmps c=true) (loops:Nat->LoopAnn):IterSem G (Zop T tbl it gid fn loops):=fun g args raw σ K h=>by
 unfold Zop at h
 split at h
 ·rename_i hbq
  cases Tp hbq
  refine ⟨Zl hf av hb,fun n e w vs hS af uk=>?_⟩;have zf:Xs fn=c:=by simp [Xs,hb]
  rw [zf] at h;have presM:∀{T:Tab} {f:Frame} {bx:List Box} {l:List ResultVar} {K K':List PV->Prop},(∀vs,K vs->K' vs)->pres T f bx l K->pres T f bx l K':=by
   intro T f bx l
   induction l with
   | nil=>exact fun hK h=>hK _ h
   | cons r l ih =>
   intro K K' hK h
   exact mq78
  refine Zda bf (C:=⟨T,ZEF tbl,raw,it,loops,fun _=>0,fun _=>false,fun _=>false,true,fun _=>none,fun _=>false,fun _=>false⟩) ⟨hT,ht.sem,uk,nk.at',.inl rfl⟩ ⟨fun _ h1 h2=>hT.one h1 h2,hm.mono,fun _ _ _ _ h=>h.elim,fun _ _ _ _ _ h=>h.elim,rfl⟩ hf hb ao (Tc h.1) h.2 (fun pe f' σ' hq=>?_) hS af
  cases pe with
  | normal=>exact presM (fun vs hK e' w' v h1 h2 h3=>⟨.ret (Ju vs),σ',e',hK,⟨v,rfl,h2⟩,h1,h3⟩) hq
  | ret=>exact presM (fun vs hK e' w' v h1 h2 h3=>⟨.ret (Ju vs),σ',e',hK,⟨v,rfl,h2⟩,h1,h3⟩) hq
  | panic p=>exact fun e' w' v h1 h2 h3=>⟨.panic p,_,e',hq,⟨v,rfl,h2⟩,h1,h3⟩
  | exit id=>exact hq.elim
  | goto l=>exact hq.elim
 exact h.elim
def Zvb {G : GE} {T : Tab} {tbl : Tbl} (hT : TabOK T G.P) (bf : G.P.follows .mixedOrders = true) (ht : TblOK G tbl) (hm : TblM tbl) {it : Zrl} (nk : IterSem G it) {g : FuncId} {fn : Func} {c : Code} (hf : G.P.funcs[g]? = some fn) (hb : fn.body = some c) (av : (fn.name == "runtime.NumGoroutine") = false)
  (ao:ZJ fn.ntmps c=true) {sp:Zm}
  (h:∀args σ K,sp args σ K->∃loops keep own,σ.bx.length<=keep/\args.length<=fn.ntmps/\WF (ZC2 T tbl it loops) fn keep own args σ K):PCalls G g sp where
 enters:=Zl hf av hb
 calls:=fun args σ K hs n e w vs hS ha=>by
  obtain ⟨loops,keep,own,h1,h2,h3⟩:=h args σ K hs;exact ZbT bf (C:=ZC2 T tbl it loops) ⟨hT,ht.sem,fun _ _ _ _ h=>h.elim,nk.at',.inl rfl⟩ ⟨fun _ h1 h2=>hT.one h1 h2,hm.mono,fun _ _ _ _ h=>h.elim,fun _ _ _ _ _ h=>h.elim,rfl⟩ hf hb ao h1 h2 h3 hS ha
def Zgr {G : GE} {T : Tab} {tbl : Tbl} (hT : TabOK T G.P) (bf : G.P.follows .mixedOrders = true) (ht : TblOK G tbl) {g : FuncId} {fn : Func} {c : Code} (hf : G.P.funcs[g]? = some fn) (hb : fn.body = some c) (av : (fn.name == "runtime.NumGoroutine") = false)
  (ao:ZJ fn.ntmps c=true) {sp:Zm}
  (h:∀args σ K,sp args σ K->∃md loops unr ties bsl cut ag al keep own,σ.bx.length<=keep/\args.length<=fn.ntmps/\WFG al (Zy2 T tbl md loops unr ties bsl cut ag) fn keep own args σ K):PCalls G g sp where
 enters:=Zl hf av hb
 calls:=fun args σ K hs n e w vs hS ha=>by
  obtain ⟨md,loops,unr,ties,bsl,cut,ag,al,keep,own,h1,h2,h3⟩:=h args σ K hs;exact Zgq (C:=Zy2 T tbl md loops unr ties bsl cut ag) hT ht.semM ⟨fun _ _ _ _ h=>h,fun _ _ _ _ _ h=>h⟩ (fun _ _ _ _ _ h=>h) bf hf hb ao h1 h2 h3 hS ha
def Zoq {G : GE} {T : Tab} {tbl : Tbl} (hT : TabOK T G.P) (bf : G.P.follows .mixedOrders = true) (ht : TblOK G tbl) {g : FuncId} {fn : Func} {c : Code} (hf : G.P.funcs[g]? = some fn) (hb : fn.body = some c) (av : (fn.name == "runtime.NumGoroutine") = false)
  (ao:ZJ fn.ntmps c=true) {sp:Zm}
  (h:∀args σ K,sp args σ K->∃loops unr ties bsl foc keep own,σ.bx.length<=keep/\args.length<=fn.ntmps/\WF (ZC3 T tbl (fun _=>0) loops unr ties bsl foc) fn keep own args σ K):PCalls G g sp where
 enters:=Zl hf av hb
 calls:=fun args σ K hs n e w vs hS ha=>by
  obtain ⟨loops,unr,ties,bsl,foc,keep,own,h1,h2,h3⟩:=h args σ K hs;exact Zgq (C:=ZC3 T tbl (fun _=>0) loops unr ties bsl foc) hT ht.semM ⟨fun _ _ _ _ h=>h,fun _ _ _ _ _ h=>h⟩ (fun _ _ _ _ _ h=>h) bf hf hb ao h1 h2 h3 hS ha
def Zbc {G : GE} {T : Tab} {tbl : Tbl} (hT : TabOK T G.P) (bf : G.P.follows .mixedOrders = true) (ht : TblOK G tbl) {g : FuncId} {fn : Func} {c : Code} (hf : G.P.funcs[g]? = some fn) (hb : fn.body = some c) (av : (fn.name == "runtime.NumGoroutine") = false)
  (ao:ZJ fn.ntmps c=true) {sp:Zm}
  (h:∀args σ K,sp args σ K->∃loops unr ties bsl nl keep own,σ.bx.length<=keep/\args.length<=fn.ntmps/\WF (Zy2 T tbl (ZBV nl 1) loops unr ties bsl (fun _=>none) (fun _=>false)) fn keep own args σ K):PCalls G g sp :=
 Zgr hT bf ht hf hb av ao fun args σ K hs=>let ⟨_,_,_,_,_,_,_,h⟩:=h args σ K hs;⟨_,_,_,_,_,_,_,_,_,_,h⟩
def Zor {G : GE} {T : Tab} {tbl : Tbl} (hT : TabOK T G.P) (bf : G.P.follows .mixedOrders = true) (ht : TblOK G tbl) {g : FuncId} {fn : Func} {c : Code} (hf : G.P.funcs[g]? = some fn) (hb : fn.body = some c) (av : (fn.name == "runtime.NumGoroutine") = false)
  (ao:ZJ fn.ntmps c=true) {sp:Zm}
  (h:∀args σ K,sp args σ K->∃loops unr ties bsl nl cut keep own,σ.bx.length<=keep/\args.length<=fn.ntmps/\WF (Zy2 T tbl (ZBV nl 1) loops unr ties bsl cut (fun _=>false)) fn keep own args σ K):PCalls G g sp :=
 Zgr hT bf ht hf hb av ao fun args σ K hs=>let ⟨_,_,_,_,_,_,_,_,h⟩:=h args σ K hs;⟨_,_,_,_,_,_,_,_,_,_,h⟩
def Zjq {G : GE} {T : Tab} {tbl : Tbl} (hT : TabOK T G.P) (bf : G.P.follows .mixedOrders = true) (ht : TblOK G tbl) {g : FuncId} {fn : Func} {c : Code} (hf : G.P.funcs[g]? = some fn) (hb : fn.body = some c) (av : (fn.name == "runtime.NumGoroutine") = false)
  (ao:ZJ fn.ntmps c=true) {sp:Zm}
  (h:∀args σ K,sp args σ K->∃loops unr ties bsl nl ag keep own,σ.bx.length<=keep/\args.length<=fn.ntmps/\WFG true (Zy2 T tbl (ZBV nl 2) loops unr ties bsl (fun _=>none) ag) fn keep own args σ K):PCalls G g sp :=
 Zgr hT bf ht hf hb av ao fun args σ K hs=>let ⟨_,_,_,_,_,_,_,_,h⟩:=h args σ K hs;⟨_,_,_,_,_,_,_,_,_,_,h⟩
def YF {G : GE} {T : Tab} {tbl : Tbl} (hT : TabOK T G.P) (bf : G.P.follows .mixedOrders = true) (ht : TblOK G tbl) {g : FuncId} {fn : Func} {c : Code} (hf : G.P.funcs[g]? = some fn) (hb : fn.body = some c) (av : (fn.name == "runtime.NumGoroutine") = false)
  (ao:ZJ fn.ntmps c=true) {sp:Zm}
  (h:∀args σ K,sp args σ K->∃loops unr ties keep own,σ.bx.length<=keep/\args.length<=fn.ntmps/\WF (ZBW T tbl loops unr ties) fn keep own args σ K):PCalls G g sp :=
 Zgr hT bf ht hf hb av ao fun args σ K hs=>let ⟨_,_,_,_,_,h⟩:=h args σ K hs;⟨_,_,_,_,_,_,_,_,_,_,h⟩
def ZhS {G : GE} {T : Tab} {tbl : Tbl} (hT : TabOK T G.P) (bf : G.P.follows .mixedOrders = true) (ht : TblOK G tbl) {g : FuncId} {fn : Func} {c : Code} (hf : G.P.funcs[g]? = some fn) (hb : fn.body = some c) (av : (fn.name == "runtime.NumGoroutine") = false)
  (ao:ZJ fn.ntmps c=true) {sp:Zm}
  (h:∀args σ K,sp args σ K->∃loops keep own,σ.bx.length<=keep/\args.length<=fn.ntmps/\WF (ctx T tbl loops) fn keep own args σ K):PCalls G g sp where
 enters:=Zl hf av hb
 calls:=fun args σ K hs n e w vs hS ha=>by
  obtain ⟨loops,keep,own,h1,h2,h3⟩:=h args σ K hs;exact Zgq (C:=ctx T tbl loops) hT ht.sem ⟨fun _ _ _ _ h=>h,fun _ _ _ _ _ h=>h⟩ (fun _ _ _ _ _ h=>h) bf hf hb ao h1 h2 h3 hS ha
def CondP.tt {X Y:Prop} (h:X):CondP true X Y:=h
def ZEw {p:Prop} [Decidable p] {X Y:Prop} (h1:p->X) (h2:¬p->Y):CondP (decide p) X Y:=by
 by_cases h:p
 ·simp only [h,decide_true];exact h1 h
 simp only [h,decide_false];exact h2 h
def ZEy {p:Prop} [Decidable p] {X Y:Prop} (h1:¬p->X) (h2:p->Y):CondP (!decide p) X Y:=by
 by_cases h:p
 ·simp only [h,decide_true];exact h2 h
 simp only [h,decide_false];exact h1 h
def InR.i64 {n:Int} (h1:-9223372036854775808<=n) (h2:n<=9223372036854775807):InR .i64 n:=by
 unfold InR IntKind.wrap
 exact mq152
def InR.i32 {n:Int} (h1:-2147483648<=n) (h2:n<=2147483647):InR .i32 n:=by
 unfold InR IntKind.wrap
 simp only [show IntKind.i32.bits=32 from rfl,show IntKind.i32.signed=true from rfl,TX];split <;> simp at * <;> omega
def InR.u8 {n:Int} (h1:0<=n) (h2:n<=255):InR .u8 n:=by
 unfold InR IntKind.wrap
 simp only [show IntKind.u8.bits=8 from rfl,show IntKind.u8.signed=false from rfl,TT];simp;omega
def InR.u32 {n:Int} (h1:0<=n) (h2:n<=4294967295):InR .u32 n:=by
 unfold InR IntKind.wrap
 simp only [show IntKind.u32.bits=32 from rfl,show IntKind.u32.signed=false from rfl,TT];simp;omega
def InR.u64 {n:Int} (h1:0<=n) (h2:n<=18446744073709551615):InR .u64 n:=by
 unfold InR IntKind.wrap
 simp only [show IntKind.u64.bits=64 from rfl,show IntKind.u64.signed=false from rfl,TT];simp;omega
def Zj {n:Int} {K Q X:Prop} (q:Q) (h1:-9223372036854775808<=n:=by omega) (h2:n<=9223372036854775807:=by omega) (h:Q->K:=by intro k;(conv=>whnf);exact k):InR .i64 n/\K\/X:=.inl ⟨InR.i64 h1 h2,h q⟩
def Vd {n:Int} {K Q X:Prop} (q:Q) (h1:-9223372036854775808<=n:=by decide) (h2:n<=9223372036854775807:=by decide) (h:Q->K:=by intro k;(conv=>whnf);exact k):InR .i64 n/\K\/X:=.inl ⟨InR.i64 h1 h2,h q⟩
def WY {n:Int} {K Q X:Prop} (q:Q) (h1:0<=n:=by omega) (h2:n<=255:=by omega) (h:Q->K:=by intro k;(conv=>whnf);exact k):InR .u8 n/\K\/X:=.inl ⟨InR.u8 h1 h2,h q⟩
def J0 {n:Int} {K Q X:Prop} (q:Q) (h1:0<=n:=by omega) (h2:n<=18446744073709551615:=by omega) (h:Q->K:=by intro k;(conv=>whnf);exact k):InR .u64 n/\K\/X:=.inl ⟨InR.u64 h1 h2,h q⟩
def oiO {n:Int} {K X:Prop} (q:K) (h1:-9223372036854775808<=n:=by omega) (h2:n<=9223372036854775807:=by omega):InR .i64 n/\K\/X:=.inl ⟨InR.i64 h1 h2,q⟩
def oiD {n:Int} {K X:Prop} (q:K) (h1:-9223372036854775808<=n:=by decide) (h2:n<=9223372036854775807:=by decide):InR .i64 n/\K\/X:=.inl ⟨InR.i64 h1 h2,q⟩
def oiB {n:Int} {K X:Prop} (q:K) (h1:0<=n:=by omega) (h2:n<=255:=by omega):InR .u8 n/\K\/X:=.inl ⟨InR.u8 h1 h2,q⟩
def oiU {n:Int} {K X:Prop} (q:K) (h1:0<=n:=by omega) (h2:n<=18446744073709551615:=by omega):InR .u64 n/\K\/X:=.inl ⟨InR.u64 h1 h2,q⟩
def Zrm {K:PEnd->St->Prop} {p p':PEnd} {σ σ':St} (h:K p σ) (h1:p=p') (h2:σ=σ'):K p' σ':=by subst h1;subst h2;exact h
end Go.PM
end

section
namespace Go.PM
structure CxG (G:GE) (T:Tab) (C:Cx):Prop where
 T:C.T=T
 ok:∀e σ w,CxOK G C none e σ w
 mono:CxMono C.calm
 it:∀g args raw σ K,¬C.iter g args raw σ K
def CxG.of {G:GE} {T:Tab} {tbl:Tbl} (hT:TabOK T G.P) (ht:TblOK G tbl) (hm:TblM tbl) (loops:Nat->LoopAnn) (unr:Nat->Nat) (ties:Nat->Bool):CxG G T (ZrN T tbl loops unr ties) :=
 ⟨rfl,fun _ _ _=>⟨hT,ht.sem,fun _ _ _ _ h=>h.elim,noIter_sem.at',.inl rfl⟩,⟨fun _ h1 h2=>hT.one h1 h2,hm.mono,fun _ _ _ _ h=>h.elim,fun _ _ _ _ _ h=>h.elim,rfl⟩,fun _ _ _ _ _ h=>h⟩
structure PDef (G:GE) (g:FuncId) (spR:List PV->St->(St->Prop)->Prop) (spP:PV->List PV->St->(St->Prop)->Prop):Prop where
 enters:Wr G.P g
 ret:∀args σ K,spR args σ K->∀(n:Nat) (e:Env) (w:World) (vs:Array Value),SRel G e σ w->ArgsRel G e σ w args vs ->
  CallsDIn (fw none) n G.P g vs .returning w fun en u' w'=>u'=.returning/\(∃r,en=.returned r)/\∃σ' e',K σ'/\SRel G e' σ' w'/\Later e σ w e' σ' w'
 pan:∀pv args σ K,spP pv args σ K->∀(n:Nat) (e:Env) (w:World) (vs:Array Value) (v:Value),SRel G e σ w->ArgsRel G e σ w args vs->VRel G e σ w pv v ->
  CallsDIn (fw none) n G.P g vs (.panicking [{ v:=v,recovered:=false }]) w fun en u' w'=>u'=.panicking [{ v:=v,recovered:=true }]/\(∃r,en=.returned r)/\∃σ' e',K σ'/\SRel G e' σ' w'/\Later e σ w e' σ' w'
def Zzz (c:Code):Option (Nat×Nat×Code):=match c with
 | .seq (.region _ ops false) rest=>match ops.toList with
  | [o1,o2]=>match o1.op,o1.dst,o1.guard,o2.op,o2.dst,o2.guard with
   | .call { callee:=.builtin .recover,args,.. },some a,none,.assign (.tmp a'),some b,none=>match args.toList,Nat.beq a a' with
    | [],true=>some (a,b,rest)
    | _,_=>none
   | _,_,_,_,_,_=>none
  | _=>none
 | _=>none
def Zo9 {c:Code} {a b:Nat} {rest:Code} (h:Zzz c=some (a,b,rest)):∃id ops o1 o2 at',c=.seq (.region id ops false) rest/\ops=#[o1,o2]/\o1.op=.call { callee:=.builtin .recover,args:=#[],argTypes:=at' }/\o1.dst=some a/\o1.guard=none/\o2.op=.assign (.tmp a)/\o2.dst=some b/\o2.guard=none:=by
 unfold Zzz at h
 split at h
 ·rename_i id ops rest'
  split at h
  ·rename_i o1 o2 kl
   split at h
   ·rename_i args at' a1 a2 b1 h1 h2 h3 h4 h5 h6
    split at h
    ·rename_i h7 h8
     cases h
     have:=Tp h8;subst this;have ha:args=#[]:=by apply Array.ext';simpa using h7
     subst ha;exact ⟨id,ops,o1,o2,at',rfl,by apply Array.ext';simpa using kl,h1,h2,h3,h4,h5,h6⟩
    cases h
   cases h
  cases h
 cases h
section
variable {G:GE}
def ZvR (T:Tab) (fn:Func) (keep:Nat) (K:St->Prop):PQ:=fun e f σ=>match e with
 | .normal | .ret=>pres T f σ.bx fn.results.toList fun vs=>Zhv keep false (Ju vs) σ fun _ σ'=>K σ'
 | _=>False
def Zpa {T : Tab} (hT : TabOK T G.P) (bf : G.P.follows .mixedOrders = true) {g : FuncId} {fn : Func} {c : Code} (hf : G.P.funcs[g]? = some fn) (hb : fn.body = some c) (av : (fn.name == "runtime.NumGoroutine") = false)
  {a b:Nat} {rest:Code} (ads:Zzz c=some (a,b,rest)) (ao:ZJ fn.ntmps c=true) {spR:List PV->St->(St->Prop)->Prop} {spP:PV->List PV->St->(St->Prop)->Prop}
  (hr:∀args σ K,spR args σ K->∃C keep,CxG G T C/\σ.bx.length<=keep/\args.length<=fn.ntmps/\W C rest (ZvR T fn keep K) (Uc (Uc (Zeo 0 args) a (.d .nili)) b (.d .nili)) σ)
  (hp:∀pv args σ K,spP pv args σ K->∃C keep,CxG G T C/\σ.bx.length<=keep/\args.length<=fn.ntmps/\W C rest (ZvR T fn keep K) (Uc (Uc (Zeo 0 args) a pv) b pv) σ):PDef G g spR spP:=by
 obtain ⟨id,ops,o1,o2,at',rfl,rfl,q1,q2,q3,q4,q5,q6⟩:=Zo9 ads;simp only [ZJ,Tm,Zog,q2,q5] at ao;have ha:a<fn.ntmps:=by have:=Tc ao.1.1.1;omega
 have hbN:b<fn.ntmps:=by have:=Tc ao.1.1.2.1;omega
 have walk:∀(pv:PV) (v:Value) (u u':FrameMode) (args:List PV) (σ:St) (K:St->Prop) (C:Cx) (keep:Nat),CxG G T C->σ.bx.length<=keep->args.length<=fn.ntmps->W C rest (ZvR T fn keep K) (Uc (Uc (Zeo 0 args) a pv) b pv) σ ->
   (∀(c₀:Go.Frame) (cs:List Go.Frame),c₀.mode=u->match recoverD (c₀::cs) with | some (x,cs')=>x=v/\cs'={ c₀ with mode:=u' }::cs | none=>v=.nilIface/\u'=u) ->
   ∀(n:Nat) (e:Env) (w:World) (vs:Array Value),SRel G e σ w->ArgsRel G e σ w args vs->VRel G e σ w pv v ->
   CallsDIn (fw none) n G.P g vs u w fun en u2 w'=>u2=u'/\(∃r,en=.returned r)/\∃σ' e',K σ'/\SRel G e' σ' w'/\Later e σ w e' σ' w':=by
  intro pv v u u' args σ K C keep hC hk aa hW vr n e w vs hS af hv
  refine callsDIn_of_wpSIn hf hb trivial fun c₀ cs hu=>?_
  have hsz:vs.size=args.length:=af.1;have hF:FRel G e σ w (Zeo 0 args) (vs++Array.replicate (fn.ntmps - vs.size) undef):=Zad args 0 fun k x hx=>by
   exact mq32
  refine wpSIn_seq (wpSIn_region ?_)
  let A0:Act:={ tmps:=vs++Array.replicate (fn.ntmps - vs.size) undef,defers:=[] }
  have xj:A0.tmps.size=fn.ntmps:=by simp [A0];omega
  have s0:(#[o1,o2]:Array Oper)[0]?=some o1:=rfl;have s1:(#[o1,o2]:Array Oper)[1]?=some o2:=rfl;have w1:∀t,Region.wanted o1 (yielded #[o1,o2] t)=true:=fun t=>by simp [Region.wanted,q3]
  have w2:∀t,Region.wanted o2 (yielded #[o1,o2] t)=true:=fun t=>by simp [Region.wanted,q6]
  have x1:∀A:Act,(execOp A.eval o1).run G.P w=.ok .recover w:=fun A=>by
   unfold execOp
   simp only [q1,resolve,Sem.run_bind,Sem.run_pure,Result.andThen,invoke,builtin]
  have x2:∀A:Act,(execOp A.eval o2).run G.P w=.ok (.value (A.eval (.tmp a))) w:=fun A=>by
   unfold execOp
   simp only [q4,Sem.run_pure]
  have y2:(A0.put (some a) v).eval (.tmp a)=v:=by
   simp [Act.put,Act.eval,T3,xj,ha]
  have tail:rest.wpSIn (fw none) n G.P (bodyPostS G.P fn c₀ cs fun en u2 w'=>u2=u'/\(∃r,en=.returned r)/\∃σ' e',K σ'/\SRel G e' σ' w'/\Later e σ w e' σ' w') ((A0.put (some a) v).put (some b) v) ({ c₀ with mode:=u' }::cs) w:=by
   have za:FRel G e σ w (Uc (Zeo 0 args) a pv) (A0.put (some a) v).tmps:=FRel.put (a:=A0) (d:=some a) hF hv (fun i hi=>by cases hi;rw [xj];exact ha);have uh:FRel G e σ w (Uc (Uc (Zeo 0 args) a pv) b pv) ((A0.put (some a) v).put (some b) v).tmps:=FRel.put (a:=A0.put (some a) v) (d:=some b) za hv (fun i hi=>by cases hi;rw [Yt,xj];exact hbN);refine wpSIn_of_wpIn rfl (wpIn_mono (Zc9 (n:=n) (ro:=none) (ds:=(w.heap.size,[],true)) bf rest (C:=C) (hC.ok _ _ _) hC.mono (fun _ _ _ _ _ _=>hC.it _ _ _ _ _) ao.2 [] #[] (Y1 _) _
    (a:=(A0.put (some a) v).put (some b) v) hS uh (Later.refl e σ w) (by rw [Yt,Yt,xj]) (by rw [Xa,Xa];exact Marks.nil e σ (Tz _)) (fun i hi=>by cases hi) hW) fun x a' w' hp=>?_)
   obtain ⟨pe,f',e',σ',hq,hx,h1,h2,h3,h4,⟨_,rs,h5,pg,_⟩,h6⟩:=hp;have ey:a'.defers=[]:=by rw [h5,pg rfl];rfl
   have done:(pres T f' σ'.bx fn.results.toList fun vs=>Zhv keep false (Ju vs) σ' fun _ σ''=>K σ'')->∃r,(results fn a'.tmps).run G.P w'=.ok r w'/\u'=u'/\(∃r',Ending.returned r=.returned r')/\∃σ' e',K σ'/\SRel G e' σ' w'/\Later e σ w e' σ' w':=fun hl=>by
    exact mq90
   cases pe with
   | normal=>obtain rfl:x=.normal:=hx;obtain ⟨r,hr,hR⟩:=done hq;exact ⟨ey,u',rfl,r,hr,hR⟩
   | ret=>obtain rfl:x=.ret:=hx;obtain ⟨r,hr,hR⟩:=done hq;exact ⟨ey,u',rfl,r,hr,hR⟩
   | exit id=>exact hq.elim
   | goto l=>exact hq.elim
   | panic p=>exact hq.elim
  show wpOpsSIn (fw none) n G.P #[o1,o2] _ [0,1] A0 (c₀::cs) w;simp only [wpOpsSIn,s0,s1,w1,w2,if_true,x1,x2,q2,q5];refine ⟨fun _ _=>trivial,?_⟩;have hh:=vr c₀ cs hu
  cases zp:recoverD (c₀::cs) with
  | none =>
   rw [zp] at hh;obtain ⟨rfl,rfl⟩:=hh;have iv:({ c₀ with mode:=u' }:Go.Frame)=c₀:=by subst hu;rfl
   rw [iv] at tail;simp only [y2];exact ⟨fun _ _=>trivial,tail⟩
  | some p =>
  obtain ⟨x,cs'⟩:=p;rw [zp] at hh;obtain ⟨rfl,rfl⟩:=hh;simp only [y2];exact ⟨fun _ _=>trivial,tail⟩
 refine ⟨Zl hf av hb,fun args σ K hs n e w vs hS af=>?_,fun pv args σ K hs n e w vs v hS af hv=>?_⟩
 ·obtain ⟨C,keep,h0,h1,h2,h3⟩:=hr args σ K hs;exact walk (.d .nili) .nilIface .returning .returning args σ K C keep h0 h1 h2 h3 (fun c₀ cs hu=>by simp [recoverD,hu]) n e w vs hS af (.d _ _ .nili)
 obtain ⟨C,keep,h0,h1,h2,h3⟩:=hp pv args σ K hs;exact walk pv v _ _ args σ K C keep h0 h1 h2 h3 (fun c₀ cs hu=>by simp [recoverD,hu]) n e w vs hS af hv
end
def Zat:List Oper->Option (List Oper×Oper)
 | []=>none
 | [o]=>some ([],o)
 | o::p::l=>match Zat (p::l) with | some (a,b)=>some (o::a,b) | none=>none
def Jr:∀{l:List Oper} {i:List Oper} {o:Oper},Zat l=some (i,o)->l=i++[o]
 | [],i,o,h=>by cases h
 | [x],i,o,h=>by cases h;rfl
 | x::p::l,i,o,h=>by
  simp only [Zat] at h;split at h
  ·rename_i a b hs
   cases h
   rw [Jr hs];rfl
  cases h
def Zdz (o:Oper):Option (Operand×List Operand):=match o.op,o.guard,o.dst with
 | .defer { callee:=.value x,args,.. },none,none=>some (x,args.toList)
 | _,_,_=>none
def Zez {o:Oper} {x:Operand} {args:List Operand} (h:Zdz o=some (x,args)):∃as at',o.op=.defer { callee:=.value x,args:=as,argTypes:=at' }/\as.toList=args/\o.guard=none/\o.dst=none:=by
 unfold Zdz at h
 split at h
 ·rename_i x' as at' h1 h2 h3;cases h;exact ⟨as,at',h1,rfl,h2,h3⟩
 cases h
def ZjI (c:Code):Option (List Oper×List Oper×Operand×List Operand):=match c with
 | .region _ ops false=>match Zat ops.toList with
  | some (init,last)=>match Zdz last with
   | some (x,args)=>some (ops.toList,init,x,args)
   | none=>none
  | none=>none
 | _=>none
section
variable {G:GE} {C:Cx} {e0:Env} {σ0:St} {w0:World} {n N:Nat} {ds:Nat×List Deferred×Bool} {Z:Array Value->Prop} {Q:PQ}
def ZdA (hC:CxOK G C none e0 σ0 w0) {ops:Array Oper} {rest:List Nat} {QQ:Exit->Act->World->Prop} (hd:∀o,o∈ops->∀d,o.dst=some d->d<N/\∀t v,Z t->Z (t.setIfInBounds d v))
  (y5:∀x a w,x≠.normal->ZP G e0 σ0 w0 ds N Z Q x a w->QQ x a w) (ce:∀a w,ZP G e0 σ0 w0 ds N Z Q .normal a w->wpOpsIn (fw none) n G.P ops QQ rest a w) :
  ∀(l:List Oper) (k:Nat),(∀j,j<l.length->l[j]?=ops[k+j]?)->∀{e:Env} {σ:St} {w:World} {a:Act} {f:Frame},
  SRel G e σ w->FRel G e σ w f a.tmps->Later e0 σ0 w0 e σ w->a.tmps.size=N->Marks ds e σ w a.defers->Z a.tmps->Zrj C ops.toList Q l f σ->wpOpsIn (fw none) n G.P ops QQ (List.range' k l.length++rest) a w
 | [],k,_,e,σ,w,a,f,hS,hF,hL,hN,bc,hZ,h=>ce a w ⟨.normal,f,e,σ,h,rfl,hS,hF,hL,hN,bc,hZ⟩
 | o::l,k,hl,e,σ,w,a,f,hS,hF,hL,hN,bc,hZ,h=>by
  have h0:ops[k]?=some o:=by simpa using (hl 0 sM).symm
  have bi:=ZbN (ro:=none) (n:=n) hC hS hF hL hN bc hZ (ops:=ops) (hd o (Sd h0)) h;have next:∀a' w',KRel G e0 σ0 w0 ds N Z (Zrj C ops.toList Q l) a' w'->wpOpsIn (fw none) n G.P ops QQ (List.range' (k+1) l.length++rest) a' w':=fun a' w' ⟨f',e',σ',h1,h2,h3,h4,h5,h6,h7⟩ =>
   ZdA hC hd y5 ce l (k+1) (fun j hj=>by have:=hl (j+1) sO;simpa [Sk,Nat.add_comm 1 j] using this) h2 h3 h4 h5 h6 h7 h1
  rw [Td,List.range'_succ,Sb];simp only [wpOpsIn,h0];split at bi
  ·rename_i hw
   rw [Th hw];exact ZEK y5 (Oper.wpIn_mono next bi)
  rename_i hw
  rw [Tf hw];exact ⟨fun _ _=>trivial,next _ _ bi⟩
def YQ (g0:FuncId) (va vc:Array Value):Deferred:={ target:=.fn (.func g0) vc,args:=va }
def ZvS (G:GE) (g0:FuncId) (e0:Env) (σ0:St) (w0:World) (N:Nat) (Q0:PQ) (Q1:List PV->PQ):Exit->Act->World->Prop:=fun x a w =>
 ZP G e0 σ0 w0 (0,[],true) N (Kept [] #[]) Q0 x a w \/
 ∃fa va vc e1 σ1 w1,Later e0 σ0 w0 e1 σ1 w1/\ArgsRel G e1 σ1 w1 fa (va++vc)/\ZP G e1 σ1 w1 (0,[YQ g0 va vc],true) N (Kept [] #[]) (Q1 (Xr fa)) x a w
end
def ZzA (T:Tab) (fn:Func) (keep:Nat) (own:Bool) (spR:List PV->St->(St->Prop)->Prop) (spP:PV->List PV->St->(St->Prop)->Prop) (R:PEnd->St->Prop) (fa:List PV):PQ:=fun e f σ=>match e with
 | .normal | .ret=>spR fa σ fun σ2=>pres T (V0 f) σ2.bx fn.results.toList fun vs=>Zhv keep own (Ju vs) σ2 fun v σ'=>R (.ret v) σ'
 | .panic pv=>spP pv fa σ fun σ2=>pres T (V0 f) σ2.bx fn.results.toList fun vs=>Zhv keep own (Ju vs) σ2 fun v σ'=>R (.ret v) σ'
 | _=>False
def ArgsRel.clean {G:GE} {e e':Env} {σ σ':St} {w w':World} {fa:List PV} {vs:Array Value} (h:ArgsRel G e σ w fa vs) (hL:Later e σ w e' σ' w'):ArgsRel G e' σ' w' (Xr fa) vs:=by
 refine ⟨by rw [YM];exact h.1,fun i y u hy hu=>?_⟩;obtain ⟨x,hx,rfl⟩:=Wi i y hy;have hv:=h.2 i x u hx hu;exact VRel.clean hL.len hL.beta hL.pres hv hv.bnd
def CallsDIn.mono {F:Fence} {n:Nat} {P:Program} {f:FuncId} {args:Array Value} {u:FrameMode} {w:World} {R R':Ending->FrameMode->World->Prop} (h:CallsDIn F n P f args u w R) (hR:∀e u w,R e u w->R' e u w):CallsDIn F n P f args u w R' :=
 ⟨h.1,fun c cs hu hr=>let ⟨e,u',w',fr,h1,h2⟩:=h.2 c cs hu hr;⟨e,u',w',fr,hR _ _ _ h1,h2⟩⟩
end Go.PM
end
