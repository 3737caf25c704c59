/- A part of the proof: plain logic, contracts and laws over the given program. -/
import Derived.Scope
import Derived.RangeFuncRecord
import Derived.RangeFuncCalls
import Derived.RangeFuncLeaves
import Derived.Laws.Sem
import Derived.RecoverIn
import Derived.Test.YtnbhcckbjefnjaaGreatDoorB03
set_option linter.unusedVariables false
set_option linter.unusedSimpArgs false
set_option linter.all false
set_option maxRecDepth 100000
set_option maxHeartbeats 16000000
noncomputable section
section
namespace Go.PM
def Xw {P:Program} {b:Go.Frame} {a:Act} {k:List Item} {cs:List Go.Frame} {w:World} {c:Code} :
  step P (lone (b.atR a (.code (.scope c)::k)) cs w)=.next (lone (b.atR a (.code c::.inScope c::k)) cs w) :=
 step_lone_go (by simp [stepG,stepG.exec,Go.Frame.atR])
def Zgc {P:Program} {b:Go.Frame} {a:Act} {k:List Item} {cs:List Go.Frame} {w:World} {c:Code} :
  step P (lone (b.atR a (.inScope c::k)) cs w)=.next (lone (b.atR a k) cs w) :=
 step_lone_go (by simp [stepG,stepG.exec,Go.Frame.atR])
def Zms {F:Fence} {n:Nat} {P:Program} {Q:Exit->Act->World->Prop} {a:Act} {w:World} {c:Code} (h:c.wpIn F n P (Exit.noGoto Q) a w):(Code.scope c).wpIn F n P Q a w:=by
 intro b k cs w5 hb hr
 have h0:(lone (b.atR a (.code (.scope c)::k)) cs w).fenced P F:=fenced_calm hb hr rfl;obtain ⟨e,a₁,w₁,hq,mq⟩:=h b (.inScope c::k) cs w5 hb hr
 cases e with
 | normal=>exact ⟨.normal,a₁,w₁,hq,.head h0 Xw (StepsIn.trans mq (.one (fenced_calm hb hr rfl) Zgc))⟩
 | exit id =>
  have hx:exitTo id (.inScope c::k)=exitTo id k:=by simp [exitTo]
  exact ⟨.exit id,a₁,w₁,hq,fun k' hk=>.head h0 Xw (mq.1 k' (by rw [hx];exact hk)),
   fun m9 hk=>let ⟨k₁,h1,h2⟩:=mq.2 m9 (by rw [hx];exact hk);⟨k₁,h1,.head h0 Xw h2⟩⟩
 | goto l=>exact hq.elim
 | ret=>exact ⟨_,a₁,w₁,hq,.of_steps (.one h0 Xw) mq⟩
 | panic ch=>exact ⟨_,a₁,w₁,hq,.of_steps (.one h0 Xw) mq⟩
 | outgrown=>exact ⟨_,a₁,w₁,hq,.of_steps (.one h0 Xw) mq⟩
def Zoy (N:Nat):List Oper->Bool
 | []=>true
 | o::l=>(match o.dst with | some d=>Nat.ble (d+1) N | none=>true) && Zoy N l
def ZA (N:Nat):Code->Bool
 | .region _ ops draw=>Zoy N ops.toList && (!draw || (match ZcG ops.toList with | none=>(match ZeQ (Wl ops.toList []) none (ZD 0 ops.toList) with | true=>Zoo ops.toList | false=>ZuP ops.toList) | some h=>Zot ops.toList h))
 | .seq a b=>ZA N a && ZA N b
 | .cond _ a b=>ZA N a && ZA N b
 | .block _ b=>ZA N b
 | .loop b=>ZA N b
 | .scope b=>ZA N b
 | .rangeFunc _ ps a b=>ps.toList.all (fun p=>Nat.ble (p+1) N) && ZA N a && ZA N b
 | _=>true
def ZaY {N:Nat}:∀{l:List Oper},Zoy N l=true->∀o∈l,∀d,o.dst=some d->d<N
 | [],_,o,ho=>by cases ho
 | x::l,h,o,ho=>by
  simp only [Zoy,Tm] at h;rcases Tt.1 ho with rfl | ho
  ·intro d hd
   have:=h.1;rw [hd] at this;exact Tc this
  exact ZaY h.2 o ho
def Je {ks:List Nat}:∀{l:List Oper},YV l ks=true->∀o∈l,∀d,o.dst=some d->d∉ks
 | [],_,o,ho=>by cases ho
 | x::l,h,o,ho=>by
  simp only [YV,Tm] at h;rcases Tt.1 ho with rfl | ho
  ·intro d hd hm
   have:=h.1;rw [hd] at this;simp only [T5] at this;rw [(Yo _ _).2 hm] at this;cases this
  exact Je h.2 o ho
def Kept (ks:List Nat) (t0 t:Array Value):Prop:=∀i,i∈ks->t.getD i Go.undef=t0.getD i Go.undef
def Kept.set {ks:List Nat} {t0 t:Array Value} (h:Kept ks t0 t) {d:Nat} (hd:d∉ks) (v:Value):Kept ks t0 (t.setIfInBounds d v):=fun i hi=>by
 have ai:d≠i:=fun e=>hd (e ▸ hi)
 rw [<- h i hi];simp [TX,ai]
def V3 {ks ls:List Nat}:∀{l:List Oper},YV l ks=true->YV l ls=true->YV l (ks++ls)=true
 | [],_,_=>rfl
 | o::l,h1,h2=>by
  simp only [YV,Tm] at h1 h2 |-;refine ⟨?_,V3 h1.2 h2.2⟩;have h1:=h1.1;have h2:=h2.1
  cases hd:o.dst with
  | none=>rfl
  | some d =>
  rw [hd] at h1 h2;simp only [T5] at h1 h2 |-
  cases h3:Zeh d (ks++ls) with
  | false=>rfl
  | true =>
  rcases TH.1 ((Yo _ _).1 h3) with h4 | h4
  ·rw [(Yo _ _).2 h4] at h1;cases h1
  rw [(Yo _ _).2 h4] at h2;cases h2
def Zek {ks ls:List Nat}:∀{c:Code},Yc ks c=true->Yc ls c=true->Yc (ks++ls) c=true:=by
 intro c
 induction c with
 | region id ops draw=>exact fun h1 h2=>V3 h1 h2
 | seq a b iha ihb=>intro h1 h2;simp only [Yc,Tm] at h1 h2 |-;exact ⟨iha h1.1 h2.1,ihb h1.2 h2.2⟩
 | cond c a b iha ihb=>intro h1 h2;simp only [Yc,Tm] at h1 h2 |-;exact ⟨iha h1.1 h2.1,ihb h1.2 h2.2⟩
 | block id b ih=>intro h1 h2;exact ih h1 h2
 | loop b ih=>intro h1 h2;exact ih h1 h2
 | scope b ih=>intro h1 h2;exact ih h1 h2
 | _=>intro _ _;rfl
def Y2:∀c:Code,Yc [] c=true:=by
 intro c
 induction c with
 | region id ops draw =>
  have:∀l:List Oper,YV l []=true:=by
   intro l
   induction l with
   | nil=>rfl
   | cons o l ih=>simp only [YV,ih,Bool.and_true];cases o.dst <;> rfl
  exact this _
 | seq a b iha ihb=>simp [Yc,iha,ihb]
 | cond c a b iha ihb=>simp [Yc,iha,ihb]
 | block id b ih=>exact ih
 | loop b ih=>exact ih
 | scope b ih=>exact ih
 | _=>rfl
section
variable {G:GE} {C:Cx} {e0 e:Env} {σ0 σ:St} {w0 w:World} {a:Act} {f:Frame} {Q:PQ} {ro:Option Nat} {n:Nat} {ds:Nat×List Deferred×Bool} {N:Nat}
def Zaa {base:Frame} {tm:Array Value} (hb:FRel G e σ w base tm):∀{live:List Nat} {vs:List PV},(∀(k i:Nat) (x:PV),live[k]?=some i->vs[k]?=some x->VRel G e σ w x (tm.getD i Go.undef))->FRel G e σ w (ZfY base live vs) tm
 | [],vs,_=>by cases vs <;> exact hb
 | i::is,[],_=>hb
 | i::is,v::vs,h=>by
  intro j
  have ih:=Zaa hb (live:=is) (vs:=vs) fun k i x h1 h2=>h (k+1) i x (by simpa using h1) (by simpa using h2)
  simp only [ZfY]
  by_cases im:i=j
  ·subst im;rw [Yt];exact h 0 i v sM sM
  rw [Xd _ _ im];exact ih j
def Zc2 {f0:Frame} {tm:Array Value}:∀{keep:List Nat},(∀i,i∈keep->VRel G e σ w (clean (f0 i)) (tm.getD i Go.undef))->FRel G e σ w (Zi6 f0 keep) tm
 | [],_=>fun i=>.undef _
 | i::is,h=>by
  intro j
  simp only [Zi6]
  by_cases im:i=j
  ·subst im;rw [Yt];exact h i sM
  rw [Xd _ _ im];exact Zc2 (fun k hk=>h k (Tz _ hk)) j
def ZrE {ks:List Nat} {t0:Array Value} {b:Code} (ihb:∀(Q:PQ) {e:Env} {σ:St} {w:World} {a:Act} {f:Frame},SRel G e σ w->FRel G e σ w f a.tmps->Later e0 σ0 w0 e σ w->a.tmps.size=N->Marks ds e σ w a.defers->Kept ks t0 a.tmps->W C b Q f σ->b.wpIn (fw ro) n G.P (ZJ G e0 σ0 w0 ds N (Kept ks t0) Q) a w)
  (x:Exit) (a:Act) (w:World) (h:ZJ G e0 σ0 w0 ds N (Kept ks t0) (fun e f σ=>match e with | .normal=>W C b Q f σ | e=>Q e f σ) x a w):Exit.then (b.wpIn (fw ro) n G.P (ZJ G e0 σ0 w0 ds N (Kept ks t0) Q)) (ZJ G e0 σ0 w0 ds N (Kept ks t0) Q) x a w:=by
 obtain ⟨pe,f,e,σ,hq,hx,h1,h2,h3,h4,h5,h6⟩:=h
 cases pe with
 | normal=>obtain rfl:x=.normal:=hx;exact ihb Q h1 h2 h3 h4 h5 h6 hq
 | exit id=>obtain rfl:x=.exit id:=hx;exact ⟨.exit id,f,e,σ,hq,rfl,h1,h2,h3,h4,h5,h6⟩
 | goto l=>obtain rfl:x=.goto l:=hx;exact ⟨.goto l,f,e,σ,hq,rfl,h1,h2,h3,h4,h5,h6⟩
 | ret=>obtain rfl:x=.ret:=hx;exact ⟨.ret,f,e,σ,hq,rfl,h1,h2,h3,h4,h5,h6⟩
 | panic p=>obtain ⟨v,rfl,hv⟩:=hx;exact ⟨.panic p,f,e,σ,hq,⟨v,rfl,hv⟩,h1,h2,h3,h4,h5,h6⟩
def Zmt {Z:Array Value->Prop} {id:Nat} (x:Exit) (a:Act) (w:World) (h:ZJ G e0 σ0 w0 ds N Z (fun e f σ=>match e with | .exit i=>(match Nat.beq i id with | true=>Q .normal f σ | false=>Q (.exit i) f σ) | e=>Q e f σ) x a w) :
  Exit.inBlock id (ZJ G e0 σ0 w0 ds N Z Q) x a w:=by
 obtain ⟨pe,f,e,σ,hq,hx,am⟩:=h
 cases pe with
 | normal=>obtain rfl:x=.normal:=hx;exact ⟨.normal,f,e,σ,hq,rfl,am⟩
 | exit i =>
  obtain rfl:x=.exit i:=hx;simp only [Exit.inBlock]
  by_cases hi:i=id
  ·subst hi;rw [Tj rfl];simp only [show Nat.beq i i=true from sM] at hq;exact ⟨.normal,f,e,σ,hq,rfl,am⟩
  rw [Tf hi];have:Nat.beq i id=false:=by
   cases hb:Nat.beq i id with
   | false=>rfl
   | true=>exact absurd (Tk hb) hi
  simp only [this] at hq;exact ⟨.exit i,f,e,σ,hq,rfl,am⟩
 | goto l=>obtain rfl:x=.goto l:=hx;exact ⟨.goto l,f,e,σ,hq,rfl,am⟩
 | ret=>obtain rfl:x=.ret:=hx;exact ⟨.ret,f,e,σ,hq,rfl,am⟩
 | panic p=>obtain ⟨v,rfl,hv⟩:=hx;exact ⟨.panic p,f,e,σ,hq,⟨v,rfl,hv⟩,am⟩
def Zmu {Z:Array Value->Prop} (x:Exit) (a:Act) (w:World) (h:ZJ G e0 σ0 w0 ds N Z (fun e f σ=>match e with | .goto _=>False | e=>Q e f σ) x a w) :
  Exit.noGoto (ZJ G e0 σ0 w0 ds N Z Q) x a w:=by
 obtain ⟨pe,f,e,σ,hq,hx,am⟩:=h
 cases pe with
 | normal=>obtain rfl:x=.normal:=hx;exact ⟨.normal,f,e,σ,hq,rfl,am⟩
 | exit i=>obtain rfl:x=.exit i:=hx;exact ⟨.exit i,f,e,σ,hq,rfl,am⟩
 | goto l=>exact hq.elim
 | ret=>obtain rfl:x=.ret:=hx;exact ⟨.ret,f,e,σ,hq,rfl,am⟩
 | panic p=>obtain ⟨v,rfl,hv⟩:=hx;exact ⟨.panic p,f,e,σ,hq,⟨v,rfl,hv⟩,am⟩
def Zgd (hS:SRel G e σ w) {b:Nat} {st st':LoopState} {pd pd':Option Code} {r:Loop} (hb:σ.bx[b]?=some (.loop st pd r)) :
  Stepped e σ w e (σ.set b (.loop st' pd' r)) (w.putObj (e.β b) (.loop { r with state:=st',pending:=pd' }))/\SRel G e (σ.set b (.loop st' pd' r)) (w.putObj (e.β b) (.loop { r with state:=st',pending:=pd' })):=by
 have mh:w.heap[e.β b]?=some (.loop { r with state:=st,pending:=pd }):=hS.box b _ hb;exact Ug hS hb rfl rfl rfl World.putObj_size (fun k hk=>World.putObj_heap_other hk) fun _=>World.putObj_heap_same (Tp.1 mh).1
def ZhH:∀{ps:List Nat} {f:Frame} {args:List PV} {tm:Array Value} {vs:List Value},FRel G e σ w f tm->vs.length=args.length->(∀(i:Nat) (x:PV) (u:Value),args[i]?=some x->vs[i]?=some u->VRel G e σ w x u)->(∀p∈ps,p<tm.size) ->
  FRel G e σ w (ZnT f ps args) ((ps.zip vs).foldl (fun tmps (x:Nat×Value)=>tmps.setIfInBounds x.1 x.2) tm)/\((ps.zip vs).foldl (fun tmps (x:Nat×Value)=>tmps.setIfInBounds x.1 x.2) tm).size=tm.size
 | [],f,args,tm,vs,hF,hl,hr,hp=>by simp only [ZnT,List.zip_nil_left,List.foldl_nil,and_true];exact hF
 | p::ps,f,[],tm,[],hF,hl,hr,hp=>⟨hF,rfl⟩
 | p::ps,f,x::args,tm,u::vs,hF,hl,hr,hp=>by
   simp only [List.zip_cons_cons,List.foldl_cons,ZnT];have h1:FRel G e σ w (V4 f p x) (tm.setIfInBounds p u):=by
    have:=FRel.put (a:={ tmps:=tm,defers:=[] }) (d:=some p) hF (hr 0 x u rfl rfl) (fun i hi=>by cases hi;exact hp p sM);exact this
   obtain ⟨g1,g2⟩:=ZhH (ps:=ps) h1 (by simpa using hl) (fun i y v hy hv=>hr (i+1) y v (by simpa using hy) (by simpa using hv)) (fun q hq=>by simpa using hp q (by simp [hq]));exact ⟨g1,by rw [g2];simp⟩
def Marks.push {lo:Nat×List Deferred×Bool} {l:List Deferred} (hS:SRel G e σ w) (hf:lo.2.2=false) (h:Marks lo e σ w l):Marks lo e σ (w.alloc (.deferred (some []))) (J4 w.heap.size::l):=by
 obtain ⟨h0,rs,h1,_,h2,h3⟩:=h;have hg:=Grows.alloc w (.deferred (some []));have mj:∀r∈rs,r<w.heap.size:=fun r hr=>(Tp.1 (h3 r hr).2.1).1
 refine ⟨TZ h0 hg.size,w.heap.size::rs,by rw [h1];rfl,fun h=>by (rw [hf] at h;cases h),List.nodup_cons.2 ⟨fun hm=>by have:=mj _ hm;omega,h2⟩,fun r hr=>?_⟩;rcases Tt.1 hr with rfl | hr
 ·refine ⟨h0,heap_alloc_new w _,fun i hi=>by have:=hS.lt hi;omega,fun t ht p hp=>?_,(by
   cases hq:e.H w.heap.size with
   | none=>rfl
   | some q=>have:=(hS.hid _ _ hq).2.1;omega)⟩
  obtain ⟨_,_,cs,ty,fz,hh⟩:=hS.own t ht p hp;have:=(Tp.1 hh).1;omega
 obtain ⟨g1,g2,g3,g4⟩:=h3 r hr;exact ⟨g1,(hg.old r (mj r hr)).trans g2,g3,g4⟩
def ZrF {o:Oper} {d:Nat} (hd:o.dst=some d):∀{l:List Oper},o∈l->Zei d l=true:=fun {l} ho=>by
 induction l with
 | nil=>cases ho
 | cons x l ih =>
 rcases Tt.1 ho with rfl | ho
 ·unfold Zei
  rw [hd];show (match Nat.beq d d with | true=>true | false=>Zei d l)=true;rw [Nat.beq_refl]
 unfold Zei
 split
 ·split
  ·rfl
  exact ih ho
 exact ih ho
def ZhI (be:G.P.follows .mixedOrders=true) {id:Nat} {ops:Array Oper} {draw:Bool} (hC:CxOK G C ro e0 σ0 w0) (hM:CxMono C.calm) (ax:ZA N (.region id ops draw)=true) {ks:List Nat} {t0:Array Value} (dh:Yc ks (.region id ops draw)=true)
  (hS:SRel G e σ w) (hF:FRel G e σ w f a.tmps) (hL:Later e0 σ0 w0 e σ w) (hN:a.tmps.size=N) (bf:Marks ds e σ w a.defers) (hZ:Kept ks t0 a.tmps) (h:WR C ops.toList draw Q f σ):(Code.region id ops draw).wpIn (fw ro) n G.P (ZJ G e0 σ0 w0 ds N (Kept ks t0) Q) a w:=by
 simp only [ZA,Tm] at ax;have hd:∀o,o∈ops->∀d,o.dst=some d->d<N/\∀t v,Kept ks t0 t->Kept ks t0 (t.setIfInBounds d v):=fun o ho d vl =>
  ⟨ZaY ax.1 o (TJ.1 ho) d vl,fun t v hk=>hk.set (Je dh o (TJ.1 ho) d vl) v⟩
 cases draw with
 | false =>
  refine wpIn_region ?_;have:=Ze0 (ro:=ro) (n:=n) hC hd ops.toList 0 (fun j=>sM) hS hF hL hN bf hZ h;rw [List.range_eq_range'];simpa using this
 | true =>
 have il:=ax.2;simp only [Bool.not_true,Bool.false_or] at il;simp only [WR] at h;have ir:Later e0 σ0 w0 e σ { w with drawn:=w.drawn+1 }:=hL.trans { Later.refl e σ w with };have hst:Stepped e σ w e σ { w with drawn:=w.drawn+1 }:={ Stepped.refl e σ w with }
 have jb:SRel G e σ { w with drawn:=w.drawn+1 }:={ hS with box:=fun i x hx=>(hS.box i x hx).step hst rfl HKeep.rfl' }
 have zo:=hF.step hst
 let Z:Array Value->Prop:=fun t=>Kept ks t0 t/\∀i,Zei i ops.toList=false->t.getD i Go.undef=a.tmps.getD i Go.undef
 have zp:∀o,o∈ops->∀d,o.dst=some d->d<N/\∀t v,Z t->Z (t.setIfInBounds d v):=fun o ho d vl=>⟨(hd o ho d vl).1,fun t v hz=>⟨(hd o ho d vl).2 t v hz.1,fun i hi=>by
  have ai:d≠i:=fun he=>by
   subst he;rw [ZrF vl (TJ.1 ho)] at hi;cases hi
  rw [<- hz.2 i hi];simp [TX,ai]⟩⟩
 have hC':=hC.later ir;have fin:∀x a' w',ZJ G e σ { w with drawn:=w.drawn+1 } ds N Z (Zi7 C ops.toList f Q) x a' w'->ZJ G e0 σ0 w0 ds N (Kept ks t0) Q x a' w':=fun x a' w' hp=>by
  obtain ⟨pe,f',e',σ',hq,hx,g1,g2,g3,g4,g5,g6⟩:=hp
  cases pe with
  | panic p =>
   refine ⟨.panic p,_,e',σ',hq,hx,g1,fun i=>?_,ir.trans g3,g4,g5,g6.1⟩;unfold Cx.pd
   cases C.pk with
   | false=>exact .undef _
   | true =>
   show VRel _ _ _ _ (match Zei i ops.toList with | true=>PV.undef | false=>clean (f i)) _
   cases hw:Zei i ops.toList with
   | true=>exact .undef _
   | false =>
   rw [g6.2 i hw];exact (zo.clean g3) i
  | normal=>exact ⟨_,f',e',σ',hq,hx,g1,g2,ir.trans g3,g4,g5,g6.1⟩
  | ret=>exact ⟨_,f',e',σ',hq,hx,g1,g2,ir.trans g3,g4,g5,g6.1⟩
  | exit id=>exact ⟨_,f',e',σ',hq,hx,g1,g2,ir.trans g3,g4,g5,g6.1⟩
  | goto l=>exact ⟨_,f',e',σ',hq,hx,g1,g2,ir.trans g3,g4,g5,g6.1⟩
 have hZ':Z a.tmps:=⟨hZ,fun _ _=>rfl⟩
 have hR:Later e σ { w with drawn:=w.drawn+1 } e σ { w with drawn:=w.drawn+1 }:=Later.refl _ _ _;refine wpIn_mono (wpIn_region_any (Q:=ZJ G e σ { w with drawn:=w.drawn+1 } ds N Z (Zi7 C ops.toList f Q)) be ?_) fin;split at h
 ·rename_i hh
  rw [hh] at il;simp only at il;split at h
  ·rename_i hch
   rw [hch] at il;exact Zmn hC'.calm hM zp il jb zo hR hN (bf.later hst.toLater) hZ' h
  rename_i hch
  rw [hch] at il;exact Zox hC'.calm hM zp il jb zo hR hN (bf.later hst.toLater) hZ' h
 rename_i hl hh
 rw [hh] at il;exact Zmr hC'.calm hM zp hh il jb zo hR hN (bf.later hst.toLater) hZ' h
def Zc3 (be:G.P.follows .mixedOrders=true):∀(c:Code) {C:Cx} {ro:Option Nat} {e0:Env} {σ0:St} {w0:World} {N:Nat} {ds:Nat×List Deferred×Bool} {n:Nat},CxOK G C ro e0 σ0 w0->CxMono C.calm->(ds.2.2=true->∀g args raw σ K,¬C.iter g args raw σ K)->ZA N c=true->∀(ks:List Nat) (t0:Array Value),Yc ks c=true->∀(Q:PQ) {e:Env} {σ:St} {w:World} {a:Act} {f:Frame},
  SRel G e σ w->FRel G e σ w f a.tmps->Later e0 σ0 w0 e σ w->a.tmps.size=N->Marks ds e σ w a.defers->Kept ks t0 a.tmps->W C c Q f σ->c.wpIn (fw ro) n G.P (ZJ G e0 σ0 w0 ds N (Kept ks t0) Q) a w:=by
 intro c
 induction c with
 | skip=>intro C ro e0 σ0 w0 N ds n hC hM dz _ ks t0 _ Q e σ w a f hS hF hL hN bf hZ h;exact wpIn_skip ⟨.normal,f,e,σ,h,rfl,hS,hF,hL,hN,bf,hZ⟩
 | label l=>intro C ro e0 σ0 w0 N ds n hC hM dz _ ks t0 _ Q e σ w a f hS hF hL hN bf hZ h;exact wpIn_label ⟨.normal,f,e,σ,h,rfl,hS,hF,hL,hN,bf,hZ⟩
 | exit id=>intro C ro e0 σ0 w0 N ds n hC hM dz _ ks t0 _ Q e σ w a f hS hF hL hN bf hZ h;exact wpIn_exit ⟨.exit id,f,e,σ,h,rfl,hS,hF,hL,hN,bf,hZ⟩
 | goto l=>intro C ro e0 σ0 w0 N ds n hC hM dz _ ks t0 _ Q e σ w a f hS hF hL hN bf hZ h;exact wpIn_goto ⟨.goto l,f,e,σ,h,rfl,hS,hF,hL,hN,bf,hZ⟩
 | ret=>intro C ro e0 σ0 w0 N ds n hC hM dz _ ks t0 _ Q e σ w a f hS hF hL hN bf hZ h;exact wpIn_ret ⟨.ret,f,e,σ,h,rfl,hS,hF,hL,hN,bf,hZ⟩
 | region id ops draw =>
  intro C ro e0 σ0 w0 N ds n hC hM dz ax ks t0 dh Q0 e σ w a f hS hF hL hN bf hZ h
  have core:∀{Q:PQ} {e:Env} {σ:St},SRel G e σ w->FRel G e σ w f a.tmps->Later e0 σ0 w0 e σ w->Marks ds e σ w a.defers->WR C ops.toList draw Q f σ->(Code.region id ops draw).wpIn (fw ro) n G.P (ZJ G e0 σ0 w0 ds N (Kept ks t0) Q) a w:=fun {Q e σ} hS hF hL bf h=>ZhI be hC hM ax dh hS hF hL hN bf hZ h
  simp only [W] at h;split at h
  ·exact core hS hF hL bf h
  obtain ⟨b,k,h⟩:=h;obtain ⟨e1,σ1,h,hst,gf⟩:=Zjm hS h;rw [ZL] at h;refine wpIn_mono (core gf (hF.step hst) (hL.trans hst.toLater) (bf.later hst.toLater) h) fun x a' w' hp=>?_
  obtain ⟨pe,f',e',σ',hq,hx,g1,g2,g3,g4,g5,g6⟩:=hp
  cases pe with
  | normal =>
   obtain ⟨e2,σ2,hq,jr,jc⟩:=Zgb g1 (K:=fun σ=>Xu σ fun σ=>Q0 .normal f' σ) hq;rw [ZL] at hq;exact ⟨.normal,f',e2,σ2,hq,hx,jc,g2.step jr,g3.trans jr.toLater,g4,g5.later jr.toLater,g6⟩
  | _=>exact hq.elim
 | seq x y ihx ihy =>
  intro C ro e0 σ0 w0 N ds n hC hM dz ax ks t0 dh Q e σ w a f hS hF hL hN bf hZ h
  simp only [ZA,Tm] at ax;simp only [Yc,Tm] at dh;simp only [W] at h;split at h
  ·exact wpIn_seq (wpIn_mono (ihx hC hM dz ax.1 ks t0 dh.1 _ hS hF hL hN bf hZ h) (ZrE fun Q {e σ w a f}=>ihy hC hM dz ax.2 ks t0 dh.2 Q))
  rename_i live I fp
  obtain ⟨h1,h2⟩:=h;refine wpIn_seq (wpIn_mono (ihx hC hM dz ax.1 ks t0 dh.1 _ hS hF hL hN bf hZ h1) fun x' a' w' hp=>?_);obtain ⟨pe,f',e',σ',hq,hx,g1,g2,g3,g4,g5,g6⟩:=hp
  cases pe with
  | normal =>
   obtain rfl:x'=.normal:=hx;obtain ⟨vs0,σ1,e1,hI,gf,km,aa,bo⟩:=ZkG g1 hq;have w6:FRel G e1 σ1 w' (ZfY (fun _=>.undef) live vs0) a'.tmps:=Zaa (fun i=>.undef _) fun k i x h1 h2=>bo k (f' i) x _ (by rw [Th,h1];rfl) h2 (g2 i)
   exact ihy hC hM dz ax.2 ks t0 dh.2 Q gf w6 (g3.drop km g3.len) g4 (g5.drop km) g6 (h2 _ _ hI)
  | exit id=>obtain rfl:x'=.exit id:=hx;exact ⟨.exit id,f',e',σ',hq,rfl,g1,g2,g3,g4,g5,g6⟩
  | goto l=>obtain rfl:x'=.goto l:=hx;exact ⟨.goto l,f',e',σ',hq,rfl,g1,g2,g3,g4,g5,g6⟩
  | ret=>obtain rfl:x'=.ret:=hx;exact ⟨.ret,f',e',σ',hq,rfl,g1,g2,g3,g4,g5,g6⟩
  | panic p=>obtain ⟨v,rfl,hv⟩:=hx;exact ⟨.panic p,f',e',σ',hq,⟨v,rfl,hv⟩,g1,g2,g3,g4,g5,g6⟩
 | cond c x y ihx ihy =>
  intro C ro e0 σ0 w0 N ds n hC hM dz ax ks t0 dh Q e σ w a f hS hF hL hN bf hZ h
  simp only [ZA,Tm] at ax;simp only [Yc,Tm] at dh;simp only [W] at h;have hv:=Zby hF c;split at h
  ·rename_i t hc
   rw [hc] at hv
   cases t with
   | true=>exact wpIn_cond_true hv.dbool (ihx hC hM dz ax.1 ks t0 dh.1 _ hS hF hL hN bf hZ h)
   | false=>exact wpIn_cond_false hv.dbool (ihy hC hM dz ax.2 ks t0 dh.2 _ hS hF hL hN bf hZ h)
  exact h.elim
 | block id b ih =>
  intro C ro e0 σ0 w0 N ds n hC hM dz ax ks t0 dh Q e σ w a f hS hF hL hN bf hZ h
  exact wpIn_block (wpIn_mono (ih hC hM dz ax ks t0 dh _ hS hF hL hN bf hZ h) Zmt)
 | scope b ih =>
  intro C ro e0 σ0 w0 N ds n hC hM dz ax ks t0 dh Q e σ w a f hS hF hL hN bf hZ h
  exact Zms (wpIn_mono (ih hC hM dz ax ks t0 dh _ hS hF hL hN bf hZ h) Zmu)
 | loop b ih =>
  intro C ro e0 σ0 w0 N ds n hC hM dz ax ks t0 dh Q e σ w a f hS hF hL hN bf hZ h
  simp only [W] at h;generalize C.loop (keyOf b)=A at h;split at h
  ·rename_i m0 _
   generalize m0+1=m at h
   let J:Nat->Frame->St->Act->World->Prop:=fun k f1 σ1 a1 w1=>∃e1,Zbw (fun Q f σ=>W C b Q f σ) Q k f1 σ1/\SRel G e1 σ1 w1/\FRel G e1 σ1 w1 f1 a1.tmps/\Later e σ w e1 σ1 w1/\a1.tmps.size=N/\Marks ds e1 σ1 w1 a1.defers/\Kept ks a.tmps a1.tmps
   let In:Act->World->Prop:=fun a1 w1=>∃k f1 σ1,J k f1 σ1 a1 w1
   let Mu:Act->World->Nat->Prop:=fun a1 w1 m=>∃f1 σ1,J m f1 σ1 a1 w1
   have least:∀a1 w1,In a1 w1->∃m,Mu a1 w1 m/\∀m',Mu a1 w1 m'->m<=m':=fun a1 w1 ⟨k,f1,σ1,hJ⟩=>by
    have:∀m,Mu a1 w1 m->∃m,Mu a1 w1 m/\∀m',Mu a1 w1 m'->m<=m':=by
     intro m
     induction m using Nat.strongRecOn with
     | _ m ihm =>
     intro hm
     exact mq116
    exact this _ ⟨f1,σ1,hJ⟩
   classical
   let mu:Act->World->Nat:=fun a1 w1=>if hh:∃m,Mu a1 w1 m/\∀m',Mu a1 w1 m'->m<=m' then Classical.choose hh else 0
   have w7:∀a1 w1,In a1 w1->Mu a1 w1 (mu a1 w1)/\∀m',Mu a1 w1 m'->mu a1 w1<=m':=fun a1 w1 tg=>by
    have hh:=least a1 w1 tg;simp only [mu,dif_pos hh];exact Classical.choose_spec hh
   refine wpIn_loop In mu ⟨m,f,σ,e,h,hS,hF,Later.refl e σ w,hN,bf,fun i _=>rfl⟩ ?_;intro a1 w1 tg
   obtain ⟨⟨f2,σ2,⟨e2,hU,jc,sx,l9,hN2,tj,hK2⟩⟩,_⟩:=w7 a1 w1 tg;generalize gk:mu a1 w1=mm at hU
   cases mm with
   | zero=>exact hU.elim
   | succ mm =>
   simp only [Zbw] at hU;have hb:=ih (n:=n) (hC.later hL) hM dz ax ks a.tmps dh _ jc sx l9 hN2 tj hK2 hU;refine wpIn_mono hb fun x a' w' hp=>?_
   obtain ⟨pe,f',e',σ',hq,hx,h1,h2,h3,h4,h5,h6⟩:=hp;have qc:Kept ks t0 a'.tmps:=fun i hi=>(h6 i hi).trans (hZ i hi)
   cases pe with
   | normal =>
    obtain rfl:x=.normal:=hx;have hJ:J mm f' σ' a' w':=⟨e',hq,h1,h2,h3,h4,h5,h6⟩
    have n9:In a' w':=⟨mm,f',σ',hJ⟩
    refine ⟨n9,?_⟩;have:=(w7 a' w' n9).2 _ ⟨f',σ',hJ⟩;exact Nat.lt_succ_of_le this
   | exit id=>obtain rfl:x=.exit id:=hx;exact ⟨.exit id,f',e',σ',hq,rfl,h1,h2,hL.trans h3,h4,h5,qc⟩
   | goto l=>obtain rfl:x=.goto l:=hx;exact ⟨.goto l,f',e',σ',hq,rfl,h1,h2,hL.trans h3,h4,h5,qc⟩
   | ret=>obtain rfl:x=.ret:=hx;exact ⟨.ret,f',e',σ',hq,rfl,h1,h2,hL.trans h3,h4,h5,qc⟩
   | panic p=>obtain ⟨v,rfl,hv⟩:=hx;exact ⟨.panic p,f',e',σ',hq,⟨v,rfl,hv⟩,h1,h2,hL.trans h3,h4,h5,qc⟩
  have key:∀A:LoopAnn,Yc A.keep b=true->(Ub (C.ag (keyOf b)) σ.bx.length (A.live.map f) σ fun vs σ0=>A.I vs σ0 /\
    ∀vs σ1,A.I vs σ1->W C b (fun e f' σ'=>match e with
     | .normal=>Ub (C.ag (keyOf b)) σ1.bx.length (A.live.map f') σ' fun vs' σ''=>A.I vs' σ''/\A.μ vs' σ''<A.μ vs σ1
     | e=>Q e f' σ') (ZfY (Zi6 f A.keep) A.live vs) σ1)->(Code.loop b).wpIn (fw ro) n G.P (ZJ G e0 σ0 w0 ds N (Kept ks t0) Q) a w:=fun A gd h=>by
   obtain ⟨vs0,σ1,e1,⟨hI,lq⟩,gf,km,aa,bo⟩:=ZcW hS h;have ko:∀{e':Env} {σ':St} {w':World} {tm:Array Value},Later e σ w e' σ' w'->Kept (ks++A.keep) a.tmps tm->∀i,i∈A.keep->VRel G e' σ' w' (clean (f i)) (tm.getD i Go.undef):=fun {e' σ' w' tm} hl hk i hi=>by
    rw [hk i (TH.2 (.inr hi))];exact VRel.clean hl.len hl.beta hl.pres (hF i) (hF i).bnd
   have qy:∀(f':Frame) (tm:Array Value) (vs':List PV) {e':Env} {σ':St} {w':World} {e'':Env} {σ'':St},FRel G e' σ' w' f' tm->(∀(i:Nat) (x y:PV) (u:Value),(A.live.map f')[i]?=some x->vs'[i]?=some y->VRel G e' σ' w' x u->VRel G e'' σ'' w' y u) ->
     ∀(k i:Nat) (x:PV),A.live[k]?=some i->vs'[k]?=some x->VRel G e'' σ'' w' x (tm.getD i Go.undef):=fun f' tm vs' {e' σ' w' e'' σ''} hf hv k i x h1 h2 =>
    hv k (f' i) x _ (by rw [Th,h1];rfl) h2 (hf i)
   let J:List PV->St->Act->World->Prop:=fun vs σ1 a1 w1=>∃e1,A.I vs σ1/\SRel G e1 σ1 w1/\FRel G e1 σ1 w1 (ZfY (Zi6 f A.keep) A.live vs) a1.tmps/\Later e σ w e1 σ1 w1/\a1.tmps.size=N/\Marks ds e1 σ1 w1 a1.defers/\Kept (ks++A.keep) a.tmps a1.tmps
   let In:Act->World->Prop:=fun a1 w1=>∃vs σ1,J vs σ1 a1 w1
   let Mu:Act->World->Nat->Prop:=fun a1 w1 m=>∃vs σ1,J vs σ1 a1 w1/\A.μ vs σ1=m
   have least:∀a1 w1,In a1 w1->∃m,Mu a1 w1 m/\∀m',Mu a1 w1 m'->m<=m':=fun a1 w1 ⟨vs,σ1,hJ⟩=>by
    have:∀m,Mu a1 w1 m->∃m,Mu a1 w1 m/\∀m',Mu a1 w1 m'->m<=m':=by
     intro m
     induction m using Nat.strongRecOn with
     | _ m ihm =>
     intro hm
     exact mq116
    exact this _ ⟨vs,σ1,hJ,rfl⟩
   classical
   let mu:Act->World->Nat:=fun a1 w1=>if hh:∃m,Mu a1 w1 m/\∀m',Mu a1 w1 m'->m<=m' then Classical.choose hh else 0
   have w7:∀a1 w1,In a1 w1->Mu a1 w1 (mu a1 w1)/\∀m',Mu a1 w1 m'->mu a1 w1<=m':=fun a1 w1 tg=>by
    have hh:=least a1 w1 tg;simp only [mu,dif_pos hh];exact Classical.choose_spec hh
   have qz:Later e σ w e1 σ1 w:=(Later.refl e σ w).drop km (Tr _);have oa:Kept (ks++A.keep) a.tmps a.tmps:=fun i _=>rfl
   refine wpIn_loop In mu ⟨vs0,σ1,e1,hI,gf,?_,qz,hN,bf.drop km,oa⟩ ?_
   ·exact Zaa (Zc2 (ko qz oa)) (qy f a.tmps vs0 hF bo)
   intro a1 w1 tg
   obtain ⟨⟨vs,σ2,⟨e2,ff,jc,sx,l9,hN2,tj,hK2⟩,hm⟩,_⟩:=w7 a1 w1 tg;have hb:=ih (n:=n) (hC.later hL) hM dz ax (ks++A.keep) a.tmps (Zek dh gd) _ jc sx l9 hN2 tj hK2 (lq vs σ2 ff);refine wpIn_mono hb fun x a' w' hp=>?_
   obtain ⟨pe,f',e',σ',hq,hx,h1,h2,h3,h4,h5,h6⟩:=hp;have qc:Kept ks t0 a'.tmps:=fun i hi=>(h6 i (TH.2 (.inl hi))).trans (hZ i hi)
   cases pe with
   | normal =>
    obtain rfl:x=.normal:=hx;obtain ⟨vs',σ3,e3,⟨hI3,ab⟩,gm,oc,jd,abp⟩:=ZcW h1 hq;have vn:Later e σ w e3 σ3 w':=h3.drop oc l9.len;have hJ:J vs' σ3 a' w':=⟨e3,hI3,gm,Zaa (Zc2 (ko vn h6)) (qy f' a'.tmps vs' h2 abp),vn,h4,h5.drop oc,h6⟩
    have n9:In a' w':=⟨vs',σ3,hJ⟩
    refine ⟨n9,?_⟩;have:=(w7 a' w' n9).2 _ ⟨vs',σ3,hJ,rfl⟩;rw [<- hm];exact Nat.lt_of_le_of_lt this ab
   | exit id=>obtain rfl:x=.exit id:=hx;exact ⟨.exit id,f',e',σ',hq,rfl,h1,h2,hL.trans h3,h4,h5,qc⟩
   | goto l=>obtain rfl:x=.goto l:=hx;exact ⟨.goto l,f',e',σ',hq,rfl,h1,h2,hL.trans h3,h4,h5,qc⟩
   | ret=>obtain rfl:x=.ret:=hx;exact ⟨.ret,f',e',σ',hq,rfl,h1,h2,hL.trans h3,h4,h5,qc⟩
   | panic p=>obtain ⟨v,rfl,hv⟩:=hx;exact ⟨.panic p,f',e',σ',hq,⟨v,rfl,hv⟩,h1,h2,hL.trans h3,h4,h5,qc⟩
  split at h
  ·rename_i gd
   split at h
   ·exact key _ gd h
   exact key (A.tied f) gd h
  exact h.elim
 | rangeFunc g ps asg body iha ihb =>
  intro C ro e0 σ0 w0 N ds n hC hM dz ax ks t0 dh Q e σ w a f hS hF hL hN bf hZ h
  simp only [ZA,Tm] at ax;simp only [W] at h;split at h
  ·rename_i gid first caps hg
   have hv:=Zby hF g;rw [hg] at hv;generalize hgv:a.eval g=gv at hv
   cases hv with
   | func _ _ _ va vc ha hc h1 h2 =>
   have w5:ro=none:=by
    rcases hC.out with h0 | h0
    ·exact h0
    exact absurd (h 0 default) (h0 _ _ _ _ _)
   subst w5;refine wpIn_rangeFunc fun fn _=>?_
   have hMi:CxMono C.inner.calm:=⟨hM.one,hM.call,hM.raw,rfl⟩
   have hdf:ds.2.2=false:=by
    cases cg:ds.2.2 with
    | false=>rfl
    | true=>exact absurd (h 0 default) (dz cg _ _ _ _ _)
   let rec0:Loop:={ state:=.ready,pending:=none,fn,tmps:=a.tmps,params:=ps,assign:=asg,body,defers:=w.heap.size }
   let wA:=w.alloc (.deferred (some []))
   have hgA:Grows w wA:=Grows.alloc w _;have hSA:SRel G e σ wA:=hS.grow hgA;have tn:Stepped e σ w e σ wA:=hgA.stepped e σ;have abr:Marks ds e σ wA (J4 w.heap.size::a.defers):=bf.push hS hdf;have hsz:wA.heap.size=w.heap.size+1:=by simp [wA]
   obtain ⟨qd,gf,_⟩:=Uf hSA (.loop .ready none rec0) (.loop rec0) (fun _ _ _ _ hh=>hh);have vj:(e.more σ.bx.length wA.heap.size).β σ.bx.length=w.heap.size+1:=by simp [Env.more,hsz]
   have mh:=h (w.heap.size+1) rec0;obtain ⟨jl,kj⟩:=hC.iter _ _ _ _ _ mh;have tq:ArgsRel G (e.more σ.bx.length wA.heap.size) (σ.new (.loop .ready none rec0)) (wA.alloc (.loop rec0)) (first++.raw (.func (.yield (w.heap.size+1)) #[] #[])::caps) (va++#[.func (.yield (w.heap.size+1)) #[] #[]]++vc):=by
    rw [List.append_cons];refine (ArgsRel.append (ArgsRel.append ⟨ha,fun i x u hx hu=>((h1 i x u hx hu).step tn).step qd⟩ ⟨rfl,fun i x u hx hu=>?_⟩) ⟨hc,fun i x u hx hu=>((h2 i x u hx hu).step tn).step qd⟩)
    match i with
    | 0=>cases hx;cases hu;exact .raw _
    | n+1=>cases hx
   have qz:Later e σ w (e.more σ.bx.length wA.heap.size) (σ.new (.loop .ready none rec0)) (wA.alloc (.loop rec0)):=tn.toLater.trans qd.toLater;have ra:σ.bx.length<(σ.new (.loop .ready none rec0)).bx.length:=by rw [ZEO];omega
   refine ⟨w.heap.size+1,[J4 w.heap.size],wA.alloc (.loop rec0),{ target:=.fn (.func gid) vc,args:=va++#[.func (.yield (w.heap.size+1)) #[] #[]] },wA.alloc (.loop rec0),gid,va++#[.func (.yield (w.heap.size+1)) #[] #[]]++vc,wA.alloc (.loop rec0),
    run_enterLoop_outer fn a.tmps ps asg body,?_,fun _ _=>trivial,?_,fun hh=>by simp [fw] at hh,?_⟩
   ·show (Deferred.ofValue (a.eval g) _).run _ _=_;rw [hgv];simp [Deferred.ofValue,rangeCall,Act.eval]
   ·simp only [invoke];exact jl _ _
   refine (kj (n - 1) _ _ _ gf tq ?_).mono fun en w3 hA=>?_
   ·
    intro v args σ' K hr
    obtain ⟨rfl,dw,zq,hWA⟩:=hr;refine ⟨w.heap.size+1,rfl,fun ro n e' w' vs jb ir sv=>?_⟩;have em:σ.bx.length<σ'.bx.length:=(Ti.1 dw).1;have hβ':e'.β σ.bx.length=w.heap.size+1:=(ir.beta _ ra).trans vj;have od:w'.heap[w.heap.size+1]?=some (.loop rec0):=by have:=jb.box _ _ dw;rw [hβ'] at this;exact this
    have bo:vs.size=rec0.params.size:=by rw [sv.1,zq];simp [rec0]
    refine ⟨_,_,_,_,run_yield od bo,?_⟩;have hF0:FRel G e' σ' w' (Ua f) a.tmps:=hF.clean (qz.trans ir);have sy:∀p∈ps.toList,p<a.tmps.size:=fun p hp=>by
     have:=Tq.1 ax.1.1 p hp;rw [hN];exact Tc this
    have rb:(rec0.params.zip vs).foldl (fun tmps (x:Nat×Value)=>tmps.setIfInBounds x.1 x.2) rec0.tmps=(ps.toList.zip vs.toList).foldl (fun tmps (x:Nat×Value)=>tmps.setIfInBounds x.1 x.2) a.tmps:=by
     rw [<- Array.foldl_toList,Array.toList_zip]
    obtain ⟨w6,ka⟩:=ZhH (ps:=ps.toList) (args:=args) (vs:=vs.toList) hF0 (by simpa using sv.1) (fun i x u hx hu=>sv.2 i x u hx (by simpa using hu)) sy;refine roundIn_of_wpIn trivial ?_;have hCr:CxOK G C.inner (some (w.heap.size+1)) e' σ' w':=⟨hC.tab,hC.call,hC.raw.later (hL.trans (qz.trans ir)),fun _ _ _ _ _ hh=>hh.elim,.inr fun _ _ _ _ _ hh=>hh⟩
    have hwa:=iha (n:=n) (ds:=(0,[],false)) hCr hMi (fun h=>by cases h) ax.1.2 [] #[] (Y2 _) _ (a:={ tmps:=(rec0.params.zip vs).foldl (fun tmps (x:Nat×Value)=>tmps.setIfInBounds x.1 x.2) rec0.tmps,defers:=[] }) jb (by rw [rb];exact w6) (Later.refl _ _ _) (by rw [rb];exact ka.trans hN) (Marks.nil _ _ (T7 _)) (fun i hi=>by cases hi) hWA;refine wpIn_mono hwa fun x1 a1 w1 hp=>?_
    obtain ⟨pe,f1,e1,σ1,hq,hx,k1,k2,k3,k4,k5,k6⟩:=hp
    cases pe with
    | normal =>
     obtain rfl:x1=.normal:=hx;obtain ⟨co,hWB⟩:=hq;obtain ⟨jr,jc⟩:=Zgd (st':=.busy) (pd':=none) k1 co;have tr:e1.β σ.bx.length=w.heap.size+1:=(k3.beta _ em).trans hβ';have tt:w1.heap[w.heap.size+1]?=some (.loop rec0):=by have:=k1.box _ _ co;rw [tr] at this;exact this
     refine ⟨_,run_beginRound tt rfl,?_⟩;rw [tr] at jr jc;have hwb:=ihb (n:=n) (ds:=(0,[],false)) (hCr.later (k3.trans jr.toLater)) hMi (fun h=>by cases h) ax.2 [] #[] (Y2 _) _ jc (k2.step jr) (Later.refl _ _ _) k4 (k5.later jr.toLater) (fun i hi=>by cases hi) hWB;refine wpIn_mono hwb fun x2 a2 w2 vo=>?_
     obtain ⟨pe2,f2,e2,σ2,lh,ca,m1,m2,m3,m4,m5,m6⟩:=vo;have gl:σ.bx.length<(σ1.set σ.bx.length (.loop .busy none rec0)).bx.length:=by simp only [St.set,SB];exact (Ti.1 co).1
     have wz:e2.β σ.bx.length=w.heap.size+1:=(m3.beta _ gl).trans tr;have l9:Later e' σ' w' e2 σ2 w2:=(k3.trans jr.toLater).trans m3;have fin:∀(jump:Option Code),ZyG σ.bx.length rec0 (if jump.isNone then .ready else .done) jump jump.isNone σ2 K->∃v w'',(Instr.endRound (w.heap.size+1) jump).run G.P w2=.ok v w''/\Y8 G e' σ' w' K (.returned v) w'':=fun jump hq=>by
      obtain ⟨w8,hK⟩:=hq;have tu:w2.heap[w.heap.size+1]?=some (.loop { rec0 with state:=.busy,pending:=none }):=by have:=m1.box _ _ w8;rw [wz] at this;exact this
      have tv:=Zgd (st':=if jump.isNone then .ready else .done) (pd':=jump) m1 w8;rw [wz] at tv;exact ⟨_,_,run_endRound jump tu,_,_,e2,hK,⟨_,rfl,.mkbool⟩,tv.2,l9.trans tv.1.toLater⟩
     cases pe2 with
     | normal=>obtain rfl:x2=.normal:=ca;exact fin none lh
     | ret=>obtain rfl:x2=.ret:=ca;exact fin (some .ret) lh
     | exit id=>obtain rfl:x2=.exit id:=ca;exact fin (some (.exit id)) lh
     | goto t=>obtain rfl:x2=.goto t:=ca;exact fin (some (.goto t)) lh
     | panic p=>exact lh.elim
    | exit id=>exact hq.elim
    | goto t=>exact hq.elim
    | ret=>exact hq.elim
    | panic p=>exact hq.elim
   
   obtain ⟨pe,σ3,e3,hk,hE,gm,vn⟩:=hA;have hLs:=qz.trans vn;have w9:Marks ds e3 σ3 w3 (J4 w.heap.size::a.defers):=(abr.later qd.toLater).later vn;have hβ3:e3.β σ.bx.length=w.heap.size+1:=(vn.beta _ ra).trans vj
   cases pe with
   | panic p =>
    obtain ⟨u,rfl,hr⟩:=hE;exact ⟨.panic p,_,e3,σ3,hk,⟨u,rfl,hr⟩,gm,fun i=>.undef _,hL.trans hLs,hN,w9,hZ⟩
   | ret p =>
   obtain ⟨u,rfl,hr⟩:=hE;unfold ZkA at hk
   simp only at hk;split at hk
   ·rename_i st pd r dw
    have od:w3.heap[w.heap.size+1]?=some (.loop { r with state:=st,pending:=pd }):=by have:=gm.box _ _ dw;rw [hβ3] at this;exact this
    have mr:=Zgd (st':=.exhausted) (pd':=pd) gm dw;rw [hβ3] at mr;obtain ⟨mr,hS4⟩:=mr;have fh:∀(pe:PExit) (x:Exit),Q pe (Ua f) (σ3.set σ.bx.length (.loop .exhausted pd r))->ZyJ G e3 (σ3.set σ.bx.length (.loop .exhausted pd r)) (w3.putObj (w.heap.size+1) (.loop { r with state:=.exhausted,pending:=pd })) pe x ->
      ZJ G e0 σ0 w0 ds N (Kept ks t0) Q x { a with defers:=[J4 w.heap.size]++a.defers } (w3.putObj (w.heap.size+1) (.loop { r with state:=.exhausted,pending:=pd })):=fun pe x hq hx =>
     ⟨pe,_,e3,_,hq,hx,hS4,hF.clean (hLs.trans mr.toLater),hL.trans (hLs.trans mr.toLater),hN,w9.later mr.toLater,hZ⟩
    have d7:∀(hb:st≠.busy),(Instr.endLoop (w.heap.size+1)).run G.P w3=.ok pd (w3.putObj (w.heap.size+1) (.loop { r with state:=.exhausted,pending:=pd })):=fun hb=>run_endLoop od hb
    have go:st≠.busy->ZnU σ.bx.length r (Ua f) Q σ3 pd->rangePost (fw none) n G.P (w.heap.size+1) (ZJ G e0 σ0 w0 ds N (Kept ks t0) Q) { a with defers:=[J4 w.heap.size]++a.defers } (.returned u) w3:=fun hb hq=>by
     refine ⟨pd,_,d7 hb,?_⟩;unfold ZnU at hq
     split at hq
     ·exact fh .normal .normal hq rfl
     ·exact wpIn_ret (fh .ret .ret hq rfl)
     ·rename_i id;exact wpIn_exit (fh (.exit id) (.exit id) hq rfl)
     ·rename_i t;exact wpIn_goto (fh (.goto t) (.goto t) hq rfl)
     exact hq.elim
    cases st with
    | busy=>exact hk.elim
    | ready=>exact go sM hk
    | done=>exact go sM hk
    | exhausted=>exact go sM hk
   exact hk.elim
  exact h.elim
 | _=>intro C ro e0 σ0 w0 N ds n hC hM dz _ ks t0 _ Q e σ w a f hS hF hL hN bf hZ h;exact h.elim
end
end Go.PM
end

section
namespace Go.PM
abbrev Zp:=List PV->St->(PEnd->St->Prop)->Prop
structure PCalls (G:GE) (g:FuncId) (sp:Zp):Prop where
 enters:WO G.P g
 calls:∀args σ K,sp args σ K->∀(n:Nat) (e:Env) (w:World) (vs:Array Value),SRel G e σ w->ArgsRel G e σ w args vs->CallsIn (fw none) n G.P g vs w (Y8 G e σ w K)
def Ze {P : Program} {f : FuncId} {fn : Func} {c : Code} (hf : P.funcs[f]? = some fn) (av : (fn.name == "runtime.NumGoroutine") = false) (hb : fn.body = some c) : WO P f := fun args w => by
 have h1 : fn.name ≠ "runtime.NumGoroutine" := by simpa using av
 simp [callFunc,hf,h1,hb]
section
variable {G:GE} {C:Cx} {e:Env} {σ:St} {w:World} {f:Frame} {n:Nat} {tm:Array Value}
def Zyx (tm:Array Value):ResultVar->Sem Value
 | .tmp t=>pure (tm.getD t Go.undef)
 | .cell a t=>do loadVar t (<- asAddr (tm.getD a Go.undef))
def Zge {P:Program} {t:TypeId} {v u:Value} (hv:∃a,v=.pointer (some a)) (h:(Instr.loadAt t v).run P w=.ok u w):(do loadVar t (<- asAddr v):Sem Value).run P w=.ok u w:=by
 obtain ⟨a,rfl⟩:=hv;simpa [Instr.loadAt,Instr.sureAddr,asAddr] using h
def ZaZ (hT:TabOK C.T G.P) (hS:SRel G e σ w) (hF:FRel G e σ w f tm):∀{l:List ResultVar} {K:List PV->Prop},pres C.T f σ.bx l K ->
  ∃pvs vs,K pvs/\(l.mapM (Zyx tm)).run G.P w=.ok vs w/\vs.length=pvs.length/\∀(i:Nat) (x:PV) (u:Value),pvs[i]?=some x->vs[i]?=some u->VRel G e σ w x u
 | [],K,h=>⟨[],[],h,rfl,rfl,fun i x u hx=>by simp at hx⟩
 | .tmp t::l,K,h=>by
  simp only [pres,ZO] at h;obtain ⟨pvs,vs,hK,hr,hl,hv⟩:=ZaZ hT hS hF h;refine ⟨f t::pvs,tm.getD t Go.undef::vs,hK,?_,by simp [hl],fun i x u hx hu=>?_⟩
  ·rw [List.mapM_cons];simp only [Zyx,Sem.run_bind,Sem.run_pure,Result.andThen,hr]
  cases i with
  | zero=>simp only [Sy,Option.some.injEq] at hx hu;subst hx;subst hu;exact hF t
  | succ i=>exact hv i x u (by simpa using hx) (by simpa using hu)
 | .cell a t::l,K,h=>by
  simp only [pres] at h;have abt:∃a',tm.getD a Go.undef=.pointer (some a'):=by
   have:=hF a;generalize tm.getD a Go.undef=v at this;generalize f a=x at this h
   cases this with
   | ptr b off _=>exact ⟨_,rfl⟩
   | elem r off b o u _ _ _=>exact ⟨_,rfl⟩
   | _=>exact h.elim
  obtain ⟨pv,u0,hk,lk,ah⟩:=ZeT hT hS (hF a) h;rw [ZO] at hk;obtain ⟨pvs,vs,hK,hr,hl,hv⟩:=ZaZ hT hS hF hk;refine ⟨pv::pvs,u0::vs,hK,?_,by simp [hl],fun i x u hx hu=>?_⟩
  ·rw [List.mapM_cons];have:=Zge abt ah;simp only [Zyx];rw [Sem.run_bind,this];simp only [Sem.run_bind,Sem.run_pure,Result.andThen,hr]
  cases i with
  | zero=>simp only [Sy,Option.some.injEq] at hx hu;subst hx;subst hu;exact lk
  | succ i=>exact hv i x u (by simpa using hx) (by simpa using hu)
def X9 (hT:TabOK C.T G.P) (hS:SRel G e σ w) (hF:FRel G e σ w f tm) {fn:Func} {K:List PV->Prop} (h:pres C.T f σ.bx fn.results.toList K) :
  ∃pvs v,K pvs/\(results fn tm).run G.P w=.ok v w/\VRel G e σ w (Uc pvs) v:=by
 obtain ⟨pvs,vs,hK,hr,hl,hv⟩:=ZaZ hT hS hF h;have jj:(results fn tm).run G.P w=.ok (if h:vs.toArray.size=1 then vs.toArray[0] else .tuple vs.toArray) w:=by
  have abu:results fn tm=(do let vs <- fn.results.mapM (Zyx tm);pure (if h:vs.size=1 then vs[0] else .tuple vs)):=by
   unfold results
   congr 1
  have h1:fn.results.mapM (Zyx tm)=List.toArray <$> fn.results.toList.mapM (Zyx tm):=by
   conv=>lhs;rw [show fn.results=fn.results.toList.toArray from sM]
   exact List.mapM_toArray
  rw [abu,h1,Sem.run_bind,Sem.run_map,hr];rfl
 refine ⟨pvs,_,hK,jj,?_⟩
 match pvs,vs,hl,hv with
 | [],[],_,hv=>exact .tuple [] #[] rfl (fun i x u hx=>by simp at hx)
 | [x],[u],_,hv=>exact hv 0 x u rfl rfl
 | x::y::l,u::v::m,hl,hv =>
  have:¬((u::v::m).toArray.size=1):=sM;rw [dif_neg this];exact .tuple _ _ (by simpa using hl) (fun i a b ha hb=>hv i a b ha (by simpa using hb))
def Ws {e0:Env} {σ0:St} {w0:World} {keep:Nat} {own:Bool} {pv:PV} {v:Value} {K:PV->St->Prop} (hS:SRel G e σ w) (hL:Later e0 σ0 w0 e σ w) (hk:σ0.bx.length<=keep) (hv:VRel G e σ w pv v)
  {ag:Bool} (h:J1 ag keep own pv σ K):∃pv' σ' e',K pv' σ'/\VRel G e' σ' w pv' v/\SRel G e' σ' w/\Later e0 σ0 w0 e' σ' w:=by
 unfold J1 at h
 split at h
 ·rename_i hb
  cases own with
  | true =>
   simp only at h;obtain ⟨vs',σ',e',hK,jb,hd,aa,bo⟩:=ZcW hS h
   match vs',aa,hK with
   | [y],_,hK=>exact ⟨y,σ',e',hK,bo 0 pv y v rfl rfl hv,jb,hL.drop hd hk⟩
  | false =>
  simp only at h;obtain ⟨bs,tk',as',hK,hx,hI,cm,hn,lj⟩:=W1 (as:=[]) (ZET σ.tk [] (fun t ht=>by cases ht)) h;exact ⟨clean pv,_,e.re as',hK,(NV.cl pv hb).rel hn hI cm hv,Zf7 hS hn hI cm lj,hL.drop (ZcV hn hI cm) hk⟩
 exact h.elim
def Zab {vs:Array Value}:∀(args:List PV) (i:Nat),(∀(k:Nat) (x:PV),args[k]?=some x->VRel G e σ w x (vs.getD (i+k) Go.undef))->FRel G e σ w (ZcH i args) vs
 | [],i,_=>fun j=>.undef _
 | a::args,i,h=>by
  intro j
  simp only [ZcH]
  by_cases im:i=j
  ·subst im;rw [Yt];exact h 0 a sM
  rw [Xd _ _ im];exact Zab args (i+1) (fun k x hx=>by have:=h (k+1) x (by simpa using hx);rwa [show i+(k+1)=i+1+k by omega] at this) j
def VRel.world {w':World} (hc:∀b off u,w.cell? ⟨b,off,none⟩=some u->w'.cell? ⟨b,off,none⟩=some u) (hb:∀(b:Nat) (cs:Array Value) (ty:TypeId) (fz:Nat×Nat),w.heap[b]?=some (Obj.cells cs ty fz)->w'.heap[b]?=some (Obj.cells cs ty fz)) {x:PV} {v:Value} (h:VRel G e σ w x v):VRel G e σ w' x v:=by
 have hd:∀{x:D} {v:Value},DRel (okc e σ) w x v->DRel (okc e σ) w' x v:=fun hd=>hd.mono fun b off u hu ho=>⟨ho,hc b off u hu⟩
 induction h with
 | d x v h=>exact .d _ _ (hd h)
 | undef v=>exact .undef _
 | ptr b off h=>exact .ptr b off h
 | asl b off n h=>exact .asl b off n h
 | elem r off b o u wu ho hu=>exact .elem r off b o u (fun j hj=>hc _ _ _ (wu j hj)) ho (fun j x hx=>hd (hu j x hx))
 | sl t el rows v hn n8 ht =>
  refine .sl t el rows v hn (hd n8) fun h=>?_
  rcases ht h with h1 | ⟨sz,g1,g2,g3,b,off,cap,cs,ty,fz,g4,g5,g6,g7,g8⟩
  ·exact .inl h1
  exact .inr ⟨sz,g1,g2,g3,b,off,cap,cs,ty,fz,g4,g5,g6,hb _ _ _ _ g7,g8⟩
 | nils el=>exact .nils el
 | func f a c va vc ha wu _ _ ih1 ih2=>exact .func f a c va vc ha wu ih1 ih2
 | iface t x v _ ih=>exact .iface t x v ih
 | agg cs vs hs _ h1 ih=>exact .agg cs vs hs ih h1
 | tuple cs vs hs _ ih=>exact .tuple cs vs hs ih
 | raw v=>exact .raw v
 | mp b h=>exact .mp b h
 | nilm=>exact .nilm
def ZrG {r:Nat} (hS:SRel G e σ w) (hr:w.heap[r]?=some (.deferred (some []))) (hb:(∀i,i<σ.bx.length->e.β i≠r)/\e.H r=none) (hg:G.nG<=r) :
  SRel G e σ (w.putObj r (.deferred none))/\(∀x v,VRel G e σ w x v->VRel G e σ (w.putObj r (.deferred none)) x v)/\∀(e0:Env) (σ0:St) (w0:World),Later e0 σ0 w0 e σ w->w0.heap.size<=r->Later e0 σ0 w0 e σ (w.putObj r (.deferred none)):=by
 have kc:∀k,k≠r->(w.putObj r (.deferred none)).heap[k]?=w.heap[k]?:=fun k hk=>World.putObj_heap_other hk
 have az:∀b off u,w.cell? ⟨b,off,none⟩=some u->b≠r:=fun b off u hu he=>by
  subst he;simp [World.cell?,hr] at hu
 have hc:∀b off u,w.cell? ⟨b,off,none⟩=some u->(w.putObj r (.deferred none)).cell? ⟨b,off,none⟩=some u:=fun b off u hu=>by
  have:=az b off u hu;simpa [World.cell?,kc b this] using hu
 have o7:∀(b:Nat) (cs:Array Value) (ty:TypeId) (fz:Nat×Nat),w.heap[b]?=some (Obj.cells cs ty fz)->(w.putObj r (.deferred none)).heap[b]?=some (Obj.cells cs ty fz):=fun b cs ty fz h=>by
  have:b≠r:=fun he=>by subst he;rw [hr] at h;cases h
  rw [kc b this];exact h
 have hV:∀x v,VRel G e σ w x v->VRel G e σ (w.putObj r (.deferred none)) x v:=fun x v h=>h.world hc o7
 refine ⟨?_,hV,fun e0 σ0 w0 hL lk=>?_⟩
 ·exact {
   inj:=hS.inj
   box:=fun i x hx=>by
    have hi:=(Ti.1 hx).1;have hB:=hS.box i x hx;have bu:=kc (e.β i) (hb.1 i hi)
    cases x with
    | cells t cs =>
     obtain ⟨vs,g1,g2,g3⟩:=hB;exact ⟨vs,bu.trans g1,g2,fun k y u hy hu=>⟨hV _ _ (g3 k y u hy hu).1,(g3 k y u hy hu).2⟩⟩
    | iter s p=>exact bu.trans hB
    | loop st pd r=>exact bu.trans hB
    | dmap m=>exact hB.dmapTo bu fun d v hv=>by have q:=hV _ _ (VRel.d (G:=G) d v hv);cases q;assumption
    | smap el m fo =>
     have:=hB.smapTo bu id (fun _=>rfl) (fun _=>rfl) (fun _ _ _ _ hv=>hV _ _ hv) fun b q hq _=>⟨hq,kc b fun he=>by rw [he,hb.2] at hq;cases hq⟩
     rwa [show (fo.map fun kv=>(kv.1,id kv.2))=fo by cases fo <;> rfl] at this
    | map cs bn ck=>exact hB.mapTo bu rfl fun i x y hx hy=>by rw [hx] at hy;cases hy;exact ⟨fun v hv=>hV _ _ hv,fun d hd=>hd⟩
   low:=hS.low
   tkn:=hS.tkn
   own:=fun t ht p hp=>by
    obtain ⟨q1,q2,cs,ty,fz,q3⟩:=hS.own t ht p hp;exact ⟨q1,q2,cs,ty,fz,o7 _ _ _ _ q3⟩
   dis:=hS.dis
   xlt:=fun b off hx=>by rw [World.putObj_size];exact hS.xlt b off hx
   hid:=fun b q hq=>by rw [World.putObj_size];exact hS.hid b q hq
   xown:=hS.xown
   glob:=fun b zt=>(kc b oM).trans (hS.glob b zt)
   big:=by rw [World.putObj_size];exact hS.big }
 exact {
  len:=hL.len
  beta:=hL.beta
  X:=hL.X
  pres:=fun b off u hu ho=>let ⟨h1,h2⟩:=hL.pres b off u hu ho;⟨h1,hc b off u h2⟩
  blocks:=fun b ab hn ht hh=>(kc b oM).trans (hL.blocks b ab hn ht hh)
  fhid:=hL.fhid
  size:=by rw [World.putObj_size];exact hL.size
  os:=hL.os
  tape:=hL.tape
  output:=hL.output
  fresh:=hL.fresh
  ftok:=hL.ftok }
def Uk {fn:Func} {R:Ending->World->Prop} {u:FrameMode} {e0:Env} {σ0:St} {w0:World} (hu:u≠.run):∀(rs:List Nat) {w:World},rs.Nodup->(∀r,r∈rs->w0.heap.size<=r/\w.heap[r]?=some (.deferred (some []))/\(∀i,i<σ.bx.length->e.β i≠r)/\e.H r=none) ->
  G.nG<=w0.heap.size->SRel G e σ w->FRel G e σ w f tm->Later e0 σ0 w0 e σ w->(∀pv v,VRel G e σ w pv v->∀w',SRel G e σ w'->FRel G e σ w' f tm->Later e0 σ0 w0 e σ w'->VRel G e σ w' pv v->True) ->
  (∀w',(∀x v,VRel G e σ w x v->VRel G e σ w' x v)->SRel G e σ w'->FRel G e σ w' f tm->Later e0 σ0 w0 e σ w'->LeavesIn (fw none) n G.P fn tm R [] u w')->LeavesInM (fw none) n G.P fn tm R (rs.map J4) u w
 | [],w,_,_,_,hS,hF,hL,_,d7=>by
  simp only [TM,LeavesInM];exact d7 w (fun _ _ h=>h) hS hF hL
 | r::rs,w,f8,ny,hG,hS,hF,hL,_,d7=>by
  obtain ⟨h1,h2,h3⟩:=ny r sM;obtain ⟨jb,hV,ir⟩:=ZrG hS h2 h3 (TZ hG h1);simp only [Tx,LeavesInM];refine ⟨hu,.inl ⟨r,_,rfl,run_takeDeferred h2,?_⟩⟩;refine Uk hu rs (List.nodup_cons.1 f8).2 (fun q hq=>?_) hG jb (fun i=>hV _ _ (hF i)) (ir _ _ _ hL h1) (fun _ _ _ _ _ _ _ _=>trivial) (fun w' hV'=>d7 w' fun x v h=>hV' x v (hV x v h));obtain ⟨g1,g2,g3⟩:=ny q (Tz _ hq);have ai:q≠r:=fun e=>(List.nodup_cons.1 f8).1 (e ▸ hq)
  exact ⟨g1,(World.putObj_heap_other ai).trans g2,g3⟩
def Zc4 (be:G.P.follows .mixedOrders=true) {g:FuncId} {fn:Func} {c:Code} (hC:CxOK G C none e σ w) (hM:CxMono C.calm) (hf:G.P.funcs[g]?=some fn) (hb:fn.body=some c) (ax:ZA fn.ntmps c=true)
  {args:List PV} {Q:PQ} {K:PEnd->St->Prop} (aa:args.length<=fn.ntmps) (h:W C c Q (ZcH 0 args) σ)
  (hQ:∀(pe:PExit) (f:Frame) (σ':St),Q pe f σ'->match pe with
   | .normal | .ret=>pres C.T f σ'.bx fn.results.toList fun vs=>∀(e':Env) (w':World) (v:Value),SRel G e' σ' w'->VRel G e' σ' w' (Uc vs) v->Later e σ w e' σ' w'->Y8 G e σ w K (.returned v) w'
   | .panic p=>∀(e':Env) (w':World) (v:Value),SRel G e' σ' w'->VRel G e' σ' w' p v->Later e σ w e' σ' w'->Y8 G e σ w K (.panicked [{ v:=v,recovered:=false }]) w'
   | _=>False)
  {vs:Array Value} (hS:SRel G e σ w) (af:ArgsRel G e σ w args vs):CallsIn (fw none) n G.P g vs w (Y8 G e σ w K):=by
 have hsz:vs.size=args.length:=af.1;have hF:FRel G e σ w (ZcH 0 args) (vs++Array.replicate (fn.ntmps - vs.size) undef):=Zab args 0 fun k x hx=>by
  exact mq35
 have hw:=Zc3 (n:=n) (ro:=none) (ds:=(w.heap.size,[],false)) be c hC hM (fun h=>by cases h) ax [] #[] (Y2 c) _ (a:={ tmps:=vs++Array.replicate (fn.ntmps - vs.size) undef,defers:=[] }) hS hF (Later.refl e σ w) sO (Marks.nil e σ (Tr _)) (fun i hi=>by cases hi) h;refine callsIn_of_wp_marks hf hb trivial (wpIn_mono hw fun x a' w' hp=>?_);obtain ⟨pe,f',e',σ',hq,hx,h1,h2,h3,h4,⟨_,rs,h5,_,h5n,h5r⟩,h6⟩:=hp;have h5:a'.defers=rs.map J4:=by rw [h5];exact T1 _
 have ib:=hQ pe f' σ' hq;have ny:∀r,r∈rs->w.heap.size<=r/\w'.heap[r]?=some (.deferred (some []))/\(∀i,i<σ'.bx.length->e'.β i≠r)/\e'.H r=none:=fun r hr=>let ⟨g1,g2,g3,_,g4⟩:=h5r r hr;⟨g1,g2,g3,g4⟩
 have ends:∀(ib:pres C.T f' σ'.bx fn.results.toList fun vs=>∀(e':Env) (w':World) (v:Value),SRel G e' σ' w'->VRel G e' σ' w' (Uc vs) v->Later e σ w e' σ' w'->Y8 G e σ w K (.returned v) w'),LeavesInM (fw none) n G.P fn a'.tmps (Y8 G e σ w K) a'.defers .returning w':=fun ib=>by
  rw [h5];refine Uk sM rs h5n ny hS.big h1 h2 h3 (fun _ _ _ _ _ _ _ _=>trivial) fun w2 _ k1 k2 k3=>?_
  obtain ⟨pvs,v,hl,hr,hv⟩:=X9 hC.tab k1 k2 ib;exact ⟨v,hr,hl e' w2 v k1 hv k3⟩
 cases pe with
 | normal=>obtain rfl:x=.normal:=hx;exact ends ib
 | ret=>obtain rfl:x=.ret:=hx;exact ends ib
 | panic p =>
  obtain ⟨v,rfl,hv⟩:=hx;show LeavesInM (fw none) n G.P fn a'.tmps (Y8 G e σ w K) a'.defers (.panicking _) w';rw [h5];refine Uk sM rs h5n ny hS.big h1 h2 h3 (fun _ _ _ _ _ _ _ _=>trivial) fun w2 hV k1 k2 k3=>?_
  exact ib e' w2 v k1 (hV _ _ hv) k3
 | exit id=>exact ib.elim
 | goto l=>exact ib.elim
def ZbG (be:G.P.follows .mixedOrders=true) {g:FuncId} {fn:Func} {c:Code} (hC:CxOK G C none e σ w) (hM:CxMono C.calm) (hf:G.P.funcs[g]?=some fn) (hb:fn.body=some c) (ax:ZA fn.ntmps c=true)
  {ag:Bool} {keep:Nat} {own:Bool} {args:List PV} {R:PEnd->St->Prop} (hk:σ.bx.length<=keep) (aa:args.length<=fn.ntmps) (h:WFG ag C fn keep own args σ R) {vs:Array Value} (hS:SRel G e σ w) (af:ArgsRel G e σ w args vs) :
  CallsIn (fw none) n G.P g vs w (Y8 G e σ w R):=by
 have xa:YW fn=c:=by simp [YW,hb]
 unfold WFG at h
 rw [xa] at h;have presM:∀{T:Tab} {f:Frame} {bx:List Box} {l:List ResultVar} {K K':List PV->Prop},(∀vs,K vs->K' vs)->pres T f bx l K->pres T f bx l K':=by
  intro T f bx l
  induction l with
  | nil=>exact fun hK h=>hK _ h
  | cons r l ih =>
  intro K K' hK h
  exact mq76
 refine Zc4 be hC hM hf hb ax aa h (fun pe f' σ' hq=>?_) hS af;have fin:∀{pv:PV} {p:PV->PEnd} {en:Value->Ending},(∀(pv:PV) (e:Env) (σ:St) (w:World) v,VRel G e σ w pv v->Zoa G e σ w (p pv) (en v))->(J1 ag keep own pv σ' fun v σ''=>R (p v) σ'')->∀(e':Env) (w':World) (v:Value),SRel G e' σ' w'->VRel G e' σ' w' pv v->Later e σ w e' σ' w'->Y8 G e σ w R (en v) w':=fun {pv p en} hpe hl e' w' v jb hv hL=>by
  obtain ⟨pv',σ'',e'',hK,t7,abv,abw⟩:=Ws jb hL hk hv hl;exact ⟨p pv',σ'',e'',hK,hpe _ _ _ _ _ t7,abv,abw⟩
 cases pe with
 | normal=>exact presM (fun vs hl=>fin (p:=.ret) (en:=.returned) (fun _ _ _ _ v h=>⟨v,rfl,h⟩) hl) hq
 | ret=>exact presM (fun vs hl=>fin (p:=.ret) (en:=.returned) (fun _ _ _ _ v h=>⟨v,rfl,h⟩) hl) hq
 | panic p=>exact fin (p:=.panic) (en:=fun v=>.panicked [{ v:=v,recovered:=false }]) (fun _ _ _ _ v h=>⟨v,rfl,h⟩) hq
 | exit id=>exact hq.elim
 | goto l=>exact hq.elim
end
end Go.PM
end

section
namespace Go.PM
mutual
def ZuQ:PV->List Nat->List Nat
 | .ptr b _,acc=>match Zeh b acc with | true=>acc | false=>acc++[b]
 | .asl b _ _,acc=>match Zeh b acc with | true=>acc | false=>acc++[b]
 | .mp b,acc=>match Zeh b acc with | true=>acc | false=>acc++[b]
 | .func _ a c,acc=>Za0 c (Za0 a acc)
 | .iface _ v,acc=>ZuQ v acc
 | .agg cs,acc=>Za0 cs acc
 | .tuple vs,acc=>Za0 vs acc
 | _,acc=>acc
def Za0:List PV->List Nat->List Nat
 | [],acc=>acc
 | v::l,acc=>Za0 l (ZuQ v acc)
end
def Zac (bx:List Box):Nat->Nat->List Nat->List Nat
 | 0,_,acc=>acc
 | n+1,i,acc=>match acc[i]? with
  | none=>acc
  | some b=>match bx[b]? with
   | some (.cells _ cs)=>Zac bx n (i+1) (Za0 cs acc)
   | some (.map cs _ _)=>Zac bx n (i+1) (Za0 cs acc)
   | _=>Zac bx n (i+1) acc
def Zmv:List PV->List Nat->(List Nat->Prop)->Prop
 | [],acc,K=>K acc
 | v::l,acc,K=>ZcC (ZuQ v acc) fun acc=>Zmv l acc K
def Ze4 (bx:List Box):Nat->Nat->List Nat->(List Nat->Prop)->Prop
 | 0,_,acc,K=>K acc
 | n+1,i,acc,K=>match acc[i]? with
  | none=>K acc
  | some b=>match bx[b]? with
   | some (.cells _ cs)=>Zmv cs acc fun acc=>Ze4 bx n (i+1) acc K
   | some (.map cs _ _)=>Zmv cs acc fun acc=>Ze4 bx n (i+1) acc K
   | _=>Ze4 bx n (i+1) acc K
def Zad {K:List Nat->Prop}:∀(l:List PV) (acc:List Nat),Zmv l acc K=K (Za0 l acc)
 | [],_=>rfl
 | v::l,acc=>by simp only [Zmv,Za0,Wp,Zad l]
def Zae {bx:List Box} {K:List Nat->Prop}:∀(n i:Nat) (acc:List Nat),Ze4 bx n i acc K=K (Zac bx n i acc)
 | 0,_,_=>rfl
 | n+1,i,acc=>by
  unfold Ze4 Zac
  split
  ·rfl
  split <;> simp only [Zad,Zae n]
def Zc5 (b:Nat):List Nat->Nat->Option Nat
 | [],_=>none
 | x::l,i=>match Nat.beq x b with | true=>some i | false=>Zc5 b l (i+1)
def ZhJ:List Nat->Bool
 | []=>true
 | x::l=>match Zeh x l with | true=>false | false=>ZhJ l
mutual
def ZrH (bs:List Nat):PV->PV
 | .ptr b o=>match Zc5 b bs 0 with | some i=>.ptr i o | none=>.undef
 | .asl b o n=>match Zc5 b bs 0 with | some i=>.asl i o n | none=>.undef
 | .func f a c=>.func f (Zgf bs a) (Zgf bs c)
 | .iface t v=>.iface t (ZrH bs v)
 | .agg cs=>.agg (Zgf bs cs)
 | .tuple vs=>.tuple (Zgf bs vs)
 | .d x=>.d x
 | .undef=>.undef
 | .elem r o=>.elem r o
 | .sl t e rows=>.sl t e rows
 | .nils e=>.nils e
 | .raw v=>.raw v
 | .mp b=>match Zc5 b bs 0 with | some i=>.mp i | none=>.undef
 | .nilm=>.nilm
def Zgf (bs:List Nat):List PV->List PV
 | []=>[]
 | v::l=>ZrH bs v::Zgf bs l
end
def Zmw (bs:List Nat) (bx:List Box):List Nat->(List Box->Prop)->Prop
 | [],K=>K []
 | b::l,K=>match bx[b]? with
  | some (.cells t cs)=>Zmw bs bx l fun r=>K (.cells t (Zgf bs cs)::r)
  | some (.iter s p)=>Zmw bs bx l fun r=>K (.iter s p::r)
  | some (.map cs bn ck)=>Zmw bs bx l fun r=>K (.map (Zgf bs cs) bn ck::r)
  | some (.dmap m)=>Zmw bs bx l fun r=>K (.dmap m::r)
  | some (.smap el m none)=>Zmw bs bx l fun r=>K (.smap el m none::r)
  | some (.smap _ _ (some _))=>False
  | some (.loop _ _ _)=>False
  | none=>False
mutual
def Zc6 (bs:List Nat) (m L nx:Nat):PV->PV
 | .ptr i o=>match bs[i]? with | some b=>.ptr b o | none=>.ptr (L+(i - m)) o
 | .asl i o n=>match bs[i]? with | some b=>.asl b o n | none=>.asl (L+(i - m)) o n
 | .sl t e rows=>.sl (nx+t) e rows
 | .func f a c=>.func f (Za1 bs m L nx a) (Za1 bs m L nx c)
 | .iface t v=>.iface t (Zc6 bs m L nx v)
 | .agg cs=>.agg (Za1 bs m L nx cs)
 | .tuple vs=>.tuple (Za1 bs m L nx vs)
 | .d x=>.d x
 | .undef=>.undef
 | .elem r o=>.elem r o
 | .nils e=>.nils e
 | .raw v=>.raw v
 | .mp i=>match bs[i]? with | some b=>.mp b | none=>.mp (L+(i - m))
 | .nilm=>.nilm
def Za1 (bs:List Nat) (m L nx:Nat):List PV->List PV
 | []=>[]
 | v::l=>Zc6 bs m L nx v::Za1 bs m L nx l
end
def Za2 (bs:List Nat) (m L nx:Nat):Box->Box
 | .cells t cs=>.cells t (Za1 bs m L nx cs)
 | .iter s p=>.iter s p
 | .loop st pd r=>.loop st pd r
 | .map cs bn ck=>.map (Za1 bs m L nx cs) bn ck
 | .dmap c=>.dmap c
 | .smap el c fo=>.smap el c (fo.map fun kv=>(kv.1,Zc6 bs m L nx kv.2))
def Zel (bb:Box->Box):List Nat->List Box->List Box->(List Box->Prop)->Prop
 | [],xs,acc,K=>K (acc++xs.map bb)
 | b::l,x::xs,acc,K=>Zel bb l xs (acc.set b (bb x)) K
 | _::_,[],_,_=>False
def ZrI (bs:List Nat) (m L nx:Nat):PEnd->PEnd
 | .ret v=>.ret (Zc6 bs m L nx v)
 | .panic v=>.panic (Zc6 bs m L nx v)
def VF (md:Nat) (sp:Zp) (args:List PV) (σ:St) (K:PEnd->St->Prop):Prop :=
 Zmv args [] fun a=>Ze4 σ.bx (σ.bx.length+1) 0 a fun bs=>ZcC bs fun bs=>match ZhJ bs with
 | true=>Zmw bs σ.bx bs fun cb=>ZnR md bs.length (Zgf bs args) σ.tk 0 fun args' tk k=>ZcF bs.length bs.length cb tk k fun cb' rest k =>
   sp args' ⟨cb',toks k,k⟩ fun pe σ3=>Zel (Za2 bs bs.length σ.bx.length σ.nx) bs σ3.bx σ.bx fun bx =>
    K (ZrI bs bs.length σ.bx.length σ.nx pe) ⟨bx,rest++σ3.tk.map (σ.nx+·),σ.nx+σ3.nx⟩
 | false=>False
abbrev Zjr (sp:Zp) (args:List PV) (σ:St) (K:PEnd->St->Prop):Prop:=VF 0 sp args σ K
def Zc7:∀{l:List Nat},ZhJ l=true->∀(i j b:Nat),l[i]?=some b->l[j]?=some b->i=j
 | [],_,i,j,b,h,_=>by simp at h
 | x::l,h,i,j,b,hi,hj=>by
  simp only [ZhJ] at h;split at h
  ·cases h
  rename_i hm
  have hx:∀k:Nat,l[k]?≠some x:=fun k hk=>by
   have:=(Yo x l).2 (TT hk);rw [this] at hm;cases hm
  cases i with
  | zero =>
   cases j with
   | zero=>rfl
   | succ j=>simp at hi hj;subst hi;exact absurd hj (hx j)
  | succ i =>
  cases j with
  | zero=>simp at hi hj;subst hj;exact absurd hi (hx i)
  | succ j=>simp at hi hj;rw [Zc7 h i j b hi hj]
def Ze5 {b:Nat}:∀{l:List Nat} {i j:Nat},Zc5 b l i=some j->i<=j/\l[j - i]?=some b
 | [],i,j,h=>by simp [Zc5] at h
 | x::l,i,j,h=>by
  simp only [Zc5] at h;split at h
  ·rename_i hb;cases h;simp [Tk hb]
  obtain ⟨h1,h2⟩:=Ze5 h;refine ⟨oM,?_⟩;rw [show j - i=(j - (i+1))+1 by omega];simpa using h2
def WQ {bs:List Nat}:∀{l:List PV} (i:Nat) (y:PV),(Zgf bs l)[i]?=some y->∃x,l[i]?=some x/\y=ZrH bs x
 | [],i,y,h=>by simp [Zgf] at h
 | x::l,i,y,h=>by
  cases i with
  | zero=>simp [Zgf] at h;exact ⟨x,sM,h.symm⟩
  | succ i=>simp only [Zgf,TP] at h;obtain ⟨z,h1,h2⟩:=WQ i y h;exact ⟨z,by simpa using h1,h2⟩
def Yz {bs:List Nat}:∀{l:List PV},(Zgf bs l).length=l.length
 | []=>rfl
 | x::l=>by simp [Zgf,Yz]
def Wt {bs:List Nat} {m L nx:Nat}:∀{l:List PV} (i:Nat) (y:PV),(Za1 bs m L nx l)[i]?=some y->∃x,l[i]?=some x/\y=Zc6 bs m L nx x
 | [],i,y,h=>by simp [Za1] at h
 | x::l,i,y,h=>by
  cases i with
  | zero=>simp [Za1] at h;exact ⟨x,sM,h.symm⟩
  | succ i=>simp only [Za1,TP] at h;obtain ⟨z,h1,h2⟩:=Wt i y h;exact ⟨z,by simpa using h1,h2⟩
def YA {bs:List Nat} {m L nx:Nat}:∀{l:List PV},(Za1 bs m L nx l).length=l.length
 | []=>rfl
 | x::l=>by simp [Za1,YA]
def ZtX (bs:List Nat):Box->Box
 | .cells t cs=>.cells t (Zgf bs cs)
 | .iter s p=>.iter s p
 | .loop st pd r=>.loop st pd r
 | .map cs bn ck=>.map (Zgf bs cs) bn ck
 | .dmap m=>.dmap m
 | .smap el m fo=>.smap el m (fo.map fun kv=>(kv.1,ZrH bs kv.2))
def Zoz {bs:List Nat} {bx:List Box}:∀{l:List Nat} {K:List Box->Prop},Zmw bs bx l K->∃cb,K cb/\cb.length=l.length/\∀(j b:Nat),l[j]?=some b->∃x,bx[b]?=some x/\cb[j]?=some (ZtX bs x)
 | [],K,h=>⟨[],h,rfl,fun j b hj=>by simp at hj⟩
 | b::l,K,h=>by
  simp only [Zmw] at h;split at h
  all_goals first
   | exact h.elim
   | (rename_i hb
      obtain ⟨cb,h1,h2,h3⟩:=Zoz h;refine ⟨_,h1,by simp [h2],fun j b' hj=>?_⟩
      cases j with
      | zero=>simp at hj;subst hj;exact ⟨_,hb,rfl⟩
      | succ j=>exact h3 j b' (by simpa using hj))
def ZkM {bb:Box->Box}:∀{bs:List Nat} {xs acc:List Box} {K:List Box->Prop},(∀(i j b:Nat),bs[i]?=some b->bs[j]?=some b->i=j)->(∀b,b∈bs->b<acc.length)->Zel bb bs xs acc K ->
  ∃r,K r/\bs.length<=xs.length/\r.length=acc.length+(xs.length - bs.length)/\(∀(j b:Nat) (x:Box),bs[j]?=some b->xs[j]?=some x->r[b]?=some (bb x))/\(∀i,i<acc.length->i∉bs->r[i]?=acc[i]?) /\
   ∀i,acc.length<=i->r[i]?=xs[bs.length+(i - acc.length)]?.map bb
 | [],xs,acc,K,hn,hl,h=>⟨_,h,sM,sM,fun j b x hj=>by simp at hj,fun i hi _=>by rw [TN hi],fun i hi=>by rw [TW hi,Th];simp⟩
 | b::bs,x::xs,acc,K,hn,hl,h=>by
  simp only [Zel] at h;have ab:b<acc.length:=hl b sM;obtain ⟨r,h1,h2,h3,h4,h5,h6⟩:=ZkM (bs:=bs) (fun i j c hi hj=>by have:=hn (i+1) (j+1) c (by simpa using hi) (by simpa using hj);omega) (fun c hc=>by rw [SB];exact hl c (Tz _ hc)) h;have pq:b∉bs:=fun hm=>by
   obtain ⟨k,hk,zk⟩:=T9 hm;have:=hn 0 (k+1) b sM (by simp [Tb hk,zk]);omega
  refine ⟨r,h1,sO,by rw [h3,SB];simp,fun j c y hj hy=>?_,fun i hi t8=>?_,fun i hi=>?_⟩
  ·cases j with
   | zero =>
    simp only [Sy,Option.some.injEq] at hj hy;subst hj;subst hy;rw [h5 b (by rw [SB];exact ab) pq,SA ab]
   | succ j=>exact h4 j c y (by simpa using hj) (by simpa using hy)
  ·have qw:b≠i:=fun e=>t8 (e ▸ by simp)
   rw [h5 i (by rw [SB];exact hi) (fun hm=>t8 (Tz _ hm)),SH qw]
  rw [h6 i (by rw [SB];exact hi),SB,Te,show bs.length+1+(i - acc.length)=bs.length+(i - acc.length)+1 by omega,TP]
 | b::bs,[],acc,K,hn,hl,h=>h.elim
section
variable {G:GE} {e:Env} {σ:St} {w:World}
def Zgg (e:Env) (σ:St) (bs rest:List Nat) (b off:Nat):Prop :=
 e.X b off\/(∃i,i<σ.bx.length/\i∉bs/\e.β i=b)\/(∃t,t∈rest/\∃p,e.M t=some p/\p.1=b/\p.2<=off)\/∃q,e.H b=some q/\q.2<=off/\∀i,i∈bs->e.β i≠q.1.1
open Classical in
def Zmx (e:Env) (bs:List Nat) (b:Nat):Option ((Nat×List UInt8)×Nat):=match e.H b with
 | none=>none
 | some q=>if ∃i,i∈bs/\e.β i=q.1.1 then some q else none
def handH_iff {e:Env} {bs:List Nat} {b:Nat} {q:(Nat×List UInt8)×Nat}:Zmx e bs b=some q↔e.H b=some q/\∃i,i∈bs/\e.β i=q.1.1:=by
 unfold Zmx
 cases h:e.H b with
 | none=>simp
 | some r =>
 simp only;split
 ·rename_i hx
  constructor
  ·intro g;cases g;exact ⟨rfl,hx⟩
  rintro ⟨g,_⟩;exact g
 rename_i hx
 constructor
 ·intro g;cases g
 rintro ⟨g,g2⟩;cases g;exact absurd g2 hx
def Env.handed (e:Env) (σ:St) (bs rest:List Nat):Env:=⟨fun j=>e.β (bs.getD j 0),e.M,Zgg e σ bs rest,Zmx e bs⟩
structure Hand (σ:St) (bs rest pass:List Nat) (cb:List Box):Prop where
 nodup:∀(i j b:Nat),bs[i]?=some b->bs[j]?=some b->i=j
 len:cb.length=bs.length
 get:∀(j b:Nat),bs[j]?=some b->∃x,σ.bx[b]?=some x/\cb[j]?=some (ZtX bs x)
 restIn:∀t,t∈rest->t∈σ.tk
 passIn:∀t,t∈pass->t∈σ.tk/\t∉rest
variable {bs rest pass:List Nat} {cb:List Box}
def Hand.lt (h:Hand σ bs rest pass cb) {b:Nat} (hb:b∈bs):b<σ.bx.length:=by
 obtain ⟨k,hk,he⟩:=T9 hb;obtain ⟨x,hx,_⟩:=h.get k b (by rw [Tb hk,he]);exact (Ti.1 hx).1
def Hand.at (h:Hand σ bs rest pass cb) {j:Nat} (hj:j<bs.length):∃b,bs[j]?=some b/\b∈bs/\(e.handed σ bs rest).β j=e.β b:=by
 have:=Tb hj;exact ⟨bs[j],this,TE hj,by simp [Env.handed,this]⟩
def ZoA (hS:SRel G e σ w) (h:Hand σ bs rest pass cb) {b off:Nat} (ho:okc e σ b off):okc (e.handed σ bs rest) ⟨cb,pass,σ.nx⟩ b off:=by
 refine ⟨fun hX=>?_,fun j hj=>?_,fun t ht p hp su=>ho.2.2.1 t (h.passIn t ht).1 p hp su,fun q hq=>ho.2.2.2 q (handH_iff.1 hq).1⟩
 ·rcases hX with hX | ⟨i,h1,_,h2⟩ | ⟨t,h1,p,h2,h3,h4⟩ | ⟨q,h1,h2,_⟩
  ·exact ho.1 hX
  ·exact ho.2.1 i h1 h2
  ·have:=ho.2.2.1 t (h.restIn t h1) p h2 h3;omega
  have:=ho.2.2.2 q h1;omega
 obtain ⟨b',h1,h2,h3⟩:=h.at (e:=e) (show j<bs.length by rw [<- h.len];exact hj);rw [h3];exact ho.2.1 b' (h.lt h2)
def VRel.ren (hS:SRel G e σ w) (h:Hand σ bs rest pass cb) {x:PV} {v:Value} (hv:VRel G e σ w x v):VRel G (e.handed σ bs rest) ⟨cb,pass,σ.nx⟩ w (ZrH bs x) v:=by
 have hd:∀{x:D} {v:Value},DRel (okc e σ) w x v->DRel (okc (e.handed σ bs rest) ⟨cb,pass,σ.nx⟩) w x v:=fun hd=>hd.mono fun b off u hu ho=>⟨ZoA hS h ho,hu⟩
 have at':∀b i,Zc5 b bs 0=some i->(e.handed σ bs rest).β i=e.β b/\i<cb.length:=fun b i hi=>by
  obtain ⟨_,h2⟩:=Ze5 hi;simp only [Nat.sub_zero] at h2;exact ⟨by simp [Env.handed,h2],by rw [h.len];exact (Ti.1 h2).1⟩
 induction hv with
 | d x v hx=>exact .d _ _ (hd hx)
 | undef v=>exact .undef _
 | ptr b off hb =>
  simp only [ZrH]
  cases hi:Zc5 b bs 0 with
  | none=>exact .undef _
  | some i =>
  obtain ⟨h1,h2⟩:=at' b i hi;rw [<- h1];exact .ptr i off h2
 | asl b off n hb =>
  simp only [ZrH]
  cases hi:Zc5 b bs 0 with
  | none=>exact .undef _
  | some i =>
  obtain ⟨h1,h2⟩:=at' b i hi;rw [<- h1];exact .asl i off n h2
 | mp b hb =>
  simp only [ZrH]
  cases hi:Zc5 b bs 0 with
  | none=>exact .undef _
  | some i =>
  obtain ⟨h1,h2⟩:=at' b i hi;rw [<- h1];exact .mp i h2
 | nilm=>exact .nilm
 | elem r off b o u hc ho hu=>exact .elem r off b o u hc (fun j hj=>ZoA hS h (ho j hj)) (fun j x hx=>hd (hu j x hx))
 | sl t el rows v hn n8 ht=>exact .sl t el rows v hn (hd n8) fun hp=>ht (h.passIn t hp).1
 | nils el=>exact .nils el
 | func f a c va vc ha hc _ _ ih1 ih2 =>
  refine .func f _ _ va vc (by rw [Yz];exact ha) (by rw [Yz];exact hc) (fun i y u hy hu=>?_) (fun i y u hy hu=>?_)
  ·obtain ⟨x,hx,rfl⟩:=WQ i y hy;exact ih1 i x u hx hu
  obtain ⟨x,hx,rfl⟩:=WQ i y hy;exact ih2 i x u hx hu
 | iface t x v _ ih=>exact .iface t _ v ih
 | agg cs vs hs _ h1 ih=>exact .agg _ vs (by rw [Yz];exact hs) (fun i y u hy hu=>by obtain ⟨x,hx,rfl⟩:=WQ i y hy;exact ih i x u hx hu) h1
 | tuple cs vs hs _ ih=>exact .tuple _ vs (by rw [Yz];exact hs) (fun i y u hy hu=>by obtain ⟨x,hx,rfl⟩:=WQ i y hy;exact ih i x u hx hu)
 | raw v=>exact .raw _
def SRel.ren (hS:SRel G e σ w) (h:Hand σ bs rest pass cb):SRel G (e.handed σ bs rest) ⟨cb,pass,σ.nx⟩ w where
 inj:=fun i j hi hj he=>by
  obtain ⟨b,h1,h2,h3⟩:=h.at (e:=e) (show i<bs.length by rw [<- h.len];exact hi);obtain ⟨b',nv,dl,ef⟩:=h.at (e:=e) (show j<bs.length by rw [<- h.len];exact hj);rw [h3,ef] at he;have:=hS.inj b b' (h.lt h2) (h.lt dl) he;subst this;exact h.nodup i j b h1 nv
 box:=fun j y hy=>by
  have hj:=(Ti.1 hy).1;obtain ⟨b,h1,h2,h3⟩:=h.at (e:=e) (show j<bs.length by rw [<- h.len];exact hj);obtain ⟨x,hx,zg⟩:=h.get j b h1;simp only at hy;rw [zg] at hy
  cases hy
  have hB:=hS.box b x hx;rw [h3]
  cases x with
  | cells t cs =>
   obtain ⟨vs,g1,g2,g3⟩:=hB;refine ⟨vs,g1,by rw [Yz];exact g2,fun i y u hy hu=>?_⟩;obtain ⟨z,hz,rfl⟩:=WQ i y hy;exact ⟨(g3 i z u hz hu).1.ren hS h,(g3 i z u hz hu).2⟩
  | iter s p=>exact hB
  | loop st pd r=>exact hB
  | dmap m=>exact hB.dmapTo rfl fun d v hv=>by have q:VRel G _ _ _ (.d d) v:=(VRel.d (G:=G) d v hv).ren hS h;cases q;assumption
  | smap el m fo=>exact hB.smapTo rfl (ZrH bs) (fun _=>rfl) (fun _=>rfl) (fun _ _ _ _ hv=>hv.ren hS h) fun b' q hq nf=>⟨handH_iff.2 ⟨hq,b,h2,nf.symm⟩,rfl⟩
  | map cs bn ck=>exact hB.mapTo rfl Yz fun i x y hx hy=>by obtain ⟨z,hz,rfl⟩:=WQ i y hy;rw [hx] at hz;cases hz;exact ⟨fun v hv=>hv.ren hS h,fun d hd=>by subst hd;rfl⟩
 low:=fun j hj=>by
  obtain ⟨b,h1,h2,h3⟩:=h.at (e:=e) (show j<bs.length by rw [<- h.len];exact hj);rw [h3];exact hS.low b (h.lt h2)
 tkn:=fun t ht=>hS.tkn t (h.passIn t ht).1
 own:=fun t ht p hp=>by
  obtain ⟨h1,h2,h3⟩:=hS.own t (h.passIn t ht).1 p hp;refine ⟨h1,fun j hj=>?_,h3⟩;obtain ⟨b,g1,g2,g3⟩:=h.at (e:=e) (show j<bs.length by rw [<- h.len];exact hj);rw [g3];exact h2 b (h.lt g2)
 dis:=fun t t' ht kl=>hS.dis t t' (h.passIn t ht).1 (h.passIn t' kl).1
 xlt:=fun b off hX=>by
  rcases hX with hX | ⟨i,h1,_,h2⟩ | ⟨t,h1,p,h2,h3,h4⟩ | ⟨q,h1,_⟩
  ·exact hS.xlt b off hX
  ·rw [<- h2];exact hS.lt h1
  ·obtain ⟨_,_,cs,ty,fz,hh⟩:=hS.own t (h.restIn t h1) p h2;rw [<- h3];exact (Tp.1 hh).1
  exact (hS.hid _ _ h1).2.1
 xown:=fun t ht p hp off gu hX=>by
  rcases hX with hX | ⟨i,h1,_,h2⟩ | ⟨t',h1,p',h2,h3,h4⟩ | ⟨q,h1,_⟩
  ·exact hS.xown t (h.passIn t ht).1 p hp off gu hX
  ·exact (hS.own t (h.passIn t ht).1 p hp).2.1 i h1 h2
  ·exact hS.dis t' t (h.restIn t' h1) (h.passIn t ht).1 (fun e=>(h.passIn t ht).2 (e ▸ h1)) p' p h2 hp h3
  exact (hS.hid _ _ h1).2.2.2.1 t (h.passIn t ht).1 p hp rfl
 hid:=fun b q hq=>by
  obtain ⟨g0,i0,gi,gb⟩:=handH_iff.1 hq;obtain ⟨k1,k2,k3,k4,k5⟩:=hS.hid b q g0;refine ⟨k1,k2,fun j hj=>?_,fun t ht=>k4 t (h.passIn t ht).1,fun off gu hX=>?_⟩
  ·obtain ⟨b',g1,g2,g3⟩:=h.at (e:=e) (show j<bs.length by rw [<- h.len];exact hj);rw [g3];exact k3 b' (h.lt g2)
  rcases hX with hX | ⟨i,h1,_,h2⟩ | ⟨t',h1,p',h2,h3,h4⟩ | ⟨q',h1,_,h3⟩
  ·exact k5 off gu hX
  ·exact k3 i h1 h2
  ·exact k4 t' (h.restIn t' h1) p' h2 h3
  rw [g0] at h1;cases h1;exact h3 i0 gi gb
 glob:=hS.glob
 big:=hS.big
open Classical in
def ZhK (e:Env) (bs:List Nat) (e3:Env) (b:Nat):Option ((Nat×List UInt8)×Nat):=match e3.H b with
 | some q=>some q
 | none=>match e.H b with
  | none=>none
  | some q=>if ∃i,i∈bs/\e.β i=q.1.1 then none else some q
def Za3 {e:Env} {bs:List Nat} {e3:Env} {b:Nat} {q:(Nat×List UInt8)×Nat} (h:ZhK e bs e3 b=some q):e3.H b=some q\/(e3.H b=none/\e.H b=some q/\∀i,i∈bs->e.β i≠q.1.1):=by
 unfold ZhK at h
 split at h
 ·rename_i r hr;cases h;exact .inl hr
 rename_i hr
 split at h
 ·cases h
 rename_i r he
 split at h
 ·cases h
 rename_i hx;cases h;exact .inr ⟨hr,he,fun i hi hb=>hx ⟨i,hi,hb⟩⟩
def ZoB {e:Env} {bs:List Nat} {e3:Env} {b:Nat} {q:(Nat×List UInt8)×Nat} (h:e3.H b=some q):ZhK e bs e3 b=some q:=by
 unfold ZhK;rw [h]
def ZoC {e:Env} {bs:List Nat} {e3:Env} {b:Nat} {q:(Nat×List UInt8)×Nat} (h:e3.H b=none) (h2:e.H b=some q) (h3:∀i,i∈bs->e.β i≠q.1.1):ZhK e bs e3 b=some q:=by
 unfold ZhK;rw [h,h2];exact Tf fun ⟨i,hi,hb⟩=>h3 i hi hb
def Env.back (e:Env) (bs:List Nat) (L m nx:Nat) (e3:Env):Env:=⟨fun i=>if i<L then e.β i else e3.β (m+(i - L)),fun t=>if t<nx then e.M t else e3.M (t - nx),e.X,ZhK e bs e3⟩
structure Handed (e:Env) (σ:St) (w:World) (bs rest:List Nat) (e2:Env) (σ2:St):Prop where
 nodup:∀(i j b:Nat),bs[i]?=some b->bs[j]?=some b->i=j
 lt:∀b,b∈bs->b<σ.bx.length
 len:σ2.bx.length=bs.length
 beta:∀(j b:Nat),bs[j]?=some b->e2.β j=e.β b
 X:e2.X=Zgg e σ bs rest
 H:e2.H=Zmx e bs
 okc:∀b off,okc e σ b off->okc e2 σ2 b off
 tok:∀t,t∈σ2.tk->∀p,e2.M t=some p->∃t0,t0∈σ.tk/\t0∉rest/\e.M t0=some p
 restIn:∀t,t∈rest->t∈σ.tk
def Handed.hnone {e2:Env} {σ2:St} (h:Handed e σ w bs rest e2 σ2) {b:Nat} (hb:e.H b=none):e2.H b=none:=by
 rw [h.H]
 cases hq:Zmx e bs b with
 | none=>rfl
 | some q=>rw [(handH_iff.1 hq).1] at hb;cases hb
def SRel.tokH (hS:SRel G e σ w) {t:Nat} (ht:t∈σ.tk) {p:Nat×Nat} (hp:e.M t=some p):e.H p.1=none:=by
 cases hq:e.H p.1 with
 | none=>rfl
 | some q=>exact absurd rfl ((hS.hid _ _ hq).2.2.2.1 t ht p hp)
variable {e2 e3:Env} {σ2 σ3:St} {w':World} {bx:List Box}
structure Backed (σ:St) (bs:List Nat) (σ3:St) (bx:List Box):Prop where
 le:bs.length<=σ3.bx.length
 len:bx.length=σ.bx.length+(σ3.bx.length - bs.length)
 some:∀(j b:Nat) (x:Box),bs[j]?=some b->σ3.bx[j]?=some x->bx[b]?=some (Za2 bs bs.length σ.bx.length σ.nx x)
 old:∀i,i<σ.bx.length->i∉bs->bx[i]?=σ.bx[i]?
 new:∀i,σ.bx.length<=i->bx[i]?=σ3.bx[bs.length+(i - σ.bx.length)]?.map (Za2 bs bs.length σ.bx.length σ.nx)
abbrev Jf (σ:St) (rest:List Nat) (σ3:St) (bx:List Box):St:=⟨bx,rest++σ3.tk.map (σ.nx+·),σ.nx+σ3.nx⟩
def Z7 {t:Nat} (hS:SRel G e σ w) (h:Handed e σ w bs rest e2 σ2) (ht:t∈(Jf σ rest σ3 bx).tk):(t∈rest/\t<σ.nx)\/∃t',t'∈σ3.tk/\t=σ.nx+t':=by
 rcases TH.1 ht with h1 | h1
 ·exact .inl ⟨h1,hS.tkn t (h.restIn t h1)⟩
 obtain ⟨t',h2,h3⟩:=Sh.1 h1;exact .inr ⟨t',h2,h3.symm⟩
def Yk {L m nx t:Nat} (h:t<nx):(e.back bs L m nx e3).M t=e.M t:=by simp [Env.back,h]
def back_M_new {L m nx t:Nat}:(e.back bs L m nx e3).M (nx+t)=e3.M t:=by
 have:¬nx+t<nx:=oM;simp [Env.back,this]
def Z3 {L m nx i:Nat} (h:i<L):(e.back bs L m nx e3).β i=e.β i:=by simp [Env.back,h]
def Vg {L m nx i:Nat} (h:L<=i):(e.back bs L m nx e3).β i=e3.β (m+(i - L)):=by
 have:¬i<L:=oM;simp [Env.back,this]
def Zgh (h:Handed e σ w bs rest e2 σ2) (hL:Later e2 σ2 w e3 σ3 w') {i:Nat} (hi:i<σ.bx.length):(∃j,j<σ2.bx.length/\bs[j]?=some i/\e3.β j=e.β i)\/(i∉bs/\∀off,e3.X (e.β i) off):=by
 by_cases hm:i∈bs
 ·obtain ⟨j,hj,he⟩:=T9 hm;have hb:bs[j]?=some i:=by rw [Tb hj,he]
  have ik:j<σ2.bx.length:=by rw [h.len];exact hj
  exact .inl ⟨j,ik,hb,(hL.beta j ik).trans (h.beta j i hb)⟩
 exact .inr ⟨hm,fun off=>by rw [hL.X,h.X];exact .inr (.inl ⟨i,hi,hm,rfl⟩)⟩
def Zgi (hS:SRel G e σ w) (h:Handed e σ w bs rest e2 σ2) (hL:Later e2 σ2 w e3 σ3 w') (hb:Backed σ bs σ3 bx) {b off:Nat} (ho:okc e3 σ3 b off) :
  okc (e.back bs σ.bx.length bs.length σ.nx e3) (Jf σ rest σ3 bx) b off:=by
 have hX:¬Zgg e σ bs rest b off:=by rw [<- h.X,<- hL.X];exact ho.1
 refine ⟨fun hx=>hX (.inl hx),fun i hi=>?_,fun t ht p hp su=>?_,fun q hq=>?_⟩
 ·by_cases ab:i<σ.bx.length
  ·rw [Z3 ab];rcases Zgh h hL ab with ⟨j,hj,_,he⟩ | ⟨_,hx⟩
   ·rw [<- he];exact ho.2.1 j (TD hj hL.len)
   intro e;rw [<- e] at ho;exact ho.1 (hx off)
  rw [Vg oM];have aa:=hb.len;have ak:=hb.le;simp only at hi;exact ho.2.1 _ oM
 ·rcases Z7 hS h ht with ⟨h1,h2⟩ | ⟨t',h1,rfl⟩
  ·rw [Yk h2] at hp;have:¬p.2<=off:=fun ak=>hX (.inr (.inr (.inl ⟨t,h1,p,hp,su,ak⟩)))
   omega
  rw [back_M_new] at hp;exact ho.2.2.1 t' h1 p hp su
 rcases Za3 hq with h1 | ⟨_,h1,h2⟩
 ·exact ho.2.2.2 q h1
 have:¬q.2<=off:=fun ak=>hX (.inr (.inr (.inr ⟨q,h1,ak,h2⟩)))
 omega
def VRel.back (hS:SRel G e σ w) (h:Handed e σ w bs rest e2 σ2) (hL:Later e2 σ2 w e3 σ3 w') (hb:Backed σ bs σ3 bx) {x:PV} {v:Value} (hv:VRel G e3 σ3 w' x v) :
  VRel G (e.back bs σ.bx.length bs.length σ.nx e3) (Jf σ rest σ3 bx) w' (Zc6 bs bs.length σ.bx.length σ.nx x) v:=by
 have hd:∀{x:D} {v:Value},DRel (okc e3 σ3) w' x v->DRel (okc (e.back bs σ.bx.length bs.length σ.nx e3) (Jf σ rest σ3 bx)) w' x v:=fun hd=>hd.mono fun b off u hu ho=>⟨Zgi hS h hL hb ho,hu⟩
 have bk:∀i,i<σ3.bx.length->e3.β i=(e.back bs σ.bx.length bs.length σ.nx e3).β (match bs[i]? with | some b=>b | none=>σ.bx.length+(i - bs.length))/\(match bs[i]? with | some b=>b | none=>σ.bx.length+(i - bs.length))<bx.length:=fun i hi=>by
  have aa:=hb.len;have ak:=hb.le
  cases o8:bs[i]? with
  | some b =>
   have hj:=(Ti.1 o8).1;have ab:=h.lt b (TT o8);refine ⟨?_,by show b<bx.length;omega⟩;rw [Z3 ab];exact (hL.beta i (by rw [h.len];exact hj)).trans (h.beta i b o8)
  | none =>
  have i6:bs.length<=i:=by simpa using o8
  show e3.β i=(e.back bs σ.bx.length bs.length σ.nx e3).β (σ.bx.length+(i - bs.length))/\σ.bx.length+(i - bs.length)<bx.length;refine ⟨?_,oM⟩;rw [Vg oM];congr 1;omega
 induction hv with
 | d x v hx=>exact .d _ _ (hd hx)
 | undef v=>exact .undef _
 | ptr i off hi =>
  obtain ⟨h1,h2⟩:=bk i hi;simp only [Zc6]
  cases o8:bs[i]? <;> rw [o8] at h1 h2 <;> (rw [h1];exact .ptr _ off h2)
 | asl i off n hi =>
  obtain ⟨h1,h2⟩:=bk i hi;simp only [Zc6]
  cases o8:bs[i]? <;> rw [o8] at h1 h2 <;> (rw [h1];exact .asl _ off n h2)
 | mp i hi =>
  obtain ⟨h1,h2⟩:=bk i hi;simp only [Zc6]
  cases o8:bs[i]? <;> rw [o8] at h1 h2 <;> (rw [h1];exact .mp _ h2)
 | nilm=>exact .nilm
 | elem r off b o u hc ho hu=>exact .elem r off b o u hc (fun j hj=>Zgi hS h hL hb (ho j hj)) (fun j x hx=>hd (hu j x hx))
 | sl t el rows v hn n8 ht =>
  refine .sl _ el rows v (by show σ.nx+t<σ.nx+σ3.nx;omega) (hd n8) fun hp=>?_
  rcases Z7 hS h hp with ⟨_,h2⟩ | ⟨t',h1,h2⟩
  ·omega
  obtain rfl:t=t':=by omega
  rcases ht h1 with ⟨g1,g2,g3⟩ | ⟨sz,g1,g2,g3,b,off,cap,cs,ty,fz,g4,g5,g6,g7,g8,g9,g10⟩
  ·exact .inl ⟨g1,g2,back_M_new.trans g3⟩
  exact .inr ⟨sz,g1,g2,g3,b,off,cap,cs,ty,fz,g4,g5,g6,g7,g8,g9,back_M_new.trans g10⟩
 | nils el=>exact .nils el
 | func f a c va vc ha hc _ _ ih1 ih2 =>
  refine .func f _ _ va vc (by rw [YA];exact ha) (by rw [YA];exact hc) (fun i y u hy hu=>?_) (fun i y u hy hu=>?_)
  ·obtain ⟨x,hx,rfl⟩:=Wt i y hy;exact ih1 i x u hx hu
  obtain ⟨x,hx,rfl⟩:=Wt i y hy;exact ih2 i x u hx hu
 | iface t x v _ ih=>exact .iface t _ v ih
 | agg cs vs hs _ h1 ih=>exact .agg _ vs (by rw [YA];exact hs) (fun i y u hy hu=>by obtain ⟨x,hx,rfl⟩:=Wt i y hy;exact ih i x u hx hu) h1
 | tuple cs vs hs _ ih=>exact .tuple _ vs (by rw [YA];exact hs) (fun i y u hy hu=>by obtain ⟨x,hx,rfl⟩:=Wt i y hy;exact ih i x u hx hu)
 | raw v=>exact .raw _
def ZbH (hS:SRel G e σ w) (h:Handed e σ w bs rest e2 σ2) (gm:SRel G e3 σ3 w') (hL:Later e2 σ2 w e3 σ3 w') (hb:Backed σ bs σ3 bx):Stepped e σ w (e.back bs σ.bx.length bs.length σ.nx e3) (Jf σ rest σ3 bx) w' where
 len:=by show σ.bx.length<=bx.length;rw [hb.len];omega
 beta:=fun i hi=>Z3 hi
 X:=rfl
 pres:=fun b off u hu ho=>by
  obtain ⟨h1,h2⟩:=hL.pres b off u hu (h.okc b off ho);exact ⟨Zgi hS h hL hb h1,h2⟩
 blocks:=fun b ab hn ht hH=>hL.blocks b ab (fun j hj=>by
   have li:j<bs.length:=by rw [<- h.len];exact hj
   have qe:=Tb li;rw [h.beta j _ qe];exact hn _ (h.lt _ (TE li))) (fun t vz p hp=>by
   obtain ⟨t0,h1,_,h2⟩:=h.tok t vz p hp;exact ht t0 h1 p h2) (h.hnone hH)
 size:=hL.size
 os:=hL.os
 tape:=hL.tape
 output:=hL.output
 fresh:=fun i h1 h2=>by
  rw [Vg h1];have aa:=hb.len;have ak:=hb.le;have:i<bx.length:=h2;exact hL.fresh _ (by rw [h.len];omega) oM
 ftok:=fun t ht p hp=>by
  rcases Z7 hS h ht with ⟨h1,h2⟩ | ⟨t',h1,rfl⟩
  ·rw [Yk h2] at hp;exact .inr (.inl ⟨t,h.restIn t h1,p,hp,rfl⟩)
  rw [back_M_new] at hp;rcases hL.ftok t' h1 p hp with h2 | ⟨t0,h3,p0,h4,h5⟩ | h2
  ·exact .inl h2
  ·obtain ⟨t1,g1,_,g2⟩:=h.tok t0 h3 p0 h4;exact .inr (.inl ⟨t1,g1,p0,g2,h5⟩)
  exact .inr (.inr fun hn=>h2 (h.hnone hn))
 fhid:=fun b hb=>by
  cases hq:ZhK e bs e3 b with
  | none=>exact absurd hq hb
  | some q =>
  rcases Za3 hq with h1 | ⟨_,h1,_⟩
  ·rcases hL.fhid b (by rw [h1];simp) with h2 | ⟨t0,h3,p0,h4,h5⟩ | h2
   ·exact .inl h2
   ·obtain ⟨t1,g1,_,g2⟩:=h.tok t0 h3 p0 h4;exact .inr (.inl ⟨t1,g1,p0,g2,h5⟩)
   exact .inr (.inr fun hn=>h2 (h.hnone hn))
  exact .inr (.inr (by rw [h1];simp))
 nx:=Nat.le_add_right _ _
 toks:=fun t ab ht=>by
  rcases Z7 hS h ht with ⟨h1,_⟩ | ⟨t',h1,rfl⟩
  ·exact ⟨h.restIn t h1,Yk ab⟩
  omega
 own:=fun t ab ht p hp abx=>by
  rcases Z7 hS h ht with ⟨h1,_⟩ | ⟨t',h1,rfl⟩
  ·obtain ⟨_,pq,_⟩:=hS.own t (h.restIn t h1) p hp;refine hL.blocks p.1 abx (fun j hj=>?_) (fun t2 ki p2 vo=>?_) (h.hnone (hS.tokH (h.restIn t h1) hp))
   ·have li:j<bs.length:=by rw [<- h.len];exact hj
    have qe:=Tb li;rw [h.beta j _ qe];exact pq _ (h.lt _ (TE li))
   obtain ⟨t0,g1,g2,g3⟩:=h.tok t2 ki p2 vo;exact hS.dis t0 t g1 (h.restIn t h1) (fun e=>g2 (e ▸ h1)) p2 p g3 hp
  omega
def SRel.back (hS:SRel G e σ w) (h:Handed e σ w bs rest e2 σ2) (gm:SRel G e3 σ3 w') (hL:Later e2 σ2 w e3 σ3 w') (hb:Backed σ bs σ3 bx):SRel G (e.back bs σ.bx.length bs.length σ.nx e3) (Jf σ rest σ3 bx) w':=by
 have hst:=ZbH hS h gm hL hb;have aa:=hb.len;have ak:=hb.le;have dw:(Jf σ rest σ3 bx).bx.length=bx.length:=rfl;have gj:∀i,σ.bx.length<=i->i<bx.length->(e.back bs σ.bx.length bs.length σ.nx e3).β i=e3.β (bs.length+(i - σ.bx.length))/\bs.length+(i - σ.bx.length)<σ3.bx.length/\w.heap.size<=e3.β (bs.length+(i - σ.bx.length)):=fun i h1 h2=>by
  have:=hst.fresh i h1 h2;rw [Vg h1] at this;exact ⟨Vg h1,oM,this⟩
 have am:∀t,t∈rest->∀p,e.M t=some p->p.1<w.heap.size:=fun t ht p hp=>by
  obtain ⟨_,_,cs,ty,fz,hh⟩:=hS.own t (h.restIn t ht) p hp;exact (Tp.1 hh).1
 constructor
 ·intro i j hi hj he
  by_cases h1:i<σ.bx.length <;> by_cases h2:j<σ.bx.length
  ·rw [Z3 h1,Z3 h2] at he;exact hS.inj i j h1 h2 he
  ·obtain ⟨g1,g2,g3⟩:=gj j oM hj;rw [Z3 h1,g1] at he;have:=hS.lt h1;omega
  ·obtain ⟨g1,g2,g3⟩:=gj i oM hi;rw [Z3 h2,g1] at he;have:=hS.lt h2;omega
  obtain ⟨g1,g2,g3⟩:=gj i oM hi;obtain ⟨k1,k2,k3⟩:=gj j oM hj;rw [g1,k1] at he;have:=gm.inj _ _ g2 k2 he;omega
 ·intro i x hx
  have hi:=(Ti.1 hx).1;simp only at hx hi;have hBk:∀(y:Box) (b:Nat),BRel G e3 σ3 w' y b->BRel G (e.back bs σ.bx.length bs.length σ.nx e3) (Jf σ rest σ3 bx) w' (Za2 bs bs.length σ.bx.length σ.nx y) b:=fun y b hB=>by
   cases y with
   | cells t cs =>
    obtain ⟨vs,g1,g2,g3⟩:=hB;refine ⟨vs,g1,by rw [YA];exact g2,fun k z u hz hu=>?_⟩;obtain ⟨z',v7,rfl⟩:=Wt k z hz;exact ⟨(g3 k z' u v7 hu).1.back hS h hL hb,(g3 k z' u v7 hu).2⟩
   | iter s p=>exact hB
   | loop st pd r=>exact hB
   | dmap m=>exact hB.dmapTo rfl fun d v hv=>by have q:VRel G _ _ _ (.d d) v:=(VRel.d (G:=G) d v hv).back hS h hL hb;cases q;assumption
   | smap el m fo=>exact hB.smapTo rfl (Zc6 bs bs.length σ.bx.length σ.nx) (fun _=>rfl) (fun _=>rfl) (fun _ _ _ _ hv=>hv.back hS h hL hb) fun b' q hq _=>⟨ZoB hq,rfl⟩
   | map cs bn ck=>exact hB.mapTo rfl YA fun i x y hx hy=>by obtain ⟨z,hz,rfl⟩:=Wt i y hy;rw [hx] at hz;cases hz;exact ⟨fun v hv=>hv.back hS h hL hb,fun d hd=>by subst hd;rfl⟩
  by_cases h1:i<σ.bx.length
  ·rw [Z3 h1];rcases Zgh h hL h1 with ⟨j,hj,qe,he⟩ | ⟨t8,hX⟩
   ·have rc:j<σ3.bx.length:=TD hj hL.len;have:=hb.some j i _ qe (Tb rc);rw [this] at hx
    cases hx
    rw [<- he];exact hBk _ _ (gm.box j _ (Tb rc))
   rw [hb.old i h1 t8] at hx;have notB:∀j,j<bs.length->∀b,bs[j]?=some b->e.β b≠e.β i:=fun j hj b hb he=>by
    have:=hS.inj _ _ (h.lt _ (TT hb)) h1 he;exact t8 (this ▸ TT hb)
   have hnH:e.H (e.β i)=none:=by
    cases hq:e.H (e.β i) with
    | none=>rfl
    | some q=>exact absurd rfl ((hS.hid _ _ hq).2.2.1 i h1)
   refine (hS.box i x hx).step hst (hL.blocks _ (hS.lt h1) (fun j hj=>?_) (fun t ht p hp=>?_) (h.hnone hnH)) fun b' q hq zm=>?_
   ·have li:j<bs.length:=by rw [<- h.len];exact hj
    have qe:=Tb li;rw [h.beta j _ qe];intro he
    have:=hS.inj _ _ (h.lt _ (TE li)) h1 he;exact t8 (this ▸ TE li)
   ·obtain ⟨t0,g1,_,g2⟩:=h.tok t ht p hp;exact fun he=>(hS.own t0 g1 p g2).2.1 i h1 he.symm
   obtain ⟨k1,k2,k3,k4,k5⟩:=hS.hid b' q hq;have hnp:∀i',i'∈bs->e.β i'≠q.1.1:=fun i' em he=>by
    have:=hS.inj _ _ (h.lt _ em) h1 (he.trans zm);exact t8 (this ▸ em)
   have pu:e2.H b'=none:=by
    rw [h.H]
    cases lh:Zmx e bs b' with
    | none=>rfl
    | some q2 =>
    obtain ⟨g1,i',g2,g3⟩:=handH_iff.1 lh;rw [hq] at g1;cases g1;exact absurd g3 (hnp i' g2)
   have ki:∀t,t∈σ2.tk->∀p,e2.M t=some p->p.1≠b':=fun t ht p hp=>by
    obtain ⟨t0,g1,_,g2⟩:=h.tok t ht p hp;exact k4 t0 g1 p g2
   refine ⟨ZoC ?_ hq hnp,hL.blocks b' k2 (fun j hj=>?_) ki pu⟩
   ·cases qr:e3.H b' with
    | none=>rfl
    | some q3 =>
    rcases hL.fhid b' (by rw [qr];simp) with g1 | ⟨t0,g1,p0,g2,g3⟩ | g1
    ·omega
    ·exact absurd g3 (ki t0 g1 p0 g2)
    exact absurd pu g1
   have li:j<bs.length:=by rw [<- h.len];exact hj
   have qe:=Tb li;rw [h.beta j _ qe];exact k3 _ (h.lt _ (TE li))
  obtain ⟨g1,g2,g3⟩:=gj i oM hi;rw [hb.new i oM,Tb g2] at hx
  cases hx
  rw [g1];exact hBk _ _ (gm.box _ _ (Tb g2))
 ·intro i hi
  by_cases h1:i<σ.bx.length
  ·rw [Z3 h1];exact hS.low i h1
  obtain ⟨g1,g2,g3⟩:=gj i oM hi;rw [g1];exact gm.low _ g2
 ·intro t ht
  rcases Z7 hS h ht with ⟨_,h2⟩ | ⟨t',h1,rfl⟩
  ·show t<σ.nx+σ3.nx;omega
  have:=gm.tkn t' h1;show σ.nx+t'<σ.nx+σ3.nx;omega
 ·intro t ht p hp
  rcases Z7 hS h ht with ⟨h1,h2⟩ | ⟨t',h1,rfl⟩
  ·rw [Yk h2] at hp;obtain ⟨g1,g2,cs,ty,fz,g3⟩:=hS.own t (h.restIn t h1) p hp;refine ⟨g1,fun i hi=>?_,cs,ty,fz,(hst.own t h2 ht p hp (am t h1 p hp)).trans g3⟩
   by_cases h3:i<σ.bx.length
   ·rw [Z3 h3];exact g2 i h3
   obtain ⟨k1,k2,k3⟩:=gj i oM hi;rw [k1];have:=am t h1 p hp;omega
  rw [back_M_new] at hp;obtain ⟨g1,g2,g3⟩:=gm.own t' h1 p hp;refine ⟨g1,fun i hi=>?_,g3⟩
  by_cases h3:i<σ.bx.length
  ·rw [Z3 h3];rcases Zgh h hL h3 with ⟨j,hj,_,he⟩ | ⟨_,hX⟩
   ·rw [<- he];exact g2 j (TD hj hL.len)
   intro he
   exact gm.xown t' h1 p hp p.2 (Tr _) (he ▸ hX p.2)
  obtain ⟨k1,k2,k3⟩:=gj i oM hi;rw [k1];exact g2 _ k2
 ·intro t t' ht kl ai p p' hp iu
  have mixed:∀t t',t∈rest->t<σ.nx->t'∈σ3.tk->∀p p',e.M t=some p->e3.M t'=some p'->p.1≠p'.1:=fun t t' h1 h2 h3 p p' hp iu he=>by
   refine gm.xown t' h3 p' iu (max p.2 p'.2) (Nat.le_max_right _ _) ?_;rw [hL.X,h.X];exact .inr (.inr (.inl ⟨t,h1,p,hp,he,Nat.le_max_left _ _⟩))
  rcases Z7 hS h ht with ⟨h1,h2⟩ | ⟨s,h1,rfl⟩ <;> rcases Z7 hS h kl with ⟨k1,k2⟩ | ⟨s',k1,rfl⟩
  ·rw [Yk h2] at hp;rw [Yk k2] at iu;exact hS.dis t t' (h.restIn t h1) (h.restIn t' k1) ai p p' hp iu
  ·rw [Yk h2] at hp;rw [back_M_new] at iu;exact mixed t s' h1 h2 k1 p p' hp iu
  ·rw [back_M_new] at hp;rw [Yk k2] at iu;exact fun he=>mixed t' s k1 k2 h1 p' p iu hp he.symm
  rw [back_M_new] at hp iu;exact gm.dis s s' h1 k1 (fun e=>ai (by rw [e])) p p' hp iu
 ·intro b off hX
  exact TD (hS.xlt b off hX) hL.size
 ·intro t ht p hp off gu hX
  rcases Z7 hS h ht with ⟨h1,h2⟩ | ⟨t',h1,rfl⟩
  ·rw [Yk h2] at hp;exact hS.xown t (h.restIn t h1) p hp off gu hX
  rw [back_M_new] at hp;refine gm.xown t' h1 p hp off gu ?_;rw [hL.X,h.X];exact .inl hX
 ·intro b q hq
  rcases Za3 hq with g | ⟨g0,g,gn⟩
  ·obtain ⟨k1,k2,k3,k4,k5⟩:=gm.hid b q g;refine ⟨k1,k2,fun i hi=>?_,fun t ht p hp=>?_,fun off ho hX=>k5 off ho (by rw [hL.X,h.X];exact .inl hX)⟩
   ·by_cases h3:i<σ.bx.length
    ·rw [Z3 h3];rcases Zgh h hL h3 with ⟨j,hj,_,he⟩ | ⟨_,hX⟩
     ·rw [<- he];exact k3 j (TD hj hL.len)
     intro he
     exact k5 q.2 (Tr _) (he ▸ hX q.2)
    obtain ⟨g1,g2,g3⟩:=gj i oM hi;rw [g1];exact k3 _ g2
   rcases Z7 hS h ht with ⟨h1,h2⟩ | ⟨t',h1,rfl⟩
   ·rw [Yk h2] at hp;intro he
    refine k5 (max p.2 q.2) (Nat.le_max_right _ _) ?_;rw [hL.X,h.X];exact .inr (.inr (.inl ⟨t,h1,p,hp,he,Nat.le_max_left _ _⟩))
   rw [back_M_new] at hp;exact k4 t' h1 p hp
  obtain ⟨k1,k2,k3,k4,k5⟩:=hS.hid b q g;refine ⟨k1,TD k2 hL.size,fun i hi=>?_,fun t ht p hp=>?_,k5⟩
  ·by_cases h3:i<σ.bx.length
   ·rw [Z3 h3];exact k3 i h3
   obtain ⟨g1,g2,g3⟩:=gj i oM hi;rw [g1];omega
  rcases Z7 hS h ht with ⟨h1,h2⟩ | ⟨t',h1,rfl⟩
  ·rw [Yk h2] at hp;exact k4 t (h.restIn t h1) p hp
  rw [back_M_new] at hp;intro he
  refine gm.xown t' h1 p hp (max p.2 q.2) (Nat.le_max_left _ _) ?_;rw [hL.X,h.X,he];exact .inr (.inr (.inr ⟨q,g,Nat.le_max_right _ _,gn⟩))
 ·exact gm.glob
 exact gm.big
def XD {md:Nat} {g:FuncId} {sp:Zp} (hP:PCalls G g sp) {args:List PV} {K:PEnd->St->Prop} (hv:VF md sp args σ K) :
  WO G.P g/\∀(ro:Option Nat) (n:Nat) (e:Env) (w:World) (vs:Array Value),SRel G e σ w->ArgsRel G e σ w args vs->CallsIn (fw ro) n G.P g vs w (ZyI G e σ w K):=by
 unfold VF at hv
 simp only [Zad,Zae,Wp] at hv;generalize Zac σ.bx (σ.bx.length+1) 0 (Za0 args [])=bs at hv;split at hv
 ·rename_i f8
  obtain ⟨cb,hv,oe,hcg⟩:=Zoz hv;obtain ⟨args',tk1,as1,hv,dm,lu,zq,hav⟩:=Zrz (as:=[]) (ZET σ.tk σ.tk fun _ h=>h) hv;obtain ⟨cb',rest,as2,hv,ca,ff,cm,afe,lj⟩:=W1 lu hv;have lv:=Zc7 f8;have rf:∀b,b∈bs->b<σ.bx.length:=fun b hb=>by
   obtain ⟨k,hk,he⟩:=T9 hb;obtain ⟨x,hx,_⟩:=hcg k b (by rw [Tb hk,he]);exact (Ti.1 hx).1
  have backOf:∀(pe:PEnd) (σ3:St),(Zel (Za2 bs bs.length σ.bx.length σ.nx) bs σ3.bx σ.bx fun bx=>K (ZrI bs bs.length σ.bx.length σ.nx pe) (Jf σ rest σ3 bx))->∃bx,Backed σ bs σ3 bx/\K (ZrI bs bs.length σ.bx.length σ.nx pe) (Jf σ rest σ3 bx):=fun pe σ3 hb=>by
   obtain ⟨bx,h1,h2,h3,h4,h5,h6⟩:=ZkM lv rf hb;exact ⟨bx,⟨h2,h3,h4,h5,h6⟩,h1⟩
  refine ⟨hP.enters,fun ro n e w vs hS af=>?_⟩;have rh:∀t,t∈as2.filterMap id↔some t∈as2:=fun t=>by simp
  have og:∀t,t∈as2.filterMap id->t∈σ.tk/\t∉rest:=fun t ht=>by
   obtain ⟨i,hi,he⟩:=T9 ((rh t).1 ht);exact ff.mem i t (by rw [Tb hi,he])
  have hH:Hand σ bs rest (as2.filterMap id) cb:=⟨lv,oe,hcg,ff.sub,og⟩
  have gf:=hS.ren hH;have hIP:NInv (as2.filterMap id) [] as2:=⟨(fun t ht=>by cases ht),(fun i t hi=>⟨(rh t).2 (TT hi),sM⟩),ff.inj⟩
  have ew:bs.length<=(St.mk cb (as2.filterMap id) σ.nx).bx.length:=Nat.le_of_eq oe.symm;have jc:=Zf7 gf ew hIP cm lj;have hD:=ZcV (e:=e.handed σ bs rest) ew hIP cm;have hA2:ArgsRel G ((e.handed σ bs rest).re as2) ⟨cb',toks as2.length,as2.length⟩ w args' vs:=by
   refine ⟨by rw [af.1,zq,Yz],fun i x u hx hu=>?_⟩;have hi:=(Ti.1 hx).1;rw [zq] at hi;have hy:=Tb hi;obtain ⟨z,hz,ua⟩:=WQ i _ hy;have h1:=(af.2 i z u hz hu).ren hS hH;rw [<- ua] at h1;exact ((hav i _ x hy hx).ext ca).rel ew hIP cm h1
  have zu:Handed e σ w bs rest ((e.handed σ bs rest).re as2) ⟨cb',toks as2.length,as2.length⟩:={
   nodup:=lv
   lt:=rf
   len:=cm
   beta:=fun j b hj=>by simp [Env.re,Env.handed,hj]
   X:=rfl
   H:=rfl
   okc:=fun b off ho=>hD.okc b off (ZoA hS hH ho)
   tok:=fun t ht p hp=>by
    obtain ⟨t0,h1,h2⟩:=hD.tok t ht p hp;exact ⟨t0,(og t0 h1).1,(og t0 h1).2,h2⟩
   restIn:=ff.sub }
  have kj:=hP.calls _ _ _ hv n _ w vs jc hA2;have w5:∀R,CallsIn (fw none) n G.P g vs w R->CallsIn (fw ro) n G.P g vs w R:=fun R h=>by
   cases ro with
   | none=>exact h
   | some l=>exact h.inRound l
  refine (w5 _ kj).mono fun en w' hA=>?_
  obtain ⟨pe,σ3,e3,hk,hE,gm,hL⟩:=hA;obtain ⟨bx,hB,hK⟩:=backOf pe σ3 hk;refine ⟨_,_,e.back bs σ.bx.length bs.length σ.nx e3,hK,?_,hS.back zu gm hL hB,ZbH hS zu gm hL hB⟩
  cases pe with
  | ret x=>obtain ⟨v,rfl,hr⟩:=hE;exact ⟨v,rfl,hr.back hS zu hL hB⟩
  | panic x=>obtain ⟨v,rfl,hr⟩:=hE;exact ⟨v,rfl,hr.back hS zu hL hB⟩
 exact hv.elim
def ZG (sp:Zp):Prop:=∀args σ (K K':PEnd->St->Prop),(∀e σ,K e σ->K' e σ)->sp args σ K->sp args σ K'
def ZhL {bs:List Nat} {bx:List Box}:∀{l:List Nat} {K K':List Box->Prop},(∀r,K r->K' r)->Zmw bs bx l K->Zmw bs bx l K'
 | [],K,K',hK,h=>hK _ h
 | b::l,K,K',hK,h=>by
  simp only [Zmw] at h |-;split at h
  all_goals first
   | exact ZhL (fun r hr=>hK _ hr) h
   | exact h.elim
def ZoD {n:Nat} {tk:List Nat} {k:Nat} {v:PV} {K K':PV->List Nat->Nat->Prop} (hK:∀v t k,K v t k->K' v t k) (h:Zrp n tk k v K):Zrp n tk k v K':=by
 have gen:∀v,(match bnd n v with | true=>U3 (clean v) fun v=>K v tk k | false=>K .undef tk k:Prop)->(match bnd n v with | true=>U3 (clean v) fun v=>K' v tk k | false=>K' .undef tk k:Prop):=fun v h=>by
  split at h
  ·rw [ZO] at h |-;exact hK _ _ _ h
  exact hK _ _ _ h
 cases v with
 | sl t el rows =>
  simp only [Zrp] at h |-;split at h <;> exact hK _ _ _ h
 | nils el=>exact hK _ _ _ h
 | d x=>exact gen (.d x) h
 | undef=>exact gen .undef h
 | ptr b o=>exact gen (.ptr b o) h
 | asl b o n=>exact gen (.asl b o n) h
 | elem r o=>exact gen (.elem r o) h
 | func f a c=>exact gen (.func f a c) h
 | iface t v=>exact gen (.iface t v) h
 | agg cs=>exact gen (.agg cs) h
 | tuple cs=>exact gen (.tuple cs) h
 | raw v=>exact gen (.raw v) h
 | mp b=>exact gen (.mp b) h
 | nilm=>exact gen .nilm h
def Ul {n:Nat}:∀{vs:List PV} {tk:List Nat} {k:Nat} {K K':List PV->List Nat->Nat->Prop},(∀v t k,K v t k->K' v t k)->Zrq n vs tk k K->Zrq n vs tk k K'
 | [],_,_,_,_,hK,h=>hK _ _ _ h
 | v::vs,_,_,_,_,hK,h=>ZoD (fun v t k h=>Ul (fun vs t k h=>hK _ _ _ h) h) h
def Ze6 {n:Nat} {tk:List Nat} {k:Nat} {v:PV} {K K':PV->List Nat->Nat->Prop} (hK:∀v t k,K v t k->K' v t k) (h:ZcE n tk k v K):ZcE n tk k v K':=by
 have gen:∀v,(match bnd n v with | true=>U3 (cleanN v) fun v=>K v tk k | false=>K .undef tk k:Prop)->(match bnd n v with | true=>U3 (cleanN v) fun v=>K' v tk k | false=>K' .undef tk k:Prop):=fun v h=>by
  split at h
  ·rw [ZO] at h |-;exact hK _ _ _ h
  exact hK _ _ _ h
 cases v with
 | sl t el rows =>
  simp only [ZcE] at h |-;split at h <;> exact hK _ _ _ h
 | nils el=>exact hK _ _ _ h
 | d x=>exact gen (.d x) h
 | undef=>exact gen .undef h
 | ptr b o=>exact gen (.ptr b o) h
 | asl b o n=>exact gen (.asl b o n) h
 | elem r o=>exact gen (.elem r o) h
 | func f a c=>exact gen (.func f a c) h
 | iface t v=>exact gen (.iface t v) h
 | agg cs=>exact gen (.agg cs) h
 | tuple cs=>exact gen (.tuple cs) h
 | raw v=>exact gen (.raw v) h
 | mp b=>exact gen (.mp b) h
 | nilm=>exact gen .nilm h
def Ze7 {n:Nat}:∀{vs:List PV} {tk:List Nat} {k:Nat} {K K':List PV->List Nat->Nat->Prop},(∀v t k,K v t k->K' v t k)->Zi4 n vs tk k K->Zi4 n vs tk k K'
 | [],_,_,_,_,hK,h=>hK _ _ _ h
 | v::vs,_,_,_,_,hK,h=>Ze6 (fun v t k h=>Ze7 (fun vs t k h=>hK _ _ _ h) h) h
def Xg {n:Nat}:∀{m:Nat} {bs:List Box} {tk:List Nat} {k:Nat} {K K':List Box->List Nat->Nat->Prop},(∀v t k,K v t k->K' v t k)->ZcF n m bs tk k K->ZcF n m bs tk k K'
 | 0,_,_,_,_,_,hK,h=>by simp only [ZcF] at h |-;exact hK _ _ _ h
 | _+1,[],_,_,_,_,_,h=>h.elim
 | _+1,.cells t cs::bs,_,_,_,_,hK,h=>by
  simp only [ZcF] at h |-;exact Ul (fun v t k h=>Xg (fun _ _ _ h=>hK _ _ _ h) h) h
 | _+1,.iter s p::bs,_,_,K,K',hK,h=>by
  simp only [ZcF] at h |-;exact Xg (K:=fun l tk k=>K (.iter s p::l) tk k) (K':=fun l tk k=>K' (.iter s p::l) tk k) (fun _ _ _ h=>hK _ _ _ h) h
 | _+1,.loop st pd r::bs,_,_,K,K',hK,h=>by
  simp only [ZcF] at h |-;exact Xg (K:=fun l tk k=>K (.loop st pd r::l) tk k) (K':=fun l tk k=>K' (.loop st pd r::l) tk k) (fun _ _ _ h=>hK _ _ _ h) h
 | _+1,.dmap m::bs,_,_,K,K',hK,h=>by
  simp only [ZcF] at h |-;exact Xg (K:=fun l tk k=>K (.dmap m::l) tk k) (K':=fun l tk k=>K' (.dmap m::l) tk k) (fun _ _ _ h=>hK _ _ _ h) h
 | _+1,.smap el m none::bs,_,_,K,K',hK,h=>by
  simp only [ZcF] at h |-;exact Xg (K:=fun l tk k=>K (.smap el m none::l) tk k) (K':=fun l tk k=>K' (.smap el m none::l) tk k) (fun _ _ _ h=>hK _ _ _ h) h
 | _+1,.smap _ _ (some _)::_,_,_,_,_,_,h=>h.elim
 | _+1,.map cs bn ck::bs,_,_,_,_,hK,h=>by
  simp only [ZcF] at h |-;exact Ul (fun v t k h=>Xg (fun _ _ _ h=>hK _ _ _ h) h) h
def Ze8 {bb:Box->Box}:∀{bs:List Nat} {xs acc:List Box} {K K':List Box->Prop},(∀r,K r->K' r)->Zel bb bs xs acc K->Zel bb bs xs acc K'
 | [],_,_,_,_,hK,h=>by simp only [Zel] at h |-;exact hK _ h
 | _::_,[],_,_,_,_,h=>h.elim
 | b::bs,x::xs,_,_,_,hK,h=>by simp only [Zel] at h |-;exact Ze8 hK h
def ZhM {sp:Zp} (xb:ZG sp):ZG (Zjr sp):=fun args σ K K' hK h=>by
 unfold Zjr VF ZnR at h |-
 simp only [Zad,Zae,Wp] at h |-;split at h
 ·exact ZhL (fun cb h=>Ul (fun a t k h=>Xg (fun cb' r k h=>xb _ _ _ _ (fun pe σ3 h=>Ze8 (fun bx h=>hK _ _ h) h) h) h) h) h
 exact h.elim
end
end Go.PM
end

section
namespace Go.PM
def Cx.up (C:Cx):Cx:={ C with call:=fun g args σ K=>∃K',C.call g args σ K'/\∀e σ,K' e σ->K e σ }
def Zmy {n:Nat} {tk:List Nat} {k:Nat} {v:PV} {K K':PV->List Nat->Nat->Prop} (hK:∀v t k,K v t k->K' v t k) (h:Zhp n tk k v K):Zhp n tk k v K':=by
 cases v with
 | agg cs=>exact Ze7 (fun v t k h=>hK _ _ _ h) h
 | _=>simp only [Zhp] at h |-;exact Ze6 hK h
def Ze9 {n:Nat}:∀{vs:List PV} {tk:List Nat} {k:Nat} {K K':List PV->List Nat->Nat->Prop},(∀v t k,K v t k->K' v t k)->Zi5 n vs tk k K->Zi5 n vs tk k K'
 | [],_,_,_,_,hK,h=>hK _ _ _ h
 | v::vs,_,_,_,_,hK,h=>Zmy (fun v t k h=>Ze9 (fun vs t k h=>hK _ _ _ h) h) h
def Zmz {n:Nat} {vs:List PV} {σ:St} {K K':List PV->St->Prop} (hK:∀v s,K v s->K' v s) (h:ZnS n vs σ K):ZnS n vs σ K' :=
 Ul (fun _ _ _ h=>Xg (fun _ _ _ h=>hK _ _ h) h) h
def Zc8 {ag:Bool} {n:Nat} {vs:List PV} {σ:St} {K K':List PV->St->Prop} (hK:∀v s,K v s->K' v s) (h:Ub ag n vs σ K):Ub ag n vs σ K':=by
 cases ag with
 | true=>exact Ze9 (fun _ _ _ h=>Xg (fun _ _ _ h=>hK _ _ h) h) h
 | false=>exact Zmz hK h
section
variable {C:Cx} {all:List Oper} {ms:List Nat} {Q Q':PQ}
abbrev Zb5 (C:Cx):Prop:=∀v args σ (K:PEnd->St->Prop),¬C.raw v args σ K
def ZrJ (hr:Zb5 C) (hQ:∀e f σ,Q e f σ->Q' e f σ) {o:Oper} {f:Frame} {σ:St} {K K':Frame->St->Prop} (hK:∀f σ,K f σ->K' f σ) (h:XS C o f σ Q K):XS C.up o f σ Q' K':=by
 unfold XS at h |-
 simp only [ZL,ZO] at h |-;split at h
 ·exact J5 (fun v hv=>by rw [ZY] at hv |-;exact hK _ _ hv) h
 split at h
 ·unfold ZcD at h |-
  split at h
  ·refine ⟨_,h,fun e σ he=>?_⟩
   cases e with
   | ret v=>simp only at he |-;rw [ZY] at he |-;exact hK _ _ he
   | panic v=>exact hQ _ _ _ he
  ·exact (hr _ _ _ _ h).elim
  exact h
 ·split at h
  ·exact hQ _ _ _ h
  exact h.elim
 exact Zcj (fun v σ hv=>by rw [ZY] at hv |-;exact hK _ _ hv) h
def Zcm (hr:Zb5 C) (hQ:∀e f σ,Q e f σ->Q' e f σ) {o:Oper} {f:Frame} {σ:St} {K K':Frame->St->Prop} (hK:∀f σ,K f σ->K' f σ) (h:W9 C all Q o f σ K):W9 C.up all Q' o f σ K':=by
 rw [YX] at h |-;split at h
 ·exact ZrJ hr hQ hK h
 ·exact hK _ _ h
 exact h
def ZoE {T:Tab} {o:Op} {ρ:Operand->PV} {σ:St} {K K':PV->St->Prop} (hK:∀v σ,K v σ->K' v σ) (h:Zyw T o ρ σ K):Zyw T o ρ σ K':=by
 unfold Zyw at h |-
 (repeat' split at h) <;> first
  | exact h.elim
  | exact hK _ _ h
  | exact ⟨h.choose,h.choose_spec.1,h.choose_spec.2.1,hK _ _ h.choose_spec.2.2⟩
  | (rename_i hk;exfalso;simp_all;done)
def Zjs (hr:Zb5 C) (hQ:∀e f σ,Q e f σ->Q' e f σ):∀{l:List Oper} {f:Frame} {σ:St},ZnJ C all Q l f σ->ZnJ C.up all Q' l f σ
 | [],f,σ,h=>hQ _ _ _ h
 | o::rest,f,σ,h=>by
  simp only [ZnJ,Zho] at h |-;show match ZeP C o with | true=>_ | false=>_
  cases hb:ZeP C o with
  | true =>
   rw [hb] at h;refine ZoE (fun v σ hv=>?_) h;simp only [ZL] at hv |-;rw [ZY] at hv |-;exact Zjs hr hQ hv
  | false =>
  rw [hb] at h;exact Zcm hr hQ (fun f σ h=>Zjs hr hQ h) h
def Zgj (hr:Zb5 C) (hQ:∀e f σ,Q e f σ->Q' e f σ) {i:Nat} {o:Oper} {ctx:List Ld} {f:Frame} {σ:St} {K K':List Ld->Frame->St->Prop} (hK:∀c f σ,K c f σ->K' c f σ) (h:X4 C all ms Q i o ctx f σ K):X4 C.up all ms Q' i o ctx f σ K':=by
 unfold X4 at h |-
 refine Zcm hr hQ (fun f' σ' hk=>?_) h;exact mq115
def Zgk (hr:Zb5 C) (hQ:∀e f σ,Q e f σ->Q' e f σ):∀{l:List (Nat×Oper)} {ctx:List Ld} {f:Frame} {σ:St},X5 C all ms Q l ctx f σ->X5 C.up all ms Q' l ctx f σ
 | [],_,f,σ,h=>hQ _ _ _ h
 | (i,o)::rest,ctx,f,σ,h=>Zgj hr hQ (fun _ _ _ h=>Zgk hr hQ h) h
def Zgl (hr:Zb5 C) (hQ:∀e f σ,Q e f σ->Q' e f σ):∀(n:Nat) (l:List (Nat×Oper)) (c:List Ld) (f:Frame) (σ:St),Wm C all ms Q n l c f σ->Wm C.up all ms Q' n l c f σ
 | 0,[],_,_,_,h=>hQ _ _ _ h
 | _+1,[],_,_,_,h=>hQ _ _ _ h
 | 0,_::_,_,_,_,h=>h.elim
 | n+1,x::l,c,f,σ,h=>by
  unfold Wm at h |-
  split at h
  ·exact Zgj hr hQ (fun c f σ h=>Zgl hr hQ n _ c f σ h) h
  rw [conjE_iff] at h |-;exact fun p hp hw=>Zgj hr hQ (fun c f σ h=>Zgl hr hQ n _ c f σ h) (h p hp hw)
def ZmA {T:Tab} {h:Hole} {f:Frame} {σ:St} {K K':Frame->St->Prop} (hK:∀f σ,K f σ->K' f σ) (g:Zmc T h f σ K):Zmc T h f σ K':=by
 unfold Zmc at g |-
 simp only [ZL,ZY] at g |-
 (repeat' split at g) <;> first
  | exact g.elim
  | exact ⟨g.1,g.2.1,hK _ _ g.2.2⟩
  | exact ⟨g.1,g.2.1,g.2.2.1,hK _ _ g.2.2.2⟩
def ZrK (hr:Zb5 C) (hQ:∀e f σ,Q e f σ->Q' e f σ) {h:Hole}:∀e f σ,ZnV C all h Q e f σ->ZnV C.up all h Q' e f σ:=fun e f σ g=>by
 cases e with
 | normal=>exact ZmA (fun f σ g=>Zcm hr hQ (fun f σ g=>Zcm hr hQ (fun f σ g=>hQ _ _ _ g) g) g) g
 | _=>exact hQ _ _ _ g
def ZyM {C:Cx} {Q Q':PQ} (hr:Zb5 C) (hQ:∀e f σ,Q e f σ->Q' e f σ) {ops:List Oper} {draw:Bool} {f:Frame} {σ:St} (h:WR C ops draw Q f σ):WR C.up ops draw Q' f σ:=by
 have ub:Zb5 C.calm:=fun _ _ _ _ h=>h
 cases draw with
 | false=>simp only [WR] at h |-;exact Zjs hr hQ h
 | true =>
 simp only [WR] at h |-;have hQd:∀e f' σ,Zi7 C ops f Q e f' σ->Zi7 C.up ops f Q' e f' σ:=fun e f' σ h=>by
  cases e <;> exact hQ _ _ _ h
 cases hh:ZcG ops with
 | none =>
  simp only [hh] at h |-
  cases hc:ZeQ (Wl ops []) none (ZD 0 ops) with
  | true=>simp only [hc] at h |-;exact Zgk (C:=C.calm) ub hQd h
  | false=>simp only [hc] at h |-;exact Zgl (C:=C.calm) ub hQd _ _ _ _ _ h
 | some x=>simp only [hh] at h |-;exact Zgk (C:=C.calm) ub (ZrK (C:=C.calm) ub hQd) h
def Zjt {b:Nat} {k:List UInt8} {σ:St} {K K':St->Prop} (hK:∀σ,K σ->K' σ) (h:ZeR b k σ K):ZeR b k σ K':=by
 unfold ZeR at h |-
 split at h
 ·rcases h.ex with ⟨a,ha,h⟩ | ⟨ha,h⟩
  ·exact .yes ha (hK _ h)
  exact .no ha (hK _ h)
 exact h.elim
def Zgm {b:Nat} {σ:St} {K K':St->Prop} (hK:∀σ,K σ->K' σ) (h:UI b σ K):UI b σ K':=by
 unfold UI at h |-
 (repeat' split at h) <;> first
  | exact h.elim
  | exact hK _ h
def ZhN {S S':PQ->Frame->St->Prop} (hS:∀Q Q' f σ,(∀e f σ,Q e f σ->Q' e f σ)->S Q f σ->S' Q' f σ):∀(n:Nat) {Q Q':PQ} {f:Frame} {σ:St},(∀e f σ,Q e f σ->Q' e f σ)->Zbw S Q n f σ->Zbw S' Q' n f σ
 | 0,_,_,_,_,_,h=>h
 | n+1,Q,Q',f,σ,hQ,h=>hS _ _ _ _ (fun e f σ h=>by cases e with | normal=>exact ZhN hS n hQ h | _=>exact hQ _ _ _ h) h
def Zju {t:Bool} {X Y X' Y':Prop} (h1:X->X') (h2:Y->Y') (h:CondP t X Y):CondP t X' Y':=by cases t;exact h2 h;exact h1 h
def ZD3 (hr:Zb5 C) (hi:∀g a r σ K,¬C.iter g a r σ K):∀(c:Code) {Q Q':PQ} {f:Frame} {σ:St},(∀e f σ,Q e f σ->Q' e f σ)->W C c Q f σ->W C.up c Q' f σ:=by
 have ub:Zb5 C.calm:=fun _ _ _ _ h=>h
 intro c
 induction c with
 | region id ops draw =>
  intro Q Q' f σ hQ h
  simp only [W] at h |-;rw [show C.up.foc=C.foc from rfl]
  cases hf:C.foc id with
  | false=>rw [hf] at h;exact ZyM hr hQ h
  | true =>
  rw [hf] at h;obtain ⟨b,k,h⟩:=h;refine ⟨b,k,Zjt (fun σ h=>?_) h⟩;rw [ZL] at h |-;refine ZyM hr (fun e f σ h=>?_) h
  cases e with
  | normal=>exact Zgm (K:=fun σ=>Xu σ fun σ=>Q .normal f σ) (K':=fun σ=>Xu σ fun σ=>Q' .normal f σ) (fun σ h=>by rw [ZL] at h |-;exact hQ _ _ _ h) h
  | _=>exact h
 | seq a b iha ihb =>
  intro Q Q' f σ hQ h
  simp only [W] at h |-;rw [show C.up.cut=C.cut from rfl]
  cases hc:C.cut (keyOf b) with
  | none =>
   rw [hc] at h;exact iha (fun e f σ h=>by cases e with | normal=>exact ihb hQ h | _=>exact hQ _ _ _ h) h
  | some x =>
  rw [hc] at h;exact ⟨iha (fun e f σ h=>by cases e with | normal=>exact h | _=>exact hQ _ _ _ h) h.1,fun vs σ1 hI=>ihb hQ (h.2 vs σ1 hI)⟩
 | cond c x y ihx ihy =>
  intro Q Q' f σ hQ h
  simp only [W] at h |-;split at h
  ·exact Zju (fun h=>ihx hQ h) (fun h=>ihy hQ h) h
  exact h
 | block id b ih =>
  intro Q Q' f σ hQ h
  simp only [W] at h |-;refine ih (fun e f σ h=>?_) h
  cases e with
  | exit i =>
   simp only at h |-;split at h <;> exact hQ _ _ _ h
  | _=>exact hQ _ _ _ h
 | scope b ih =>
  intro Q Q' f σ hQ h
  simp only [W] at h |-;refine ih (fun e f σ h=>?_) h
  cases e with
  | goto l=>exact h
  | _=>exact hQ _ _ _ h
 | loop b ih =>
  intro Q Q' f σ hQ h
  simp only [W] at h |-;rw [show C.up.unr=C.unr from rfl,show C.up.loop=C.loop from rfl,show C.up.tie=C.tie from rfl,show C.up.ag=C.ag from rfl]
  cases hu:C.unr (keyOf b) with
  | succ n =>
   rw [hu] at h;exact ZhN (S:=fun Q f σ=>W C b Q f σ) (S':=fun Q f σ=>W C.up b Q f σ) (fun Q Q' f σ hQ h=>ih hQ h) (n+1) hQ h
  | zero =>
  rw [hu] at h;simp only at h |-;split at h
  ·split at h
   ·exact mq120
   exact mq120
  exact h
 | rangeFunc g ps asg body iha ihb =>
  intro Q Q' f σ hQ h
  simp only [W] at h |-;split at h
  ·exact (hi _ _ _ _ _ (h 0 default)).elim
  exact h
 | _ =>
 intro Q Q' f σ hQ h
 first
  | exact hQ _ _ _ h
  | exact h
end
def CallSem.up {G:GE} {cc:FuncId->List PV->St->(PEnd->St->Prop)->Prop} (h:CallSem G cc):CallSem G (fun g args σ K=>∃K',cc g args σ K'/\∀e σ,K' e σ->K e σ):=fun g args σ K ⟨K',h1,h2⟩ =>
 ⟨(h g args σ K' h1).1,fun ro n e w vs hS ha=>((h g args σ K' h1).2 ro n e w vs hS ha).mono fun en w' ⟨pe,σ',e',hk,r⟩=>⟨pe,σ',e',h2 _ _ hk,r⟩⟩
def Zcn {G:GE} {C:Cx} (hT:TabOK C.T G.P) (dj:CallSem G C.call) (hr:Zb5 C) (hi:∀g a r σ K,¬C.iter g a r σ K) (be:G.P.follows .mixedOrders=true) {g:FuncId} {fn:Func} {c:Code} (hf:G.P.funcs[g]?=some fn) (hb:fn.body=some c) (ax:ZA fn.ntmps c=true)
  {ag:Bool} {keep:Nat} {own:Bool} {args:List PV} {σ:St} {R:PEnd->St->Prop} (hk:σ.bx.length<=keep) (aa:args.length<=fn.ntmps) (h:WFG ag C fn keep own args σ R) {n:Nat} {e:Env} {w:World} {vs:Array Value} (hS:SRel G e σ w) (af:ArgsRel G e σ w args vs) :
  CallsIn (fw none) n G.P g vs w (Y8 G e σ w R) :=
 ZbG be (C:=C.up) ⟨hT,dj.up,fun v a s K h=>(hr v a s K h).elim,fun g a r s K h=>(hi g a r s K h).elim,.inl rfl⟩
  ⟨fun _ h1 h2=>hT.one h1 h2,fun _ _ _ K K' hK ⟨K0,h1,h2⟩=>⟨K0,h1,fun e σ h=>hK _ _ (h2 _ _ h)⟩,fun _ _ _ _ h=>h.elim,rfl⟩ hf hb ax hk aa (ag:=ag) (ZD3 hr hi _ (fun _ _ _ h=>h) h) hS af
end Go.PM
end

section
namespace Go.PM
abbrev Tbl:=List (Nat×Zp)
def ZEQ:Tbl->Nat->List PV->St->(PEnd->St->Prop)->Prop
 | [],_,_,_,_=>False
 | (g,sp)::l,n,args,σ,K=>match Nat.beq g n with
  | true=>Zjr sp args σ K
  | false=>ZEQ l n args σ K
def TblOK (G:GE):Tbl->Prop
 | []=>True
 | (g,sp)::l=>PCalls G g sp/\TblOK G l
def TblM:Tbl->Prop
 | []=>True
 | (_,sp)::l=>ZG sp/\TblM l
def TblM.mono:∀{l:Tbl},TblM l->∀n args σ (K K':PEnd->St->Prop),(∀e σ,K e σ->K' e σ)->ZEQ l n args σ K->ZEQ l n args σ K'
 | [],_=>fun _ _ _ _ _ _ h=>h.elim
 | (g,sp)::l,⟨h1,h2⟩=>fun n args σ K K' hK h=>by
  simp only [ZEQ] at h |-;split at h
  ·exact ZhM h1 _ _ _ _ hK h
  exact TblM.mono h2 n args σ K K' hK h
def ZER (md:Nat->Nat):Tbl->Nat->List PV->St->(PEnd->St->Prop)->Prop
 | [],_,_,_,_=>False
 | (g,sp)::l,n,args,σ,K=>match Nat.beq g n with
  | true=>VF (md n) sp args σ K
  | false=>ZER md l n args σ K
def TblOK.semM {G:GE} {md:Nat->Nat}:∀{l:Tbl},TblOK G l->CallSem G (ZER md l)
 | [],_=>fun _ _ _ _ h=>h.elim
 | (g,sp)::l,⟨h1,h2⟩=>fun n args σ K h=>by
  simp only [ZER] at h;split at h
  ·rename_i hb
   cases Tk hb
   exact XD h1 h
  exact TblOK.semM h2 n args σ K h
def TblOK.sem {G:GE}:∀{l:Tbl},TblOK G l->CallSem G (ZEQ l)
 | [],_=>fun _ _ _ _ h=>h.elim
 | (g,sp)::l,⟨h1,h2⟩=>fun n args σ K h=>by
  simp only [ZEQ] at h;split at h
  ·rename_i hb
   cases Tk hb
   exact XD h1 h
  exact TblOK.sem h2 n args σ K h
def ZmB:Value->List PV->St->(PEnd->St->Prop)->Prop:=fun _ _ _ _=>False
abbrev Raw:=Value->List PV->St->(PEnd->St->Prop)->Prop
abbrev Zrk:=FuncId->List PV->Raw->St->(PEnd->St->Prop)->Prop
def Zc9:Zrk:=fun _ _ _ _ _=>False
def ZtY:LoopAnn:=⟨[],[],fun _ _=>False,fun _ _=>0⟩
def Zo:List (Nat×LoopAnn)->Nat->LoopAnn
 | [],_=>ZtY
 | (k,a)::l,n=>match Nat.beq k n with | true=>a | false=>Zo l n
def ctx (T:Tab) (tbl:Tbl) (loops:Nat->LoopAnn):Cx:=⟨T,ZEQ tbl,ZmB,Zc9,loops,fun _=>0,fun _=>false,fun _=>false,true,fun _=>none,fun _=>false,fun _=>false⟩
def ZDm (T:Tab) (tbl:Tbl) (it:Zrk) (loops:Nat->LoopAnn):Cx:=⟨T,ZEQ tbl,ZmB,it,loops,fun _=>0,fun _=>false,fun _=>false,true,fun _=>none,fun _=>false,fun _=>false⟩
def ZyN (T:Tab) (tbl:Tbl) (md:Nat->Nat) (loops:Nat->LoopAnn) (unr:Nat->Nat) (ties bsl:Nat->Bool) (cut:Nat->Option (List Nat×(List PV->St->Prop))) (ag:Nat->Bool):Cx:=⟨T,ZER md tbl,ZmB,Zc9,loops,unr,ties,bsl,true,cut,ag,fun _=>false⟩
def ZDn (T:Tab) (tbl:Tbl) (md:Nat->Nat) (loops:Nat->LoopAnn) (unr:Nat->Nat) (ties bsl foc:Nat->Bool):Cx:=⟨T,ZER md tbl,ZmB,Zc9,loops,unr,ties,bsl,true,fun _=>none,fun _=>false,foc⟩
def ZDo (nl:Nat->Bool) (k n:Nat):Nat:=match nl n with | true=>k | false=>0
abbrev ZBU (T:Tab) (tbl:Tbl) (loops:Nat->LoopAnn) (unr:Nat->Nat) (ties:Nat->Bool):Cx:=ZyN T tbl (fun _=>0) loops unr ties (fun _=>false) (fun _=>none) (fun _=>false)
def ZrL (T:Tab) (tbl:Tbl) (loops:Nat->LoopAnn) (unr:Nat->Nat) (ties:Nat->Bool):Cx:=⟨T,ZEQ tbl,ZmB,Zc9,loops,unr,ties,fun _=>false,true,fun _=>none,fun _=>false,fun _=>false⟩
def ZuR:List (Nat×List Nat×(List PV->St->Prop))->Nat->Option (List Nat×(List PV->St->Prop))
 | [],_=>none
 | (k,a)::l,n=>match Nat.beq k n with | true=>some a | false=>ZuR l n
def Yd:List Nat->Nat->Bool
 | [],_=>false
 | k::l,n=>match Nat.beq k n with | true=>true | false=>Yd l n
def Xn:List (Nat×Nat)->Nat->Nat
 | [],_=>0
 | (k,a)::l,n=>match Nat.beq k n with | true=>a | false=>Xn l n
def ZoF (T:Tab) (tbl:Tbl) (it:Zrk) (gid:FuncId) (fn:Func) (loops:Nat->LoopAnn):Zrk:=fun g args raw σ K=>match Nat.beq gid g with
 | true=>Nat.ble args.length fn.ntmps=true/\W ⟨T,ZEQ tbl,raw,it,loops,fun _=>0,fun _=>false,fun _=>false,true,fun _=>none,fun _=>false,fun _=>false⟩ (YW fn) (fun e f σ'=>match e with
   | .normal | .ret=>pres T f σ'.bx fn.results.toList fun vs=>K (.ret (Uc vs)) σ'
   | .panic v=>K (.panic v) σ'
   | _=>False) (ZcH 0 args) σ
 | false=>False
def Zfa {G:GE}:Uh G Zc9:=fun _ _ _ _ _ h=>h.elim
def ZmC {G : GE} {T : Tab} {tbl : Tbl} (hT : TabOK T G.P) (be : G.P.follows .mixedOrders = true) (ht : TblOK G tbl) (hm : TblM tbl) {it : Zrk} (mh : Uh G it) {gid : FuncId} {fn : Func} {c : Code} (hf : G.P.funcs[gid]? = some fn) (hb : fn.body = some c) (av : (fn.name == "runtime.NumGoroutine") = false)
  (ax:ZA fn.ntmps c=true) (loops:Nat->LoopAnn):Uh G (ZoF T tbl it gid fn loops):=fun g args raw σ K h=>by
 unfold ZoF at h
 split at h
 ·rename_i hbq
  cases Tk hbq
  refine ⟨Ze hf av hb,fun n e w vs hS af s4=>?_⟩;have xa:YW fn=c:=by simp [YW,hb]
  rw [xa] at h;have presM:∀{T:Tab} {f:Frame} {bx:List Box} {l:List ResultVar} {K K':List PV->Prop},(∀vs,K vs->K' vs)->pres T f bx l K->pres T f bx l K':=by
   intro T f bx l
   induction l with
   | nil=>exact fun hK h=>hK _ h
   | cons r l ih =>
   intro K K' hK h
   exact mq76
  refine Zc4 be (C:=⟨T,ZEQ tbl,raw,it,loops,fun _=>0,fun _=>false,fun _=>false,true,fun _=>none,fun _=>false,fun _=>false⟩) ⟨hT,ht.sem,s4,mh,.inl rfl⟩ ⟨fun _ h1 h2=>hT.one h1 h2,hm.mono,fun _ _ _ _ h=>h.elim,rfl⟩ hf hb ax (Tc h.1) h.2 (fun pe f' σ' hq=>?_) hS af
  cases pe with
  | normal=>exact presM (fun vs hK e' w' v h1 h2 h3=>⟨.ret (Uc vs),σ',e',hK,⟨v,rfl,h2⟩,h1,h3⟩) hq
  | ret=>exact presM (fun vs hK e' w' v h1 h2 h3=>⟨.ret (Uc vs),σ',e',hK,⟨v,rfl,h2⟩,h1,h3⟩) hq
  | panic p=>exact fun e' w' v h1 h2 h3=>⟨.panic p,_,e',hq,⟨v,rfl,h2⟩,h1,h3⟩
  | exit id=>exact hq.elim
  | goto l=>exact hq.elim
 exact h.elim
def ZuS {G : GE} {T : Tab} {tbl : Tbl} (hT : TabOK T G.P) (be : G.P.follows .mixedOrders = true) (ht : TblOK G tbl) (hm : TblM tbl) {it : Zrk} (mh : Uh G it) {g : FuncId} {fn : Func} {c : Code} (hf : G.P.funcs[g]? = some fn) (hb : fn.body = some c) (av : (fn.name == "runtime.NumGoroutine") = false)
  (ax:ZA fn.ntmps c=true) {sp:Zp}
  (h:∀args σ K,sp args σ K->∃loops keep own,σ.bx.length<=keep/\args.length<=fn.ntmps/\WF (ZDm T tbl it loops) fn keep own args σ K):PCalls G g sp where
 enters:=Ze hf av hb
 calls:=fun args σ K hs n e w vs hS ha=>by
  obtain ⟨loops,keep,own,h1,h2,h3⟩:=h args σ K hs;exact ZbG be (C:=ZDm T tbl it loops) ⟨hT,ht.sem,fun _ _ _ _ h=>h.elim,mh,.inl rfl⟩ ⟨fun _ h1 h2=>hT.one h1 h2,hm.mono,fun _ _ _ _ h=>h.elim,rfl⟩ hf hb ax h1 h2 h3 hS ha
def Zjv {G : GE} {T : Tab} {tbl : Tbl} (hT : TabOK T G.P) (be : G.P.follows .mixedOrders = true) (ht : TblOK G tbl) {g : FuncId} {fn : Func} {c : Code} (hf : G.P.funcs[g]? = some fn) (hb : fn.body = some c) (av : (fn.name == "runtime.NumGoroutine") = false)
  (ax:ZA fn.ntmps c=true) {sp:Zp}
  (h:∀args σ K,sp args σ K->∃md loops unr ties bsl cut ag al keep own,σ.bx.length<=keep/\args.length<=fn.ntmps/\WFG al (ZyN T tbl md loops unr ties bsl cut ag) fn keep own args σ K):PCalls G g sp where
 enters:=Ze hf av hb
 calls:=fun args σ K hs n e w vs hS ha=>by
  obtain ⟨md,loops,unr,ties,bsl,cut,ag,al,keep,own,h1,h2,h3⟩:=h args σ K hs;exact Zcn (C:=ZyN T tbl md loops unr ties bsl cut ag) hT ht.semM (fun _ _ _ _ h=>h) (fun _ _ _ _ _ h=>h) be hf hb ax h1 h2 h3 hS ha
def ZoG {G : GE} {T : Tab} {tbl : Tbl} (hT : TabOK T G.P) (be : G.P.follows .mixedOrders = true) (ht : TblOK G tbl) {g : FuncId} {fn : Func} {c : Code} (hf : G.P.funcs[g]? = some fn) (hb : fn.body = some c) (av : (fn.name == "runtime.NumGoroutine") = false)
  (ax:ZA fn.ntmps c=true) {sp:Zp}
  (h:∀args σ K,sp args σ K->∃loops unr ties bsl foc keep own,σ.bx.length<=keep/\args.length<=fn.ntmps/\WF (ZDn T tbl (fun _=>0) loops unr ties bsl foc) fn keep own args σ K):PCalls G g sp where
 enters:=Ze hf av hb
 calls:=fun args σ K hs n e w vs hS ha=>by
  obtain ⟨loops,unr,ties,bsl,foc,keep,own,h1,h2,h3⟩:=h args σ K hs;exact Zcn (C:=ZDn T tbl (fun _=>0) loops unr ties bsl foc) hT ht.semM (fun _ _ _ _ h=>h) (fun _ _ _ _ _ h=>h) be hf hb ax h1 h2 h3 hS ha
def Zjw {G : GE} {T : Tab} {tbl : Tbl} (hT : TabOK T G.P) (be : G.P.follows .mixedOrders = true) (ht : TblOK G tbl) {g : FuncId} {fn : Func} {c : Code} (hf : G.P.funcs[g]? = some fn) (hb : fn.body = some c) (av : (fn.name == "runtime.NumGoroutine") = false)
  (ax:ZA fn.ntmps c=true) {sp:Zp}
  (h:∀args σ K,sp args σ K->∃loops unr ties bsl nl keep own,σ.bx.length<=keep/\args.length<=fn.ntmps/\WF (ZyN T tbl (ZDo nl 1) loops unr ties bsl (fun _=>none) (fun _=>false)) fn keep own args σ K):PCalls G g sp :=
 Zjv hT be ht hf hb av ax fun args σ K hs=>let ⟨_,_,_,_,_,_,_,h⟩:=h args σ K hs;⟨_,_,_,_,_,_,_,_,_,_,h⟩
def ZoH {G : GE} {T : Tab} {tbl : Tbl} (hT : TabOK T G.P) (be : G.P.follows .mixedOrders = true) (ht : TblOK G tbl) {g : FuncId} {fn : Func} {c : Code} (hf : G.P.funcs[g]? = some fn) (hb : fn.body = some c) (av : (fn.name == "runtime.NumGoroutine") = false)
  (ax:ZA fn.ntmps c=true) {sp:Zp}
  (h:∀args σ K,sp args σ K->∃loops unr ties bsl nl cut keep own,σ.bx.length<=keep/\args.length<=fn.ntmps/\WF (ZyN T tbl (ZDo nl 1) loops unr ties bsl cut (fun _=>false)) fn keep own args σ K):PCalls G g sp :=
 Zjv hT be ht hf hb av ax fun args σ K hs=>let ⟨_,_,_,_,_,_,_,_,h⟩:=h args σ K hs;⟨_,_,_,_,_,_,_,_,_,_,h⟩
def Wu {G : GE} {T : Tab} {tbl : Tbl} (hT : TabOK T G.P) (be : G.P.follows .mixedOrders = true) (ht : TblOK G tbl) {g : FuncId} {fn : Func} {c : Code} (hf : G.P.funcs[g]? = some fn) (hb : fn.body = some c) (av : (fn.name == "runtime.NumGoroutine") = false)
  (ax:ZA fn.ntmps c=true) {sp:Zp}
  (h:∀args σ K,sp args σ K->∃loops unr ties keep own,σ.bx.length<=keep/\args.length<=fn.ntmps/\WF (ZBU T tbl loops unr ties) fn keep own args σ K):PCalls G g sp :=
 Zjv hT be ht hf hb av ax fun args σ K hs=>let ⟨_,_,_,_,_,h⟩:=h args σ K hs;⟨_,_,_,_,_,_,_,_,_,_,h⟩
def ZhO {G : GE} {T : Tab} {tbl : Tbl} (hT : TabOK T G.P) (be : G.P.follows .mixedOrders = true) (ht : TblOK G tbl) {g : FuncId} {fn : Func} {c : Code} (hf : G.P.funcs[g]? = some fn) (hb : fn.body = some c) (av : (fn.name == "runtime.NumGoroutine") = false)
  (ax:ZA fn.ntmps c=true) {sp:Zp}
  (h:∀args σ K,sp args σ K->∃loops keep own,σ.bx.length<=keep/\args.length<=fn.ntmps/\WF (ctx T tbl loops) fn keep own args σ K):PCalls G g sp where
 enters:=Ze hf av hb
 calls:=fun args σ K hs n e w vs hS ha=>by
  obtain ⟨loops,keep,own,h1,h2,h3⟩:=h args σ K hs;exact Zcn (C:=ctx T tbl loops) hT ht.sem (fun _ _ _ _ h=>h) (fun _ _ _ _ _ h=>h) be hf hb ax h1 h2 h3 hS ha
def ZEX {X Y:Prop} (h:X):CondP true X Y:=h
def ZEY {X Y:Prop} (h:Y):CondP false X Y:=h
def ZEH {p:Prop} [Decidable p] {X Y:Prop} (h1:p->X) (h2:¬p->Y):CondP (decide p) X Y:=by
 by_cases h:p
 ·simp only [h,decide_true];exact h1 h
 simp only [h,decide_false];exact h2 h
def ZEJ {p:Prop} [Decidable p] {X Y:Prop} (h1:¬p->X) (h2:p->Y):CondP (!decide p) X Y:=by
 by_cases h:p
 ·simp only [h,decide_true];exact h2 h
 simp only [h,decide_false];exact h1 h
def InR.i64 {n:Int} (h1:-9223372036854775808<=n) (h2:n<=9223372036854775807):InR .i64 n:=by
 unfold InR IntKind.wrap
 exact mq140
def InR.i32 {n:Int} (h1:-2147483648<=n) (h2:n<=2147483647):InR .i32 n:=by
 unfold InR IntKind.wrap
 simp only [show IntKind.i32.bits=32 from rfl,show IntKind.i32.signed=true from rfl,TV];split <;> simp at * <;> omega
def InR.u8 {n:Int} (h1:0<=n) (h2:n<=255):InR .u8 n:=by
 unfold InR IntKind.wrap
 simp only [show IntKind.u8.bits=8 from rfl,show IntKind.u8.signed=false from rfl,TU];simp;omega
def InR.u32 {n:Int} (h1:0<=n) (h2:n<=4294967295):InR .u32 n:=by
 unfold InR IntKind.wrap
 simp only [show IntKind.u32.bits=32 from rfl,show IntKind.u32.signed=false from rfl,TU];simp;omega
def InR.u64 {n:Int} (h1:0<=n) (h2:n<=18446744073709551615):InR .u64 n:=by
 unfold InR IntKind.wrap
 simp only [show IntKind.u64.bits=64 from rfl,show IntKind.u64.signed=false from rfl,TU];simp;omega
def Zi {n:Int} {K Q X:Prop} (q:Q) (h1:-9223372036854775808<=n:=by omega) (h2:n<=9223372036854775807:=by omega) (h:Q->K:=by intro k;(conv=>whnf);exact k):InR .i64 n/\K\/X:=.inl ⟨InR.i64 h1 h2,h q⟩
def Vh {n:Int} {K Q X:Prop} (q:Q) (h1:-9223372036854775808<=n:=by decide) (h2:n<=9223372036854775807:=by decide) (h:Q->K:=by intro k;(conv=>whnf);exact k):InR .i64 n/\K\/X:=.inl ⟨InR.i64 h1 h2,h q⟩
def V9 {n:Int} {K Q X:Prop} (q:Q) (h1:0<=n:=by omega) (h2:n<=255:=by omega) (h:Q->K:=by intro k;(conv=>whnf);exact k):InR .u8 n/\K\/X:=.inl ⟨InR.u8 h1 h2,h q⟩
def Zda {n:Int} {K Q X:Prop} (q:Q) (h1:0<=n:=by omega) (h2:n<=18446744073709551615:=by omega) (h:Q->K:=by intro k;(conv=>whnf);exact k):InR .u64 n/\K\/X:=.inl ⟨InR.u64 h1 h2,h q⟩
def oiO {n:Int} {K X:Prop} (q:K) (h1:-9223372036854775808<=n:=by omega) (h2:n<=9223372036854775807:=by omega):InR .i64 n/\K\/X:=.inl ⟨InR.i64 h1 h2,q⟩
def oiD {n:Int} {K X:Prop} (q:K) (h1:-9223372036854775808<=n:=by decide) (h2:n<=9223372036854775807:=by decide):InR .i64 n/\K\/X:=.inl ⟨InR.i64 h1 h2,q⟩
def oiB {n:Int} {K X:Prop} (q:K) (h1:0<=n:=by omega) (h2:n<=255:=by omega):InR .u8 n/\K\/X:=.inl ⟨InR.u8 h1 h2,q⟩
def oiU {n:Int} {K X:Prop} (q:K) (h1:0<=n:=by omega) (h2:n<=18446744073709551615:=by omega):InR .u64 n/\K\/X:=.inl ⟨InR.u64 h1 h2,q⟩
def Zrl {K:PEnd->St->Prop} {p p':PEnd} {σ σ':St} (h:K p σ) (h1:p=p') (h2:σ=σ'):K p' σ':=by subst h1;subst h2;exact h
end Go.PM
end

section
namespace Go.PM
structure CxG (G:GE) (T:Tab) (C:Cx):Prop where
 T:C.T=T
 ok:∀e σ w,CxOK G C none e σ w
 mono:CxMono C.calm
 it:∀g args raw σ K,¬C.iter g args raw σ K
def CxG.of {G:GE} {T:Tab} {tbl:Tbl} (hT:TabOK T G.P) (ht:TblOK G tbl) (hm:TblM tbl) (loops:Nat->LoopAnn) (unr:Nat->Nat) (ties:Nat->Bool):CxG G T (ZrL T tbl loops unr ties) :=
 ⟨rfl,fun _ _ _=>⟨hT,ht.sem,fun _ _ _ _ h=>h.elim,Zfa,.inl rfl⟩,⟨fun _ h1 h2=>hT.one h1 h2,hm.mono,fun _ _ _ _ h=>h.elim,rfl⟩,fun _ _ _ _ _ h=>h⟩
structure PDef (G:GE) (g:FuncId) (spR:List PV->St->(St->Prop)->Prop) (spP:PV->List PV->St->(St->Prop)->Prop):Prop where
 enters:WO G.P g
 ret:∀args σ K,spR args σ K->∀(n:Nat) (e:Env) (w:World) (vs:Array Value),SRel G e σ w->ArgsRel G e σ w args vs ->
  CallsDIn (fw none) n G.P g vs .returning w fun en u' w'=>u'=.returning/\(∃r,en=.returned r)/\∃σ' e',K σ'/\SRel G e' σ' w'/\Later e σ w e' σ' w'
 pan:∀pv args σ K,spP pv args σ K->∀(n:Nat) (e:Env) (w:World) (vs:Array Value) (v:Value),SRel G e σ w->ArgsRel G e σ w args vs->VRel G e σ w pv v ->
  CallsDIn (fw none) n G.P g vs (.panicking [{ v:=v,recovered:=false }]) w fun en u' w'=>u'=.panicking [{ v:=v,recovered:=true }]/\(∃r,en=.returned r)/\∃σ' e',K σ'/\SRel G e' σ' w'/\Later e σ w e' σ' w'
def Zy2 (c:Code):Option (Nat×Nat×Code):=match c with
 | .seq (.region _ ops false) rest=>match ops.toList with
  | [o1,o2]=>match o1.op,o1.dst,o1.guard,o2.op,o2.dst,o2.guard with
   | .call { callee:=.builtin .recover,args,.. },some a,none,.assign (.tmp a'),some b,none=>match args.toList,Nat.beq a a' with
    | [],true=>some (a,b,rest)
    | _,_=>none
   | _,_,_,_,_,_=>none
  | _=>none
 | _=>none
def Zo7 {c:Code} {a b:Nat} {rest:Code} (h:Zy2 c=some (a,b,rest)):∃id ops o1 o2 at',c=.seq (.region id ops false) rest/\ops=#[o1,o2]/\o1.op=.call { callee:=.builtin .recover,args:=#[],argTypes:=at' }/\o1.dst=some a/\o1.guard=none/\o2.op=.assign (.tmp a)/\o2.dst=some b/\o2.guard=none:=by
 unfold Zy2 at h
 split at h
 ·rename_i id ops rest'
  split at h
  ·rename_i o1 o2 jq
   split at h
   ·rename_i args at' a1 a2 b1 h1 h2 h3 h4 h5 h6
    split at h
    ·rename_i h7 h8
     cases h
     have:=Tk h8;subst this;have ha:args=#[]:=by apply Array.ext';simpa using h7
     subst ha;exact ⟨id,ops,o1,o2,at',rfl,by apply Array.ext';simpa using jq,h1,h2,h3,h4,h5,h6⟩
    cases h
   cases h
  cases h
 cases h
section
variable {G:GE}
def Zvc (T:Tab) (fn:Func) (keep:Nat) (K:St->Prop):PQ:=fun e f σ=>match e with
 | .normal | .ret=>pres T f σ.bx fn.results.toList fun vs=>Zhq keep false (Uc vs) σ fun _ σ'=>K σ'
 | _=>False
def Zo8 {T : Tab} (hT : TabOK T G.P) (be : G.P.follows .mixedOrders = true) {g : FuncId} {fn : Func} {c : Code} (hf : G.P.funcs[g]? = some fn) (hb : fn.body = some c) (av : (fn.name == "runtime.NumGoroutine") = false)
  {a b:Nat} {rest:Code} (ab6:Zy2 c=some (a,b,rest)) (ax:ZA fn.ntmps c=true) {spR:List PV->St->(St->Prop)->Prop} {spP:PV->List PV->St->(St->Prop)->Prop}
  (hr:∀args σ K,spR args σ K->∃C keep,CxG G T C/\σ.bx.length<=keep/\args.length<=fn.ntmps/\W C rest (Zvc T fn keep K) (V4 (V4 (ZcH 0 args) a (.d .nili)) b (.d .nili)) σ)
  (hp:∀pv args σ K,spP pv args σ K->∃C keep,CxG G T C/\σ.bx.length<=keep/\args.length<=fn.ntmps/\W C rest (Zvc T fn keep K) (V4 (V4 (ZcH 0 args) a pv) b pv) σ):PDef G g spR spP:=by
 obtain ⟨id,ops,o1,o2,at',rfl,rfl,q1,q2,q3,q4,q5,q6⟩:=Zo7 ab6;simp only [ZA,Tm,Zoy,q2,q5] at ax;have ha:a<fn.ntmps:=by have:=Tc ax.1.1.1;omega
 have hbN:b<fn.ntmps:=by have:=Tc ax.1.1.2.1;omega
 have walk:∀(pv:PV) (v:Value) (u u':FrameMode) (args:List PV) (σ:St) (K:St->Prop) (C:Cx) (keep:Nat),CxG G T C->σ.bx.length<=keep->args.length<=fn.ntmps->W C rest (Zvc T fn keep K) (V4 (V4 (ZcH 0 args) a pv) b pv) σ ->
   (∀(c₀:Go.Frame) (cs:List Go.Frame),c₀.mode=u->match recoverD (c₀::cs) with | some (x,cs')=>x=v/\cs'={ c₀ with mode:=u' }::cs | none=>v=.nilIface/\u'=u) ->
   ∀(n:Nat) (e:Env) (w:World) (vs:Array Value),SRel G e σ w->ArgsRel G e σ w args vs->VRel G e σ w pv v ->
   CallsDIn (fw none) n G.P g vs u w fun en u2 w'=>u2=u'/\(∃r,en=.returned r)/\∃σ' e',K σ'/\SRel G e' σ' w'/\Later e σ w e' σ' w':=by
  intro pv v u u' args σ K C keep hC hk aa hW ub n e w vs hS af hv
  refine callsDIn_of_wpSIn hf hb trivial fun c₀ cs hu=>?_
  have hsz:vs.size=args.length:=af.1;have hF:FRel G e σ w (ZcH 0 args) (vs++Array.replicate (fn.ntmps - vs.size) undef):=Zab args 0 fun k x hx=>by
   exact mq35
  refine wpSIn_seq (wpSIn_region ?_)
  let A0:Act:={ tmps:=vs++Array.replicate (fn.ntmps - vs.size) undef,defers:=[] }
  have vq:A0.tmps.size=fn.ntmps:=by simp [A0];omega
  have s0:(#[o1,o2]:Array Oper)[0]?=some o1:=rfl;have s1:(#[o1,o2]:Array Oper)[1]?=some o2:=rfl;have w1:∀t,Region.wanted o1 (yielded #[o1,o2] t)=true:=fun t=>by simp [Region.wanted,q3]
  have w2:∀t,Region.wanted o2 (yielded #[o1,o2] t)=true:=fun t=>by simp [Region.wanted,q6]
  have x1:∀A:Act,(execOp A.eval o1).run G.P w=.ok .recover w:=fun A=>by
   unfold execOp
   simp only [q1,resolve,Sem.run_bind,Sem.run_pure,Result.andThen,invoke,builtin]
  have x2:∀A:Act,(execOp A.eval o2).run G.P w=.ok (.value (A.eval (.tmp a))) w:=fun A=>by
   unfold execOp
   simp only [q4,Sem.run_pure]
  have y2:(A0.put (some a) v).eval (.tmp a)=v:=by
   simp [Act.put,Act.eval,TX,vq,ha]
  have tail:rest.wpSIn (fw none) n G.P (bodyPostS G.P fn c₀ cs fun en u2 w'=>u2=u'/\(∃r,en=.returned r)/\∃σ' e',K σ'/\SRel G e' σ' w'/\Later e σ w e' σ' w') ((A0.put (some a) v).put (some b) v) ({ c₀ with mode:=u' }::cs) w:=by
   have w6:FRel G e σ w (V4 (ZcH 0 args) a pv) (A0.put (some a) v).tmps:=FRel.put (a:=A0) (d:=some a) hF hv (fun i hi=>by cases hi;rw [vq];exact ha);have sx:FRel G e σ w (V4 (V4 (ZcH 0 args) a pv) b pv) ((A0.put (some a) v).put (some b) v).tmps:=FRel.put (a:=A0.put (some a) v) (d:=some b) w6 hv (fun i hi=>by cases hi;rw [Yw,vq];exact hbN);refine wpSIn_of_wpIn rfl (wpIn_mono (Zc3 (n:=n) (ro:=none) (ds:=(w.heap.size,[],true)) be rest (C:=C) (hC.ok _ _ _) hC.mono (fun _ _ _ _ _ _=>hC.it _ _ _ _ _) ax.2 [] #[] (Y2 _) _
    (a:=(A0.put (some a) v).put (some b) v) hS sx (Later.refl e σ w) (by rw [Yw,Yw,vq]) (by rw [Xv,Xv];exact Marks.nil e σ (Tr _)) (fun i hi=>by cases hi) hW) fun x a' w' hp=>?_)
   obtain ⟨pe,f',e',σ',hq,hx,h1,h2,h3,h4,⟨_,rs,h5,ol,_⟩,h6⟩:=hp;have j7:a'.defers=[]:=by rw [h5,ol rfl];rfl
   have done:(pres T f' σ'.bx fn.results.toList fun vs=>Zhq keep false (Uc vs) σ' fun _ σ''=>K σ'')->∃r,(results fn a'.tmps).run G.P w'=.ok r w'/\u'=u'/\(∃r',Ending.returned r=.returned r')/\∃σ' e',K σ'/\SRel G e' σ' w'/\Later e σ w e' σ' w':=fun hl=>by
    exact mq87
   cases pe with
   | normal=>obtain rfl:x=.normal:=hx;obtain ⟨r,hr,hR⟩:=done hq;exact ⟨j7,u',rfl,r,hr,hR⟩
   | ret=>obtain rfl:x=.ret:=hx;obtain ⟨r,hr,hR⟩:=done hq;exact ⟨j7,u',rfl,r,hr,hR⟩
   | exit id=>exact hq.elim
   | goto l=>exact hq.elim
   | panic p=>exact hq.elim
  show wpOpsSIn (fw none) n G.P #[o1,o2] _ [0,1] A0 (c₀::cs) w;simp only [wpOpsSIn,s0,s1,w1,w2,if_true,x1,x2,q2,q5];refine ⟨fun _ _=>trivial,?_⟩;have hh:=ub c₀ cs hu
  cases xj:recoverD (c₀::cs) with
  | none =>
   rw [xj] at hh;obtain ⟨rfl,rfl⟩:=hh;have iv:({ c₀ with mode:=u' }:Go.Frame)=c₀:=by subst hu;rfl
   rw [iv] at tail;simp only [y2];exact ⟨fun _ _=>trivial,tail⟩
  | some p =>
  obtain ⟨x,cs'⟩:=p;rw [xj] at hh;obtain ⟨rfl,rfl⟩:=hh;simp only [y2];exact ⟨fun _ _=>trivial,tail⟩
 refine ⟨Ze hf av hb,fun args σ K hs n e w vs hS af=>?_,fun pv args σ K hs n e w vs v hS af hv=>?_⟩
 ·obtain ⟨C,keep,h0,h1,h2,h3⟩:=hr args σ K hs;exact walk (.d .nili) .nilIface .returning .returning args σ K C keep h0 h1 h2 h3 (fun c₀ cs hu=>by simp [recoverD,hu]) n e w vs hS af (.d _ _ .nili)
 obtain ⟨C,keep,h0,h1,h2,h3⟩:=hp pv args σ K hs;exact walk pv v _ _ args σ K C keep h0 h1 h2 h3 (fun c₀ cs hu=>by simp [recoverD,hu]) n e w vs hS af hv
end
def Zak:List Oper->Option (List Oper×Oper)
 | []=>none
 | [o]=>some ([],o)
 | o::p::l=>match Zak (p::l) with | some (a,b)=>some (o::a,b) | none=>none
def Jh:∀{l:List Oper} {i:List Oper} {o:Oper},Zak l=some (i,o)->l=i++[o]
 | [],i,o,h=>by cases h
 | [x],i,o,h=>by cases h;rfl
 | x::p::l,i,o,h=>by
  simp only [Zak] at h;split at h
  ·rename_i a b hs
   cases h
   rw [Jh hs];rfl
  cases h
def Zdn (o:Oper):Option (Operand×List Operand):=match o.op,o.guard,o.dst with
 | .defer { callee:=.value x,args,.. },none,none=>some (x,args.toList)
 | _,_,_=>none
def Zes {o:Oper} {x:Operand} {args:List Operand} (h:Zdn o=some (x,args)):∃as at',o.op=.defer { callee:=.value x,args:=as,argTypes:=at' }/\as.toList=args/\o.guard=none/\o.dst=none:=by
 unfold Zdn at h
 split at h
 ·rename_i x' as at' h1 h2 h3;cases h;exact ⟨as,at',h1,rfl,h2,h3⟩
 cases h
def ZjF (c:Code):Option (List Oper×List Oper×Operand×List Operand):=match c with
 | .region _ ops false=>match Zak ops.toList with
  | some (init,last)=>match Zdn last with
   | some (x,args)=>some (ops.toList,init,x,args)
   | none=>none
  | none=>none
 | _=>none
section
variable {G:GE} {C:Cx} {e0:Env} {σ0:St} {w0:World} {n N:Nat} {ds:Nat×List Deferred×Bool} {Z:Array Value->Prop} {Q:PQ}
def Zdo (hC:CxOK G C none e0 σ0 w0) {ops:Array Oper} {rest:List Nat} {QQ:Exit->Act->World->Prop} (hd:∀o,o∈ops->∀d,o.dst=some d->d<N/\∀t v,Z t->Z (t.setIfInBounds d v))
  (wv:∀x a w,x≠.normal->ZJ G e0 σ0 w0 ds N Z Q x a w->QQ x a w) (d7:∀a w,ZJ G e0 σ0 w0 ds N Z Q .normal a w->wpOpsIn (fw none) n G.P ops QQ rest a w) :
  ∀(l:List Oper) (k:Nat),(∀j,j<l.length->l[j]?=ops[k+j]?)->∀{e:Env} {σ:St} {w:World} {a:Act} {f:Frame},
  SRel G e σ w->FRel G e σ w f a.tmps->Later e0 σ0 w0 e σ w->a.tmps.size=N->Marks ds e σ w a.defers->Z a.tmps->ZnJ C ops.toList Q l f σ->wpOpsIn (fw none) n G.P ops QQ (List.range' k l.length++rest) a w
 | [],k,_,e,σ,w,a,f,hS,hF,hL,hN,bf,hZ,h=>d7 a w ⟨.normal,f,e,σ,h,rfl,hS,hF,hL,hN,bf,hZ⟩
 | o::l,k,hl,e,σ,w,a,f,hS,hF,hL,hN,bf,hZ,h=>by
  have h0:ops[k]?=some o:=by simpa using (hl 0 sM).symm
  have bj:=ZbA (ro:=none) (n:=n) hC hS hF hL hN bf hZ (ops:=ops) (hd o (Sd h0)) h;have next:∀a' w',KRel G e0 σ0 w0 ds N Z (ZnJ C ops.toList Q l) a' w'->wpOpsIn (fw none) n G.P ops QQ (List.range' (k+1) l.length++rest) a' w':=fun a' w' ⟨f',e',σ',h1,h2,h3,h4,h5,h6,h7⟩ =>
   Zdo hC hd wv d7 l (k+1) (fun j hj=>by have:=hl (j+1) sO;simpa [Sp,Nat.add_comm 1 j] using this) h2 h3 h4 h5 h6 h7 h1
  rw [Te,List.range'_succ,Sf];simp only [wpOpsIn,h0];split at bj
  ·rename_i hw
   rw [Tj hw];exact ZEU wv (Oper.wpIn_mono next bj)
  rename_i hw
  rw [Tf hw];exact ⟨fun _ _=>trivial,next _ _ bj⟩
def YK (g0:FuncId) (va vc:Array Value):Deferred:={ target:=.fn (.func g0) vc,args:=va }
def Zvd (G:GE) (g0:FuncId) (e0:Env) (σ0:St) (w0:World) (N:Nat) (Q0:PQ) (Q1:List PV->PQ):Exit->Act->World->Prop:=fun x a w =>
 ZJ G e0 σ0 w0 (0,[],true) N (Kept [] #[]) Q0 x a w \/
 ∃fa va vc e1 σ1 w1,Later e0 σ0 w0 e1 σ1 w1/\ArgsRel G e1 σ1 w1 fa (va++vc)/\ZJ G e1 σ1 w1 (0,[YK g0 va vc],true) N (Kept [] #[]) (Q1 (Xc fa)) x a w
end
def Zy3 (T:Tab) (fn:Func) (keep:Nat) (own:Bool) (spR:List PV->St->(St->Prop)->Prop) (spP:PV->List PV->St->(St->Prop)->Prop) (R:PEnd->St->Prop) (fa:List PV):PQ:=fun e f σ=>match e with
 | .normal | .ret=>spR fa σ fun σ2=>pres T (Ua f) σ2.bx fn.results.toList fun vs=>Zhq keep own (Uc vs) σ2 fun v σ'=>R (.ret v) σ'
 | .panic pv=>spP pv fa σ fun σ2=>pres T (Ua f) σ2.bx fn.results.toList fun vs=>Zhq keep own (Uc vs) σ2 fun v σ'=>R (.ret v) σ'
 | _=>False
def ArgsRel.clean {G:GE} {e e':Env} {σ σ':St} {w w':World} {fa:List PV} {vs:Array Value} (h:ArgsRel G e σ w fa vs) (hL:Later e σ w e' σ' w'):ArgsRel G e' σ' w' (Xc fa) vs:=by
 refine ⟨by rw [YH];exact h.1,fun i y u hy hu=>?_⟩;obtain ⟨x,hx,rfl⟩:=Wi i y hy;have hv:=h.2 i x u hx hu;exact VRel.clean hL.len hL.beta hL.pres hv hv.bnd
def CallsDIn.mono {F:Fence} {n:Nat} {P:Program} {f:FuncId} {args:Array Value} {u:FrameMode} {w:World} {R R':Ending->FrameMode->World->Prop} (h:CallsDIn F n P f args u w R) (hR:∀e u w,R e u w->R' e u w):CallsDIn F n P f args u w R' :=
 ⟨h.1,fun c cs hu hr=>let ⟨e,u',w',fr,h1,h2⟩:=h.2 c cs hu hr;⟨e,u',w',fr,hR _ _ _ h1,h2⟩⟩
end Go.PM
end
