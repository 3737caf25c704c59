/- A part of the proof: plain logic, contracts and laws over the given program. -/
import Derived.Scope
import Derived.RangeFuncRecord
import Derived.RangeFuncCalls
import Derived.RangeFuncLeaves
import Derived.Laws.Sem
import Derived.RecoverIn
import Derived.Test.YtafpcgfiedfldaaGreatDoorB03
set_option linter.unusedVariables false
set_option linter.unusedSimpArgs false
set_option linter.all false
set_option maxRecDepth 100000
set_option maxHeartbeats 16000000
noncomputable section
section
namespace Go.PM
def Xu {P:Program} {b:Go.Frame} {a:Act} {k:List Item} {cs:List Go.Frame} {w:World} {c:Code} :
  step P (lone (b.atR a (.code (.scope c)::k)) cs w)=.next (lone (b.atR a (.code c::.inScope c::k)) cs w) :=
 step_lone_go (by simp [stepG,stepG.exec,Go.Frame.atR])
def Zgq {P:Program} {b:Go.Frame} {a:Act} {k:List Item} {cs:List Go.Frame} {w:World} {c:Code} :
  step P (lone (b.atR a (.inScope c::k)) cs w)=.next (lone (b.atR a k) cs w) :=
 step_lone_go (by simp [stepG,stepG.exec,Go.Frame.atR])
def ZmQ {F:Fence} {n:Nat} {P:Program} {Q:Exit->Act->World->Prop} {a:Act} {w:World} {c:Code} (h:c.wpIn F n P (Exit.noGoto Q) a w):(Code.scope c).wpIn F n P Q a w:=by
 intro b k cs ta hb hr
 have h0:(lone (b.atR a (.code (.scope c)::k)) cs w).fenced P F:=fenced_calm hb hr rfl;obtain ⟨e,a₁,w₁,hq,mt⟩:=h b (.inScope c::k) cs ta hb hr
 cases e with
 | normal=>exact ⟨.normal,a₁,w₁,hq,.head h0 Xu (StepsIn.trans mt (.one (fenced_calm hb hr rfl) Zgq))⟩
 | exit id =>
  have hx:exitTo id (.inScope c::k)=exitTo id k:=by simp [exitTo]
  exact ⟨.exit id,a₁,w₁,hq,fun k' hk=>.head h0 Xu (mt.1 k' (by rw [hx];exact hk)),
   fun nh hk=>let ⟨k₁,h1,h2⟩:=mt.2 nh (by rw [hx];exact hk);⟨k₁,h1,.head h0 Xu h2⟩⟩
 | goto l=>exact hq.elim
 | ret=>exact ⟨_,a₁,w₁,hq,.of_steps (.one h0 Xu) mt⟩
 | panic ch=>exact ⟨_,a₁,w₁,hq,.of_steps (.one h0 Xu) mt⟩
 | outgrown=>exact ⟨_,a₁,w₁,hq,.of_steps (.one h0 Xu) mt⟩
def ZoT (N:Nat):List Oper->Bool
 | []=>true
 | o::l=>(match o.dst with | some d=>Nat.ble (d+1) N | none=>true) && ZoT N l
def ZD (N:Nat):Code->Bool
 | .region _ ops draw=>ZoT N ops.toList && (!draw || (match ZcL ops.toList with | none=>(match Ze5 (Wg ops.toList []) none (ZF 0 ops.toList) with | true=>ZoJ ops.toList | false=>Zvb ops.toList) | some h=>ZoO ops.toList h))
 | .seq a b=>ZD N a && ZD N b
 | .cond _ a b=>ZD N a && ZD N b
 | .block _ b=>ZD N b
 | .loop b=>ZD N b
 | .scope b=>ZD N b
 | .rangeFunc _ ps a b=>ps.toList.all (fun p=>Nat.ble (p+1) N) && ZD N a && ZD N b
 | _=>true
def ZaU {N:Nat}:∀{l:List Oper},ZoT N l=true->∀o∈l,∀d,o.dst=some d->d<N
 | [],_,o,ho=>by cases ho
 | x::l,h,o,ho=>by
  simp only [ZoT,Tn] at h;rcases Tu.1 ho with rfl | ho
  ·intro d hd
   have:=h.1;rw [hd] at this;exact Tc this
  exact ZaU h.2 o ho
def U6 {ks:List Nat}:∀{l:List Oper},YZ l ks=true->∀o∈l,∀d,o.dst=some d->d∉ks
 | [],_,o,ho=>by cases ho
 | x::l,h,o,ho=>by
  simp only [YZ,Tn] at h;rcases Tu.1 ho with rfl | ho
  ·intro d hd hm
   have:=h.1;rw [hd] at this;simp only [T4] at this;rw [(Yq _ _).2 hm] at this;cases this
  exact U6 h.2 o ho
def Kept (ks:List Nat) (t0 t:Array Value):Prop:=∀i,i∈ks->t.getD i Go.undef=t0.getD i Go.undef
def Kept.set {ks:List Nat} {t0 t:Array Value} (h:Kept ks t0 t) {d:Nat} (hd:d∉ks) (v:Value):Kept ks t0 (t.setIfInBounds d v):=fun i hi=>by
 have ah:d≠i:=fun e=>hd (e ▸ hi)
 rw [<- h i hi];simp [TX,ah]
def VW {ks ls:List Nat}:∀{l:List Oper},YZ l ks=true->YZ l ls=true->YZ l (ks++ls)=true
 | [],_,_=>rfl
 | o::l,h1,h2=>by
  simp only [YZ,Tn] at h1 h2 |-;refine ⟨?_,VW h1.2 h2.2⟩;have h1:=h1.1;have h2:=h2.1
  cases hd:o.dst with
  | none=>rfl
  | some d =>
  rw [hd] at h1 h2;simp only [T4] at h1 h2 |-
  cases h3:ZeB d (ks++ls) with
  | false=>rfl
  | true =>
  rcases TM.1 ((Yq _ _).1 h3) with h4 | h4
  ·rw [(Yq _ _).2 h4] at h1;cases h1
  rw [(Yq _ _).2 h4] at h2;cases h2
def ZeE {ks ls:List Nat}:∀{c:Code},Yd ks c=true->Yd ls c=true->Yd (ks++ls) c=true:=by
 intro c
 induction c with
 | region id ops draw=>exact fun h1 h2=>VW h1 h2
 | seq a b iha ihb=>intro h1 h2;simp only [Yd,Tn] at h1 h2 |-;exact ⟨iha h1.1 h2.1,ihb h1.2 h2.2⟩
 | cond c a b iha ihb=>intro h1 h2;simp only [Yd,Tn] at h1 h2 |-;exact ⟨iha h1.1 h2.1,ihb h1.2 h2.2⟩
 | block id b ih=>intro h1 h2;exact ih h1 h2
 | loop b ih=>intro h1 h2;exact ih h1 h2
 | scope b ih=>intro h1 h2;exact ih h1 h2
 | _=>intro _ _;rfl
def Y4:∀c:Code,Yd [] c=true:=by
 intro c
 induction c with
 | region id ops draw =>
  have:∀l:List Oper,YZ l []=true:=by
   intro l
   induction l with
   | nil=>rfl
   | cons o l ih=>simp only [YZ,ih,Bool.and_true];cases o.dst <;> rfl
  exact this _
 | seq a b iha ihb=>simp [Yd,iha,ihb]
 | cond c a b iha ihb=>simp [Yd,iha,ihb]
 | block id b ih=>exact ih
 | loop b ih=>exact ih
 | scope b ih=>exact ih
 | _=>rfl
section
variable {G:GE} {C:Cx} {e0 e:Env} {σ0 σ:St} {w0 w:World} {a:Act} {f:Frame} {Q:PQ} {ro:Option Nat} {n:Nat} {ds:Nat×List Deferred×Bool} {N:Nat}
def J4 {base:Frame} {tm:Array Value} (hb:FRel G e σ w base tm):∀{live:List Nat} {vs:List PV},(∀(k i:Nat) (x:PV),live[k]?=some i->vs[k]?=some x->VRel G e σ w x (tm.getD i Go.undef))->FRel G e σ w (Zgc base live vs) tm
 | [],vs,_=>by cases vs <;> exact hb
 | i::is,[],_=>hb
 | i::is,v::vs,h=>by
  intro j
  have ih:=J4 hb (live:=is) (vs:=vs) fun k i x h1 h2=>h (k+1) i x (by simpa using h1) (by simpa using h2)
  simp only [Zgc]
  by_cases i7:i=j
  ·subst i7;rw [Yx];exact h 0 i v sM sM
  rw [Xe _ _ i7];exact ih j
def Zc6 {f0:Frame} {tm:Array Value}:∀{keep:List Nat},(∀i,i∈keep->VRel G e σ w (clean (f0 i)) (tm.getD i Go.undef))->FRel G e σ w (Zjs f0 keep) tm
 | [],_=>fun i=>.undef _
 | i::is,h=>by
  intro j
  simp only [Zjs]
  by_cases i7:i=j
  ·subst i7;rw [Yx];exact h i sM
  rw [Xe _ _ i7];exact Zc6 (fun k hk=>h k (Tx _ hk)) j
def Zr2 {ks:List Nat} {t0:Array Value} {b:Code} (ihb:∀(Q:PQ) {e:Env} {σ:St} {w:World} {a:Act} {f:Frame},SRel G e σ w->FRel G e σ w f a.tmps->Later e0 σ0 w0 e σ w->a.tmps.size=N->Marks ds e σ w a.defers->Kept ks t0 a.tmps->W C b Q f σ->b.wpIn (fw ro) n G.P (ZL G e0 σ0 w0 ds N (Kept ks t0) Q) a w)
  (x:Exit) (a:Act) (w:World) (h:ZL G e0 σ0 w0 ds N (Kept ks t0) (fun e f σ=>match e with | .normal=>W C b Q f σ | e=>Q e f σ) x a w):Exit.then (b.wpIn (fw ro) n G.P (ZL G e0 σ0 w0 ds N (Kept ks t0) Q)) (ZL G e0 σ0 w0 ds N (Kept ks t0) Q) x a w:=by
 obtain ⟨pe,f,e,σ,hq,hx,h1,h2,h3,h4,h5,h6⟩:=h
 cases pe with
 | normal=>obtain rfl:x=.normal:=hx;exact ihb Q h1 h2 h3 h4 h5 h6 hq
 | exit id=>obtain rfl:x=.exit id:=hx;exact ⟨.exit id,f,e,σ,hq,rfl,h1,h2,h3,h4,h5,h6⟩
 | goto l=>obtain rfl:x=.goto l:=hx;exact ⟨.goto l,f,e,σ,hq,rfl,h1,h2,h3,h4,h5,h6⟩
 | ret=>obtain rfl:x=.ret:=hx;exact ⟨.ret,f,e,σ,hq,rfl,h1,h2,h3,h4,h5,h6⟩
 | panic p=>obtain ⟨v,rfl,hv⟩:=hx;exact ⟨.panic p,f,e,σ,hq,⟨v,rfl,hv⟩,h1,h2,h3,h4,h5,h6⟩
def ZmR {Z:Array Value->Prop} {id:Nat} (x:Exit) (a:Act) (w:World) (h:ZL G e0 σ0 w0 ds N Z (fun e f σ=>match e with | .exit i=>(match Nat.beq i id with | true=>Q .normal f σ | false=>Q (.exit i) f σ) | e=>Q e f σ) x a w) :
  Exit.inBlock id (ZL G e0 σ0 w0 ds N Z Q) x a w:=by
 obtain ⟨pe,f,e,σ,hq,hx,am⟩:=h
 cases pe with
 | normal=>obtain rfl:x=.normal:=hx;exact ⟨.normal,f,e,σ,hq,rfl,am⟩
 | exit i =>
  obtain rfl:x=.exit i:=hx;simp only [Exit.inBlock]
  by_cases hi:i=id
  ·subst hi;rw [Tk rfl];simp only [show Nat.beq i i=true from sM] at hq;exact ⟨.normal,f,e,σ,hq,rfl,am⟩
  rw [Tf hi];have:Nat.beq i id=false:=by
   cases hb:Nat.beq i id with
   | false=>rfl
   | true=>exact absurd (Tl hb) hi
  simp only [this] at hq;exact ⟨.exit i,f,e,σ,hq,rfl,am⟩
 | goto l=>obtain rfl:x=.goto l:=hx;exact ⟨.goto l,f,e,σ,hq,rfl,am⟩
 | ret=>obtain rfl:x=.ret:=hx;exact ⟨.ret,f,e,σ,hq,rfl,am⟩
 | panic p=>obtain ⟨v,rfl,hv⟩:=hx;exact ⟨.panic p,f,e,σ,hq,⟨v,rfl,hv⟩,am⟩
def ZmS {Z:Array Value->Prop} (x:Exit) (a:Act) (w:World) (h:ZL G e0 σ0 w0 ds N Z (fun e f σ=>match e with | .goto _=>False | e=>Q e f σ) x a w) :
  Exit.noGoto (ZL G e0 σ0 w0 ds N Z Q) x a w:=by
 obtain ⟨pe,f,e,σ,hq,hx,am⟩:=h
 cases pe with
 | normal=>obtain rfl:x=.normal:=hx;exact ⟨.normal,f,e,σ,hq,rfl,am⟩
 | exit i=>obtain rfl:x=.exit i:=hx;exact ⟨.exit i,f,e,σ,hq,rfl,am⟩
 | goto l=>exact hq.elim
 | ret=>obtain rfl:x=.ret:=hx;exact ⟨.ret,f,e,σ,hq,rfl,am⟩
 | panic p=>obtain ⟨v,rfl,hv⟩:=hx;exact ⟨.panic p,f,e,σ,hq,⟨v,rfl,hv⟩,am⟩
def Zgr (hS:SRel G e σ w) {b:Nat} {st st':LoopState} {pd pd':Option Code} {r:Loop} (hb:σ.bx[b]?=some (.loop st pd r)) :
  Stepped e σ w e (σ.set b (.loop st' pd' r)) (w.putObj (e.β b) (.loop { r with state:=st',pending:=pd' }))/\SRel G e (σ.set b (.loop st' pd' r)) (w.putObj (e.β b) (.loop { r with state:=st',pending:=pd' })):=by
 have kl:w.heap[e.β b]?=some (.loop { r with state:=st,pending:=pd }):=hS.box b _ hb;exact Ud hS hb rfl rfl rfl World.putObj_size (fun k hk=>World.putObj_heap_other hk) fun _=>World.putObj_heap_same (Tp.1 kl).1
def ZhU:∀{ps:List Nat} {f:Frame} {args:List PV} {tm:Array Value} {vs:List Value},FRel G e σ w f tm->vs.length=args.length->(∀(i:Nat) (x:PV) (u:Value),args[i]?=some x->vs[i]?=some u->VRel G e σ w x u)->(∀p∈ps,p<tm.size) ->
  FRel G e σ w (Zof f ps args) ((ps.zip vs).foldl (fun tmps (x:Nat×Value)=>tmps.setIfInBounds x.1 x.2) tm)/\((ps.zip vs).foldl (fun tmps (x:Nat×Value)=>tmps.setIfInBounds x.1 x.2) tm).size=tm.size
 | [],f,args,tm,vs,hF,hl,hr,hp=>by simp only [Zof,List.zip_nil_left,List.foldl_nil,and_true];exact hF
 | p::ps,f,[],tm,[],hF,hl,hr,hp=>⟨hF,rfl⟩
 | p::ps,f,x::args,tm,u::vs,hF,hl,hr,hp=>by
   simp only [List.zip_cons_cons,List.foldl_cons,Zof];have h1:FRel G e σ w (W1 f p x) (tm.setIfInBounds p u):=by
    have:=FRel.put (a:={ tmps:=tm,defers:=[] }) (d:=some p) hF (hr 0 x u rfl rfl) (fun i hi=>by cases hi;exact hp p sM);exact this
   obtain ⟨g1,g2⟩:=ZhU (ps:=ps) h1 (by simpa using hl) (fun i y v hy hv=>hr (i+1) y v (by simpa using hy) (by simpa using hv)) (fun q hq=>by simpa using hp q (by simp [hq]));exact ⟨g1,by rw [g2];simp⟩
def Marks.push {lo:Nat×List Deferred×Bool} {l:List Deferred} (hS:SRel G e σ w) (hf:lo.2.2=false) (h:Marks lo e σ w l):Marks lo e σ (w.alloc (.deferred (some []))) (JY w.heap.size::l):=by
 obtain ⟨h0,rs,h1,_,h2,h3⟩:=h;have hg:=Grows.alloc w (.deferred (some []));have mn:∀r∈rs,r<w.heap.size:=fun r hr=>(Tp.1 (h3 r hr).2.1).1
 refine ⟨TZ h0 hg.size,w.heap.size::rs,by rw [h1];rfl,fun h=>by (rw [hf] at h;cases h),List.nodup_cons.2 ⟨fun hm=>by have:=mn _ hm;omega,h2⟩,fun r hr=>?_⟩;rcases Tu.1 hr with rfl | hr
 ·refine ⟨h0,heap_alloc_new w _,fun i hi=>by have:=hS.lt hi;omega,fun t ht p hp=>?_,(by
   cases hq:e.H w.heap.size with
   | none=>rfl
   | some q=>have:=(hS.hid _ _ hq).2.1;omega)⟩
  obtain ⟨_,_,cs,ty,fz,hh⟩:=hS.own t ht p hp;have:=(Tp.1 hh).1;omega
 obtain ⟨g1,g2,g3,g4⟩:=h3 r hr;exact ⟨g1,(hg.old r (mn r hr)).trans g2,g3,g4⟩
def Zr3 {o:Oper} {d:Nat} (hd:o.dst=some d):∀{l:List Oper},o∈l->ZeC d l=true:=fun {l} ho=>by
 induction l with
 | nil=>cases ho
 | cons x l ih =>
 rcases Tu.1 ho with rfl | ho
 ·unfold ZeC
  rw [hd];show (match Nat.beq d d with | true=>true | false=>ZeC d l)=true;rw [Nat.beq_refl]
 unfold ZeC
 split
 ·split
  ·rfl
  exact ih ho
 exact ih ho
def ZhV (az:G.P.follows .mixedOrders=true) {id:Nat} {ops:Array Oper} {draw:Bool} (hC:CxOK G C ro e0 σ0 w0) (hM:CxMono C.calm) (av:ZD N (.region id ops draw)=true) {ks:List Nat} {t0:Array Value} (dg:Yd ks (.region id ops draw)=true)
  (hS:SRel G e σ w) (hF:FRel G e σ w f a.tmps) (hL:Later e0 σ0 w0 e σ w) (hN:a.tmps.size=N) (bf:Marks ds e σ w a.defers) (hZ:Kept ks t0 a.tmps) (h:WR C ops.toList draw Q f σ):(Code.region id ops draw).wpIn (fw ro) n G.P (ZL G e0 σ0 w0 ds N (Kept ks t0) Q) a w:=by
 simp only [ZD,Tn] at av;have hd:∀o,o∈ops->∀d,o.dst=some d->d<N/\∀t v,Kept ks t0 t->Kept ks t0 (t.setIfInBounds d v):=fun o ho d vt =>
  ⟨ZaU av.1 o (TJ.1 ho) d vt,fun t v hk=>hk.set (U6 dg o (TJ.1 ho) d vt) v⟩
 cases draw with
 | false =>
  refine wpIn_region ?_;have:=Zff (ro:=ro) (n:=n) hC hd ops.toList 0 (fun j=>sM) hS hF hL hN bf hZ h;rw [List.range_eq_range'];simpa using this
 | true =>
 have i6:=av.2;simp only [Bool.not_true,Bool.false_or] at i6;simp only [WR] at h;have ik:Later e0 σ0 w0 e σ { w with drawn:=w.drawn+1 }:=hL.trans { Later.refl e σ w with };have hst:Stepped e σ w e σ { w with drawn:=w.drawn+1 }:={ Stepped.refl e σ w with }
 have hS':SRel G e σ { w with drawn:=w.drawn+1 }:={ hS with box:=fun i x hx=>(hS.box i x hx).step hst rfl HKeep.rfl' }
 have zm:=hF.step hst
 let Z:Array Value->Prop:=fun t=>Kept ks t0 t/\∀i,ZeC i ops.toList=false->t.getD i Go.undef=a.tmps.getD i Go.undef
 have zn:∀o,o∈ops->∀d,o.dst=some d->d<N/\∀t v,Z t->Z (t.setIfInBounds d v):=fun o ho d vt=>⟨(hd o ho d vt).1,fun t v hz=>⟨(hd o ho d vt).2 t v hz.1,fun i hi=>by
  have ah:d≠i:=fun he=>by
   subst he;rw [Zr3 vt (TJ.1 ho)] at hi;cases hi
  rw [<- hz.2 i hi];simp [TX,ah]⟩⟩
 have hC':=hC.later ik;have fin:∀x a' w',ZL G e σ { w with drawn:=w.drawn+1 } ds N Z (Zjt C ops.toList f Q) x a' w'->ZL G e0 σ0 w0 ds N (Kept ks t0) Q x a' w':=fun x a' w' hp=>by
  obtain ⟨pe,f',e',σ',hq,hx,g1,g2,g3,g4,g5,g6⟩:=hp
  cases pe with
  | panic p =>
   refine ⟨.panic p,_,e',σ',hq,hx,g1,fun i=>?_,ik.trans g3,g4,g5,g6.1⟩;unfold Cx.pd
   cases C.pk with
   | false=>exact .undef _
   | true =>
   show VRel _ _ _ _ (match ZeC i ops.toList with | true=>PV.undef | false=>clean (f i)) _
   cases hw:ZeC i ops.toList with
   | true=>exact .undef _
   | false =>
   rw [g6.2 i hw];exact (zm.clean g3) i
  | normal=>exact ⟨_,f',e',σ',hq,hx,g1,g2,ik.trans g3,g4,g5,g6.1⟩
  | ret=>exact ⟨_,f',e',σ',hq,hx,g1,g2,ik.trans g3,g4,g5,g6.1⟩
  | exit id=>exact ⟨_,f',e',σ',hq,hx,g1,g2,ik.trans g3,g4,g5,g6.1⟩
  | goto l=>exact ⟨_,f',e',σ',hq,hx,g1,g2,ik.trans g3,g4,g5,g6.1⟩
 have hZ':Z a.tmps:=⟨hZ,fun _ _=>rfl⟩
 have hR:Later e σ { w with drawn:=w.drawn+1 } e σ { w with drawn:=w.drawn+1 }:=Later.refl _ _ _;refine wpIn_mono (wpIn_region_any (Q:=ZL G e σ { w with drawn:=w.drawn+1 } ds N Z (Zjt C ops.toList f Q)) az ?_) fin;split at h
 ·rename_i hh
  rw [hh] at i6;simp only at i6;split at h
  ·rename_i hch
   rw [hch] at i6;exact ZmL hC'.calm hM zn i6 hS' zm hR hN (bf.later hst.toLater) hZ' h
  rename_i hch
  rw [hch] at i6;exact ZoS hC'.calm hM zn i6 hS' zm hR hN (bf.later hst.toLater) hZ' h
 rename_i hl hh
 rw [hh] at i6;exact ZmP hC'.calm hM zn hh i6 hS' zm hR hN (bf.later hst.toLater) hZ' h
def Zc7 (az:G.P.follows .mixedOrders=true):∀(c:Code) {C:Cx} {ro:Option Nat} {e0:Env} {σ0:St} {w0:World} {N:Nat} {ds:Nat×List Deferred×Bool} {n:Nat},CxOK G C ro e0 σ0 w0->CxMono C.calm->(ds.2.2=true->∀g args raw σ K,¬C.iter g args raw σ K)->ZD N c=true->∀(ks:List Nat) (t0:Array Value),Yd ks c=true->∀(Q:PQ) {e:Env} {σ:St} {w:World} {a:Act} {f:Frame},
  SRel G e σ w->FRel G e σ w f a.tmps->Later e0 σ0 w0 e σ w->a.tmps.size=N->Marks ds e σ w a.defers->Kept ks t0 a.tmps->W C c Q f σ->c.wpIn (fw ro) n G.P (ZL G e0 σ0 w0 ds N (Kept ks t0) Q) a w:=by
 intro c
 induction c with
 | skip=>intro C ro e0 σ0 w0 N ds n hC hM dy _ ks t0 _ Q e σ w a f hS hF hL hN bf hZ h;exact wpIn_skip ⟨.normal,f,e,σ,h,rfl,hS,hF,hL,hN,bf,hZ⟩
 | label l=>intro C ro e0 σ0 w0 N ds n hC hM dy _ ks t0 _ Q e σ w a f hS hF hL hN bf hZ h;exact wpIn_label ⟨.normal,f,e,σ,h,rfl,hS,hF,hL,hN,bf,hZ⟩
 | exit id=>intro C ro e0 σ0 w0 N ds n hC hM dy _ ks t0 _ Q e σ w a f hS hF hL hN bf hZ h;exact wpIn_exit ⟨.exit id,f,e,σ,h,rfl,hS,hF,hL,hN,bf,hZ⟩
 | goto l=>intro C ro e0 σ0 w0 N ds n hC hM dy _ ks t0 _ Q e σ w a f hS hF hL hN bf hZ h;exact wpIn_goto ⟨.goto l,f,e,σ,h,rfl,hS,hF,hL,hN,bf,hZ⟩
 | ret=>intro C ro e0 σ0 w0 N ds n hC hM dy _ ks t0 _ Q e σ w a f hS hF hL hN bf hZ h;exact wpIn_ret ⟨.ret,f,e,σ,h,rfl,hS,hF,hL,hN,bf,hZ⟩
 | region id ops draw =>
  intro C ro e0 σ0 w0 N ds n hC hM dy av ks t0 dg Q0 e σ w a f hS hF hL hN bf hZ h
  have core:∀{Q:PQ} {e:Env} {σ:St},SRel G e σ w->FRel G e σ w f a.tmps->Later e0 σ0 w0 e σ w->Marks ds e σ w a.defers->WR C ops.toList draw Q f σ->(Code.region id ops draw).wpIn (fw ro) n G.P (ZL G e0 σ0 w0 ds N (Kept ks t0) Q) a w:=fun {Q e σ} hS hF hL bf h=>ZhV az hC hM av dg hS hF hL hN bf hZ h
  simp only [W] at h;split at h
  ·exact core hS hF hL bf h
  obtain ⟨b,k,h⟩:=h;obtain ⟨e1,σ1,h,hst,gm⟩:=ZjI hS h;rw [ZN] at h;refine wpIn_mono (core gm (hF.step hst) (hL.trans hst.toLater) (bf.later hst.toLater) h) fun x a' w' hp=>?_
  obtain ⟨pe,f',e',σ',hq,hx,g1,g2,g3,g4,g5,g6⟩:=hp
  cases pe with
  | normal =>
   obtain ⟨e2,σ2,hq,jw,jj⟩:=Zgp g1 (K:=fun σ=>Xt σ fun σ=>Q0 .normal f' σ) hq;rw [ZN] at hq;exact ⟨.normal,f',e2,σ2,hq,hx,jj,g2.step jw,g3.trans jw.toLater,g4,g5.later jw.toLater,g6⟩
  | _=>exact hq.elim
 | seq x y ihx ihy =>
  intro C ro e0 σ0 w0 N ds n hC hM dy av ks t0 dg Q e σ w a f hS hF hL hN bf hZ h
  simp only [ZD,Tn] at av;simp only [Yd,Tn] at dg;simp only [W] at h;split at h
  ·exact wpIn_seq (wpIn_mono (ihx hC hM dy av.1 ks t0 dg.1 _ hS hF hL hN bf hZ h) (Zr2 fun Q {e σ w a f}=>ihy hC hM dy av.2 ks t0 dg.2 Q))
  rename_i live I f5
  obtain ⟨h1,h2⟩:=h;refine wpIn_seq (wpIn_mono (ihx hC hM dy av.1 ks t0 dg.1 _ hS hF hL hN bf hZ h1) fun x' a' w' hp=>?_);obtain ⟨pe,f',e',σ',hq,hx,g1,g2,g3,g4,g5,g6⟩:=hp
  cases pe with
  | normal =>
   obtain rfl:x'=.normal:=hx;obtain ⟨vs0,σ1,e1,hI,gm,kw,hlen,be⟩:=Zk7 g1 hq;have xb:FRel G e1 σ1 w' (Zgc (fun _=>.undef) live vs0) a'.tmps:=J4 (fun i=>.undef _) fun k i x h1 h2=>be k (f' i) x _ (by rw [Th,h1];rfl) h2 (g2 i)
   exact ihy hC hM dy av.2 ks t0 dg.2 Q gm xb (g3.drop kw g3.len) g4 (g5.drop kw) g6 (h2 _ _ hI)
  | exit id=>obtain rfl:x'=.exit id:=hx;exact ⟨.exit id,f',e',σ',hq,rfl,g1,g2,g3,g4,g5,g6⟩
  | goto l=>obtain rfl:x'=.goto l:=hx;exact ⟨.goto l,f',e',σ',hq,rfl,g1,g2,g3,g4,g5,g6⟩
  | ret=>obtain rfl:x'=.ret:=hx;exact ⟨.ret,f',e',σ',hq,rfl,g1,g2,g3,g4,g5,g6⟩
  | panic p=>obtain ⟨v,rfl,hv⟩:=hx;exact ⟨.panic p,f',e',σ',hq,⟨v,rfl,hv⟩,g1,g2,g3,g4,g5,g6⟩
 | cond c x y ihx ihy =>
  intro C ro e0 σ0 w0 N ds n hC hM dy av ks t0 dg Q e σ w a f hS hF hL hN bf hZ h
  simp only [ZD,Tn] at av;simp only [Yd,Tn] at dg;simp only [W] at h;have hv:=ZbC hF c;split at h
  ·rename_i t hc
   rw [hc] at hv
   cases t with
   | true=>exact wpIn_cond_true hv.dbool (ihx hC hM dy av.1 ks t0 dg.1 _ hS hF hL hN bf hZ h)
   | false=>exact wpIn_cond_false hv.dbool (ihy hC hM dy av.2 ks t0 dg.2 _ hS hF hL hN bf hZ h)
  exact h.elim
 | block id b ih =>
  intro C ro e0 σ0 w0 N ds n hC hM dy av ks t0 dg Q e σ w a f hS hF hL hN bf hZ h
  exact wpIn_block (wpIn_mono (ih hC hM dy av ks t0 dg _ hS hF hL hN bf hZ h) ZmR)
 | scope b ih =>
  intro C ro e0 σ0 w0 N ds n hC hM dy av ks t0 dg Q e σ w a f hS hF hL hN bf hZ h
  exact ZmQ (wpIn_mono (ih hC hM dy av ks t0 dg _ hS hF hL hN bf hZ h) ZmS)
 | loop b ih =>
  intro C ro e0 σ0 w0 N ds n hC hM dy av ks t0 dg Q e σ w a f hS hF hL hN bf hZ h
  simp only [W] at h;generalize C.loop (YB b)=A at h;split at h
  ·rename_i m0 _
   generalize m0+1=m at h
   let J:Nat->Frame->St->Act->World->Prop:=fun k f1 σ1 a1 w1=>∃e1,ZbA (fun Q f σ=>W C b Q f σ) Q k f1 σ1/\SRel G e1 σ1 w1/\FRel G e1 σ1 w1 f1 a1.tmps/\Later e σ w e1 σ1 w1/\a1.tmps.size=N/\Marks ds e1 σ1 w1 a1.defers/\Kept ks a.tmps a1.tmps
   let In:Act->World->Prop:=fun a1 w1=>∃k f1 σ1,J k f1 σ1 a1 w1
   let Mu:Act->World->Nat->Prop:=fun a1 w1 m=>∃f1 σ1,J m f1 σ1 a1 w1
   have least:∀a1 w1,In a1 w1->∃m,Mu a1 w1 m/\∀m',Mu a1 w1 m'->m<=m':=fun a1 w1 ⟨k,f1,σ1,hJ⟩=>by
    have:∀m,Mu a1 w1 m->∃m,Mu a1 w1 m/\∀m',Mu a1 w1 m'->m<=m':=by
     intro m
     induction m using Nat.strongRecOn with
     | _ m ihm =>
     intro hm
     exact mq124
    exact this _ ⟨f1,σ1,hJ⟩
   classical
   let mu:Act->World->Nat:=fun a1 w1=>if hh:∃m,Mu a1 w1 m/\∀m',Mu a1 w1 m'->m<=m' then Classical.choose hh else 0
   have xc:∀a1 w1,In a1 w1->Mu a1 w1 (mu a1 w1)/\∀m',Mu a1 w1 m'->mu a1 w1<=m':=fun a1 w1 tu=>by
    have hh:=least a1 w1 tu;simp only [mu,dif_pos hh];exact Classical.choose_spec hh
   refine wpIn_loop In mu ⟨m,f,σ,e,h,hS,hF,Later.refl e σ w,hN,bf,fun i _=>rfl⟩ ?_;intro a1 w1 tu
   obtain ⟨⟨f2,σ2,⟨e2,hU,jj,s8,mc,hN2,tv,hK2⟩⟩,_⟩:=xc a1 w1 tu;generalize iw:mu a1 w1=mm at hU
   cases mm with
   | zero=>exact hU.elim
   | succ mm =>
   simp only [ZbA] at hU;have hb:=ih (n:=n) (hC.later hL) hM dy av ks a.tmps dg _ jj s8 mc hN2 tv hK2 hU;refine wpIn_mono hb fun x a' w' hp=>?_
   obtain ⟨pe,f',e',σ',hq,hx,h1,h2,h3,h4,h5,h6⟩:=hp;have qm:Kept ks t0 a'.tmps:=fun i hi=>(h6 i hi).trans (hZ i hi)
   cases pe with
   | normal =>
    obtain rfl:x=.normal:=hx;have hJ:J mm f' σ' a' w':=⟨e',hq,h1,h2,h3,h4,h5,h6⟩
    have oi:In a' w':=⟨mm,f',σ',hJ⟩
    refine ⟨oi,?_⟩;have:=(xc a' w' oi).2 _ ⟨f',σ',hJ⟩;exact Nat.lt_succ_of_le this
   | exit id=>obtain rfl:x=.exit id:=hx;exact ⟨.exit id,f',e',σ',hq,rfl,h1,h2,hL.trans h3,h4,h5,qm⟩
   | goto l=>obtain rfl:x=.goto l:=hx;exact ⟨.goto l,f',e',σ',hq,rfl,h1,h2,hL.trans h3,h4,h5,qm⟩
   | ret=>obtain rfl:x=.ret:=hx;exact ⟨.ret,f',e',σ',hq,rfl,h1,h2,hL.trans h3,h4,h5,qm⟩
   | panic p=>obtain ⟨v,rfl,hv⟩:=hx;exact ⟨.panic p,f',e',σ',hq,⟨v,rfl,hv⟩,h1,h2,hL.trans h3,h4,h5,qm⟩
  have key:∀A:LoopAnn,Yd A.keep b=true->(V9 (C.ag (YB b)) σ.bx.length (A.live.map f) σ fun vs σ0=>A.I vs σ0 /\
    ∀vs σ1,A.I vs σ1->W C b (fun e f' σ'=>match e with
     | .normal=>V9 (C.ag (YB b)) σ1.bx.length (A.live.map f') σ' fun vs' σ''=>A.I vs' σ''/\A.μ vs' σ''<A.μ vs σ1
     | e=>Q e f' σ') (Zgc (Zjs f A.keep) A.live vs) σ1)->(Code.loop b).wpIn (fw ro) n G.P (ZL G e0 σ0 w0 ds N (Kept ks t0) Q) a w:=fun A gl h=>by
   obtain ⟨vs0,σ1,e1,⟨hI,lx⟩,gm,kw,hlen,be⟩:=Zc0 hS h;have kx:∀{e':Env} {σ':St} {w':World} {tm:Array Value},Later e σ w e' σ' w'->Kept (ks++A.keep) a.tmps tm->∀i,i∈A.keep->VRel G e' σ' w' (clean (f i)) (tm.getD i Go.undef):=fun {e' σ' w' tm} hl hk i hi=>by
    rw [hk i (TM.2 (.inr hi))];exact VRel.clean hl.len hl.beta hl.pres (hF i) (hF i).bnd
   have rm:∀(f':Frame) (tm:Array Value) (vs':List PV) {e':Env} {σ':St} {w':World} {e'':Env} {σ'':St},FRel G e' σ' w' f' tm->(∀(i:Nat) (x y:PV) (u:Value),(A.live.map f')[i]?=some x->vs'[i]?=some y->VRel G e' σ' w' x u->VRel G e'' σ'' w' y u) ->
     ∀(k i:Nat) (x:PV),A.live[k]?=some i->vs'[k]?=some x->VRel G e'' σ'' w' x (tm.getD i Go.undef):=fun f' tm vs' {e' σ' w' e'' σ''} hf hv k i x h1 h2 =>
    hv k (f' i) x _ (by rw [Th,h1];rfl) h2 (hf i)
   let J:List PV->St->Act->World->Prop:=fun vs σ1 a1 w1=>∃e1,A.I vs σ1/\SRel G e1 σ1 w1/\FRel G e1 σ1 w1 (Zgc (Zjs f A.keep) A.live vs) a1.tmps/\Later e σ w e1 σ1 w1/\a1.tmps.size=N/\Marks ds e1 σ1 w1 a1.defers/\Kept (ks++A.keep) a.tmps a1.tmps
   let In:Act->World->Prop:=fun a1 w1=>∃vs σ1,J vs σ1 a1 w1
   let Mu:Act->World->Nat->Prop:=fun a1 w1 m=>∃vs σ1,J vs σ1 a1 w1/\A.μ vs σ1=m
   have least:∀a1 w1,In a1 w1->∃m,Mu a1 w1 m/\∀m',Mu a1 w1 m'->m<=m':=fun a1 w1 ⟨vs,σ1,hJ⟩=>by
    have:∀m,Mu a1 w1 m->∃m,Mu a1 w1 m/\∀m',Mu a1 w1 m'->m<=m':=by
     intro m
     induction m using Nat.strongRecOn with
     | _ m ihm =>
     intro hm
     exact mq124
    exact this _ ⟨vs,σ1,hJ,rfl⟩
   classical
   let mu:Act->World->Nat:=fun a1 w1=>if hh:∃m,Mu a1 w1 m/\∀m',Mu a1 w1 m'->m<=m' then Classical.choose hh else 0
   have xc:∀a1 w1,In a1 w1->Mu a1 w1 (mu a1 w1)/\∀m',Mu a1 w1 m'->mu a1 w1<=m':=fun a1 w1 tu=>by
    have hh:=least a1 w1 tu;simp only [mu,dif_pos hh];exact Classical.choose_spec hh
   have qn:Later e σ w e1 σ1 w:=(Later.refl e σ w).drop kw (Tt _);have ol:Kept (ks++A.keep) a.tmps a.tmps:=fun i _=>rfl
   refine wpIn_loop In mu ⟨vs0,σ1,e1,hI,gm,?_,qn,hN,bf.drop kw,ol⟩ ?_
   ·exact J4 (Zc6 (kx qn ol)) (rm f a.tmps vs0 hF be)
   intro a1 w1 tu
   obtain ⟨⟨vs,σ2,⟨e2,fk,jj,s8,mc,hN2,tv,hK2⟩,hm⟩,_⟩:=xc a1 w1 tu;have hb:=ih (n:=n) (hC.later hL) hM dy av (ks++A.keep) a.tmps (ZeE dg gl) _ jj s8 mc hN2 tv hK2 (lx vs σ2 fk);refine wpIn_mono hb fun x a' w' hp=>?_
   obtain ⟨pe,f',e',σ',hq,hx,h1,h2,h3,h4,h5,h6⟩:=hp;have qm:Kept ks t0 a'.tmps:=fun i hi=>(h6 i (TM.2 (.inl hi))).trans (hZ i hi)
   cases pe with
   | normal =>
    obtain rfl:x=.normal:=hx;obtain ⟨vs',σ3,e3,⟨hI3,aa⟩,gx,om,jk,abj⟩:=Zc0 h1 hq;have vu:Later e σ w e3 σ3 w':=h3.drop om mc.len;have hJ:J vs' σ3 a' w':=⟨e3,hI3,gx,J4 (Zc6 (kx vu h6)) (rm f' a'.tmps vs' h2 abj),vu,h4,h5.drop om,h6⟩
    have oi:In a' w':=⟨vs',σ3,hJ⟩
    refine ⟨oi,?_⟩;have:=(xc a' w' oi).2 _ ⟨vs',σ3,hJ,rfl⟩;rw [<- hm];exact Nat.lt_of_le_of_lt this aa
   | exit id=>obtain rfl:x=.exit id:=hx;exact ⟨.exit id,f',e',σ',hq,rfl,h1,h2,hL.trans h3,h4,h5,qm⟩
   | goto l=>obtain rfl:x=.goto l:=hx;exact ⟨.goto l,f',e',σ',hq,rfl,h1,h2,hL.trans h3,h4,h5,qm⟩
   | ret=>obtain rfl:x=.ret:=hx;exact ⟨.ret,f',e',σ',hq,rfl,h1,h2,hL.trans h3,h4,h5,qm⟩
   | panic p=>obtain ⟨v,rfl,hv⟩:=hx;exact ⟨.panic p,f',e',σ',hq,⟨v,rfl,hv⟩,h1,h2,hL.trans h3,h4,h5,qm⟩
  split at h
  ·rename_i gl
   split at h
   ·exact key _ gl h
   exact key (A.tied f) gl h
  exact h.elim
 | rangeFunc g ps asg body iha ihb =>
  intro C ro e0 σ0 w0 N ds n hC hM dy av ks t0 dg Q e σ w a f hS hF hL hN bf hZ h
  simp only [ZD,Tn] at av;simp only [W] at h;split at h
  ·rename_i gid first caps hg
   have hv:=ZbC hF g;rw [hg] at hv;generalize hgv:a.eval g=gv at hv
   cases hv with
   | func _ _ _ va vc ha hc h1 h2 =>
   have ta:ro=none:=by
    rcases hC.out with h0 | h0
    ·exact h0
    exact absurd (h 0 default) (h0 _ _ _ _ _)
   subst ta;refine wpIn_rangeFunc fun fn _=>?_
   have hMi:CxMono C.inner.calm:=⟨hM.one,hM.call,hM.raw,hM.iter,rfl⟩
   have hdf:ds.2.2=false:=by
    cases cd:ds.2.2 with
    | false=>rfl
    | true=>exact absurd (h 0 default) (dy cd _ _ _ _ _)
   let rec0:Loop:={ state:=.ready,pending:=none,fn,tmps:=a.tmps,params:=ps,assign:=asg,body,defers:=w.heap.size }
   let wA:=w.alloc (.deferred (some []))
   have hgA:Grows w wA:=Grows.alloc w _;have hSA:SRel G e σ wA:=hS.grow hgA;have t7:Stepped e σ w e σ wA:=hgA.stepped e σ;have abl:Marks ds e σ wA (JY w.heap.size::a.defers):=bf.push hS hdf;have hsz:wA.heap.size=w.heap.size+1:=by simp [wA]
   obtain ⟨qo,gm,_⟩:=W6 hSA (.loop .ready none rec0) (.loop rec0) (fun _ _ _ _ hh=>hh);have vr:(e.more σ.bx.length wA.heap.size).β σ.bx.length=w.heap.size+1:=by simp [Env.more,hsz]
   have kl:=h (w.heap.size+1) rec0;obtain ⟨jc,il⟩:=hC.iter _ _ _ _ _ kl;have t8:ArgsRel G (e.more σ.bx.length wA.heap.size) (σ.new (.loop .ready none rec0)) (wA.alloc (.loop rec0)) (first++.raw (.func (.yield (w.heap.size+1)) #[] #[])::caps) (va++#[.func (.yield (w.heap.size+1)) #[] #[]]++vc):=by
    rw [List.append_cons];refine (ArgsRel.append (ArgsRel.append ⟨ha,fun i x u hx hu=>((h1 i x u hx hu).step t7).step qo⟩ ⟨rfl,fun i x u hx hu=>?_⟩) ⟨hc,fun i x u hx hu=>((h2 i x u hx hu).step t7).step qo⟩)
    match i with
    | 0=>cases hx;cases hu;exact .raw _
    | n+1=>cases hx
   have qn:Later e σ w (e.more σ.bx.length wA.heap.size) (σ.new (.loop .ready none rec0)) (wA.alloc (.loop rec0)):=t7.toLater.trans qo.toLater;have rn:σ.bx.length<(σ.new (.loop .ready none rec0)).bx.length:=by rw [ZFz];omega
   refine ⟨w.heap.size+1,[JY w.heap.size],wA.alloc (.loop rec0),{ target:=.fn (.func gid) vc,args:=va++#[.func (.yield (w.heap.size+1)) #[] #[]] },wA.alloc (.loop rec0),gid,va++#[.func (.yield (w.heap.size+1)) #[] #[]]++vc,wA.alloc (.loop rec0),
    run_enterLoop_outer fn a.tmps ps asg body,?_,fun _ _=>trivial,?_,fun hh=>by simp [fw] at hh,?_⟩
   ·show (Deferred.ofValue (a.eval g) _).run _ _=_;rw [hgv];simp [Deferred.ofValue,rangeCall,Act.eval]
   ·simp only [invoke];exact jc _ _
   refine (il (n - 1) _ _ _ gm (hL.trans qn) t8 ?_).mono fun en w3 hA=>?_
   ·
    intro v args σ' K hr
    obtain ⟨rfl,dv,zo,hWA⟩:=hr;refine ⟨w.heap.size+1,rfl,fun ro n e' w' vs hS' ik s6=>?_⟩;have ew:σ.bx.length<σ'.bx.length:=(Ti.1 dv).1;have hβ':e'.β σ.bx.length=w.heap.size+1:=(ik.beta _ rn).trans vr;have gp:w'.heap[w.heap.size+1]?=some (.loop rec0):=by have:=hS'.box _ _ dv;rw [hβ'] at this;exact this
    have be:vs.size=rec0.params.size:=by rw [s6.1,zo];simp [rec0]
    refine ⟨_,_,_,_,run_yield gp be,?_⟩;have hF0:FRel G e' σ' w' (VU f) a.tmps:=hF.clean (qn.trans ik);have s9:∀p∈ps.toList,p<a.tmps.size:=fun p hp=>by
     have:=Tq.1 av.1.1 p hp;rw [hN];exact Tc this
    have rp:(rec0.params.zip vs).foldl (fun tmps (x:Nat×Value)=>tmps.setIfInBounds x.1 x.2) rec0.tmps=(ps.toList.zip vs.toList).foldl (fun tmps (x:Nat×Value)=>tmps.setIfInBounds x.1 x.2) a.tmps:=by
     rw [<- Array.foldl_toList,Array.toList_zip]
    obtain ⟨xb,ki⟩:=ZhU (ps:=ps.toList) (args:=args) (vs:=vs.toList) hF0 (by simpa using s6.1) (fun i x u hx hu=>s6.2 i x u hx (by simpa using hu)) s9;refine roundIn_of_wpIn trivial ?_;have hCr:CxOK G C.inner (some (w.heap.size+1)) e' σ' w':=⟨hC.tab,hC.call,hC.raw.later (hL.trans (qn.trans ik)),fun _ _ _ _ _ hh=>hh.elim,.inr fun _ _ _ _ _ hh=>hh⟩
    have hwa:=iha (n:=n) (ds:=(0,[],false)) hCr hMi (fun h=>by cases h) av.1.2 [] #[] (Y4 _) _ (a:={ tmps:=(rec0.params.zip vs).foldl (fun tmps (x:Nat×Value)=>tmps.setIfInBounds x.1 x.2) rec0.tmps,defers:=[] }) hS' (by rw [rp];exact xb) (Later.refl _ _ _) (by rw [rp];exact ki.trans hN) (Marks.nil _ _ (T6 _)) (fun i hi=>by cases hi) hWA;refine wpIn_mono hwa fun x1 a1 w1 hp=>?_
    obtain ⟨pe,f1,e1,σ1,hq,hx,k1,k2,k3,k4,k5,k6⟩:=hp
    cases pe with
    | normal =>
     obtain rfl:x1=.normal:=hx;obtain ⟨co,hWB⟩:=hq;obtain ⟨jw,jj⟩:=Zgr (st':=.busy) (pd':=none) k1 co;have ua:e1.β σ.bx.length=w.heap.size+1:=(k3.beta _ ew).trans hβ';have ub:w1.heap[w.heap.size+1]?=some (.loop rec0):=by have:=k1.box _ _ co;rw [ua] at this;exact this
     refine ⟨_,run_beginRound ub rfl,?_⟩;rw [ua] at jw jj;have hwb:=ihb (n:=n) (ds:=(0,[],false)) (hCr.later (k3.trans jw.toLater)) hMi (fun h=>by cases h) av.2 [] #[] (Y4 _) _ jj (k2.step jw) (Later.refl _ _ _) k4 (k5.later jw.toLater) (fun i hi=>by cases hi) hWB;refine wpIn_mono hwb fun x2 a2 w2 lm=>?_
     obtain ⟨pe2,f2,e2,σ2,nk,bo,m1,m2,m3,m4,m5,m6⟩:=lm;have gu:σ.bx.length<(σ1.set σ.bx.length (.loop .busy none rec0)).bx.length:=by simp only [St.set,SB];exact (Ti.1 co).1
     have xa:e2.β σ.bx.length=w.heap.size+1:=(m3.beta _ gu).trans ua;have mc:Later e' σ' w' e2 σ2 w2:=(k3.trans jw.toLater).trans m3;have fin:∀(jump:Option Code),Zzj σ.bx.length rec0 (if jump.isNone then .ready else .done) jump jump.isNone σ2 K->∃v w'',(Instr.endRound (w.heap.size+1) jump).run G.P w2=.ok v w''/\YD G e' σ' w' K (.returned v) w'':=fun jump hq=>by
      obtain ⟨xd,hK⟩:=hq;have uc:w2.heap[w.heap.size+1]?=some (.loop { rec0 with state:=.busy,pending:=none }):=by have:=m1.box _ _ xd;rw [xa] at this;exact this
      have ud:=Zgr (st':=if jump.isNone then .ready else .done) (pd':=jump) m1 xd;rw [xa] at ud;exact ⟨_,_,run_endRound jump uc,_,_,e2,hK,⟨_,rfl,.mkbool⟩,ud.2,mc.trans ud.1.toLater⟩
     cases pe2 with
     | normal=>obtain rfl:x2=.normal:=bo;exact fin none nk
     | ret=>obtain rfl:x2=.ret:=bo;exact fin (some .ret) nk
     | exit id=>obtain rfl:x2=.exit id:=bo;exact fin (some (.exit id)) nk
     | goto t=>obtain rfl:x2=.goto t:=bo;exact fin (some (.goto t)) nk
     | panic p=>exact nk.elim
    | exit id=>exact hq.elim
    | goto t=>exact hq.elim
    | ret=>exact hq.elim
    | panic p=>exact hq.elim
   
   obtain ⟨pe,σ3,e3,hk,hE,gx,vu⟩:=hA;have hLs:=qn.trans vu;have xe:Marks ds e3 σ3 w3 (JY w.heap.size::a.defers):=(abl.later qo.toLater).later vu;have hβ3:e3.β σ.bx.length=w.heap.size+1:=(vu.beta _ rn).trans vr
   cases pe with
   | panic p =>
    obtain ⟨u,rfl,hr⟩:=hE;exact ⟨.panic p,_,e3,σ3,hk,⟨u,rfl,hr⟩,gx,fun i=>.undef _,hL.trans hLs,hN,xe,hZ⟩
   | ret p =>
   obtain ⟨u,rfl,hr⟩:=hE;unfold Zk0 at hk
   simp only at hk;split at hk
   ·rename_i st pd r dv
    have gp:w3.heap[w.heap.size+1]?=some (.loop { r with state:=st,pending:=pd }):=by have:=gx.box _ _ dv;rw [hβ3] at this;exact this
    have mw:=Zgr (st':=.exhausted) (pd':=pd) gx dv;rw [hβ3] at mw;obtain ⟨mw,hS4⟩:=mw;have fp:∀(pe:PExit) (x:Exit),Q pe (VU f) (σ3.set σ.bx.length (.loop .exhausted pd r))->Zzm G e3 (σ3.set σ.bx.length (.loop .exhausted pd r)) (w3.putObj (w.heap.size+1) (.loop { r with state:=.exhausted,pending:=pd })) pe x ->
      ZL G e0 σ0 w0 ds N (Kept ks t0) Q x { a with defers:=[JY w.heap.size]++a.defers } (w3.putObj (w.heap.size+1) (.loop { r with state:=.exhausted,pending:=pd })):=fun pe x hq hx =>
     ⟨pe,_,e3,_,hq,hx,hS4,hF.clean (hLs.trans mw.toLater),hL.trans (hLs.trans mw.toLater),hN,xe.later mw.toLater,hZ⟩
    have dz:∀(hb:st≠.busy),(Instr.endLoop (w.heap.size+1)).run G.P w3=.ok pd (w3.putObj (w.heap.size+1) (.loop { r with state:=.exhausted,pending:=pd })):=fun hb=>run_endLoop gp hb
    have go:st≠.busy->Zog σ.bx.length r (VU f) Q σ3 pd->rangePost (fw none) n G.P (w.heap.size+1) (ZL G e0 σ0 w0 ds N (Kept ks t0) Q) { a with defers:=[JY w.heap.size]++a.defers } (.returned u) w3:=fun hb hq=>by
     refine ⟨pd,_,dz hb,?_⟩;unfold Zog at hq
     split at hq
     ·exact fp .normal .normal hq rfl
     ·exact wpIn_ret (fp .ret .ret hq rfl)
     ·rename_i id;exact wpIn_exit (fp (.exit id) (.exit id) hq rfl)
     ·rename_i t;exact wpIn_goto (fp (.goto t) (.goto t) hq rfl)
     exact hq.elim
    cases st with
    | busy=>exact hk.elim
    | ready=>exact go sM hk
    | done=>exact go sM hk
    | exhausted=>exact go sM hk
   exact hk.elim
  exact h.elim
 | _=>intro C ro e0 σ0 w0 N ds n hC hM dy _ ks t0 _ Q e σ w a f hS hF hL hN bf hZ h;exact h.elim
end
end Go.PM
end

section
namespace Go.PM
abbrev Zo:=List PV->St->(PEnd->St->Prop)->Prop
structure PCalls (G:GE) (g:FuncId) (sp:Zo):Prop where
 enters:WH G.P g
 calls:∀args σ K,sp args σ K->∀(n:Nat) (e:Env) (w:World) (vs:Array Value),SRel G e σ w->ArgsRel G e σ w args vs->CallsIn (fw none) n G.P g vs w (YD G e σ w K)
def Zf {P : Program} {f : FuncId} {fn : Func} {c : Code} (hf : P.funcs[f]? = some fn) (ak : (fn.name == "runtime.NumGoroutine") = false) (hb : fn.body = some c) : WH P f := fun args w => by
 have h1 : fn.name ≠ "runtime.NumGoroutine" := by simpa using ak
 simp [callFunc,hf,h1,hb]
section
variable {G:GE} {C:Cx} {e:Env} {σ:St} {w:World} {f:Frame} {n:Nat} {tm:Array Value}
def Zy4 (tm:Array Value):ResultVar->Sem Value
 | .tmp t=>pure (tm.getD t Go.undef)
 | .cell a t=>do loadVar t (<- asAddr (tm.getD a Go.undef))
def Zgs {P:Program} {t:TypeId} {v u:Value} (hv:∃a,v=.pointer (some a)) (h:(Instr.loadAt t v).run P w=.ok u w):(do loadVar t (<- asAddr v):Sem Value).run P w=.ok u w:=by
 obtain ⟨a,rfl⟩:=hv;simpa [Instr.loadAt,Instr.sureAddr,asAddr] using h
def ZaV (hT:TabOK C.T G.P) (hS:SRel G e σ w) (hF:FRel G e σ w f tm):∀{l:List ResultVar} {K:List PV->Prop},pres C.T f σ.bx l K ->
  ∃pvs vs,K pvs/\(l.mapM (Zy4 tm)).run G.P w=.ok vs w/\vs.length=pvs.length/\∀(i:Nat) (x:PV) (u:Value),pvs[i]?=some x->vs[i]?=some u->VRel G e σ w x u
 | [],K,h=>⟨[],[],h,rfl,rfl,fun i x u hx=>by simp at hx⟩
 | .tmp t::l,K,h=>by
  simp only [pres,ZP] at h;obtain ⟨pvs,vs,hK,hr,hl,hv⟩:=ZaV hT hS hF h;refine ⟨f t::pvs,tm.getD t Go.undef::vs,hK,?_,by simp [hl],fun i x u hx hu=>?_⟩
  ·rw [List.mapM_cons];simp only [Zy4,Sem.run_bind,Sem.run_pure,Result.andThen,hr]
  cases i with
  | zero=>simp only [Sx,Option.some.injEq] at hx hu;subst hx;subst hu;exact hF t
  | succ i=>exact hv i x u (by simpa using hx) (by simpa using hu)
 | .cell a t::l,K,h=>by
  simp only [pres] at h;have abn:∃a',tm.getD a Go.undef=.pointer (some a'):=by
   have:=hF a;generalize tm.getD a Go.undef=v at this;generalize f a=x at this h
   cases this with
   | ptr b off _=>exact ⟨_,rfl⟩
   | elem r off b o u _ _ _=>exact ⟨_,rfl⟩
   | _=>exact h.elim
  obtain ⟨pv,u0,hk,lq,af⟩:=Ze8 hT hS (hF a) h;rw [ZP] at hk;obtain ⟨pvs,vs,hK,hr,hl,hv⟩:=ZaV hT hS hF hk;refine ⟨pv::pvs,u0::vs,hK,?_,by simp [hl],fun i x u hx hu=>?_⟩
  ·rw [List.mapM_cons];have:=Zgs abn af;simp only [Zy4];rw [Sem.run_bind,this];simp only [Sem.run_bind,Sem.run_pure,Result.andThen,hr]
  cases i with
  | zero=>simp only [Sx,Option.some.injEq] at hx hu;subst hx;subst hu;exact lq
  | succ i=>exact hv i x u (by simpa using hx) (by simpa using hu)
def X5 (hT:TabOK C.T G.P) (hS:SRel G e σ w) (hF:FRel G e σ w f tm) {fn:Func} {K:List PV->Prop} (h:pres C.T f σ.bx fn.results.toList K) :
  ∃pvs v,K pvs/\(results fn tm).run G.P w=.ok v w/\VRel G e σ w (Ua pvs) v:=by
 obtain ⟨pvs,vs,hK,hr,hl,hv⟩:=ZaV hT hS hF h;have jp:(results fn tm).run G.P w=.ok (if h:vs.toArray.size=1 then vs.toArray[0] else .tuple vs.toArray) w:=by
  have abo:results fn tm=(do let vs <- fn.results.mapM (Zy4 tm);pure (if h:vs.size=1 then vs[0] else .tuple vs)):=by
   unfold results
   congr 1
  have h1:fn.results.mapM (Zy4 tm)=List.toArray <$> fn.results.toList.mapM (Zy4 tm):=by
   conv=>lhs;rw [show fn.results=fn.results.toList.toArray from sM]
   exact List.mapM_toArray
  rw [abo,h1,Sem.run_bind,Sem.run_map,hr];rfl
 refine ⟨pvs,_,hK,jp,?_⟩
 match pvs,vs,hl,hv with
 | [],[],_,hv=>exact .tuple [] #[] rfl (fun i x u hx=>by simp at hx)
 | [x],[u],_,hv=>exact hv 0 x u rfl rfl
 | x::y::l,u::v::m,hl,hv =>
  have:¬((u::v::m).toArray.size=1):=sM;rw [dif_neg this];exact .tuple _ _ (by simpa using hl) (fun i a b ha hb=>hv i a b ha (by simpa using hb))
def Wn {e0:Env} {σ0:St} {w0:World} {keep:Nat} {own:Bool} {pv:PV} {v:Value} {K:PV->St->Prop} (hS:SRel G e σ w) (hL:Later e0 σ0 w0 e σ w) (hk:σ0.bx.length<=keep) (hv:VRel G e σ w pv v)
  {ag:Bool} (h:JV ag keep own pv σ K):∃pv' σ' e',K pv' σ'/\VRel G e' σ' w pv' v/\SRel G e' σ' w/\Later e0 σ0 w0 e' σ' w:=by
 unfold JV at h
 split at h
 ·rename_i hb
  cases own with
  | true =>
   simp only at h;obtain ⟨vs',σ',e',hK,hS',hd,hlen,be⟩:=Zc0 hS h
   match vs',hlen,hK with
   | [y],_,hK=>exact ⟨y,σ',e',hK,be 0 pv y v rfl rfl hv,hS',hL.drop hd hk⟩
  | false =>
  simp only at h;obtain ⟨bs,tk',as',hK,hx,hI,cj,hn,ll⟩:=WS (as:=[]) (ZFF σ.tk [] (fun t ht=>by cases ht)) h;exact ⟨clean pv,_,e.re as',hK,(NV.cl pv hb).rel hn hI cj hv,Zgl hS hn hI cj ll,hL.drop (ZcZ hn hI cj) hk⟩
 exact h.elim
def J5 {vs:Array Value}:∀(args:List PV) (i:Nat),(∀(k:Nat) (x:PV),args[k]?=some x->VRel G e σ w x (vs.getD (i+k) Go.undef))->FRel G e σ w (Zb7 i args) vs
 | [],i,_=>fun j=>.undef _
 | a::args,i,h=>by
  intro j
  simp only [Zb7]
  by_cases i7:i=j
  ·subst i7;rw [Yx];exact h 0 a sM
  rw [Xe _ _ i7];exact J5 args (i+1) (fun k x hx=>by have:=h (k+1) x (by simpa using hx);rwa [show i+(k+1)=i+1+k by omega] at this) j
def VRel.world {w':World} (hc:∀b off u,w.cell? ⟨b,off,none⟩=some u->w'.cell? ⟨b,off,none⟩=some u) (hb:∀(b:Nat) (cs:Array Value) (ty:TypeId) (fz:Nat×Nat),w.heap[b]?=some (Obj.cells cs ty fz)->w'.heap[b]?=some (Obj.cells cs ty fz)) {x:PV} {v:Value} (h:VRel G e σ w x v):VRel G e σ w' x v:=by
 have hd:∀{x:D} {v:Value},DRel (okc e σ) w x v->DRel (okc e σ) w' x v:=fun hd=>hd.mono fun b off u hu ho=>⟨ho,hc b off u hu⟩
 induction h with
 | d x v h=>exact .d _ _ (hd h)
 | undef v=>exact .undef _
 | ptr b off h=>exact .ptr b off h
 | asl b off n h=>exact .asl b off n h
 | elem r off b o u w5 ho hu=>exact .elem r off b o u (fun j hj=>hc _ _ _ (w5 j hj)) ho (fun j x hx=>hd (hu j x hx))
 | sl t el rows v hn oh ht =>
  refine .sl t el rows v hn (hd oh) fun h=>?_
  rcases ht h with h1 | ⟨sz,g1,g2,g3,b,off,cap,cs,ty,fz,g4,g5,g6,g7,g8⟩
  ·exact .inl h1
  exact .inr ⟨sz,g1,g2,g3,b,off,cap,cs,ty,fz,g4,g5,g6,hb _ _ _ _ g7,g8⟩
 | nils el=>exact .nils el
 | func f a c va vc ha w5 _ _ ih1 ih2=>exact .func f a c va vc ha w5 ih1 ih2
 | iface t x v _ ih=>exact .iface t x v ih
 | agg cs vs hs _ h1 ih=>exact .agg cs vs hs ih h1
 | tuple cs vs hs _ ih=>exact .tuple cs vs hs ih
 | raw v=>exact .raw v
 | mp b h=>exact .mp b h
 | nilm=>exact .nilm
def Zr4 {r:Nat} (hS:SRel G e σ w) (hr:w.heap[r]?=some (.deferred (some []))) (hb:(∀i,i<σ.bx.length->e.β i≠r)/\e.H r=none) (hg:G.nG<=r) :
  SRel G e σ (w.putObj r (.deferred none))/\(∀x v,VRel G e σ w x v->VRel G e σ (w.putObj r (.deferred none)) x v)/\∀(e0:Env) (σ0:St) (w0:World),Later e0 σ0 w0 e σ w->w0.heap.size<=r->Later e0 σ0 w0 e σ (w.putObj r (.deferred none)):=by
 have km:∀k,k≠r->(w.putObj r (.deferred none)).heap[k]?=w.heap[k]?:=fun k hk=>World.putObj_heap_other hk
 have bc:∀b off u,w.cell? ⟨b,off,none⟩=some u->b≠r:=fun b off u hu he=>by
  subst he;simp [World.cell?,hr] at hu
 have hc:∀b off u,w.cell? ⟨b,off,none⟩=some u->(w.putObj r (.deferred none)).cell? ⟨b,off,none⟩=some u:=fun b off u hu=>by
  have:=bc b off u hu;simpa [World.cell?,km b this] using hu
 have po:∀(b:Nat) (cs:Array Value) (ty:TypeId) (fz:Nat×Nat),w.heap[b]?=some (Obj.cells cs ty fz)->(w.putObj r (.deferred none)).heap[b]?=some (Obj.cells cs ty fz):=fun b cs ty fz h=>by
  have:b≠r:=fun he=>by subst he;rw [hr] at h;cases h
  rw [km b this];exact h
 have hV:∀x v,VRel G e σ w x v->VRel G e σ (w.putObj r (.deferred none)) x v:=fun x v h=>h.world hc po
 refine ⟨?_,hV,fun e0 σ0 w0 hL lq=>?_⟩
 ·exact {
   inj:=hS.inj
   box:=fun i x hx=>by
    have hi:=(Ti.1 hx).1;have hB:=hS.box i x hx;have bv:=km (e.β i) (hb.1 i hi)
    cases x with
    | cells t cs =>
     obtain ⟨vs,g1,g2,g3⟩:=hB;exact ⟨vs,bv.trans g1,g2,fun k y u hy hu=>⟨hV _ _ (g3 k y u hy hu).1,(g3 k y u hy hu).2⟩⟩
    | iter s p=>exact bv.trans hB
    | loop st pd r=>exact bv.trans hB
    | dmap m=>exact hB.dmapTo bv fun d v hv=>by have q:=hV _ _ (VRel.d (G:=G) d v hv);cases q;assumption
    | smap el m fo =>
     have:=hB.smapTo bv id (fun _=>rfl) (fun _=>rfl) (fun _ _ _ _ hv=>hV _ _ hv) fun b q hq _=>⟨hq,km b fun he=>by rw [he,hb.2] at hq;cases hq⟩
     rwa [show (fo.map fun kv=>(kv.1,id kv.2))=fo by cases fo <;> rfl] at this
    | map cs bn ck=>exact hB.mapTo bv rfl fun i x y hx hy=>by rw [hx] at hy;cases hy;exact ⟨fun v hv=>hV _ _ hv,fun d hd=>hd⟩
   low:=hS.low
   tkn:=hS.tkn
   own:=fun t ht p hp=>by
    obtain ⟨q1,q2,cs,ty,fz,q3⟩:=hS.own t ht p hp;exact ⟨q1,q2,cs,ty,fz,po _ _ _ _ q3⟩
   dis:=hS.dis
   xlt:=fun b off hx=>by rw [World.putObj_size];exact hS.xlt b off hx
   hid:=fun b q hq=>by rw [World.putObj_size];exact hS.hid b q hq
   xown:=hS.xown
   glob:=fun b oq=>(km b oM).trans (hS.glob b oq)
   big:=by rw [World.putObj_size];exact hS.big }
 exact {
  len:=hL.len
  beta:=hL.beta
  X:=hL.X
  pres:=fun b off u hu ho=>let ⟨h1,h2⟩:=hL.pres b off u hu ho;⟨h1,hc b off u h2⟩
  blocks:=fun b aa hn ht hh=>(km b oM).trans (hL.blocks b aa hn ht hh)
  fhid:=hL.fhid
  size:=by rw [World.putObj_size];exact hL.size
  os:=hL.os
  tape:=hL.tape
  output:=hL.output
  fresh:=hL.fresh
  ftok:=hL.ftok }
def Ug {fn:Func} {R:Ending->World->Prop} {u:FrameMode} {e0:Env} {σ0:St} {w0:World} (hu:u≠.run):∀(rs:List Nat) {w:World},rs.Nodup->(∀r,r∈rs->w0.heap.size<=r/\w.heap[r]?=some (.deferred (some []))/\(∀i,i<σ.bx.length->e.β i≠r)/\e.H r=none) ->
  G.nG<=w0.heap.size->SRel G e σ w->FRel G e σ w f tm->Later e0 σ0 w0 e σ w->(∀pv v,VRel G e σ w pv v->∀w',SRel G e σ w'->FRel G e σ w' f tm->Later e0 σ0 w0 e σ w'->VRel G e σ w' pv v->True) ->
  (∀w',(∀x v,VRel G e σ w x v->VRel G e σ w' x v)->SRel G e σ w'->FRel G e σ w' f tm->Later e0 σ0 w0 e σ w'->LeavesIn (fw none) n G.P fn tm R [] u w')->LeavesInM (fw none) n G.P fn tm R (rs.map JY) u w
 | [],w,_,_,_,hS,hF,hL,_,dz=>by
  simp only [TN,LeavesInM];exact dz w (fun _ _ h=>h) hS hF hL
 | r::rs,w,i5,oc,hG,hS,hF,hL,_,dz=>by
  obtain ⟨h1,h2,h3⟩:=oc r sM;obtain ⟨hS',hV,ik⟩:=Zr4 hS h2 h3 (TZ hG h1);simp only [TE,LeavesInM];refine ⟨hu,.inl ⟨r,_,rfl,run_takeDeferred h2,?_⟩⟩;refine Ug hu rs (List.nodup_cons.1 i5).2 (fun q hq=>?_) hG hS' (fun i=>hV _ _ (hF i)) (ik _ _ _ hL h1) (fun _ _ _ _ _ _ _ _=>trivial) (fun w' hV'=>dz w' fun x v h=>hV' x v (hV x v h));obtain ⟨g1,g2,g3⟩:=oc q (Tx _ hq);have ah:q≠r:=fun e=>(List.nodup_cons.1 i5).1 (e ▸ hq)
  exact ⟨g1,(World.putObj_heap_other ah).trans g2,g3⟩
def Zc8 (az:G.P.follows .mixedOrders=true) {g:FuncId} {fn:Func} {c:Code} (hC:CxOK G C none e σ w) (hM:CxMono C.calm) (hf:G.P.funcs[g]?=some fn) (hb:fn.body=some c) (av:ZD fn.ntmps c=true)
  {args:List PV} {Q:PQ} {K:PEnd->St->Prop} (hlen:args.length<=fn.ntmps) (h:W C c Q (Zb7 0 args) σ)
  (hQ:∀(pe:PExit) (f:Frame) (σ':St),Q pe f σ'->match pe with
   | .normal | .ret=>pres C.T f σ'.bx fn.results.toList fun vs=>∀(e':Env) (w':World) (v:Value),SRel G e' σ' w'->VRel G e' σ' w' (Ua vs) v->Later e σ w e' σ' w'->YD G e σ w K (.returned v) w'
   | .panic p=>∀(e':Env) (w':World) (v:Value),SRel G e' σ' w'->VRel G e' σ' w' p v->Later e σ w e' σ' w'->YD G e σ w K (.panicked [{ v:=v,recovered:=false }]) w'
   | _=>False)
  {vs:Array Value} (hS:SRel G e σ w) (ac:ArgsRel G e σ w args vs):CallsIn (fw none) n G.P g vs w (YD G e σ w K):=by
 have hsz:vs.size=args.length:=ac.1;have hF:FRel G e σ w (Zb7 0 args) (vs++Array.replicate (fn.ntmps - vs.size) undef):=J5 args 0 fun k x hx=>by
  exact mq37
 have hw:=Zc7 (n:=n) (ro:=none) (ds:=(w.heap.size,[],false)) az c hC hM (fun h=>by cases h) av [] #[] (Y4 c) _ (a:={ tmps:=vs++Array.replicate (fn.ntmps - vs.size) undef,defers:=[] }) hS hF (Later.refl e σ w) sO (Marks.nil e σ (Tt _)) (fun i hi=>by cases hi) h;refine callsIn_of_wp_marks hf hb trivial (wpIn_mono hw fun x a' w' hp=>?_);obtain ⟨pe,f',e',σ',hq,hx,h1,h2,h3,h4,⟨_,rs,h5,_,h5n,h5r⟩,h6⟩:=hp;have h5:a'.defers=rs.map JY:=by rw [h5];exact T1 _
 have iq:=hQ pe f' σ' hq;have oc:∀r,r∈rs->w.heap.size<=r/\w'.heap[r]?=some (.deferred (some []))/\(∀i,i<σ'.bx.length->e'.β i≠r)/\e'.H r=none:=fun r hr=>let ⟨g1,g2,g3,_,g4⟩:=h5r r hr;⟨g1,g2,g3,g4⟩
 have ends:∀(iq:pres C.T f' σ'.bx fn.results.toList fun vs=>∀(e':Env) (w':World) (v:Value),SRel G e' σ' w'->VRel G e' σ' w' (Ua vs) v->Later e σ w e' σ' w'->YD G e σ w K (.returned v) w'),LeavesInM (fw none) n G.P fn a'.tmps (YD G e σ w K) a'.defers .returning w':=fun iq=>by
  rw [h5];refine Ug sM rs h5n oc hS.big h1 h2 h3 (fun _ _ _ _ _ _ _ _=>trivial) fun w2 _ k1 k2 k3=>?_
  obtain ⟨pvs,v,hl,hr,hv⟩:=X5 hC.tab k1 k2 iq;exact ⟨v,hr,hl e' w2 v k1 hv k3⟩
 cases pe with
 | normal=>obtain rfl:x=.normal:=hx;exact ends iq
 | ret=>obtain rfl:x=.ret:=hx;exact ends iq
 | panic p =>
  obtain ⟨v,rfl,hv⟩:=hx;show LeavesInM (fw none) n G.P fn a'.tmps (YD G e σ w K) a'.defers (.panicking _) w';rw [h5];refine Ug sM rs h5n oc hS.big h1 h2 h3 (fun _ _ _ _ _ _ _ _=>trivial) fun w2 hV k1 k2 k3=>?_
  exact iq e' w2 v k1 (hV _ _ hv) k3
 | exit id=>exact iq.elim
 | goto l=>exact iq.elim
def Uh (az:G.P.follows .mixedOrders=true) {g:FuncId} {fn:Func} {c:Code} (hC:CxOK G C none e σ w) (hM:CxMono C.calm) (hf:G.P.funcs[g]?=some fn) (hb:fn.body=some c) (av:ZD fn.ntmps c=true)
  {ag:Bool} {keep:Nat} {own:Bool} {args:List PV} {R:PEnd->St->Prop} (hk:σ.bx.length<=keep) (hlen:args.length<=fn.ntmps) (h:WFG ag C fn keep own args σ R) {vs:Array Value} (hS:SRel G e σ w) (ac:ArgsRel G e σ w args vs) :
  CallsIn (fw none) n G.P g vs w (YD G e σ w R):=by
 have xg:YR fn=c:=by simp [YR,hb]
 unfold WFG at h
 rw [xg] at h;have presM:∀{T:Tab} {f:Frame} {bx:List Box} {l:List ResultVar} {K K':List PV->Prop},(∀vs,K vs->K' vs)->pres T f bx l K->pres T f bx l K':=by
  intro T f bx l
  induction l with
  | nil=>exact fun hK h=>hK _ h
  | cons r l ih =>
  intro K K' hK h
  exact mq84
 refine Zc8 az hC hM hf hb av hlen h (fun pe f' σ' hq=>?_) hS ac;have fin:∀{pv:PV} {p:PV->PEnd} {en:Value->Ending},(∀(pv:PV) (e:Env) (σ:St) (w:World) v,VRel G e σ w pv v->Zow G e σ w (p pv) (en v))->(JV ag keep own pv σ' fun v σ''=>R (p v) σ'')->∀(e':Env) (w':World) (v:Value),SRel G e' σ' w'->VRel G e' σ' w' pv v->Later e σ w e' σ' w'->YD G e σ w R (en v) w':=fun {pv p en} hpe hl e' w' v hS' hv hL=>by
  obtain ⟨pv',σ'',e'',hK,hv',abp,abq⟩:=Wn hS' hL hk hv hl;exact ⟨p pv',σ'',e'',hK,hpe _ _ _ _ _ hv',abp,abq⟩
 cases pe with
 | normal=>exact presM (fun vs hl=>fin (p:=.ret) (en:=.returned) (fun _ _ _ _ v h=>⟨v,rfl,h⟩) hl) hq
 | ret=>exact presM (fun vs hl=>fin (p:=.ret) (en:=.returned) (fun _ _ _ _ v h=>⟨v,rfl,h⟩) hl) hq
 | panic p=>exact fin (p:=.panic) (en:=fun v=>.panicked [{ v:=v,recovered:=false }]) (fun _ _ _ _ v h=>⟨v,rfl,h⟩) hq
 | exit id=>exact hq.elim
 | goto l=>exact hq.elim
end
end Go.PM
end

section
namespace Go.PM
mutual
def Zvc:PV->List Nat->List Nat
 | .ptr b _,acc=>match ZeB b acc with | true=>acc | false=>acc++[b]
 | .asl b _ _,acc=>match ZeB b acc with | true=>acc | false=>acc++[b]
 | .mp b,acc=>match ZeB b acc with | true=>acc | false=>acc++[b]
 | .func _ a c,acc=>ZaW c (ZaW a acc)
 | .iface _ v,acc=>Zvc v acc
 | .agg cs,acc=>ZaW cs acc
 | .tuple vs,acc=>ZaW vs acc
 | _,acc=>acc
def ZaW:List PV->List Nat->List Nat
 | [],acc=>acc
 | v::l,acc=>ZaW l (Zvc v acc)
end
def J6 (bx:List Box):Nat->Nat->List Nat->List Nat
 | 0,_,acc=>acc
 | n+1,i,acc=>match acc[i]? with
  | none=>acc
  | some b=>match bx[b]? with
   | some (.cells _ cs)=>J6 bx n (i+1) (ZaW cs acc)
   | some (.map cs _ _)=>J6 bx n (i+1) (ZaW cs acc)
   | _=>J6 bx n (i+1) acc
def ZmT:List PV->List Nat->(List Nat->Prop)->Prop
 | [],acc,K=>K acc
 | v::l,acc,K=>ZcH (Zvc v acc) fun acc=>ZmT l acc K
def Zfj (bx:List Box):Nat->Nat->List Nat->(List Nat->Prop)->Prop
 | 0,_,acc,K=>K acc
 | n+1,i,acc,K=>match acc[i]? with
  | none=>K acc
  | some b=>match bx[b]? with
   | some (.cells _ cs)=>ZmT cs acc fun acc=>Zfj bx n (i+1) acc K
   | some (.map cs _ _)=>ZmT cs acc fun acc=>Zfj bx n (i+1) acc K
   | _=>Zfj bx n (i+1) acc K
def J7 {K:List Nat->Prop}:∀(l:List PV) (acc:List Nat),ZmT l acc K=K (ZaW l acc)
 | [],_=>rfl
 | v::l,acc=>by simp only [ZmT,ZaW,Wk,J7 l]
def J8 {bx:List Box} {K:List Nat->Prop}:∀(n i:Nat) (acc:List Nat),Zfj bx n i acc K=K (J6 bx n i acc)
 | 0,_,_=>rfl
 | n+1,i,acc=>by
  unfold Zfj J6
  split
  ·rfl
  split <;> simp only [J7,J8 n]
def Zc9 (b:Nat):List Nat->Nat->Option Nat
 | [],_=>none
 | x::l,i=>match Nat.beq x b with | true=>some i | false=>Zc9 b l (i+1)
def ZhW:List Nat->Bool
 | []=>true
 | x::l=>match ZeB x l with | true=>false | false=>ZhW l
mutual
def Zr5 (bs:List Nat):PV->PV
 | .ptr b o=>match Zc9 b bs 0 with | some i=>.ptr i o | none=>.undef
 | .asl b o n=>match Zc9 b bs 0 with | some i=>.asl i o n | none=>.undef
 | .func f a c=>.func f (Zgt bs a) (Zgt bs c)
 | .iface t v=>.iface t (Zr5 bs v)
 | .agg cs=>.agg (Zgt bs cs)
 | .tuple vs=>.tuple (Zgt bs vs)
 | .d x=>.d x
 | .undef=>.undef
 | .elem r o=>.elem r o
 | .sl t e rows=>.sl t e rows
 | .nils e=>.nils e
 | .raw v=>.raw v
 | .mp b=>match Zc9 b bs 0 with | some i=>.mp i | none=>.undef
 | .nilm=>.nilm
def Zgt (bs:List Nat):List PV->List PV
 | []=>[]
 | v::l=>Zr5 bs v::Zgt bs l
end
def ZmU (bs:List Nat) (bx:List Box):List Nat->(List Box->Prop)->Prop
 | [],K=>K []
 | b::l,K=>match bx[b]? with
  | some (.cells t cs)=>ZmU bs bx l fun r=>K (.cells t (Zgt bs cs)::r)
  | some (.iter s p)=>ZmU bs bx l fun r=>K (.iter s p::r)
  | some (.map cs bn ck)=>ZmU bs bx l fun r=>K (.map (Zgt bs cs) bn ck::r)
  | some (.dmap m)=>ZmU bs bx l fun r=>K (.dmap m::r)
  | some (.smap el m none)=>ZmU bs bx l fun r=>K (.smap el m none::r)
  | some (.smap _ _ (some _))=>False
  | some (.loop _ _ _)=>False
  | none=>False
mutual
def Zda (bs:List Nat) (m L nx:Nat):PV->PV
 | .ptr i o=>match bs[i]? with | some b=>.ptr b o | none=>.ptr (L+(i - m)) o
 | .asl i o n=>match bs[i]? with | some b=>.asl b o n | none=>.asl (L+(i - m)) o n
 | .sl t e rows=>.sl (nx+t) e rows
 | .func f a c=>.func f (ZaX bs m L nx a) (ZaX bs m L nx c)
 | .iface t v=>.iface t (Zda bs m L nx v)
 | .agg cs=>.agg (ZaX bs m L nx cs)
 | .tuple vs=>.tuple (ZaX bs m L nx vs)
 | .d x=>.d x
 | .undef=>.undef
 | .elem r o=>.elem r o
 | .nils e=>.nils e
 | .raw v=>.raw v
 | .mp i=>match bs[i]? with | some b=>.mp b | none=>.mp (L+(i - m))
 | .nilm=>.nilm
def ZaX (bs:List Nat) (m L nx:Nat):List PV->List PV
 | []=>[]
 | v::l=>Zda bs m L nx v::ZaX bs m L nx l
end
def ZaY (bs:List Nat) (m L nx:Nat):Box->Box
 | .cells t cs=>.cells t (ZaX bs m L nx cs)
 | .iter s p=>.iter s p
 | .loop st pd r=>.loop st pd r
 | .map cs bn ck=>.map (ZaX bs m L nx cs) bn ck
 | .dmap c=>.dmap c
 | .smap el c fo=>.smap el c (fo.map fun kv=>(kv.1,Zda bs m L nx kv.2))
def ZeF (bb:Box->Box):List Nat->List Box->List Box->(List Box->Prop)->Prop
 | [],xs,acc,K=>K (acc++xs.map bb)
 | b::l,x::xs,acc,K=>ZeF bb l xs (acc.set b (bb x)) K
 | _::_,[],_,_=>False
def Zr6 (bs:List Nat) (m L nx:Nat):PEnd->PEnd
 | .ret v=>.ret (Zda bs m L nx v)
 | .panic v=>.panic (Zda bs m L nx v)
def VA (md:Nat) (sp:Zo) (args:List PV) (σ:St) (K:PEnd->St->Prop):Prop :=
 ZmT args [] fun a=>Zfj σ.bx (σ.bx.length+1) 0 a fun bs=>ZcH bs fun bs=>match ZhW bs with
 | true=>ZmU bs σ.bx bs fun cb=>Zod md bs.length (Zgt bs args) σ.tk 0 fun args' tk k=>ZcK bs.length bs.length cb tk k fun cb' rest k =>
   sp args' ⟨cb',toks k,k⟩ fun pe σ3=>ZeF (ZaY bs bs.length σ.bx.length σ.nx) bs σ3.bx σ.bx fun bx =>
    K (Zr6 bs bs.length σ.bx.length σ.nx pe) ⟨bx,rest++σ3.tk.map (σ.nx+·),σ.nx+σ3.nx⟩
 | false=>False
abbrev ZjN (sp:Zo) (args:List PV) (σ:St) (K:PEnd->St->Prop):Prop:=VA 0 sp args σ K
def Zdb:∀{l:List Nat},ZhW l=true->∀(i j b:Nat),l[i]?=some b->l[j]?=some b->i=j
 | [],_,i,j,b,h,_=>by simp at h
 | x::l,h,i,j,b,hi,hj=>by
  simp only [ZhW] at h;split at h
  ·cases h
  rename_i hm
  have hx:∀k:Nat,l[k]?≠some x:=fun k hk=>by
   have:=(Yq x l).2 (TW hk);rw [this] at hm;cases hm
  cases i with
  | zero =>
   cases j with
   | zero=>rfl
   | succ j=>simp at hi hj;subst hi;exact absurd hj (hx j)
  | succ i =>
  cases j with
  | zero=>simp at hi hj;subst hj;exact absurd hi (hx i)
  | succ j=>simp at hi hj;rw [Zdb h i j b hi hj]
def Zfk {b:Nat}:∀{l:List Nat} {i j:Nat},Zc9 b l i=some j->i<=j/\l[j - i]?=some b
 | [],i,j,h=>by simp [Zc9] at h
 | x::l,i,j,h=>by
  simp only [Zc9] at h;split at h
  ·rename_i hb;cases h;simp [Tl hb]
  obtain ⟨h1,h2⟩:=Zfk h;refine ⟨oM,?_⟩;rw [show j - i=(j - (i+1))+1 by omega];simpa using h2
def WJ {bs:List Nat}:∀{l:List PV} (i:Nat) (y:PV),(Zgt bs l)[i]?=some y->∃x,l[i]?=some x/\y=Zr5 bs x
 | [],i,y,h=>by simp [Zgt] at h
 | x::l,i,y,h=>by
  cases i with
  | zero=>simp [Zgt] at h;exact ⟨x,sM,h.symm⟩
  | succ i=>simp only [Zgt,TP] at h;obtain ⟨z,h1,h2⟩:=WJ i y h;exact ⟨z,by simpa using h1,h2⟩
def YE {bs:List Nat}:∀{l:List PV},(Zgt bs l).length=l.length
 | []=>rfl
 | x::l=>by simp [Zgt,YE]
def Wo {bs:List Nat} {m L nx:Nat}:∀{l:List PV} (i:Nat) (y:PV),(ZaX bs m L nx l)[i]?=some y->∃x,l[i]?=some x/\y=Zda bs m L nx x
 | [],i,y,h=>by simp [ZaX] at h
 | x::l,i,y,h=>by
  cases i with
  | zero=>simp [ZaX] at h;exact ⟨x,sM,h.symm⟩
  | succ i=>simp only [ZaX,TP] at h;obtain ⟨z,h1,h2⟩:=Wo i y h;exact ⟨z,by simpa using h1,h2⟩
def YF {bs:List Nat} {m L nx:Nat}:∀{l:List PV},(ZaX bs m L nx l).length=l.length
 | []=>rfl
 | x::l=>by simp [ZaX,YF]
def Zuk (bs:List Nat):Box->Box
 | .cells t cs=>.cells t (Zgt bs cs)
 | .iter s p=>.iter s p
 | .loop st pd r=>.loop st pd r
 | .map cs bn ck=>.map (Zgt bs cs) bn ck
 | .dmap m=>.dmap m
 | .smap el m fo=>.smap el m (fo.map fun kv=>(kv.1,Zr5 bs kv.2))
def ZoU {bs:List Nat} {bx:List Box}:∀{l:List Nat} {K:List Box->Prop},ZmU bs bx l K->∃cb,K cb/\cb.length=l.length/\∀(j b:Nat),l[j]?=some b->∃x,bx[b]?=some x/\cb[j]?=some (Zuk bs x)
 | [],K,h=>⟨[],h,rfl,fun j b hj=>by simp at hj⟩
 | b::l,K,h=>by
  simp only [ZmU] at h;split at h
  all_goals first
   | exact h.elim
   | (rename_i hb
      obtain ⟨cb,h1,h2,h3⟩:=ZoU h;refine ⟨_,h1,by simp [h2],fun j b' hj=>?_⟩
      cases j with
      | zero=>simp at hj;subst hj;exact ⟨_,hb,rfl⟩
      | succ j=>exact h3 j b' (by simpa using hj))
def Zld {bb:Box->Box}:∀{bs:List Nat} {xs acc:List Box} {K:List Box->Prop},(∀(i j b:Nat),bs[i]?=some b->bs[j]?=some b->i=j)->(∀b,b∈bs->b<acc.length)->ZeF bb bs xs acc K ->
  ∃r,K r/\bs.length<=xs.length/\r.length=acc.length+(xs.length - bs.length)/\(∀(j b:Nat) (x:Box),bs[j]?=some b->xs[j]?=some x->r[b]?=some (bb x))/\(∀i,i<acc.length->i∉bs->r[i]?=acc[i]?) /\
   ∀i,acc.length<=i->r[i]?=xs[bs.length+(i - acc.length)]?.map bb
 | [],xs,acc,K,hn,hl,h=>⟨_,h,sM,sM,fun j b x hj=>by simp at hj,fun i hi _=>by rw [TH hi],fun i hi=>by rw [TT hi,Th];simp⟩
 | b::bs,x::xs,acc,K,hn,hl,h=>by
  simp only [ZeF] at h;have aa:b<acc.length:=hl b sM;obtain ⟨r,h1,h2,h3,h4,h5,h6⟩:=Zld (bs:=bs) (fun i j c hi hj=>by have:=hn (i+1) (j+1) c (by simpa using hi) (by simpa using hj);omega) (fun c hc=>by rw [SB];exact hl c (Tx _ hc)) h;have qe:b∉bs:=fun hm=>by
   obtain ⟨k,hk,zi⟩:=Sd hm;have:=hn 0 (k+1) b sM (by simp [Ta hk,zi]);omega
  refine ⟨r,h1,sO,by rw [h3,SB];simp,fun j c y hj hy=>?_,fun i hi ue=>?_,fun i hi=>?_⟩
  ·cases j with
   | zero =>
    simp only [Sx,Option.some.injEq] at hj hy;subst hj;subst hy;rw [h5 b (by rw [SB];exact aa) qe,Sy aa]
   | succ j=>exact h4 j c y (by simpa using hj) (by simpa using hy)
  ·have rj:b≠i:=fun e=>ue (e ▸ by simp)
   rw [h5 i (by rw [SB];exact hi) (fun hm=>ue (Tx _ hm)),SI rj]
  rw [h6 i (by rw [SB];exact hi),SB,Te,show bs.length+1+(i - acc.length)=bs.length+(i - acc.length)+1 by omega,TP]
 | b::bs,[],acc,K,hn,hl,h=>h.elim
section
variable {G:GE} {e:Env} {σ:St} {w:World}
def Zgu (e:Env) (σ:St) (bs rest:List Nat) (b off:Nat):Prop :=
 e.X b off\/(∃i,i<σ.bx.length/\i∉bs/\e.β i=b)\/(∃t,t∈rest/\∃p,e.M t=some p/\p.1=b/\p.2<=off)\/∃q,e.H b=some q/\q.2<=off/\∀i,i∈bs->e.β i≠q.1.1
open Classical in
def ZmV (e:Env) (bs:List Nat) (b:Nat):Option ((Nat×List UInt8)×Nat):=match e.H b with
 | none=>none
 | some q=>if ∃i,i∈bs/\e.β i=q.1.1 then some q else none
def handH_iff {e:Env} {bs:List Nat} {b:Nat} {q:(Nat×List UInt8)×Nat}:ZmV e bs b=some q↔e.H b=some q/\∃i,i∈bs/\e.β i=q.1.1:=by
 unfold ZmV
 cases h:e.H b with
 | none=>simp
 | some r =>
 simp only;split
 ·rename_i hx
  constructor
  ·intro g;cases g;exact ⟨rfl,hx⟩
  rintro ⟨g,_⟩;exact g
 rename_i hx
 constructor
 ·intro g;cases g
 rintro ⟨g,g2⟩;cases g;exact absurd g2 hx
def Env.handed (e:Env) (σ:St) (bs rest:List Nat):Env:=⟨fun j=>e.β (bs.getD j 0),e.M,Zgu e σ bs rest,ZmV e bs⟩
structure Hand (σ:St) (bs rest pass:List Nat) (cb:List Box):Prop where
 nodup:∀(i j b:Nat),bs[i]?=some b->bs[j]?=some b->i=j
 len:cb.length=bs.length
 get:∀(j b:Nat),bs[j]?=some b->∃x,σ.bx[b]?=some x/\cb[j]?=some (Zuk bs x)
 restIn:∀t,t∈rest->t∈σ.tk
 passIn:∀t,t∈pass->t∈σ.tk/\t∉rest
variable {bs rest pass:List Nat} {cb:List Box}
def Hand.lt (h:Hand σ bs rest pass cb) {b:Nat} (hb:b∈bs):b<σ.bx.length:=by
 obtain ⟨k,hk,he⟩:=Sd hb;obtain ⟨x,hx,_⟩:=h.get k b (by rw [Ta hk,he]);exact (Ti.1 hx).1
def Hand.at (h:Hand σ bs rest pass cb) {j:Nat} (hj:j<bs.length):∃b,bs[j]?=some b/\b∈bs/\(e.handed σ bs rest).β j=e.β b:=by
 have:=Ta hj;exact ⟨bs[j],this,TC hj,by simp [Env.handed,this]⟩
def ZoV (hS:SRel G e σ w) (h:Hand σ bs rest pass cb) {b off:Nat} (ho:okc e σ b off):okc (e.handed σ bs rest) ⟨cb,pass,σ.nx⟩ b off:=by
 refine ⟨fun hX=>?_,fun j hj=>?_,fun t ht p hp s5=>ho.2.2.1 t (h.passIn t ht).1 p hp s5,fun q hq=>ho.2.2.2 q (handH_iff.1 hq).1⟩
 ·rcases hX with hX | ⟨i,h1,_,h2⟩ | ⟨t,h1,p,h2,h3,h4⟩ | ⟨q,h1,h2,_⟩
  ·exact ho.1 hX
  ·exact ho.2.1 i h1 h2
  ·have:=ho.2.2.1 t (h.restIn t h1) p h2 h3;omega
  have:=ho.2.2.2 q h1;omega
 obtain ⟨b',h1,h2,h3⟩:=h.at (e:=e) (show j<bs.length by rw [<- h.len];exact hj);rw [h3];exact ho.2.1 b' (h.lt h2)
def VRel.ren (hS:SRel G e σ w) (h:Hand σ bs rest pass cb) {x:PV} {v:Value} (hv:VRel G e σ w x v):VRel G (e.handed σ bs rest) ⟨cb,pass,σ.nx⟩ w (Zr5 bs x) v:=by
 have hd:∀{x:D} {v:Value},DRel (okc e σ) w x v->DRel (okc (e.handed σ bs rest) ⟨cb,pass,σ.nx⟩) w x v:=fun hd=>hd.mono fun b off u hu ho=>⟨ZoV hS h ho,hu⟩
 have at':∀b i,Zc9 b bs 0=some i->(e.handed σ bs rest).β i=e.β b/\i<cb.length:=fun b i hi=>by
  obtain ⟨_,h2⟩:=Zfk hi;simp only [Nat.sub_zero] at h2;exact ⟨by simp [Env.handed,h2],by rw [h.len];exact (Ti.1 h2).1⟩
 induction hv with
 | d x v hx=>exact .d _ _ (hd hx)
 | undef v=>exact .undef _
 | ptr b off hb =>
  simp only [Zr5]
  cases hi:Zc9 b bs 0 with
  | none=>exact .undef _
  | some i =>
  obtain ⟨h1,h2⟩:=at' b i hi;rw [<- h1];exact .ptr i off h2
 | asl b off n hb =>
  simp only [Zr5]
  cases hi:Zc9 b bs 0 with
  | none=>exact .undef _
  | some i =>
  obtain ⟨h1,h2⟩:=at' b i hi;rw [<- h1];exact .asl i off n h2
 | mp b hb =>
  simp only [Zr5]
  cases hi:Zc9 b bs 0 with
  | none=>exact .undef _
  | some i =>
  obtain ⟨h1,h2⟩:=at' b i hi;rw [<- h1];exact .mp i h2
 | nilm=>exact .nilm
 | elem r off b o u hc ho hu=>exact .elem r off b o u hc (fun j hj=>ZoV hS h (ho j hj)) (fun j x hx=>hd (hu j x hx))
 | sl t el rows v hn oh ht=>exact .sl t el rows v hn (hd oh) fun hp=>ht (h.passIn t hp).1
 | nils el=>exact .nils el
 | func f a c va vc ha hc _ _ ih1 ih2 =>
  refine .func f _ _ va vc (by rw [YE];exact ha) (by rw [YE];exact hc) (fun i y u hy hu=>?_) (fun i y u hy hu=>?_)
  ·obtain ⟨x,hx,rfl⟩:=WJ i y hy;exact ih1 i x u hx hu
  obtain ⟨x,hx,rfl⟩:=WJ i y hy;exact ih2 i x u hx hu
 | iface t x v _ ih=>exact .iface t _ v ih
 | agg cs vs hs _ h1 ih=>exact .agg _ vs (by rw [YE];exact hs) (fun i y u hy hu=>by obtain ⟨x,hx,rfl⟩:=WJ i y hy;exact ih i x u hx hu) h1
 | tuple cs vs hs _ ih=>exact .tuple _ vs (by rw [YE];exact hs) (fun i y u hy hu=>by obtain ⟨x,hx,rfl⟩:=WJ i y hy;exact ih i x u hx hu)
 | raw v=>exact .raw _
def SRel.ren (hS:SRel G e σ w) (h:Hand σ bs rest pass cb):SRel G (e.handed σ bs rest) ⟨cb,pass,σ.nx⟩ w where
 inj:=fun i j hi hj he=>by
  obtain ⟨b,h1,h2,h3⟩:=h.at (e:=e) (show i<bs.length by rw [<- h.len];exact hi);obtain ⟨b',n8,dk,ef⟩:=h.at (e:=e) (show j<bs.length by rw [<- h.len];exact hj);rw [h3,ef] at he;have:=hS.inj b b' (h.lt h2) (h.lt dk) he;subst this;exact h.nodup i j b h1 n8
 box:=fun j y hy=>by
  have hj:=(Ti.1 hy).1;obtain ⟨b,h1,h2,h3⟩:=h.at (e:=e) (show j<bs.length by rw [<- h.len];exact hj);obtain ⟨x,hx,zf⟩:=h.get j b h1;simp only at hy;rw [zf] at hy
  cases hy
  have hB:=hS.box b x hx;rw [h3]
  cases x with
  | cells t cs =>
   obtain ⟨vs,g1,g2,g3⟩:=hB;refine ⟨vs,g1,by rw [YE];exact g2,fun i y u hy hu=>?_⟩;obtain ⟨z,hz,rfl⟩:=WJ i y hy;exact ⟨(g3 i z u hz hu).1.ren hS h,(g3 i z u hz hu).2⟩
  | iter s p=>exact hB
  | loop st pd r=>exact hB
  | dmap m=>exact hB.dmapTo rfl fun d v hv=>by have q:VRel G _ _ _ (.d d) v:=(VRel.d (G:=G) d v hv).ren hS h;cases q;assumption
  | smap el m fo=>exact hB.smapTo rfl (Zr5 bs) (fun _=>rfl) (fun _=>rfl) (fun _ _ _ _ hv=>hv.ren hS h) fun b' q hq nj=>⟨handH_iff.2 ⟨hq,b,h2,nj.symm⟩,rfl⟩
  | map cs bn ck=>exact hB.mapTo rfl YE fun i x y hx hy=>by obtain ⟨z,hz,rfl⟩:=WJ i y hy;rw [hx] at hz;cases hz;exact ⟨fun v hv=>hv.ren hS h,fun d hd=>by subst hd;rfl⟩
 low:=fun j hj=>by
  obtain ⟨b,h1,h2,h3⟩:=h.at (e:=e) (show j<bs.length by rw [<- h.len];exact hj);rw [h3];exact hS.low b (h.lt h2)
 tkn:=fun t ht=>hS.tkn t (h.passIn t ht).1
 own:=fun t ht p hp=>by
  obtain ⟨h1,h2,h3⟩:=hS.own t (h.passIn t ht).1 p hp;refine ⟨h1,fun j hj=>?_,h3⟩;obtain ⟨b,g1,g2,g3⟩:=h.at (e:=e) (show j<bs.length by rw [<- h.len];exact hj);rw [g3];exact h2 b (h.lt g2)
 dis:=fun t t' ht ku=>hS.dis t t' (h.passIn t ht).1 (h.passIn t' ku).1
 xlt:=fun b off hX=>by
  rcases hX with hX | ⟨i,h1,_,h2⟩ | ⟨t,h1,p,h2,h3,h4⟩ | ⟨q,h1,_⟩
  ·exact hS.xlt b off hX
  ·rw [<- h2];exact hS.lt h1
  ·obtain ⟨_,_,cs,ty,fz,hh⟩:=hS.own t (h.restIn t h1) p h2;rw [<- h3];exact (Tp.1 hh).1
  exact (hS.hid _ _ h1).2.1
 xown:=fun t ht p hp off ic hX=>by
  rcases hX with hX | ⟨i,h1,_,h2⟩ | ⟨t',h1,p',h2,h3,h4⟩ | ⟨q,h1,_⟩
  ·exact hS.xown t (h.passIn t ht).1 p hp off ic hX
  ·exact (hS.own t (h.passIn t ht).1 p hp).2.1 i h1 h2
  ·exact hS.dis t' t (h.restIn t' h1) (h.passIn t ht).1 (fun e=>(h.passIn t ht).2 (e ▸ h1)) p' p h2 hp h3
  exact (hS.hid _ _ h1).2.2.2.1 t (h.passIn t ht).1 p hp rfl
 hid:=fun b q hq=>by
  obtain ⟨g0,i0,gi,gb⟩:=handH_iff.1 hq;obtain ⟨k1,k2,k3,k4,k5⟩:=hS.hid b q g0;refine ⟨k1,k2,fun j hj=>?_,fun t ht=>k4 t (h.passIn t ht).1,fun off ic hX=>?_⟩
  ·obtain ⟨b',g1,g2,g3⟩:=h.at (e:=e) (show j<bs.length by rw [<- h.len];exact hj);rw [g3];exact k3 b' (h.lt g2)
  rcases hX with hX | ⟨i,h1,_,h2⟩ | ⟨t',h1,p',h2,h3,h4⟩ | ⟨q',h1,_,h3⟩
  ·exact k5 off ic hX
  ·exact k3 i h1 h2
  ·exact k4 t' (h.restIn t' h1) p' h2 h3
  rw [g0] at h1;cases h1;exact h3 i0 gi gb
 glob:=hS.glob
 big:=hS.big
open Classical in
def ZhX (e:Env) (bs:List Nat) (e3:Env) (b:Nat):Option ((Nat×List UInt8)×Nat):=match e3.H b with
 | some q=>some q
 | none=>match e.H b with
  | none=>none
  | some q=>if ∃i,i∈bs/\e.β i=q.1.1 then none else some q
def ZaZ {e:Env} {bs:List Nat} {e3:Env} {b:Nat} {q:(Nat×List UInt8)×Nat} (h:ZhX e bs e3 b=some q):e3.H b=some q\/(e3.H b=none/\e.H b=some q/\∀i,i∈bs->e.β i≠q.1.1):=by
 unfold ZhX at h
 split at h
 ·rename_i r hr;cases h;exact .inl hr
 rename_i hr
 split at h
 ·cases h
 rename_i r he
 split at h
 ·cases h
 rename_i hx;cases h;exact .inr ⟨hr,he,fun i hi hb=>hx ⟨i,hi,hb⟩⟩
def ZoW {e:Env} {bs:List Nat} {e3:Env} {b:Nat} {q:(Nat×List UInt8)×Nat} (h:e3.H b=some q):ZhX e bs e3 b=some q:=by
 unfold ZhX;rw [h]
def ZoX {e:Env} {bs:List Nat} {e3:Env} {b:Nat} {q:(Nat×List UInt8)×Nat} (h:e3.H b=none) (h2:e.H b=some q) (h3:∀i,i∈bs->e.β i≠q.1.1):ZhX e bs e3 b=some q:=by
 unfold ZhX;rw [h,h2];exact Tf fun ⟨i,hi,hb⟩=>h3 i hi hb
def Env.back (e:Env) (bs:List Nat) (L m nx:Nat) (e3:Env):Env:=⟨fun i=>if i<L then e.β i else e3.β (m+(i - L)),fun t=>if t<nx then e.M t else e3.M (t - nx),e.X,ZhX e bs e3⟩
structure Handed (e:Env) (σ:St) (w:World) (bs rest:List Nat) (e2:Env) (σ2:St):Prop where
 nodup:∀(i j b:Nat),bs[i]?=some b->bs[j]?=some b->i=j
 lt:∀b,b∈bs->b<σ.bx.length
 len:σ2.bx.length=bs.length
 beta:∀(j b:Nat),bs[j]?=some b->e2.β j=e.β b
 X:e2.X=Zgu e σ bs rest
 H:e2.H=ZmV e bs
 okc:∀b off,okc e σ b off->okc e2 σ2 b off
 tok:∀t,t∈σ2.tk->∀p,e2.M t=some p->∃t0,t0∈σ.tk/\t0∉rest/\e.M t0=some p
 restIn:∀t,t∈rest->t∈σ.tk
def Handed.hnone {e2:Env} {σ2:St} (h:Handed e σ w bs rest e2 σ2) {b:Nat} (hb:e.H b=none):e2.H b=none:=by
 rw [h.H]
 cases hq:ZmV e bs b with
 | none=>rfl
 | some q=>rw [(handH_iff.1 hq).1] at hb;cases hb
def SRel.tokH (hS:SRel G e σ w) {t:Nat} (ht:t∈σ.tk) {p:Nat×Nat} (hp:e.M t=some p):e.H p.1=none:=by
 cases hq:e.H p.1 with
 | none=>rfl
 | some q=>exact absurd rfl ((hS.hid _ _ hq).2.2.2.1 t ht p hp)
variable {e2 e3:Env} {σ2 σ3:St} {w':World} {bx:List Box}
structure Backed (σ:St) (bs:List Nat) (σ3:St) (bx:List Box):Prop where
 le:bs.length<=σ3.bx.length
 len:bx.length=σ.bx.length+(σ3.bx.length - bs.length)
 some:∀(j b:Nat) (x:Box),bs[j]?=some b->σ3.bx[j]?=some x->bx[b]?=some (ZaY bs bs.length σ.bx.length σ.nx x)
 old:∀i,i<σ.bx.length->i∉bs->bx[i]?=σ.bx[i]?
 new:∀i,σ.bx.length<=i->bx[i]?=σ3.bx[bs.length+(i - σ.bx.length)]?.map (ZaY bs bs.length σ.bx.length σ.nx)
abbrev U7 (σ:St) (rest:List Nat) (σ3:St) (bx:List Box):St:=⟨bx,rest++σ3.tk.map (σ.nx+·),σ.nx+σ3.nx⟩
def Z8 {t:Nat} (hS:SRel G e σ w) (h:Handed e σ w bs rest e2 σ2) (ht:t∈(U7 σ rest σ3 bx).tk):(t∈rest/\t<σ.nx)\/∃t',t'∈σ3.tk/\t=σ.nx+t':=by
 rcases TM.1 ht with h1 | h1
 ·exact .inl ⟨h1,hS.tkn t (h.restIn t h1)⟩
 obtain ⟨t',h2,h3⟩:=Sw.1 h1;exact .inr ⟨t',h2,h3.symm⟩
def Yl {L m nx t:Nat} (h:t<nx):(e.back bs L m nx e3).M t=e.M t:=by simp [Env.back,h]
def back_M_new {L m nx t:Nat}:(e.back bs L m nx e3).M (nx+t)=e3.M t:=by
 have:¬nx+t<nx:=oM;simp [Env.back,this]
def Z5 {L m nx i:Nat} (h:i<L):(e.back bs L m nx e3).β i=e.β i:=by simp [Env.back,h]
def Vb {L m nx i:Nat} (h:L<=i):(e.back bs L m nx e3).β i=e3.β (m+(i - L)):=by
 have:¬i<L:=oM;simp [Env.back,this]
def Zgv (h:Handed e σ w bs rest e2 σ2) (hL:Later e2 σ2 w e3 σ3 w') {i:Nat} (hi:i<σ.bx.length):(∃j,j<σ2.bx.length/\bs[j]?=some i/\e3.β j=e.β i)\/(i∉bs/\∀off,e3.X (e.β i) off):=by
 by_cases hm:i∈bs
 ·obtain ⟨j,hj,he⟩:=Sd hm;have hb:bs[j]?=some i:=by rw [Ta hj,he]
  have iv:j<σ2.bx.length:=by rw [h.len];exact hj
  exact .inl ⟨j,iv,hb,(hL.beta j iv).trans (h.beta j i hb)⟩
 exact .inr ⟨hm,fun off=>hL.X _ _ (by rw [h.X];exact .inr (.inl ⟨i,hi,hm,rfl⟩))⟩
def Zgw (hS:SRel G e σ w) (h:Handed e σ w bs rest e2 σ2) (hL:Later e2 σ2 w e3 σ3 w') (hb:Backed σ bs σ3 bx) {b off:Nat} (ho:okc e3 σ3 b off) :
  okc (e.back bs σ.bx.length bs.length σ.nx e3) (U7 σ rest σ3 bx) b off:=by
 have hX:¬Zgu e σ bs rest b off:=fun hk=>ho.1 (hL.X _ _ (by rw [h.X];exact hk))
 refine ⟨fun hx=>hX (.inl hx),fun i hi=>?_,fun t ht p hp s5=>?_,fun q hq=>?_⟩
 ·by_cases aa:i<σ.bx.length
  ·rw [Z5 aa];rcases Zgv h hL aa with ⟨j,hj,_,he⟩ | ⟨_,hx⟩
   ·rw [<- he];exact ho.2.1 j (TA hj hL.len)
   intro e;rw [<- e] at ho;exact ho.1 (hx off)
  rw [Vb oM];have hlen:=hb.len;have aj:=hb.le;simp only at hi;exact ho.2.1 _ oM
 ·rcases Z8 hS h ht with ⟨h1,h2⟩ | ⟨t',h1,rfl⟩
  ·rw [Yl h2] at hp;have:¬p.2<=off:=fun aj=>hX (.inr (.inr (.inl ⟨t,h1,p,hp,s5,aj⟩)))
   omega
  rw [back_M_new] at hp;exact ho.2.2.1 t' h1 p hp s5
 rcases ZaZ hq with h1 | ⟨_,h1,h2⟩
 ·exact ho.2.2.2 q h1
 have:¬q.2<=off:=fun aj=>hX (.inr (.inr (.inr ⟨q,h1,aj,h2⟩)))
 omega
def VRel.back (hS:SRel G e σ w) (h:Handed e σ w bs rest e2 σ2) (hL:Later e2 σ2 w e3 σ3 w') (hb:Backed σ bs σ3 bx) {x:PV} {v:Value} (hv:VRel G e3 σ3 w' x v) :
  VRel G (e.back bs σ.bx.length bs.length σ.nx e3) (U7 σ rest σ3 bx) w' (Zda bs bs.length σ.bx.length σ.nx x) v:=by
 have hd:∀{x:D} {v:Value},DRel (okc e3 σ3) w' x v->DRel (okc (e.back bs σ.bx.length bs.length σ.nx e3) (U7 σ rest σ3 bx)) w' x v:=fun hd=>hd.mono fun b off u hu ho=>⟨Zgw hS h hL hb ho,hu⟩
 have bk:∀i,i<σ3.bx.length->e3.β i=(e.back bs σ.bx.length bs.length σ.nx e3).β (match bs[i]? with | some b=>b | none=>σ.bx.length+(i - bs.length))/\(match bs[i]? with | some b=>b | none=>σ.bx.length+(i - bs.length))<bx.length:=fun i hi=>by
  have hlen:=hb.len;have aj:=hb.le
  cases pp:bs[i]? with
  | some b =>
   have hj:=(Ti.1 pp).1;have aa:=h.lt b (TW pp);refine ⟨?_,by show b<bx.length;omega⟩;rw [Z5 aa];exact (hL.beta i (by rw [h.len];exact hj)).trans (h.beta i b pp)
  | none =>
  have ec:bs.length<=i:=by simpa using pp
  show e3.β i=(e.back bs σ.bx.length bs.length σ.nx e3).β (σ.bx.length+(i - bs.length))/\σ.bx.length+(i - bs.length)<bx.length;refine ⟨?_,oM⟩;rw [Vb oM];congr 1;omega
 induction hv with
 | d x v hx=>exact .d _ _ (hd hx)
 | undef v=>exact .undef _
 | ptr i off hi =>
  obtain ⟨h1,h2⟩:=bk i hi;simp only [Zda]
  cases pp:bs[i]? <;> rw [pp] at h1 h2 <;> (rw [h1];exact .ptr _ off h2)
 | asl i off n hi =>
  obtain ⟨h1,h2⟩:=bk i hi;simp only [Zda]
  cases pp:bs[i]? <;> rw [pp] at h1 h2 <;> (rw [h1];exact .asl _ off n h2)
 | mp i hi =>
  obtain ⟨h1,h2⟩:=bk i hi;simp only [Zda]
  cases pp:bs[i]? <;> rw [pp] at h1 h2 <;> (rw [h1];exact .mp _ h2)
 | nilm=>exact .nilm
 | elem r off b o u hc ho hu=>exact .elem r off b o u hc (fun j hj=>Zgw hS h hL hb (ho j hj)) (fun j x hx=>hd (hu j x hx))
 | sl t el rows v hn oh ht =>
  refine .sl _ el rows v (by show σ.nx+t<σ.nx+σ3.nx;omega) (hd oh) fun hp=>?_
  rcases Z8 hS h hp with ⟨_,h2⟩ | ⟨t',h1,h2⟩
  ·omega
  obtain rfl:t=t':=by omega
  rcases ht h1 with ⟨g1,g2,g3⟩ | ⟨sz,g1,g2,g3,b,off,cap,cs,ty,fz,g4,g5,g6,g7,g8,g9,g10⟩
  ·exact .inl ⟨g1,g2,back_M_new.trans g3⟩
  exact .inr ⟨sz,g1,g2,g3,b,off,cap,cs,ty,fz,g4,g5,g6,g7,g8,g9,back_M_new.trans g10⟩
 | nils el=>exact .nils el
 | func f a c va vc ha hc _ _ ih1 ih2 =>
  refine .func f _ _ va vc (by rw [YF];exact ha) (by rw [YF];exact hc) (fun i y u hy hu=>?_) (fun i y u hy hu=>?_)
  ·obtain ⟨x,hx,rfl⟩:=Wo i y hy;exact ih1 i x u hx hu
  obtain ⟨x,hx,rfl⟩:=Wo i y hy;exact ih2 i x u hx hu
 | iface t x v _ ih=>exact .iface t _ v ih
 | agg cs vs hs _ h1 ih=>exact .agg _ vs (by rw [YF];exact hs) (fun i y u hy hu=>by obtain ⟨x,hx,rfl⟩:=Wo i y hy;exact ih i x u hx hu) h1
 | tuple cs vs hs _ ih=>exact .tuple _ vs (by rw [YF];exact hs) (fun i y u hy hu=>by obtain ⟨x,hx,rfl⟩:=Wo i y hy;exact ih i x u hx hu)
 | raw v=>exact .raw _
def ZbK (hS:SRel G e σ w) (h:Handed e σ w bs rest e2 σ2) (gx:SRel G e3 σ3 w') (hL:Later e2 σ2 w e3 σ3 w') (hb:Backed σ bs σ3 bx):Stepped e σ w (e.back bs σ.bx.length bs.length σ.nx e3) (U7 σ rest σ3 bx) w' where
 len:=by show σ.bx.length<=bx.length;rw [hb.len];omega
 beta:=fun i hi=>Z5 hi
 X:=fun _ _ h=>h
 pres:=fun b off u hu ho=>by
  obtain ⟨h1,h2⟩:=hL.pres b off u hu (h.okc b off ho);exact ⟨Zgw hS h hL hb h1,h2⟩
 blocks:=fun b aa hn ht hH=>hL.blocks b aa (fun j hj=>by
   have lk:j<bs.length:=by rw [<- h.len];exact hj
   have qp:=Ta lk;rw [h.beta j _ qp];exact hn _ (h.lt _ (TC lk))) (fun t wg p hp=>by
   obtain ⟨t0,h1,_,h2⟩:=h.tok t wg p hp;exact ht t0 h1 p h2) (h.hnone hH)
 size:=hL.size
 os:=hL.os
 tape:=hL.tape
 output:=hL.output
 fresh:=fun i h1 h2=>by
  rw [Vb h1];have hlen:=hb.len;have aj:=hb.le;have:i<bx.length:=h2;exact hL.fresh _ (by rw [h.len];omega) oM
 ftok:=fun t ht p hp=>by
  rcases Z8 hS h ht with ⟨h1,h2⟩ | ⟨t',h1,rfl⟩
  ·rw [Yl h2] at hp;exact .inr (.inl ⟨t,h.restIn t h1,p,hp,rfl⟩)
  rw [back_M_new] at hp;rcases hL.ftok t' h1 p hp with h2 | ⟨t0,h3,p0,h4,h5⟩ | h2
  ·exact .inl h2
  ·obtain ⟨t1,g1,_,g2⟩:=h.tok t0 h3 p0 h4;exact .inr (.inl ⟨t1,g1,p0,g2,h5⟩)
  exact .inr (.inr fun hn=>h2 (h.hnone hn))
 fhid:=fun b hb=>by
  cases hq:ZhX e bs e3 b with
  | none=>exact absurd hq hb
  | some q =>
  rcases ZaZ hq with h1 | ⟨_,h1,_⟩
  ·rcases hL.fhid b (by rw [h1];simp) with h2 | ⟨t0,h3,p0,h4,h5⟩ | h2
   ·exact .inl h2
   ·obtain ⟨t1,g1,_,g2⟩:=h.tok t0 h3 p0 h4;exact .inr (.inl ⟨t1,g1,p0,g2,h5⟩)
   exact .inr (.inr fun hn=>h2 (h.hnone hn))
  exact .inr (.inr (by rw [h1];simp))
 nx:=Nat.le_add_right _ _
 toks:=fun t aa ht=>by
  rcases Z8 hS h ht with ⟨h1,_⟩ | ⟨t',h1,rfl⟩
  ·exact ⟨h.restIn t h1,Yl aa⟩
  omega
 own:=fun t aa ht p hp abr=>by
  rcases Z8 hS h ht with ⟨h1,_⟩ | ⟨t',h1,rfl⟩
  ·obtain ⟨_,qe,_⟩:=hS.own t (h.restIn t h1) p hp;refine hL.blocks p.1 abr (fun j hj=>?_) (fun t2 kr p2 lm=>?_) (h.hnone (hS.tokH (h.restIn t h1) hp))
   ·have lk:j<bs.length:=by rw [<- h.len];exact hj
    have qp:=Ta lk;rw [h.beta j _ qp];exact qe _ (h.lt _ (TC lk))
   obtain ⟨t0,g1,g2,g3⟩:=h.tok t2 kr p2 lm;exact hS.dis t0 t g1 (h.restIn t h1) (fun e=>g2 (e ▸ h1)) p2 p g3 hp
  omega
def SRel.back (hS:SRel G e σ w) (h:Handed e σ w bs rest e2 σ2) (gx:SRel G e3 σ3 w') (hL:Later e2 σ2 w e3 σ3 w') (hb:Backed σ bs σ3 bx):SRel G (e.back bs σ.bx.length bs.length σ.nx e3) (U7 σ rest σ3 bx) w':=by
 have hst:=ZbK hS h gx hL hb;have hlen:=hb.len;have aj:=hb.le;have dv:(U7 σ rest σ3 bx).bx.length=bx.length:=rfl;have gt:∀i,σ.bx.length<=i->i<bx.length->(e.back bs σ.bx.length bs.length σ.nx e3).β i=e3.β (bs.length+(i - σ.bx.length))/\bs.length+(i - σ.bx.length)<σ3.bx.length/\w.heap.size<=e3.β (bs.length+(i - σ.bx.length)):=fun i h1 h2=>by
  have:=hst.fresh i h1 h2;rw [Vb h1] at this;exact ⟨Vb h1,oM,this⟩
 have am:∀t,t∈rest->∀p,e.M t=some p->p.1<w.heap.size:=fun t ht p hp=>by
  obtain ⟨_,_,cs,ty,fz,hh⟩:=hS.own t (h.restIn t ht) p hp;exact (Tp.1 hh).1
 constructor
 ·intro i j hi hj he
  by_cases h1:i<σ.bx.length <;> by_cases h2:j<σ.bx.length
  ·rw [Z5 h1,Z5 h2] at he;exact hS.inj i j h1 h2 he
  ·obtain ⟨g1,g2,g3⟩:=gt j oM hj;rw [Z5 h1,g1] at he;have:=hS.lt h1;omega
  ·obtain ⟨g1,g2,g3⟩:=gt i oM hi;rw [Z5 h2,g1] at he;have:=hS.lt h2;omega
  obtain ⟨g1,g2,g3⟩:=gt i oM hi;obtain ⟨k1,k2,k3⟩:=gt j oM hj;rw [g1,k1] at he;have:=gx.inj _ _ g2 k2 he;omega
 ·intro i x hx
  have hi:=(Ti.1 hx).1;simp only at hx hi;have hBk:∀(y:Box) (b:Nat),BRel G e3 σ3 w' y b->BRel G (e.back bs σ.bx.length bs.length σ.nx e3) (U7 σ rest σ3 bx) w' (ZaY bs bs.length σ.bx.length σ.nx y) b:=fun y b hB=>by
   cases y with
   | cells t cs =>
    obtain ⟨vs,g1,g2,g3⟩:=hB;refine ⟨vs,g1,by rw [YF];exact g2,fun k z u hz hu=>?_⟩;obtain ⟨z',wh,rfl⟩:=Wo k z hz;exact ⟨(g3 k z' u wh hu).1.back hS h hL hb,(g3 k z' u wh hu).2⟩
   | iter s p=>exact hB
   | loop st pd r=>exact hB
   | dmap m=>exact hB.dmapTo rfl fun d v hv=>by have q:VRel G _ _ _ (.d d) v:=(VRel.d (G:=G) d v hv).back hS h hL hb;cases q;assumption
   | smap el m fo=>exact hB.smapTo rfl (Zda bs bs.length σ.bx.length σ.nx) (fun _=>rfl) (fun _=>rfl) (fun _ _ _ _ hv=>hv.back hS h hL hb) fun b' q hq _=>⟨ZoW hq,rfl⟩
   | map cs bn ck=>exact hB.mapTo rfl YF fun i x y hx hy=>by obtain ⟨z,hz,rfl⟩:=Wo i y hy;rw [hx] at hz;cases hz;exact ⟨fun v hv=>hv.back hS h hL hb,fun d hd=>by subst hd;rfl⟩
  by_cases h1:i<σ.bx.length
  ·rw [Z5 h1];rcases Zgv h hL h1 with ⟨j,hj,qp,he⟩ | ⟨ue,hX⟩
   ·have rq:j<σ3.bx.length:=TA hj hL.len;have:=hb.some j i _ qp (Ta rq);rw [this] at hx
    cases hx
    rw [<- he];exact hBk _ _ (gx.box j _ (Ta rq))
   rw [hb.old i h1 ue] at hx;have notB:∀j,j<bs.length->∀b,bs[j]?=some b->e.β b≠e.β i:=fun j hj b hb he=>by
    have:=hS.inj _ _ (h.lt _ (TW hb)) h1 he;exact ue (this ▸ TW hb)
   have hnH:e.H (e.β i)=none:=by
    cases hq:e.H (e.β i) with
    | none=>rfl
    | some q=>exact absurd rfl ((hS.hid _ _ hq).2.2.1 i h1)
   refine (hS.box i x hx).step hst (hL.blocks _ (hS.lt h1) (fun j hj=>?_) (fun t ht p hp=>?_) (h.hnone hnH)) fun b' q hq zk=>?_
   ·have lk:j<bs.length:=by rw [<- h.len];exact hj
    have qp:=Ta lk;rw [h.beta j _ qp];intro he
    have:=hS.inj _ _ (h.lt _ (TC lk)) h1 he;exact ue (this ▸ TC lk)
   ·obtain ⟨t0,g1,_,g2⟩:=h.tok t ht p hp;exact fun he=>(hS.own t0 g1 p g2).2.1 i h1 he.symm
   obtain ⟨k1,k2,k3,k4,k5⟩:=hS.hid b' q hq;have hnp:∀i',i'∈bs->e.β i'≠q.1.1:=fun i' ew he=>by
    have:=hS.inj _ _ (h.lt _ ew) h1 (he.trans zk);exact ue (this ▸ ew)
   have qh:e2.H b'=none:=by
    rw [h.H]
    cases nk:ZmV e bs b' with
    | none=>rfl
    | some q2 =>
    obtain ⟨g1,i',g2,g3⟩:=handH_iff.1 nk;rw [hq] at g1;cases g1;exact absurd g3 (hnp i' g2)
   have kr:∀t,t∈σ2.tk->∀p,e2.M t=some p->p.1≠b':=fun t ht p hp=>by
    obtain ⟨t0,g1,_,g2⟩:=h.tok t ht p hp;exact k4 t0 g1 p g2
   refine ⟨ZoX ?_ hq hnp,hL.blocks b' k2 (fun j hj=>?_) kr qh⟩
   ·cases hq3:e3.H b' with
    | none=>rfl
    | some q3 =>
    rcases hL.fhid b' (by rw [hq3];simp) with g1 | ⟨t0,g1,p0,g2,g3⟩ | g1
    ·omega
    ·exact absurd g3 (kr t0 g1 p0 g2)
    exact absurd qh g1
   have lk:j<bs.length:=by rw [<- h.len];exact hj
   have qp:=Ta lk;rw [h.beta j _ qp];exact k3 _ (h.lt _ (TC lk))
  obtain ⟨g1,g2,g3⟩:=gt i oM hi;rw [hb.new i oM,Ta g2] at hx
  cases hx
  rw [g1];exact hBk _ _ (gx.box _ _ (Ta g2))
 ·intro i hi
  by_cases h1:i<σ.bx.length
  ·rw [Z5 h1];exact hS.low i h1
  obtain ⟨g1,g2,g3⟩:=gt i oM hi;rw [g1];exact gx.low _ g2
 ·intro t ht
  rcases Z8 hS h ht with ⟨_,h2⟩ | ⟨t',h1,rfl⟩
  ·show t<σ.nx+σ3.nx;omega
  have:=gx.tkn t' h1;show σ.nx+t'<σ.nx+σ3.nx;omega
 ·intro t ht p hp
  rcases Z8 hS h ht with ⟨h1,h2⟩ | ⟨t',h1,rfl⟩
  ·rw [Yl h2] at hp;obtain ⟨g1,g2,cs,ty,fz,g3⟩:=hS.own t (h.restIn t h1) p hp;refine ⟨g1,fun i hi=>?_,cs,ty,fz,(hst.own t h2 ht p hp (am t h1 p hp)).trans g3⟩
   by_cases h3:i<σ.bx.length
   ·rw [Z5 h3];exact g2 i h3
   obtain ⟨k1,k2,k3⟩:=gt i oM hi;rw [k1];have:=am t h1 p hp;omega
  rw [back_M_new] at hp;obtain ⟨g1,g2,g3⟩:=gx.own t' h1 p hp;refine ⟨g1,fun i hi=>?_,g3⟩
  by_cases h3:i<σ.bx.length
  ·rw [Z5 h3];rcases Zgv h hL h3 with ⟨j,hj,_,he⟩ | ⟨_,hX⟩
   ·rw [<- he];exact g2 j (TA hj hL.len)
   intro he
   exact gx.xown t' h1 p hp p.2 (Tt _) (he ▸ hX p.2)
  obtain ⟨k1,k2,k3⟩:=gt i oM hi;rw [k1];exact g2 _ k2
 ·intro t t' ht ku ah p p' hp jd
  have mixed:∀t t',t∈rest->t<σ.nx->t'∈σ3.tk->∀p p',e.M t=some p->e3.M t'=some p'->p.1≠p'.1:=fun t t' h1 h2 h3 p p' hp jd he=>by
   refine gx.xown t' h3 p' jd (max p.2 p'.2) (Nat.le_max_right _ _) ?_;exact hL.X _ _ (by rw [h.X];exact .inr (.inr (.inl ⟨t,h1,p,hp,he,Nat.le_max_left _ _⟩)))
  rcases Z8 hS h ht with ⟨h1,h2⟩ | ⟨s,h1,rfl⟩ <;> rcases Z8 hS h ku with ⟨k1,k2⟩ | ⟨s',k1,rfl⟩
  ·rw [Yl h2] at hp;rw [Yl k2] at jd;exact hS.dis t t' (h.restIn t h1) (h.restIn t' k1) ah p p' hp jd
  ·rw [Yl h2] at hp;rw [back_M_new] at jd;exact mixed t s' h1 h2 k1 p p' hp jd
  ·rw [back_M_new] at hp;rw [Yl k2] at jd;exact fun he=>mixed t' s k1 k2 h1 p' p jd hp he.symm
  rw [back_M_new] at hp jd;exact gx.dis s s' h1 k1 (fun e=>ah (by rw [e])) p p' hp jd
 ·intro b off hX
  exact TA (hS.xlt b off hX) hL.size
 ·intro t ht p hp off ic hX
  rcases Z8 hS h ht with ⟨h1,h2⟩ | ⟨t',h1,rfl⟩
  ·rw [Yl h2] at hp;exact hS.xown t (h.restIn t h1) p hp off ic hX
  rw [back_M_new] at hp;refine gx.xown t' h1 p hp off ic ?_;exact hL.X _ _ (by rw [h.X];exact .inl hX)
 ·intro b q hq
  rcases ZaZ hq with g | ⟨g0,g,gn⟩
  ·obtain ⟨k1,k2,k3,k4,k5⟩:=gx.hid b q g;refine ⟨k1,k2,fun i hi=>?_,fun t ht p hp=>?_,fun off ho hX=>k5 off ho (hL.X _ _ (by rw [h.X];exact .inl hX))⟩
   ·by_cases h3:i<σ.bx.length
    ·rw [Z5 h3];rcases Zgv h hL h3 with ⟨j,hj,_,he⟩ | ⟨_,hX⟩
     ·rw [<- he];exact k3 j (TA hj hL.len)
     intro he
     exact k5 q.2 (Tt _) (he ▸ hX q.2)
    obtain ⟨g1,g2,g3⟩:=gt i oM hi;rw [g1];exact k3 _ g2
   rcases Z8 hS h ht with ⟨h1,h2⟩ | ⟨t',h1,rfl⟩
   ·rw [Yl h2] at hp;intro he
    refine k5 (max p.2 q.2) (Nat.le_max_right _ _) ?_;exact hL.X _ _ (by rw [h.X];exact .inr (.inr (.inl ⟨t,h1,p,hp,he,Nat.le_max_left _ _⟩)))
   rw [back_M_new] at hp;exact k4 t' h1 p hp
  obtain ⟨k1,k2,k3,k4,k5⟩:=hS.hid b q g;refine ⟨k1,TA k2 hL.size,fun i hi=>?_,fun t ht p hp=>?_,k5⟩
  ·by_cases h3:i<σ.bx.length
   ·rw [Z5 h3];exact k3 i h3
   obtain ⟨g1,g2,g3⟩:=gt i oM hi;rw [g1];omega
  rcases Z8 hS h ht with ⟨h1,h2⟩ | ⟨t',h1,rfl⟩
  ·rw [Yl h2] at hp;exact k4 t (h.restIn t h1) p hp
  rw [back_M_new] at hp;intro he
  refine gx.xown t' h1 p hp (max p.2 q.2) (Nat.le_max_left _ _) ?_;exact hL.X _ _ (by rw [h.X,he];exact .inr (.inr (.inr ⟨q,g,Nat.le_max_right _ _,gn⟩)))
 ·exact gx.glob
 exact gx.big
def XB {md:Nat} {g:FuncId} {sp:Zo} (hP:PCalls G g sp) {args:List PV} {K:PEnd->St->Prop} (hv:VA md sp args σ K) :
  WH G.P g/\∀(ro:Option Nat) (n:Nat) (e:Env) (w:World) (vs:Array Value),SRel G e σ w->ArgsRel G e σ w args vs->CallsIn (fw ro) n G.P g vs w (Zzl G e σ w K):=by
 unfold VA at hv
 simp only [J7,J8,Wk] at hv;generalize J6 σ.bx (σ.bx.length+1) 0 (ZaW args [])=bs at hv;split at hv
 ·rename_i i5
  obtain ⟨cb,hv,ot,hcg⟩:=ZoU hv;obtain ⟨args',tk1,as1,hv,dl,lz,zo,hav⟩:=ZrX (as:=[]) (ZFF σ.tk σ.tk fun _ h=>h) hv;obtain ⟨cb',rest,as2,hv,bo,fk,cj,afa,ll⟩:=WS lz hv;have l0:=Zdb i5;have rt:∀b,b∈bs->b<σ.bx.length:=fun b hb=>by
   obtain ⟨k,hk,he⟩:=Sd hb;obtain ⟨x,hx,_⟩:=hcg k b (by rw [Ta hk,he]);exact (Ti.1 hx).1
  have backOf:∀(pe:PEnd) (σ3:St),(ZeF (ZaY bs bs.length σ.bx.length σ.nx) bs σ3.bx σ.bx fun bx=>K (Zr6 bs bs.length σ.bx.length σ.nx pe) (U7 σ rest σ3 bx))->∃bx,Backed σ bs σ3 bx/\K (Zr6 bs bs.length σ.bx.length σ.nx pe) (U7 σ rest σ3 bx):=fun pe σ3 hb=>by
   obtain ⟨bx,h1,h2,h3,h4,h5,h6⟩:=Zld l0 rt hb;exact ⟨bx,⟨h2,h3,h4,h5,h6⟩,h1⟩
  refine ⟨hP.enters,fun ro n e w vs hS ac=>?_⟩;have ru:∀t,t∈as2.filterMap id↔some t∈as2:=fun t=>by simp
  have ou:∀t,t∈as2.filterMap id->t∈σ.tk/\t∉rest:=fun t ht=>by
   obtain ⟨i,hi,he⟩:=Sd ((ru t).1 ht);exact fk.mem i t (by rw [Ta hi,he])
  have hH:Hand σ bs rest (as2.filterMap id) cb:=⟨l0,ot,hcg,fk.sub,ou⟩
  have gm:=hS.ren hH;have hIP:NInv (as2.filterMap id) [] as2:=⟨(fun t ht=>by cases ht),(fun i t hi=>⟨(ru t).2 (TW hi),sM⟩),fk.inj⟩
  have fd:bs.length<=(St.mk cb (as2.filterMap id) σ.nx).bx.length:=Nat.le_of_eq ot.symm;have jj:=Zgl gm fd hIP cj ll;have hD:=ZcZ (e:=e.handed σ bs rest) fd hIP cj;have hA2:ArgsRel G ((e.handed σ bs rest).re as2) ⟨cb',toks as2.length,as2.length⟩ w args' vs:=by
   refine ⟨by rw [ac.1,zo,YE],fun i x u hx hu=>?_⟩;have hi:=(Ti.1 hx).1;rw [zo] at hi;have hy:=Ta hi;obtain ⟨z,hz,uf⟩:=WJ i _ hy;have h1:=(ac.2 i z u hz hu).ren hS hH;rw [<- uf] at h1;exact ((hav i _ x hy hx).ext bo).rel fd hIP cj h1
  have zp:Handed e σ w bs rest ((e.handed σ bs rest).re as2) ⟨cb',toks as2.length,as2.length⟩:={
   nodup:=l0
   lt:=rt
   len:=cj
   beta:=fun j b hj=>by simp [Env.re,Env.handed,hj]
   X:=rfl
   H:=rfl
   okc:=fun b off ho=>hD.okc b off (ZoV hS hH ho)
   tok:=fun t ht p hp=>by
    obtain ⟨t0,h1,h2⟩:=hD.tok t ht p hp;exact ⟨t0,(ou t0 h1).1,(ou t0 h1).2,h2⟩
   restIn:=fk.sub }
  have il:=hP.calls _ _ _ hv n _ w vs jj hA2;have ta:∀R,CallsIn (fw none) n G.P g vs w R->CallsIn (fw ro) n G.P g vs w R:=fun R h=>by
   cases ro with
   | none=>exact h
   | some l=>exact h.inRound l
  refine (ta _ il).mono fun en w' hA=>?_
  obtain ⟨pe,σ3,e3,hk,hE,gx,hL⟩:=hA;obtain ⟨bx,hB,hK⟩:=backOf pe σ3 hk;refine ⟨_,_,e.back bs σ.bx.length bs.length σ.nx e3,hK,?_,hS.back zp gx hL hB,ZbK hS zp gx hL hB⟩
  cases pe with
  | ret x=>obtain ⟨v,rfl,hr⟩:=hE;exact ⟨v,rfl,hr.back hS zp hL hB⟩
  | panic x=>obtain ⟨v,rfl,hr⟩:=hE;exact ⟨v,rfl,hr.back hS zp hL hB⟩
 exact hv.elim
def Zz (sp:Zo):Prop:=∀args σ (K K':PEnd->St->Prop),(∀e σ,K e σ->K' e σ)->sp args σ K->sp args σ K'
def ZhY {bs:List Nat} {bx:List Box}:∀{l:List Nat} {K K':List Box->Prop},(∀r,K r->K' r)->ZmU bs bx l K->ZmU bs bx l K'
 | [],K,K',hK,h=>hK _ h
 | b::l,K,K',hK,h=>by
  simp only [ZmU] at h |-;split at h
  all_goals first
   | exact ZhY (fun r hr=>hK _ hr) h
   | exact h.elim
def ZoY {n:Nat} {tk:List Nat} {k:Nat} {v:PV} {K K':PV->List Nat->Nat->Prop} (hK:∀v t k,K v t k->K' v t k) (h:ZrN n tk k v K):ZrN n tk k v K':=by
 have gen:∀v,(match bnd n v with | true=>UW (clean v) fun v=>K v tk k | false=>K .undef tk k:Prop)->(match bnd n v with | true=>UW (clean v) fun v=>K' v tk k | false=>K' .undef tk k:Prop):=fun v h=>by
  split at h
  ·rw [ZP] at h |-;exact hK _ _ _ h
  exact hK _ _ _ h
 cases v with
 | sl t el rows =>
  simp only [ZrN] at h |-;split at h <;> exact hK _ _ _ h
 | nils el=>exact hK _ _ _ h
 | d x=>exact gen (.d x) h
 | undef=>exact gen .undef h
 | ptr b o=>exact gen (.ptr b o) h
 | asl b o n=>exact gen (.asl b o n) h
 | elem r o=>exact gen (.elem r o) h
 | func f a c=>exact gen (.func f a c) h
 | iface t v=>exact gen (.iface t v) h
 | agg cs=>exact gen (.agg cs) h
 | tuple cs=>exact gen (.tuple cs) h
 | raw v=>exact gen (.raw v) h
 | mp b=>exact gen (.mp b) h
 | nilm=>exact gen .nilm h
def Ui {n:Nat}:∀{vs:List PV} {tk:List Nat} {k:Nat} {K K':List PV->List Nat->Nat->Prop},(∀v t k,K v t k->K' v t k)->ZrO n vs tk k K->ZrO n vs tk k K'
 | [],_,_,_,_,hK,h=>hK _ _ _ h
 | v::vs,_,_,_,_,hK,h=>ZoY (fun v t k h=>Ui (fun vs t k h=>hK _ _ _ h) h) h
def Zfl {n:Nat} {tk:List Nat} {k:Nat} {v:PV} {K K':PV->List Nat->Nat->Prop} (hK:∀v t k,K v t k->K' v t k) (h:ZcJ n tk k v K):ZcJ n tk k v K':=by
 have gen:∀v,(match bnd n v with | true=>UW (cleanN v) fun v=>K v tk k | false=>K .undef tk k:Prop)->(match bnd n v with | true=>UW (cleanN v) fun v=>K' v tk k | false=>K' .undef tk k:Prop):=fun v h=>by
  split at h
  ·rw [ZP] at h |-;exact hK _ _ _ h
  exact hK _ _ _ h
 cases v with
 | sl t el rows =>
  simp only [ZcJ] at h |-;split at h <;> exact hK _ _ _ h
 | nils el=>exact hK _ _ _ h
 | d x=>exact gen (.d x) h
 | undef=>exact gen .undef h
 | ptr b o=>exact gen (.ptr b o) h
 | asl b o n=>exact gen (.asl b o n) h
 | elem r o=>exact gen (.elem r o) h
 | func f a c=>exact gen (.func f a c) h
 | iface t v=>exact gen (.iface t v) h
 | agg cs=>exact gen (.agg cs) h
 | tuple cs=>exact gen (.tuple cs) h
 | raw v=>exact gen (.raw v) h
 | mp b=>exact gen (.mp b) h
 | nilm=>exact gen .nilm h
def Zfm {n:Nat}:∀{vs:List PV} {tk:List Nat} {k:Nat} {K K':List PV->List Nat->Nat->Prop},(∀v t k,K v t k->K' v t k)->Zjq n vs tk k K->Zjq n vs tk k K'
 | [],_,_,_,_,hK,h=>hK _ _ _ h
 | v::vs,_,_,_,_,hK,h=>Zfl (fun v t k h=>Zfm (fun vs t k h=>hK _ _ _ h) h) h
def Xh {n:Nat}:∀{m:Nat} {bs:List Box} {tk:List Nat} {k:Nat} {K K':List Box->List Nat->Nat->Prop},(∀v t k,K v t k->K' v t k)->ZcK n m bs tk k K->ZcK n m bs tk k K'
 | 0,_,_,_,_,_,hK,h=>by simp only [ZcK] at h |-;exact hK _ _ _ h
 | _+1,[],_,_,_,_,_,h=>h.elim
 | _+1,.cells t cs::bs,_,_,_,_,hK,h=>by
  simp only [ZcK] at h |-;exact Ui (fun v t k h=>Xh (fun _ _ _ h=>hK _ _ _ h) h) h
 | _+1,.iter s p::bs,_,_,K,K',hK,h=>by
  simp only [ZcK] at h |-;exact Xh (K:=fun l tk k=>K (.iter s p::l) tk k) (K':=fun l tk k=>K' (.iter s p::l) tk k) (fun _ _ _ h=>hK _ _ _ h) h
 | _+1,.loop st pd r::bs,_,_,K,K',hK,h=>by
  simp only [ZcK] at h |-;exact Xh (K:=fun l tk k=>K (.loop st pd r::l) tk k) (K':=fun l tk k=>K' (.loop st pd r::l) tk k) (fun _ _ _ h=>hK _ _ _ h) h
 | _+1,.dmap m::bs,_,_,K,K',hK,h=>by
  simp only [ZcK] at h |-;exact Xh (K:=fun l tk k=>K (.dmap m::l) tk k) (K':=fun l tk k=>K' (.dmap m::l) tk k) (fun _ _ _ h=>hK _ _ _ h) h
 | _+1,.smap el m none::bs,_,_,K,K',hK,h=>by
  simp only [ZcK] at h |-;exact Xh (K:=fun l tk k=>K (.smap el m none::l) tk k) (K':=fun l tk k=>K' (.smap el m none::l) tk k) (fun _ _ _ h=>hK _ _ _ h) h
 | _+1,.smap _ _ (some _)::_,_,_,_,_,_,h=>h.elim
 | _+1,.map cs bn ck::bs,_,_,_,_,hK,h=>by
  simp only [ZcK] at h |-;exact Ui (fun v t k h=>Xh (fun _ _ _ h=>hK _ _ _ h) h) h
def Zfn {bb:Box->Box}:∀{bs:List Nat} {xs acc:List Box} {K K':List Box->Prop},(∀r,K r->K' r)->ZeF bb bs xs acc K->ZeF bb bs xs acc K'
 | [],_,_,_,_,hK,h=>by simp only [ZeF] at h |-;exact hK _ h
 | _::_,[],_,_,_,_,h=>h.elim
 | b::bs,x::xs,_,_,_,hK,h=>by simp only [ZeF] at h |-;exact Zfn hK h
def ZhZ {sp:Zo} (xj:Zz sp):Zz (ZjN sp):=fun args σ K K' hK h=>by
 unfold ZjN VA Zod at h |-
 simp only [J7,J8,Wk] at h |-;split at h
 ·exact ZhY (fun cb h=>Ui (fun a t k h=>Xh (fun cb' r k h=>xj _ _ _ _ (fun pe σ3 h=>Zfn (fun bx h=>hK _ _ h) h) h) h) h) h
 exact h.elim
end
end Go.PM
end

section
namespace Go.PM
def Cx.up (C:Cx):Cx:={ C with call:=fun g args σ K=>∃K',C.call g args σ K'/\∀e σ,K' e σ->K e σ }
def ZmW {n:Nat} {tk:List Nat} {k:Nat} {v:PV} {K K':PV->List Nat->Nat->Prop} (hK:∀v t k,K v t k->K' v t k) (h:ZhC n tk k v K):ZhC n tk k v K':=by
 cases v with
 | agg cs=>exact Zfm (fun v t k h=>hK _ _ _ h) h
 | _=>simp only [ZhC] at h |-;exact Zfl hK h
def Zfo {n:Nat}:∀{vs:List PV} {tk:List Nat} {k:Nat} {K K':List PV->List Nat->Nat->Prop},(∀v t k,K v t k->K' v t k)->Zjr n vs tk k K->Zjr n vs tk k K'
 | [],_,_,_,_,hK,h=>hK _ _ _ h
 | v::vs,_,_,_,_,hK,h=>ZmW (fun v t k h=>Zfo (fun vs t k h=>hK _ _ _ h) h) h
def ZmX {n:Nat} {vs:List PV} {σ:St} {K K':List PV->St->Prop} (hK:∀v s,K v s->K' v s) (h:Zoe n vs σ K):Zoe n vs σ K' :=
 Ui (fun _ _ _ h=>Xh (fun _ _ _ h=>hK _ _ h) h) h
def Zdc {ag:Bool} {n:Nat} {vs:List PV} {σ:St} {K K':List PV->St->Prop} (hK:∀v s,K v s->K' v s) (h:V9 ag n vs σ K):V9 ag n vs σ K':=by
 cases ag with
 | true=>exact Zfo (fun _ _ _ h=>Xh (fun _ _ _ h=>hK _ _ h) h) h
 | false=>exact ZmX hK h
section
variable {C:Cx} {all:List Oper} {ms:List Nat} {Q Q':PQ}
abbrev Zb9 (C:Cx):Prop:=(∀v args σ (K:PEnd->St->Prop),¬C.raw v args σ K)/\∀g args r σ (K:PEnd->St->Prop),¬C.iter g args r σ K
def Zr7 (hr:Zb9 C) (hQ:∀e f σ,Q e f σ->Q' e f σ) {o:Oper} {f:Frame} {σ:St} {K K':Frame->St->Prop} (hK:∀f σ,K f σ->K' f σ) (h:XP C o f σ Q K):XP C.up o f σ Q' K':=by
 unfold XP at h |-
 simp only [ZN,ZP] at h |-;split at h
 ·exact JZ (fun v hv=>by rw [ZV] at hv |-;exact hK _ _ hv) h
 split at h
 ·unfold ZcI at h |-
  split at h
  ·split at h
   ·refine ⟨_,h,fun e σ he=>?_⟩
    cases e with
    | ret v=>simp only at he |-;rw [ZV] at he |-;exact hK _ _ he
    | panic v=>exact hQ _ _ _ he
   exact (hr.2 _ _ _ _ _ h).elim
  ·exact (hr.1 _ _ _ _ h).elim
  exact h
 ·split at h
  ·exact hQ _ _ _ h
  exact h.elim
 exact Zck (fun v σ hv=>by rw [ZV] at hv |-;exact hK _ _ hv) h
def Zcn (hr:Zb9 C) (hQ:∀e f σ,Q e f σ->Q' e f σ) {o:Oper} {f:Frame} {σ:St} {K K':Frame->St->Prop} (hK:∀f σ,K f σ->K' f σ) (h:W3 C all Q o f σ K):W3 C.up all Q' o f σ K':=by
 rw [Y0] at h |-;split at h
 ·exact Zr7 hr hQ hK h
 ·exact hK _ _ h
 exact h
def ZoZ {T:Tab} {o:Op} {ρ:Operand->PV} {σ:St} {K K':PV->St->Prop} (hK:∀v σ,K v σ->K' v σ) (h:Zy3 T o ρ σ K):Zy3 T o ρ σ K':=by
 unfold Zy3 at h |-
 (repeat' split at h) <;> first
  | exact h.elim
  | exact hK _ _ h
  | exact ⟨h.choose,h.choose_spec.1,h.choose_spec.2.1,hK _ _ h.choose_spec.2.2⟩
  | (rename_i hk;exfalso;simp_all;done)
def ZjO (hr:Zb9 C) (hQ:∀e f σ,Q e f σ->Q' e f σ):∀{l:List Oper} {f:Frame} {σ:St},Zn5 C all Q l f σ->Zn5 C.up all Q' l f σ
 | [],f,σ,h=>hQ _ _ _ h
 | o::rest,f,σ,h=>by
  simp only [Zn5,ZhB] at h |-;show match Ze4 C o with | true=>_ | false=>_
  cases hb:Ze4 C o with
  | true =>
   rw [hb] at h;refine ZoZ (fun v σ hv=>?_) h;simp only [ZN] at hv |-;rw [ZV] at hv |-;exact ZjO hr hQ hv
  | false =>
  rw [hb] at h;exact Zcn hr hQ (fun f σ h=>ZjO hr hQ h) h
def Zgx (hr:Zb9 C) (hQ:∀e f σ,Q e f σ->Q' e f σ) {i:Nat} {o:Oper} {ctx:List Ld} {f:Frame} {σ:St} {K K':List Ld->Frame->St->Prop} (hK:∀c f σ,K c f σ->K' c f σ) (h:X0 C all ms Q i o ctx f σ K):X0 C.up all ms Q' i o ctx f σ K':=by
 unfold X0 at h |-
 refine Zcn hr hQ (fun f' σ' hk=>?_) h;exact mq123
def Zgy (hr:Zb9 C) (hQ:∀e f σ,Q e f σ->Q' e f σ):∀{l:List (Nat×Oper)} {ctx:List Ld} {f:Frame} {σ:St},X1 C all ms Q l ctx f σ->X1 C.up all ms Q' l ctx f σ
 | [],_,f,σ,h=>hQ _ _ _ h
 | (i,o)::rest,ctx,f,σ,h=>Zgx hr hQ (fun _ _ _ h=>Zgy hr hQ h) h
def Zgz (hr:Zb9 C) (hQ:∀e f σ,Q e f σ->Q' e f σ):∀(n:Nat) (l:List (Nat×Oper)) (c:List Ld) (f:Frame) (σ:St),Wh C all ms Q n l c f σ->Wh C.up all ms Q' n l c f σ
 | 0,[],_,_,_,h=>hQ _ _ _ h
 | _+1,[],_,_,_,h=>hQ _ _ _ h
 | 0,_::_,_,_,_,h=>h.elim
 | n+1,x::l,c,f,σ,h=>by
  unfold Wh at h |-
  split at h
  ·exact Zgx hr hQ (fun c f σ h=>Zgz hr hQ n _ c f σ h) h
  rw [conjE_iff] at h |-;exact fun p hp hw=>Zgx hr hQ (fun c f σ h=>Zgz hr hQ n _ c f σ h) (h p hp hw)
def ZmY {T:Tab} {h:Hole} {f:Frame} {σ:St} {K K':Frame->St->Prop} (hK:∀f σ,K f σ->K' f σ) (g:ZmA T h f σ K):ZmA T h f σ K':=by
 unfold ZmA at g |-
 simp only [ZN,ZV] at g |-
 (repeat' split at g) <;> first
  | exact g.elim
  | exact ⟨g.1,g.2.1,hK _ _ g.2.2⟩
  | exact ⟨g.1,g.2.1,g.2.2.1,hK _ _ g.2.2.2⟩
def Zr8 (hr:Zb9 C) (hQ:∀e f σ,Q e f σ->Q' e f σ) {h:Hole}:∀e f σ,Zoh C all h Q e f σ->Zoh C.up all h Q' e f σ:=fun e f σ g=>by
 cases e with
 | normal=>exact ZmY (fun f σ g=>Zcn hr hQ (fun f σ g=>Zcn hr hQ (fun f σ g=>hQ _ _ _ g) g) g) g
 | _=>exact hQ _ _ _ g
def Zzp {C:Cx} {Q Q':PQ} (hr:Zb9 C) (hQ:∀e f σ,Q e f σ->Q' e f σ) {ops:List Oper} {draw:Bool} {f:Frame} {σ:St} (h:WR C ops draw Q f σ):WR C.up ops draw Q' f σ:=by
 have ug:Zb9 C.calm:=⟨fun _ _ _ _ h=>h,fun _ _ _ _ _ h=>h⟩
 cases draw with
 | false=>simp only [WR] at h |-;exact ZjO hr hQ h
 | true =>
 simp only [WR] at h |-;have hQd:∀e f' σ,Zjt C ops f Q e f' σ->Zjt C.up ops f Q' e f' σ:=fun e f' σ h=>by
  cases e <;> exact hQ _ _ _ h
 cases hh:ZcL ops with
 | none =>
  simp only [hh] at h |-
  cases hc:Ze5 (Wg ops []) none (ZF 0 ops) with
  | true=>simp only [hc] at h |-;exact Zgy (C:=C.calm) ug hQd h
  | false=>simp only [hc] at h |-;exact Zgz (C:=C.calm) ug hQd _ _ _ _ _ h
 | some x=>simp only [hh] at h |-;exact Zgy (C:=C.calm) ug (Zr8 (C:=C.calm) ug hQd) h
def ZjP {b:Nat} {k:List UInt8} {σ:St} {K K':St->Prop} (hK:∀σ,K σ->K' σ) (h:Ze6 b k σ K):Ze6 b k σ K':=by
 unfold Ze6 at h |-
 split at h
 ·rcases h.ex with ⟨a,ha,h⟩ | ⟨ha,h⟩
  ·exact .yes ha (hK _ h)
  exact .no ha (hK _ h)
 exact h.elim
def ZgA {b:Nat} {σ:St} {K K':St->Prop} (hK:∀σ,K σ->K' σ) (h:UC b σ K):UC b σ K':=by
 unfold UC at h |-
 (repeat' split at h) <;> first
  | exact h.elim
  | exact hK _ h
def Zh0 {S S':PQ->Frame->St->Prop} (hS:∀Q Q' f σ,(∀e f σ,Q e f σ->Q' e f σ)->S Q f σ->S' Q' f σ):∀(n:Nat) {Q Q':PQ} {f:Frame} {σ:St},(∀e f σ,Q e f σ->Q' e f σ)->ZbA S Q n f σ->ZbA S' Q' n f σ
 | 0,_,_,_,_,_,h=>h
 | n+1,Q,Q',f,σ,hQ,h=>hS _ _ _ _ (fun e f σ h=>by cases e with | normal=>exact Zh0 hS n hQ h | _=>exact hQ _ _ _ h) h
def ZjQ {t:Bool} {X Y X' Y':Prop} (h1:X->X') (h2:Y->Y') (h:CondP t X Y):CondP t X' Y':=by cases t;exact h2 h;exact h1 h
def ZET (hr:Zb9 C) (hi:∀g a r σ K,¬C.iter g a r σ K):∀(c:Code) {Q Q':PQ} {f:Frame} {σ:St},(∀e f σ,Q e f σ->Q' e f σ)->W C c Q f σ->W C.up c Q' f σ:=by
 have ug:Zb9 C.calm:=⟨fun _ _ _ _ h=>h,fun _ _ _ _ _ h=>h⟩
 intro c
 induction c with
 | region id ops draw =>
  intro Q Q' f σ hQ h
  simp only [W] at h |-;rw [show C.up.foc=C.foc from rfl]
  cases hf:C.foc id with
  | false=>rw [hf] at h;exact Zzp hr hQ h
  | true =>
  rw [hf] at h;obtain ⟨b,k,h⟩:=h;refine ⟨b,k,ZjP (fun σ h=>?_) h⟩;rw [ZN] at h |-;refine Zzp hr (fun e f σ h=>?_) h
  cases e with
  | normal=>exact ZgA (K:=fun σ=>Xt σ fun σ=>Q .normal f σ) (K':=fun σ=>Xt σ fun σ=>Q' .normal f σ) (fun σ h=>by rw [ZN] at h |-;exact hQ _ _ _ h) h
  | _=>exact h
 | seq a b iha ihb =>
  intro Q Q' f σ hQ h
  simp only [W] at h |-;rw [show C.up.cut=C.cut from rfl]
  cases hc:C.cut (YB b) with
  | none =>
   rw [hc] at h;exact iha (fun e f σ h=>by cases e with | normal=>exact ihb hQ h | _=>exact hQ _ _ _ h) h
  | some x =>
  rw [hc] at h;exact ⟨iha (fun e f σ h=>by cases e with | normal=>exact h | _=>exact hQ _ _ _ h) h.1,fun vs σ1 hI=>ihb hQ (h.2 vs σ1 hI)⟩
 | cond c x y ihx ihy =>
  intro Q Q' f σ hQ h
  simp only [W] at h |-;split at h
  ·exact ZjQ (fun h=>ihx hQ h) (fun h=>ihy hQ h) h
  exact h
 | block id b ih =>
  intro Q Q' f σ hQ h
  simp only [W] at h |-;refine ih (fun e f σ h=>?_) h
  cases e with
  | exit i =>
   simp only at h |-;split at h <;> exact hQ _ _ _ h
  | _=>exact hQ _ _ _ h
 | scope b ih =>
  intro Q Q' f σ hQ h
  simp only [W] at h |-;refine ih (fun e f σ h=>?_) h
  cases e with
  | goto l=>exact h
  | _=>exact hQ _ _ _ h
 | loop b ih =>
  intro Q Q' f σ hQ h
  simp only [W] at h |-;rw [show C.up.unr=C.unr from rfl,show C.up.loop=C.loop from rfl,show C.up.tie=C.tie from rfl,show C.up.ag=C.ag from rfl]
  cases hu:C.unr (YB b) with
  | succ n =>
   rw [hu] at h;exact Zh0 (S:=fun Q f σ=>W C b Q f σ) (S':=fun Q f σ=>W C.up b Q f σ) (fun Q Q' f σ hQ h=>ih hQ h) (n+1) hQ h
  | zero =>
  rw [hu] at h;simp only at h |-;split at h
  ·split at h
   ·exact mq128
   exact mq128
  exact h
 | rangeFunc g ps asg body iha ihb =>
  intro Q Q' f σ hQ h
  simp only [W] at h |-;split at h
  ·exact (hi _ _ _ _ _ (h 0 default)).elim
  exact h
 | _ =>
 intro Q Q' f σ hQ h
 first
  | exact hQ _ _ _ h
  | exact h
end
def CallSem.up {G:GE} {cc:FuncId->List PV->St->(PEnd->St->Prop)->Prop} (h:CallSem G cc):CallSem G (fun g args σ K=>∃K',cc g args σ K'/\∀e σ,K' e σ->K e σ):=fun g args σ K ⟨K',h1,h2⟩ =>
 ⟨(h g args σ K' h1).1,fun ro n e w vs hS ha=>((h g args σ K' h1).2 ro n e w vs hS ha).mono fun en w' ⟨pe,σ',e',hk,r⟩=>⟨pe,σ',e',h2 _ _ hk,r⟩⟩
def Zco {G:GE} {C:Cx} (hT:TabOK C.T G.P) (dh:CallSem G C.call) (hr:Zb9 C) (hi:∀g a r σ K,¬C.iter g a r σ K) (az:G.P.follows .mixedOrders=true) {g:FuncId} {fn:Func} {c:Code} (hf:G.P.funcs[g]?=some fn) (hb:fn.body=some c) (av:ZD fn.ntmps c=true)
  {ag:Bool} {keep:Nat} {own:Bool} {args:List PV} {σ:St} {R:PEnd->St->Prop} (hk:σ.bx.length<=keep) (hlen:args.length<=fn.ntmps) (h:WFG ag C fn keep own args σ R) {n:Nat} {e:Env} {w:World} {vs:Array Value} (hS:SRel G e σ w) (ac:ArgsRel G e σ w args vs) :
  CallsIn (fw none) n G.P g vs w (YD G e σ w R) :=
 Uh az (C:=C.up) ⟨hT,dh.up,fun v a s K h=>(hr.1 v a s K h).elim,fun g a r s K h=>(hi g a r s K h).elim,.inl rfl⟩
  ⟨fun _ h1 h2=>hT.one h1 h2,fun _ _ _ K K' hK ⟨K0,h1,h2⟩=>⟨K0,h1,fun e σ h=>hK _ _ (h2 _ _ h)⟩,fun _ _ _ _ h=>h.elim,fun _ _ _ _ _ h=>h.elim,rfl⟩ hf hb av hk hlen (ag:=ag) (ZET hr hi _ (fun _ _ _ h=>h) h) hS ac
end Go.PM
end

section
namespace Go.PM
abbrev Tbl:=List (Nat×Zo)
def ZFC:Tbl->Nat->List PV->St->(PEnd->St->Prop)->Prop
 | [],_,_,_,_=>False
 | (g,sp)::l,n,args,σ,K=>match Nat.beq g n with
  | true=>ZjN sp args σ K
  | false=>ZFC l n args σ K
def TblOK (G:GE):Tbl->Prop
 | []=>True
 | (g,sp)::l=>PCalls G g sp/\TblOK G l
def TblM:Tbl->Prop
 | []=>True
 | (_,sp)::l=>Zz sp/\TblM l
def TblM.mono:∀{l:Tbl},TblM l->∀n args σ (K K':PEnd->St->Prop),(∀e σ,K e σ->K' e σ)->ZFC l n args σ K->ZFC l n args σ K'
 | [],_=>fun _ _ _ _ _ _ h=>h.elim
 | (g,sp)::l,⟨h1,h2⟩=>fun n args σ K K' hK h=>by
  simp only [ZFC] at h |-;split at h
  ·exact ZhZ h1 _ _ _ _ hK h
  exact TblM.mono h2 n args σ K K' hK h
def ZFD (md:Nat->Nat):Tbl->Nat->List PV->St->(PEnd->St->Prop)->Prop
 | [],_,_,_,_=>False
 | (g,sp)::l,n,args,σ,K=>match Nat.beq g n with
  | true=>VA (md n) sp args σ K
  | false=>ZFD md l n args σ K
def TblOK.semM {G:GE} {md:Nat->Nat}:∀{l:Tbl},TblOK G l->CallSem G (ZFD md l)
 | [],_=>fun _ _ _ _ h=>h.elim
 | (g,sp)::l,⟨h1,h2⟩=>fun n args σ K h=>by
  simp only [ZFD] at h;split at h
  ·rename_i hb
   cases Tl hb
   exact XB h1 h
  exact TblOK.semM h2 n args σ K h
def TblOK.sem {G:GE}:∀{l:Tbl},TblOK G l->CallSem G (ZFC l)
 | [],_=>fun _ _ _ _ h=>h.elim
 | (g,sp)::l,⟨h1,h2⟩=>fun n args σ K h=>by
  simp only [ZFC] at h;split at h
  ·rename_i hb
   cases Tl hb
   exact XB h1 h
  exact TblOK.sem h2 n args σ K h
def ZmZ:Value->List PV->St->(PEnd->St->Prop)->Prop:=fun _ _ _ _=>False
abbrev Raw:=Value->List PV->St->(PEnd->St->Prop)->Prop
abbrev Zfp:=FuncId->List PV->Raw->St->(PEnd->St->Prop)->Prop
def Zdd:Zfp:=fun _ _ _ _ _=>False
def Zul:LoopAnn:=⟨[],[],fun _ _=>False,fun _ _=>0⟩
def Zj:List (Nat×LoopAnn)->Nat->LoopAnn
 | [],_=>Zul
 | (k,a)::l,n=>match Nat.beq k n with | true=>a | false=>Zj l n
def ctx (T:Tab) (tbl:Tbl) (loops:Nat->LoopAnn):Cx:=⟨T,ZFC tbl,ZmZ,Zdd,loops,fun _=>0,fun _=>false,fun _=>false,true,fun _=>none,fun _=>false,fun _=>false⟩
def ZD7 (T:Tab) (tbl:Tbl) (it:Zfp) (loops:Nat->LoopAnn):Cx:=⟨T,ZFC tbl,ZmZ,it,loops,fun _=>0,fun _=>false,fun _=>false,true,fun _=>none,fun _=>false,fun _=>false⟩
def Zzq (T:Tab) (tbl:Tbl) (md:Nat->Nat) (loops:Nat->LoopAnn) (unr:Nat->Nat) (ties bsl:Nat->Bool) (cut:Nat->Option (List Nat×(List PV->St->Prop))) (ag:Nat->Bool):Cx:=⟨T,ZFD md tbl,ZmZ,Zdd,loops,unr,ties,bsl,true,cut,ag,fun _=>false⟩
def ZD8 (T:Tab) (tbl:Tbl) (md:Nat->Nat) (loops:Nat->LoopAnn) (unr:Nat->Nat) (ties bsl foc:Nat->Bool):Cx:=⟨T,ZFD md tbl,ZmZ,Zdd,loops,unr,ties,bsl,true,fun _=>none,fun _=>false,foc⟩
def ZD9 (nl:Nat->Bool) (k n:Nat):Nat:=match nl n with | true=>k | false=>0
abbrev ZCA (T:Tab) (tbl:Tbl) (loops:Nat->LoopAnn) (unr:Nat->Nat) (ties:Nat->Bool):Cx:=Zzq T tbl (fun _=>0) loops unr ties (fun _=>false) (fun _=>none) (fun _=>false)
def Zn6 (T:Tab) (tbl:Tbl) (loops:Nat->LoopAnn) (unr:Nat->Nat) (ties:Nat->Bool):Cx:=⟨T,ZFC tbl,ZmZ,Zdd,loops,unr,ties,fun _=>false,true,fun _=>none,fun _=>false,fun _=>false⟩
def Zvd:List (Nat×List Nat×(List PV->St->Prop))->Nat->Option (List Nat×(List PV->St->Prop))
 | [],_=>none
 | (k,a)::l,n=>match Nat.beq k n with | true=>some a | false=>Zvd l n
def Ye:List Nat->Nat->Bool
 | [],_=>false
 | k::l,n=>match Nat.beq k n with | true=>true | false=>Ye l n
def Xo:List (Nat×Nat)->Nat->Nat
 | [],_=>0
 | (k,a)::l,n=>match Nat.beq k n with | true=>a | false=>Xo l n
def Zo0 (T:Tab) (tbl:Tbl) (it:Zfp) (gid:FuncId) (fn:Func) (loops:Nat->LoopAnn):Zfp:=fun g args raw σ K=>match Nat.beq gid g with
 | true=>Nat.ble args.length fn.ntmps=true/\W ⟨T,ZFC tbl,raw,it,loops,fun _=>0,fun _=>false,fun _=>false,true,fun _=>none,fun _=>false,fun _=>false⟩ (YR fn) (fun e f σ'=>match e with
   | .normal | .ret=>pres T f σ'.bx fn.results.toList fun vs=>K (.ret (Ua vs)) σ'
   | .panic v=>K (.panic v) σ'
   | _=>False) (Zb7 0 args) σ
 | false=>False
def noIter_sem {G:GE}:IterSem G Zdd:=fun _ _ _ _ _ h=>h.elim
def Zm0 {G : GE} {T : Tab} {tbl : Tbl} (hT : TabOK T G.P) (az : G.P.follows .mixedOrders = true) (ht : TblOK G tbl) (hm : TblM tbl) {it : Zfp} (kl : IterSem G it) {gid : FuncId} {fn : Func} {c : Code} (hf : G.P.funcs[gid]? = some fn) (hb : fn.body = some c) (ak : (fn.name == "runtime.NumGoroutine") = false)
  (av:ZD fn.ntmps c=true) (loops:Nat->LoopAnn):IterSem G (Zo0 T tbl it gid fn loops):=fun g args raw σ K h=>by
 unfold Zo0 at h
 split at h
 ·rename_i hbq
  cases Tl hbq
  refine ⟨Zf hf ak hb,fun n e w vs hS ac gw=>?_⟩;have xg:YR fn=c:=by simp [YR,hb]
  rw [xg] at h;have presM:∀{T:Tab} {f:Frame} {bx:List Box} {l:List ResultVar} {K K':List PV->Prop},(∀vs,K vs->K' vs)->pres T f bx l K->pres T f bx l K':=by
   intro T f bx l
   induction l with
   | nil=>exact fun hK h=>hK _ h
   | cons r l ih =>
   intro K K' hK h
   exact mq84
  refine Zc8 az (C:=⟨T,ZFC tbl,raw,it,loops,fun _=>0,fun _=>false,fun _=>false,true,fun _=>none,fun _=>false,fun _=>false⟩) ⟨hT,ht.sem,gw,kl.at',.inl rfl⟩ ⟨fun _ h1 h2=>hT.one h1 h2,hm.mono,fun _ _ _ _ h=>h.elim,fun _ _ _ _ _ h=>h.elim,rfl⟩ hf hb av (Tc h.1) h.2 (fun pe f' σ' hq=>?_) hS ac
  cases pe with
  | normal=>exact presM (fun vs hK e' w' v h1 h2 h3=>⟨.ret (Ua vs),σ',e',hK,⟨v,rfl,h2⟩,h1,h3⟩) hq
  | ret=>exact presM (fun vs hK e' w' v h1 h2 h3=>⟨.ret (Ua vs),σ',e',hK,⟨v,rfl,h2⟩,h1,h3⟩) hq
  | panic p=>exact fun e' w' v h1 h2 h3=>⟨.panic p,_,e',hq,⟨v,rfl,h2⟩,h1,h3⟩
  | exit id=>exact hq.elim
  | goto l=>exact hq.elim
 exact h.elim
def ZjR {G : GE} {T : Tab} {tbl : Tbl} (hT : TabOK T G.P) (az : G.P.follows .mixedOrders = true) (ht : TblOK G tbl) (hm : TblM tbl) {it : Zfp} (kl : IterSem G it) {g : FuncId} {fn : Func} {c : Code} (hf : G.P.funcs[g]? = some fn) (hb : fn.body = some c) (ak : (fn.name == "runtime.NumGoroutine") = false)
  (av:ZD fn.ntmps c=true) {sp:Zo}
  (h:∀args σ K,sp args σ K->∃loops keep own,σ.bx.length<=keep/\args.length<=fn.ntmps/\WF (ZD7 T tbl it loops) fn keep own args σ K):PCalls G g sp where
 enters:=Zf hf ak hb
 calls:=fun args σ K hs n e w vs hS ha=>by
  obtain ⟨loops,keep,own,h1,h2,h3⟩:=h args σ K hs;exact Uh az (C:=ZD7 T tbl it loops) ⟨hT,ht.sem,fun _ _ _ _ h=>h.elim,kl.at',.inl rfl⟩ ⟨fun _ h1 h2=>hT.one h1 h2,hm.mono,fun _ _ _ _ h=>h.elim,fun _ _ _ _ _ h=>h.elim,rfl⟩ hf hb av h1 h2 h3 hS ha
def ZjS {G : GE} {T : Tab} {tbl : Tbl} (hT : TabOK T G.P) (az : G.P.follows .mixedOrders = true) (ht : TblOK G tbl) {g : FuncId} {fn : Func} {c : Code} (hf : G.P.funcs[g]? = some fn) (hb : fn.body = some c) (ak : (fn.name == "runtime.NumGoroutine") = false)
  (av:ZD fn.ntmps c=true) {sp:Zo}
  (h:∀args σ K,sp args σ K->∃md loops unr ties bsl cut ag al keep own,σ.bx.length<=keep/\args.length<=fn.ntmps/\WFG al (Zzq T tbl md loops unr ties bsl cut ag) fn keep own args σ K):PCalls G g sp where
 enters:=Zf hf ak hb
 calls:=fun args σ K hs n e w vs hS ha=>by
  obtain ⟨md,loops,unr,ties,bsl,cut,ag,al,keep,own,h1,h2,h3⟩:=h args σ K hs;exact Zco (C:=Zzq T tbl md loops unr ties bsl cut ag) hT ht.semM ⟨fun _ _ _ _ h=>h,fun _ _ _ _ _ h=>h⟩ (fun _ _ _ _ _ h=>h) az hf hb av h1 h2 h3 hS ha
def Zo1 {G : GE} {T : Tab} {tbl : Tbl} (hT : TabOK T G.P) (az : G.P.follows .mixedOrders = true) (ht : TblOK G tbl) {g : FuncId} {fn : Func} {c : Code} (hf : G.P.funcs[g]? = some fn) (hb : fn.body = some c) (ak : (fn.name == "runtime.NumGoroutine") = false)
  (av:ZD fn.ntmps c=true) {sp:Zo}
  (h:∀args σ K,sp args σ K->∃loops unr ties bsl foc keep own,σ.bx.length<=keep/\args.length<=fn.ntmps/\WF (ZD8 T tbl (fun _=>0) loops unr ties bsl foc) fn keep own args σ K):PCalls G g sp where
 enters:=Zf hf ak hb
 calls:=fun args σ K hs n e w vs hS ha=>by
  obtain ⟨loops,unr,ties,bsl,foc,keep,own,h1,h2,h3⟩:=h args σ K hs;exact Zco (C:=ZD8 T tbl (fun _=>0) loops unr ties bsl foc) hT ht.semM ⟨fun _ _ _ _ h=>h,fun _ _ _ _ _ h=>h⟩ (fun _ _ _ _ _ h=>h) az hf hb av h1 h2 h3 hS ha
def ZjT {G : GE} {T : Tab} {tbl : Tbl} (hT : TabOK T G.P) (az : G.P.follows .mixedOrders = true) (ht : TblOK G tbl) {g : FuncId} {fn : Func} {c : Code} (hf : G.P.funcs[g]? = some fn) (hb : fn.body = some c) (ak : (fn.name == "runtime.NumGoroutine") = false)
  (av:ZD fn.ntmps c=true) {sp:Zo}
  (h:∀args σ K,sp args σ K->∃loops unr ties bsl nl keep own,σ.bx.length<=keep/\args.length<=fn.ntmps/\WF (Zzq T tbl (ZD9 nl 1) loops unr ties bsl (fun _=>none) (fun _=>false)) fn keep own args σ K):PCalls G g sp :=
 ZjS hT az ht hf hb ak av fun args σ K hs=>let ⟨_,_,_,_,_,_,_,h⟩:=h args σ K hs;⟨_,_,_,_,_,_,_,_,_,_,h⟩
def Zo2 {G : GE} {T : Tab} {tbl : Tbl} (hT : TabOK T G.P) (az : G.P.follows .mixedOrders = true) (ht : TblOK G tbl) {g : FuncId} {fn : Func} {c : Code} (hf : G.P.funcs[g]? = some fn) (hb : fn.body = some c) (ak : (fn.name == "runtime.NumGoroutine") = false)
  (av:ZD fn.ntmps c=true) {sp:Zo}
  (h:∀args σ K,sp args σ K->∃loops unr ties bsl nl cut keep own,σ.bx.length<=keep/\args.length<=fn.ntmps/\WF (Zzq T tbl (ZD9 nl 1) loops unr ties bsl cut (fun _=>false)) fn keep own args σ K):PCalls G g sp :=
 ZjS hT az ht hf hb ak av fun args σ K hs=>let ⟨_,_,_,_,_,_,_,_,h⟩:=h args σ K hs;⟨_,_,_,_,_,_,_,_,_,_,h⟩
def XQ {G : GE} {T : Tab} {tbl : Tbl} (hT : TabOK T G.P) (az : G.P.follows .mixedOrders = true) (ht : TblOK G tbl) {g : FuncId} {fn : Func} {c : Code} (hf : G.P.funcs[g]? = some fn) (hb : fn.body = some c) (ak : (fn.name == "runtime.NumGoroutine") = false)
  (av:ZD fn.ntmps c=true) {sp:Zo}
  (h:∀args σ K,sp args σ K->∃loops unr ties keep own,σ.bx.length<=keep/\args.length<=fn.ntmps/\WF (ZCA T tbl loops unr ties) fn keep own args σ K):PCalls G g sp :=
 ZjS hT az ht hf hb ak av fun args σ K hs=>let ⟨_,_,_,_,_,h⟩:=h args σ K hs;⟨_,_,_,_,_,_,_,_,_,_,h⟩
def Zh1 {G : GE} {T : Tab} {tbl : Tbl} (hT : TabOK T G.P) (az : G.P.follows .mixedOrders = true) (ht : TblOK G tbl) {g : FuncId} {fn : Func} {c : Code} (hf : G.P.funcs[g]? = some fn) (hb : fn.body = some c) (ak : (fn.name == "runtime.NumGoroutine") = false)
  (av:ZD fn.ntmps c=true) {sp:Zo}
  (h:∀args σ K,sp args σ K->∃loops keep own,σ.bx.length<=keep/\args.length<=fn.ntmps/\WF (ctx T tbl loops) fn keep own args σ K):PCalls G g sp where
 enters:=Zf hf ak hb
 calls:=fun args σ K hs n e w vs hS ha=>by
  obtain ⟨loops,keep,own,h1,h2,h3⟩:=h args σ K hs;exact Zco (C:=ctx T tbl loops) hT ht.sem ⟨fun _ _ _ _ h=>h,fun _ _ _ _ _ h=>h⟩ (fun _ _ _ _ _ h=>h) az hf hb av h1 h2 h3 hS ha
def ZFJ {X Y:Prop} (h:X):CondP true X Y:=h
def ZFK {X Y:Prop} (h:Y):CondP false X Y:=h
def ZFs {p:Prop} [Decidable p] {X Y:Prop} (h1:p->X) (h2:¬p->Y):CondP (decide p) X Y:=by
 by_cases h:p
 ·simp only [h,decide_true];exact h1 h
 simp only [h,decide_false];exact h2 h
def ZFv {p:Prop} [Decidable p] {X Y:Prop} (h1:¬p->X) (h2:p->Y):CondP (!decide p) X Y:=by
 by_cases h:p
 ·simp only [h,decide_true];exact h2 h
 simp only [h,decide_false];exact h1 h
def InR.i64 {n:Int} (h1:-9223372036854775808<=n) (h2:n<=9223372036854775807):InR .i64 n:=by
 unfold InR IntKind.wrap
 exact mq150
def InR.i32 {n:Int} (h1:-2147483648<=n) (h2:n<=2147483647):InR .i32 n:=by
 unfold InR IntKind.wrap
 simp only [show IntKind.i32.bits=32 from rfl,show IntKind.i32.signed=true from rfl,TV];split <;> simp at * <;> omega
def InR.u8 {n:Int} (h1:0<=n) (h2:n<=255):InR .u8 n:=by
 unfold InR IntKind.wrap
 simp only [show IntKind.u8.bits=8 from rfl,show IntKind.u8.signed=false from rfl,TU];simp;omega
def InR.u32 {n:Int} (h1:0<=n) (h2:n<=4294967295):InR .u32 n:=by
 unfold InR IntKind.wrap
 simp only [show IntKind.u32.bits=32 from rfl,show IntKind.u32.signed=false from rfl,TU];simp;omega
def InR.u64 {n:Int} (h1:0<=n) (h2:n<=18446744073709551615):InR .u64 n:=by
 unfold InR IntKind.wrap
 simp only [show IntKind.u64.bits=64 from rfl,show IntKind.u64.signed=false from rfl,TU];simp;omega
def Zi {n:Int} {K Q X:Prop} (q:Q) (h1:-9223372036854775808<=n:=by omega) (h2:n<=9223372036854775807:=by omega) (h:Q->K:=by intro k;(conv=>whnf);exact k):InR .i64 n/\K\/X:=.inl ⟨InR.i64 h1 h2,h q⟩
def X6 {n:Int} {K Q X:Prop} (q:Q) (h1:-9223372036854775808<=n:=by decide) (h2:n<=9223372036854775807:=by decide) (h:Q->K:=by intro k;(conv=>whnf);exact k):InR .i64 n/\K\/X:=.inl ⟨InR.i64 h1 h2,h q⟩
def V7 {n:Int} {K Q X:Prop} (q:Q) (h1:0<=n:=by omega) (h2:n<=255:=by omega) (h:Q->K:=by intro k;(conv=>whnf);exact k):InR .u8 n/\K\/X:=.inl ⟨InR.u8 h1 h2,h q⟩
def Zde {n:Int} {K Q X:Prop} (q:Q) (h1:0<=n:=by omega) (h2:n<=18446744073709551615:=by omega) (h:Q->K:=by intro k;(conv=>whnf);exact k):InR .u64 n/\K\/X:=.inl ⟨InR.u64 h1 h2,h q⟩
def oiO {n:Int} {K X:Prop} (q:K) (h1:-9223372036854775808<=n:=by omega) (h2:n<=9223372036854775807:=by omega):InR .i64 n/\K\/X:=.inl ⟨InR.i64 h1 h2,q⟩
def oiD {n:Int} {K X:Prop} (q:K) (h1:-9223372036854775808<=n:=by decide) (h2:n<=9223372036854775807:=by decide):InR .i64 n/\K\/X:=.inl ⟨InR.i64 h1 h2,q⟩
def oiB {n:Int} {K X:Prop} (q:K) (h1:0<=n:=by omega) (h2:n<=255:=by omega):InR .u8 n/\K\/X:=.inl ⟨InR.u8 h1 h2,q⟩
def oiU {n:Int} {K X:Prop} (q:K) (h1:0<=n:=by omega) (h2:n<=18446744073709551615:=by omega):InR .u64 n/\K\/X:=.inl ⟨InR.u64 h1 h2,q⟩
def ZrI {K:PEnd->St->Prop} {p p':PEnd} {σ σ':St} (h:K p σ) (h1:p=p') (h2:σ=σ'):K p' σ':=by subst h1;subst h2;exact h
end Go.PM
end

section
namespace Go.PM
structure CxG (G:GE) (T:Tab) (C:Cx):Prop where
 T:C.T=T
 ok:∀e σ w,CxOK G C none e σ w
 mono:CxMono C.calm
 it:∀g args raw σ K,¬C.iter g args raw σ K
def CxG.of {G:GE} {T:Tab} {tbl:Tbl} (hT:TabOK T G.P) (ht:TblOK G tbl) (hm:TblM tbl) (loops:Nat->LoopAnn) (unr:Nat->Nat) (ties:Nat->Bool):CxG G T (Zn6 T tbl loops unr ties) :=
 ⟨rfl,fun _ _ _=>⟨hT,ht.sem,fun _ _ _ _ h=>h.elim,noIter_sem.at',.inl rfl⟩,⟨fun _ h1 h2=>hT.one h1 h2,hm.mono,fun _ _ _ _ h=>h.elim,fun _ _ _ _ _ h=>h.elim,rfl⟩,fun _ _ _ _ _ h=>h⟩
structure PDef (G:GE) (g:FuncId) (spR:List PV->St->(St->Prop)->Prop) (spP:PV->List PV->St->(St->Prop)->Prop):Prop where
 enters:WH G.P g
 ret:∀args σ K,spR args σ K->∀(n:Nat) (e:Env) (w:World) (vs:Array Value),SRel G e σ w->ArgsRel G e σ w args vs ->
  CallsDIn (fw none) n G.P g vs .returning w fun en u' w'=>u'=.returning/\(∃r,en=.returned r)/\∃σ' e',K σ'/\SRel G e' σ' w'/\Later e σ w e' σ' w'
 pan:∀pv args σ K,spP pv args σ K->∀(n:Nat) (e:Env) (w:World) (vs:Array Value) (v:Value),SRel G e σ w->ArgsRel G e σ w args vs->VRel G e σ w pv v ->
  CallsDIn (fw none) n G.P g vs (.panicking [{ v:=v,recovered:=false }]) w fun en u' w'=>u'=.panicking [{ v:=v,recovered:=true }]/\(∃r,en=.returned r)/\∃σ' e',K σ'/\SRel G e' σ' w'/\Later e σ w e' σ' w'
def Zy5 (c:Code):Option (Nat×Nat×Code):=match c with
 | .seq (.region _ ops false) rest=>match ops.toList with
  | [o1,o2]=>match o1.op,o1.dst,o1.guard,o2.op,o2.dst,o2.guard with
   | .call { callee:=.builtin .recover,args,.. },some a,none,.assign (.tmp a'),some b,none=>match args.toList,Nat.beq a a' with
    | [],true=>some (a,b,rest)
    | _,_=>none
   | _,_,_,_,_,_=>none
  | _=>none
 | _=>none
def Zpr {c:Code} {a b:Nat} {rest:Code} (h:Zy5 c=some (a,b,rest)):∃id ops o1 o2 at',c=.seq (.region id ops false) rest/\ops=#[o1,o2]/\o1.op=.call { callee:=.builtin .recover,args:=#[],argTypes:=at' }/\o1.dst=some a/\o1.guard=none/\o2.op=.assign (.tmp a)/\o2.dst=some b/\o2.guard=none:=by
 unfold Zy5 at h
 split at h
 ·rename_i id ops rest'
  split at h
  ·rename_i o1 o2 jv
   split at h
   ·rename_i args at' a1 a2 b1 h1 h2 h3 h4 h5 h6
    split at h
    ·rename_i h7 h8
     cases h
     have:=Tl h8;subst this;have ha:args=#[]:=by apply Array.ext';simpa using h7
     subst ha;exact ⟨id,ops,o1,o2,at',rfl,by apply Array.ext';simpa using jv,h1,h2,h3,h4,h5,h6⟩
    cases h
   cases h
  cases h
 cases h
section
variable {G:GE}
def Zsh (T:Tab) (fn:Func) (keep:Nat) (K:St->Prop):PQ:=fun e f σ=>match e with
 | .normal | .ret=>pres T f σ.bx fn.results.toList fun vs=>ZhD keep false (Ua vs) σ fun _ σ'=>K σ'
 | _=>False
def Zj1 {T : Tab} (hT : TabOK T G.P) (az : G.P.follows .mixedOrders = true) {g : FuncId} {fn : Func} {c : Code} (hf : G.P.funcs[g]? = some fn) (hb : fn.body = some c) (ak : (fn.name == "runtime.NumGoroutine") = false)
  {a b:Nat} {rest:Code} (ab0:Zy5 c=some (a,b,rest)) (av:ZD fn.ntmps c=true) {spR:List PV->St->(St->Prop)->Prop} {spP:PV->List PV->St->(St->Prop)->Prop}
  (hr:∀args σ K,spR args σ K->∃C keep,CxG G T C/\σ.bx.length<=keep/\args.length<=fn.ntmps/\W C rest (Zsh T fn keep K) (W1 (W1 (Zb7 0 args) a (.d .nili)) b (.d .nili)) σ)
  (hp:∀pv args σ K,spP pv args σ K->∃C keep,CxG G T C/\σ.bx.length<=keep/\args.length<=fn.ntmps/\W C rest (Zsh T fn keep K) (W1 (W1 (Zb7 0 args) a pv) b pv) σ):PDef G g spR spP:=by
 obtain ⟨id,ops,o1,o2,at',rfl,rfl,q1,q2,q3,q4,q5,q6⟩:=Zpr ab0;simp only [ZD,Tn,ZoT,q2,q5] at av;have ha:a<fn.ntmps:=by have:=Tc av.1.1.1;omega
 have hbN:b<fn.ntmps:=by have:=Tc av.1.1.2.1;omega
 have walk:∀(pv:PV) (v:Value) (u u':FrameMode) (args:List PV) (σ:St) (K:St->Prop) (C:Cx) (keep:Nat),CxG G T C->σ.bx.length<=keep->args.length<=fn.ntmps->W C rest (Zsh T fn keep K) (W1 (W1 (Zb7 0 args) a pv) b pv) σ ->
   (∀(c₀:Go.Frame) (cs:List Go.Frame),c₀.mode=u->match recoverD (c₀::cs) with | some (x,cs')=>x=v/\cs'={ c₀ with mode:=u' }::cs | none=>v=.nilIface/\u'=u) ->
   ∀(n:Nat) (e:Env) (w:World) (vs:Array Value),SRel G e σ w->ArgsRel G e σ w args vs->VRel G e σ w pv v ->
   CallsDIn (fw none) n G.P g vs u w fun en u2 w'=>u2=u'/\(∃r,en=.returned r)/\∃σ' e',K σ'/\SRel G e' σ' w'/\Later e σ w e' σ' w':=by
  intro pv v u u' args σ K C keep hC hk hlen hW ug n e w vs hS ac hv
  refine callsDIn_of_wpSIn hf hb trivial fun c₀ cs hu=>?_
  have hsz:vs.size=args.length:=ac.1;have hF:FRel G e σ w (Zb7 0 args) (vs++Array.replicate (fn.ntmps - vs.size) undef):=J5 args 0 fun k x hx=>by
   exact mq37
  refine wpSIn_seq (wpSIn_region ?_)
  let A0:Act:={ tmps:=vs++Array.replicate (fn.ntmps - vs.size) undef,defers:=[] }
  have v7:A0.tmps.size=fn.ntmps:=by simp [A0];omega
  have s0:(#[o1,o2]:Array Oper)[0]?=some o1:=rfl;have s1:(#[o1,o2]:Array Oper)[1]?=some o2:=rfl;have w1:∀t,Region.wanted o1 (yielded #[o1,o2] t)=true:=fun t=>by simp [Region.wanted,q3]
  have w2:∀t,Region.wanted o2 (yielded #[o1,o2] t)=true:=fun t=>by simp [Region.wanted,q6]
  have x1:∀A:Act,(execOp A.eval o1).run G.P w=.ok .recover w:=fun A=>by
   unfold execOp
   simp only [q1,resolve,Sem.run_bind,Sem.run_pure,Result.andThen,invoke,builtin]
  have x2:∀A:Act,(execOp A.eval o2).run G.P w=.ok (.value (A.eval (.tmp a))) w:=fun A=>by
   unfold execOp
   simp only [q4,Sem.run_pure]
  have y2:(A0.put (some a) v).eval (.tmp a)=v:=by
   simp [Act.put,Act.eval,TX,v7,ha]
  have tail:rest.wpSIn (fw none) n G.P (bodyPostS G.P fn c₀ cs fun en u2 w'=>u2=u'/\(∃r,en=.returned r)/\∃σ' e',K σ'/\SRel G e' σ' w'/\Later e σ w e' σ' w') ((A0.put (some a) v).put (some b) v) ({ c₀ with mode:=u' }::cs) w:=by
   have xb:FRel G e σ w (W1 (Zb7 0 args) a pv) (A0.put (some a) v).tmps:=FRel.put (a:=A0) (d:=some a) hF hv (fun i hi=>by cases hi;rw [v7];exact ha);have s8:FRel G e σ w (W1 (W1 (Zb7 0 args) a pv) b pv) ((A0.put (some a) v).put (some b) v).tmps:=FRel.put (a:=A0.put (some a) v) (d:=some b) xb hv (fun i hi=>by cases hi;rw [Yr,v7];exact hbN);refine wpSIn_of_wpIn rfl (wpIn_mono (Zc7 (n:=n) (ro:=none) (ds:=(w.heap.size,[],true)) az rest (C:=C) (hC.ok _ _ _) hC.mono (fun _ _ _ _ _ _=>hC.it _ _ _ _ _) av.2 [] #[] (Y4 _) _
    (a:=(A0.put (some a) v).put (some b) v) hS s8 (Later.refl e σ w) (by rw [Yr,Yr,v7]) (by rw [Y9,Y9];exact Marks.nil e σ (Tt _)) (fun i hi=>by cases hi) hW) fun x a' w' hp=>?_)
   obtain ⟨pe,f',e',σ',hq,hx,h1,h2,h3,h4,⟨_,rs,h5,ox,_⟩,h6⟩:=hp;have ke:a'.defers=[]:=by rw [h5,ox rfl];rfl
   have done:(pres T f' σ'.bx fn.results.toList fun vs=>ZhD keep false (Ua vs) σ' fun _ σ''=>K σ'')->∃r,(results fn a'.tmps).run G.P w'=.ok r w'/\u'=u'/\(∃r',Ending.returned r=.returned r')/\∃σ' e',K σ'/\SRel G e' σ' w'/\Later e σ w e' σ' w':=fun hl=>by
    exact mq95
   cases pe with
   | normal=>obtain rfl:x=.normal:=hx;obtain ⟨r,hr,hR⟩:=done hq;exact ⟨ke,u',rfl,r,hr,hR⟩
   | ret=>obtain rfl:x=.ret:=hx;obtain ⟨r,hr,hR⟩:=done hq;exact ⟨ke,u',rfl,r,hr,hR⟩
   | exit id=>exact hq.elim
   | goto l=>exact hq.elim
   | panic p=>exact hq.elim
  show wpOpsSIn (fw none) n G.P #[o1,o2] _ [0,1] A0 (c₀::cs) w;simp only [wpOpsSIn,s0,s1,w1,w2,if_true,x1,x2,q2,q5];refine ⟨fun _ _=>trivial,?_⟩;have hh:=ug c₀ cs hu
  cases hrd:recoverD (c₀::cs) with
  | none =>
   rw [hrd] at hh;obtain ⟨rfl,rfl⟩:=hh;have je:({ c₀ with mode:=u' }:Go.Frame)=c₀:=by subst hu;rfl
   rw [je] at tail;simp only [y2];exact ⟨fun _ _=>trivial,tail⟩
  | some p =>
  obtain ⟨x,cs'⟩:=p;rw [hrd] at hh;obtain ⟨rfl,rfl⟩:=hh;simp only [y2];exact ⟨fun _ _=>trivial,tail⟩
 refine ⟨Zf hf ak hb,fun args σ K hs n e w vs hS ac=>?_,fun pv args σ K hs n e w vs v hS ac hv=>?_⟩
 ·obtain ⟨C,keep,h0,h1,h2,h3⟩:=hr args σ K hs;exact walk (.d .nili) .nilIface .returning .returning args σ K C keep h0 h1 h2 h3 (fun c₀ cs hu=>by simp [recoverD,hu]) n e w vs hS ac (.d _ _ .nili)
 obtain ⟨C,keep,h0,h1,h2,h3⟩:=hp pv args σ K hs;exact walk pv v _ _ args σ K C keep h0 h1 h2 h3 (fun c₀ cs hu=>by simp [recoverD,hu]) n e w vs hS ac hv
end
def Zae:List Oper->Option (List Oper×Oper)
 | []=>none
 | [o]=>some ([],o)
 | o::p::l=>match Zae (p::l) with | some (a,b)=>some (o::a,b) | none=>none
def U9:∀{l:List Oper} {i:List Oper} {o:Oper},Zae l=some (i,o)->l=i++[o]
 | [],i,o,h=>by cases h
 | [x],i,o,h=>by cases h;rfl
 | x::p::l,i,o,h=>by
  simp only [Zae] at h;split at h
  ·rename_i a b hs
   cases h
   rw [U9 hs];rfl
  cases h
def Zdr (o:Oper):Option (Operand×List Operand):=match o.op,o.guard,o.dst with
 | .defer { callee:=.value x,args,.. },none,none=>some (x,args.toList)
 | _,_,_=>none
def ZeM {o:Oper} {x:Operand} {args:List Operand} (h:Zdr o=some (x,args)):∃as at',o.op=.defer { callee:=.value x,args:=as,argTypes:=at' }/\as.toList=args/\o.guard=none/\o.dst=none:=by
 unfold Zdr at h
 split at h
 ·rename_i x' as at' h1 h2 h3;cases h;exact ⟨as,at',h1,rfl,h2,h3⟩
 cases h
def Zj2 (c:Code):Option (List Oper×List Oper×Operand×List Operand):=match c with
 | .region _ ops false=>match Zae ops.toList with
  | some (init,last)=>match Zdr last with
   | some (x,args)=>some (ops.toList,init,x,args)
   | none=>none
  | none=>none
 | _=>none
section
variable {G:GE} {C:Cx} {e0:Env} {σ0:St} {w0:World} {n N:Nat} {ds:Nat×List Deferred×Bool} {Z:Array Value->Prop} {Q:PQ}
def Zds (hC:CxOK G C none e0 σ0 w0) {ops:Array Oper} {rest:List Nat} {QQ:Exit->Act->World->Prop} (hd:∀o,o∈ops->∀d,o.dst=some d->d<N/\∀t v,Z t->Z (t.setIfInBounds d v))
  (w6:∀x a w,x≠.normal->ZL G e0 σ0 w0 ds N Z Q x a w->QQ x a w) (dz:∀a w,ZL G e0 σ0 w0 ds N Z Q .normal a w->wpOpsIn (fw none) n G.P ops QQ rest a w) :
  ∀(l:List Oper) (k:Nat),(∀j,j<l.length->l[j]?=ops[k+j]?)->∀{e:Env} {σ:St} {w:World} {a:Act} {f:Frame},
  SRel G e σ w->FRel G e σ w f a.tmps->Later e0 σ0 w0 e σ w->a.tmps.size=N->Marks ds e σ w a.defers->Z a.tmps->Zn5 C ops.toList Q l f σ->wpOpsIn (fw none) n G.P ops QQ (List.range' k l.length++rest) a w
 | [],k,_,e,σ,w,a,f,hS,hF,hL,hN,bf,hZ,h=>dz a w ⟨.normal,f,e,σ,h,rfl,hS,hF,hL,hN,bf,hZ⟩
 | o::l,k,hl,e,σ,w,a,f,hS,hF,hL,hN,bf,hZ,h=>by
  have h0:ops[k]?=some o:=by simpa using (hl 0 sM).symm
  have bj:=ZbE (ro:=none) (n:=n) hC hS hF hL hN bf hZ (ops:=ops) (hd o (Sb h0)) h;have next:∀a' w',KRel G e0 σ0 w0 ds N Z (Zn5 C ops.toList Q l) a' w'->wpOpsIn (fw none) n G.P ops QQ (List.range' (k+1) l.length++rest) a' w':=fun a' w' ⟨f',e',σ',h1,h2,h3,h4,h5,h6,h7⟩ =>
   Zds hC hd w6 dz l (k+1) (fun j hj=>by have:=hl (j+1) sO;simpa [Sk,Nat.add_comm 1 j] using this) h2 h3 h4 h5 h6 h7 h1
  rw [Te,List.range'_succ,T7];simp only [wpOpsIn,h0];split at bj
  ·rename_i hw
   rw [Tk hw];exact ZFG w6 (Oper.wpIn_mono next bj)
  rename_i hw
  rw [Tf hw];exact ⟨fun _ _=>trivial,next _ _ bj⟩
def YO (g0:FuncId) (va vc:Array Value):Deferred:={ target:=.fn (.func g0) vc,args:=va }
def Zvx (G:GE) (g0:FuncId) (e0:Env) (σ0:St) (w0:World) (N:Nat) (Q0:PQ) (Q1:List PV->PQ):Exit->Act->World->Prop:=fun x a w =>
 ZL G e0 σ0 w0 (0,[],true) N (Kept [] #[]) Q0 x a w \/
 ∃fa va vc e1 σ1 w1,Later e0 σ0 w0 e1 σ1 w1/\ArgsRel G e1 σ1 w1 fa (va++vc)/\ZL G e1 σ1 w1 (0,[YO g0 va vc],true) N (Kept [] #[]) (Q1 (Xd fa)) x a w
end
def ZzF (T:Tab) (fn:Func) (keep:Nat) (own:Bool) (spR:List PV->St->(St->Prop)->Prop) (spP:PV->List PV->St->(St->Prop)->Prop) (R:PEnd->St->Prop) (fa:List PV):PQ:=fun e f σ=>match e with
 | .normal | .ret=>spR fa σ fun σ2=>pres T (VU f) σ2.bx fn.results.toList fun vs=>ZhD keep own (Ua vs) σ2 fun v σ'=>R (.ret v) σ'
 | .panic pv=>spP pv fa σ fun σ2=>pres T (VU f) σ2.bx fn.results.toList fun vs=>ZhD keep own (Ua vs) σ2 fun v σ'=>R (.ret v) σ'
 | _=>False
def ArgsRel.clean {G:GE} {e e':Env} {σ σ':St} {w w':World} {fa:List PV} {vs:Array Value} (h:ArgsRel G e σ w fa vs) (hL:Later e σ w e' σ' w'):ArgsRel G e' σ' w' (Xd fa) vs:=by
 refine ⟨by rw [YL];exact h.1,fun i y u hy hu=>?_⟩;obtain ⟨x,hx,rfl⟩:=Wd i y hy;have hv:=h.2 i x u hx hu;exact VRel.clean hL.len hL.beta hL.pres hv hv.bnd
def CallsDIn.mono {F:Fence} {n:Nat} {P:Program} {f:FuncId} {args:Array Value} {u:FrameMode} {w:World} {R R':Ending->FrameMode->World->Prop} (h:CallsDIn F n P f args u w R) (hR:∀e u w,R e u w->R' e u w):CallsDIn F n P f args u w R' :=
 ⟨h.1,fun c cs hu hr=>let ⟨e,u',w',fr,h1,h2⟩:=h.2 c cs hu hr;⟨e,u',w',fr,hR _ _ _ h1,h2⟩⟩
end Go.PM
end
