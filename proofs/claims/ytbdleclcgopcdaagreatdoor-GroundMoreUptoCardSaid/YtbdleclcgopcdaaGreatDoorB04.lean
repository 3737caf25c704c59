/- A part of the proof: plain logic, contracts and laws over the given program. -/
import Derived.Scope
import Derived.RangeFuncRecord
import Derived.RangeFuncCalls
import Derived.RangeFuncLeaves
import Derived.Laws.Sem
import Derived.RecoverIn
import Derived.Test.YtbdleclcgopcdaaGreatDoorB03
set_option linter.unusedVariables false
set_option linter.unusedSimpArgs false
set_option linter.all false
set_option maxRecDepth 100000
set_option maxHeartbeats 16000000
noncomputable section
section
namespace Go.PM
def Xq {P:Program} {b:Go.Frame} {a:Act} {k:List Item} {cs:List Go.Frame} {w:World} {c:Code} :
  step P (lone (b.atR a (.code (.scope c)::k)) cs w)=.next (lone (b.atR a (.code c::.inScope c::k)) cs w) :=
 step_lone_go (by simp [stepG,stepG.exec,Go.Frame.atR])
def Zgj {P:Program} {b:Go.Frame} {a:Act} {k:List Item} {cs:List Go.Frame} {w:World} {c:Code} :
  step P (lone (b.atR a (.inScope c::k)) cs w)=.next (lone (b.atR a k) cs w) :=
 step_lone_go (by simp [stepG,stepG.exec,Go.Frame.atR])
def Znb {F:Fence} {n:Nat} {P:Program} {Q:Exit->Act->World->Prop} {a:Act} {w:World} {c:Code} (h:c.wpIn F n P (Exit.noGoto Q) a w):(Code.scope c).wpIn F n P Q a w:=by
 intro b k cs s9 hb hr
 have h0:(lone (b.atR a (.code (.scope c)::k)) cs w).fenced P F:=fenced_calm hb hr rfl;obtain ⟨e,a₁,w₁,hq,mq⟩:=h b (.inScope c::k) cs s9 hb hr
 cases e with
 | normal=>exact ⟨.normal,a₁,w₁,hq,.head h0 Xq (StepsIn.trans mq (.one (fenced_calm hb hr rfl) Zgj))⟩
 | exit id =>
  have hx:exitTo id (.inScope c::k)=exitTo id k:=by simp [exitTo]
  exact ⟨.exit id,a₁,w₁,hq,fun k' hk=>.head h0 Xq (mq.1 k' (by rw [hx];exact hk)),
   fun nc hk=>let ⟨k₁,h1,h2⟩:=mq.2 nc (by rw [hx];exact hk);⟨k₁,h1,.head h0 Xq h2⟩⟩
 | goto l=>exact hq.elim
 | ret=>exact ⟨_,a₁,w₁,hq,.of_steps (.one h0 Xq) mq⟩
 | panic ch=>exact ⟨_,a₁,w₁,hq,.of_steps (.one h0 Xq) mq⟩
 | outgrown=>exact ⟨_,a₁,w₁,hq,.of_steps (.one h0 Xq) mq⟩
def Zpl (N:Nat):List Oper->Bool
 | []=>true
 | o::l=>(match o.dst with | some d=>Nat.ble (d+1) N | none=>true) && Zpl N l
def ZE (N:Nat):Code->Bool
 | .region _ ops draw=>Zpl N ops.toList && (!draw || (match ZcG ops.toList with | none=>(match ZeU (Wf ops.toList []) none (ZG 0 ops.toList) with | true=>Zpb ops.toList | false=>ZvR ops.toList) | some h=>Zpg ops.toList h))
 | .seq a b=>ZE N a && ZE N b
 | .cond _ a b=>ZE N a && ZE N b
 | .block _ b=>ZE N b
 | .loop b=>ZE N b
 | .scope b=>ZE N b
 | .rangeFunc _ ps a b=>ps.toList.all (fun p=>Nat.ble (p+1) N) && ZE N a && ZE N b
 | _=>true
def ZaS {N:Nat}:∀{l:List Oper},Zpl N l=true->∀o∈l,∀d,o.dst=some d->d<N
 | [],_,o,ho=>by cases ho
 | x::l,h,o,ho=>by
  simp only [Zpl,Tn] at h;rcases Tt.1 ho with rfl | ho
  ·intro d hd
   have:=h.1;rw [hd] at this;exact Tc this
  exact ZaS h.2 o ho
def U7 {ks:List Nat}:∀{l:List Oper},YX l ks=true->∀o∈l,∀d,o.dst=some d->d∉ks
 | [],_,o,ho=>by cases ho
 | x::l,h,o,ho=>by
  simp only [YX,Tn] at h;rcases Tt.1 ho with rfl | ho
  ·intro d hd hm
   have:=h.1;rw [hd] at this;simp only [T7] at this;rw [(Yq _ _).2 hm] at this;cases this
  exact U7 h.2 o ho
def Kept (ks:List Nat) (t0 t:Array Value):Prop:=∀i,i∈ks->t.getD i Go.undef=t0.getD i Go.undef
def Kept.set {ks:List Nat} {t0 t:Array Value} (h:Kept ks t0 t) {d:Nat} (hd:d∉ks) (v:Value):Kept ks t0 (t.setIfInBounds d v):=fun i hi=>by
 have ah:d≠i:=fun e=>hd (e ▸ hi)
 rw [<- h i hi];simp [TY,ah]
def VV {ks ls:List Nat}:∀{l:List Oper},YX l ks=true->YX l ls=true->YX l (ks++ls)=true
 | [],_,_=>rfl
 | o::l,h1,h2=>by
  simp only [YX,Tn] at h1 h2 |-;refine ⟨?_,VV h1.2 h2.2⟩;have h1:=h1.1;have h2:=h2.1
  cases hd:o.dst with
  | none=>rfl
  | some d =>
  rw [hd] at h1 h2;simp only [T7] at h1 h2 |-
  cases h3:Zej d (ks++ls) with
  | false=>rfl
  | true =>
  rcases TD.1 ((Yq _ _).1 h3) with h4 | h4
  ·rw [(Yq _ _).2 h4] at h1;cases h1
  rw [(Yq _ _).2 h4] at h2;cases h2
def Zem {ks ls:List Nat}:∀{c:Code},Yg ks c=true->Yg ls c=true->Yg (ks++ls) c=true:=by
 intro c
 induction c with
 | region id ops draw=>exact fun h1 h2=>VV h1 h2
 | seq a b iha ihb=>intro h1 h2;simp only [Yg,Tn] at h1 h2 |-;exact ⟨iha h1.1 h2.1,ihb h1.2 h2.2⟩
 | cond c a b iha ihb=>intro h1 h2;simp only [Yg,Tn] at h1 h2 |-;exact ⟨iha h1.1 h2.1,ihb h1.2 h2.2⟩
 | block id b ih=>intro h1 h2;exact ih h1 h2
 | loop b ih=>intro h1 h2;exact ih h1 h2
 | scope b ih=>intro h1 h2;exact ih h1 h2
 | _=>intro _ _;rfl
def Y2:∀c:Code,Yg [] c=true:=by
 intro c
 induction c with
 | region id ops draw =>
  have:∀l:List Oper,YX l []=true:=by
   intro l
   induction l with
   | nil=>rfl
   | cons o l ih=>simp only [YX,ih,Bool.and_true];cases o.dst <;> rfl
  exact this _
 | seq a b iha ihb=>simp [Yg,iha,ihb]
 | cond c a b iha ihb=>simp [Yg,iha,ihb]
 | block id b ih=>exact ih
 | loop b ih=>exact ih
 | scope b ih=>exact ih
 | _=>rfl
section
variable {G:GE} {C:Cx} {e0 e:Env} {σ0 σ:St} {w0 w:World} {a:Act} {f:Frame} {Q:PQ} {ro:Option Nat} {n:Nat} {ds:Nat×List Deferred×Bool} {N:Nat}
def J2 {base:Frame} {tm:Array Value} (hb:FRel G e σ w base tm):∀{live:List Nat} {vs:List PV},(∀(k i:Nat) (x:PV),live[k]?=some i->vs[k]?=some x->VRel G e σ w x (tm.getD i Go.undef))->FRel G e σ w (Zf4 base live vs) tm
 | [],vs,_=>by cases vs <;> exact hb
 | i::is,[],_=>hb
 | i::is,v::vs,h=>by
  intro j
  have ih:=J2 hb (live:=is) (vs:=vs) fun k i x h1 h2=>h (k+1) i x (by simpa using h1) (by simpa using h2)
  simp only [Zf4]
  by_cases i5:i=j
  ·subst i5;rw [Yx];exact h 0 i v sM sM
  rw [Xb _ _ i5];exact ih j
def Zc1 {f0:Frame} {tm:Array Value}:∀{keep:List Nat},(∀i,i∈keep->VRel G e σ w (clean (f0 i)) (tm.getD i Go.undef))->FRel G e σ w (ZjD f0 keep) tm
 | [],_=>fun i=>.undef _
 | i::is,h=>by
  intro j
  simp only [ZjD]
  by_cases i5:i=j
  ·subst i5;rw [Yx];exact h i sM
  rw [Xb _ _ i5];exact Zc1 (fun k hk=>h k (Tx _ hk)) j
def ZsD {ks:List Nat} {t0:Array Value} {b:Code} (ihb:∀(Q:PQ) {e:Env} {σ:St} {w:World} {a:Act} {f:Frame},SRel G e σ w->FRel G e σ w f a.tmps->Later e0 σ0 w0 e σ w->a.tmps.size=N->Marks ds e σ w a.defers->Kept ks t0 a.tmps->W C b Q f σ->b.wpIn (fw ro) n G.P (ZL G e0 σ0 w0 ds N (Kept ks t0) Q) a w)
  (x:Exit) (a:Act) (w:World) (h:ZL G e0 σ0 w0 ds N (Kept ks t0) (fun e f σ=>match e with | .normal=>W C b Q f σ | e=>Q e f σ) x a w):Exit.then (b.wpIn (fw ro) n G.P (ZL G e0 σ0 w0 ds N (Kept ks t0) Q)) (ZL G e0 σ0 w0 ds N (Kept ks t0) Q) x a w:=by
 obtain ⟨pe,f,e,σ,hq,hx,h1,h2,h3,h4,h5,h6⟩:=h
 cases pe with
 | normal=>obtain rfl:x=.normal:=hx;exact ihb Q h1 h2 h3 h4 h5 h6 hq
 | exit id=>obtain rfl:x=.exit id:=hx;exact ⟨.exit id,f,e,σ,hq,rfl,h1,h2,h3,h4,h5,h6⟩
 | goto l=>obtain rfl:x=.goto l:=hx;exact ⟨.goto l,f,e,σ,hq,rfl,h1,h2,h3,h4,h5,h6⟩
 | ret=>obtain rfl:x=.ret:=hx;exact ⟨.ret,f,e,σ,hq,rfl,h1,h2,h3,h4,h5,h6⟩
 | panic p=>obtain ⟨v,rfl,hv⟩:=hx;exact ⟨.panic p,f,e,σ,hq,⟨v,rfl,hv⟩,h1,h2,h3,h4,h5,h6⟩
def Znc {Z:Array Value->Prop} {id:Nat} (x:Exit) (a:Act) (w:World) (h:ZL G e0 σ0 w0 ds N Z (fun e f σ=>match e with | .exit i=>(match Nat.beq i id with | true=>Q .normal f σ | false=>Q (.exit i) f σ) | e=>Q e f σ) x a w) :
  Exit.inBlock id (ZL G e0 σ0 w0 ds N Z Q) x a w:=by
 obtain ⟨pe,f,e,σ,hq,hx,am⟩:=h
 cases pe with
 | normal=>obtain rfl:x=.normal:=hx;exact ⟨.normal,f,e,σ,hq,rfl,am⟩
 | exit i =>
  obtain rfl:x=.exit i:=hx;simp only [Exit.inBlock]
  by_cases hi:i=id
  ·subst hi;rw [Tk rfl];simp only [show Nat.beq i i=true from sM] at hq;exact ⟨.normal,f,e,σ,hq,rfl,am⟩
  rw [Tf hi];have:Nat.beq i id=false:=by
   cases hb:Nat.beq i id with
   | false=>rfl
   | true=>exact absurd (Tl hb) hi
  simp only [this] at hq;exact ⟨.exit i,f,e,σ,hq,rfl,am⟩
 | goto l=>obtain rfl:x=.goto l:=hx;exact ⟨.goto l,f,e,σ,hq,rfl,am⟩
 | ret=>obtain rfl:x=.ret:=hx;exact ⟨.ret,f,e,σ,hq,rfl,am⟩
 | panic p=>obtain ⟨v,rfl,hv⟩:=hx;exact ⟨.panic p,f,e,σ,hq,⟨v,rfl,hv⟩,am⟩
def Znd {Z:Array Value->Prop} (x:Exit) (a:Act) (w:World) (h:ZL G e0 σ0 w0 ds N Z (fun e f σ=>match e with | .goto _=>False | e=>Q e f σ) x a w) :
  Exit.noGoto (ZL G e0 σ0 w0 ds N Z Q) x a w:=by
 obtain ⟨pe,f,e,σ,hq,hx,am⟩:=h
 cases pe with
 | normal=>obtain rfl:x=.normal:=hx;exact ⟨.normal,f,e,σ,hq,rfl,am⟩
 | exit i=>obtain rfl:x=.exit i:=hx;exact ⟨.exit i,f,e,σ,hq,rfl,am⟩
 | goto l=>exact hq.elim
 | ret=>obtain rfl:x=.ret:=hx;exact ⟨.ret,f,e,σ,hq,rfl,am⟩
 | panic p=>obtain ⟨v,rfl,hv⟩:=hx;exact ⟨.panic p,f,e,σ,hq,⟨v,rfl,hv⟩,am⟩
def Zgk (hS:SRel G e σ w) {b:Nat} {st st':LoopState} {pd pd':Option Code} {r:Loop} (hb:σ.bx[b]?=some (.loop st pd r)) :
  Stepped e σ w e (σ.set b (.loop st' pd' r)) (w.putObj (e.β b) (.loop { r with state:=st',pending:=pd' }))/\SRel G e (σ.set b (.loop st' pd' r)) (w.putObj (e.β b) (.loop { r with state:=st',pending:=pd' })):=by
 have ki:w.heap[e.β b]?=some (.loop { r with state:=st,pending:=pd }):=hS.box b _ hb;exact Ua hS hb rfl rfl rfl World.putObj_size (fun k hk=>World.putObj_heap_other hk) fun _=>World.putObj_heap_same (Tp.1 ki).1
def Zh2:∀{ps:List Nat} {f:Frame} {args:List PV} {tm:Array Value} {vs:List Value},FRel G e σ w f tm->vs.length=args.length->(∀(i:Nat) (x:PV) (u:Value),args[i]?=some x->vs[i]?=some u->VRel G e σ w x u)->(∀p∈ps,p<tm.size) ->
  FRel G e σ w (ZoH f ps args) ((ps.zip vs).foldl (fun tmps (x:Nat×Value)=>tmps.setIfInBounds x.1 x.2) tm)/\((ps.zip vs).foldl (fun tmps (x:Nat×Value)=>tmps.setIfInBounds x.1 x.2) tm).size=tm.size
 | [],f,args,tm,vs,hF,hl,hr,hp=>by simp only [ZoH,List.zip_nil_left,List.foldl_nil,and_true];exact hF
 | p::ps,f,[],tm,[],hF,hl,hr,hp=>⟨hF,rfl⟩
 | p::ps,f,x::args,tm,u::vs,hF,hl,hr,hp=>by
   simp only [List.zip_cons_cons,List.foldl_cons,ZoH];have h1:FRel G e σ w (WY f p x) (tm.setIfInBounds p u):=by
    have:=FRel.put (a:={ tmps:=tm,defers:=[] }) (d:=some p) hF (hr 0 x u rfl rfl) (fun i hi=>by cases hi;exact hp p sM);exact this
   obtain ⟨g1,g2⟩:=Zh2 (ps:=ps) h1 (by simpa using hl) (fun i y v hy hv=>hr (i+1) y v (by simpa using hy) (by simpa using hv)) (fun q hq=>by simpa using hp q (by simp [hq]));exact ⟨g1,by rw [g2];simp⟩
def Marks.push {lo:Nat×List Deferred×Bool} {l:List Deferred} (hS:SRel G e σ w) (hf:lo.2.2=false) (h:Marks lo e σ w l):Marks lo e σ (w.alloc (.deferred (some []))) (JW w.heap.size::l):=by
 obtain ⟨h0,rs,h1,_,h2,h3⟩:=h;have hg:=Grows.alloc w (.deferred (some []));have mj:∀r∈rs,r<w.heap.size:=fun r hr=>(Tp.1 (h3 r hr).2.1).1
 refine ⟨TT h0 hg.size,w.heap.size::rs,by rw [h1];rfl,fun h=>by (rw [hf] at h;cases h),List.nodup_cons.2 ⟨fun hm=>by have:=mj _ hm;omega,h2⟩,fun r hr=>?_⟩;rcases Tt.1 hr with rfl | hr
 ·refine ⟨h0,heap_alloc_new w _,fun i hi=>by have:=hS.lt hi;omega,fun t ht p hp=>?_,(by
   cases hq:e.H w.heap.size with
   | none=>rfl
   | some q=>have:=(hS.hid _ _ hq).2.1;omega)⟩
  obtain ⟨_,_,cs,ty,fz,hh⟩:=hS.own t ht p hp;have:=(Tp.1 hh).1;omega
 obtain ⟨g1,g2,g3,g4⟩:=h3 r hr;exact ⟨g1,(hg.old r (mj r hr)).trans g2,g3,g4⟩
def ZsE {o:Oper} {d:Nat} (hd:o.dst=some d):∀{l:List Oper},o∈l->Zek d l=true:=fun {l} ho=>by
 induction l with
 | nil=>cases ho
 | cons x l ih =>
 rcases Tt.1 ho with rfl | ho
 ·unfold Zek
  rw [hd];show (match Nat.beq d d with | true=>true | false=>Zek d l)=true;rw [Nat.beq_refl]
 unfold Zek
 split
 ·split
  ·rfl
  exact ih ho
 exact ih ho
def Zh3 (az:G.P.follows .mixedOrders=true) {id:Nat} {ops:Array Oper} {draw:Bool} (hC:CxOK G C ro e0 σ0 w0) (hM:CxMono C.calm) (ao:ZE N (.region id ops draw)=true) {ks:List Nat} {t0:Array Value} (dc:Yg ks (.region id ops draw)=true)
  (hS:SRel G e σ w) (hF:FRel G e σ w f a.tmps) (hL:Later e0 σ0 w0 e σ w) (hN:a.tmps.size=N) (bf:Marks ds e σ w a.defers) (hZ:Kept ks t0 a.tmps) (h:WR C ops.toList draw Q f σ):(Code.region id ops draw).wpIn (fw ro) n G.P (ZL G e0 σ0 w0 ds N (Kept ks t0) Q) a w:=by
 simp only [ZE,Tn] at ao;have hd:∀o,o∈ops->∀d,o.dst=some d->d<N/\∀t v,Kept ks t0 t->Kept ks t0 (t.setIfInBounds d v):=fun o ho d vr =>
  ⟨ZaS ao.1 o (TL.1 ho) d vr,fun t v hk=>hk.set (U7 dc o (TL.1 ho) d vr) v⟩
 cases draw with
 | false =>
  refine wpIn_region ?_;have:=Ze4 (ro:=ro) (n:=n) hC hd ops.toList 0 (fun j=>sM) hS hF hL hN bf hZ h;rw [List.range_eq_range'];simpa using this
 | true =>
 have iw:=ao.2;simp only [Bool.not_true,Bool.false_or] at iw;simp only [WR] at h;have ik:Later e0 σ0 w0 e σ { w with drawn:=w.drawn+1 }:=hL.trans { Later.refl e σ w with };have hst:Stepped e σ w e σ { w with drawn:=w.drawn+1 }:={ Stepped.refl e σ w with }
 have hS':SRel G e σ { w with drawn:=w.drawn+1 }:={ hS with box:=fun i x hx=>(hS.box i x hx).step hst rfl HKeep.rfl' }
 have zp:=hF.step hst
 let Z:Array Value->Prop:=fun t=>Kept ks t0 t/\∀i,Zek i ops.toList=false->t.getD i Go.undef=a.tmps.getD i Go.undef
 have zq:∀o,o∈ops->∀d,o.dst=some d->d<N/\∀t v,Z t->Z (t.setIfInBounds d v):=fun o ho d vr=>⟨(hd o ho d vr).1,fun t v hz=>⟨(hd o ho d vr).2 t v hz.1,fun i hi=>by
  have ah:d≠i:=fun he=>by
   subst he;rw [ZsE vr (TL.1 ho)] at hi;cases hi
  rw [<- hz.2 i hi];simp [TY,ah]⟩⟩
 have hC':=hC.later ik;have fin:∀x a' w',ZL G e σ { w with drawn:=w.drawn+1 } ds N Z (ZjE C ops.toList f Q) x a' w'->ZL G e0 σ0 w0 ds N (Kept ks t0) Q x a' w':=fun x a' w' hp=>by
  obtain ⟨pe,f',e',σ',hq,hx,g1,g2,g3,g4,g5,g6⟩:=hp
  cases pe with
  | panic p =>
   refine ⟨.panic p,_,e',σ',hq,hx,g1,fun i=>?_,ik.trans g3,g4,g5,g6.1⟩;unfold Cx.pd
   cases C.pk with
   | false=>exact .undef _
   | true =>
   show VRel _ _ _ _ (match Zek i ops.toList with | true=>PV.undef | false=>clean (f i)) _
   cases hw:Zek i ops.toList with
   | true=>exact .undef _
   | false =>
   rw [g6.2 i hw];exact (zp.clean g3) i
  | normal=>exact ⟨_,f',e',σ',hq,hx,g1,g2,ik.trans g3,g4,g5,g6.1⟩
  | ret=>exact ⟨_,f',e',σ',hq,hx,g1,g2,ik.trans g3,g4,g5,g6.1⟩
  | exit id=>exact ⟨_,f',e',σ',hq,hx,g1,g2,ik.trans g3,g4,g5,g6.1⟩
  | goto l=>exact ⟨_,f',e',σ',hq,hx,g1,g2,ik.trans g3,g4,g5,g6.1⟩
 have hZ':Z a.tmps:=⟨hZ,fun _ _=>rfl⟩
 have hR:Later e σ { w with drawn:=w.drawn+1 } e σ { w with drawn:=w.drawn+1 }:=Later.refl _ _ _;refine wpIn_mono (wpIn_region_any (Q:=ZL G e σ { w with drawn:=w.drawn+1 } ds N Z (ZjE C ops.toList f Q)) az ?_) fin;split at h
 ·rename_i hh
  rw [hh] at iw;simp only at iw;split at h
  ·rename_i hch
   rw [hch] at iw;exact Zm6 hC'.calm hM zq iw hS' zp hR hN (bf.later hst.toLater) hZ' h
  rename_i hch
  rw [hch] at iw;exact Zpk hC'.calm hM zq iw hS' zp hR hN (bf.later hst.toLater) hZ' h
 rename_i hl hh
 rw [hh] at iw;exact Zna hC'.calm hM zq hh iw hS' zp hR hN (bf.later hst.toLater) hZ' h
def Zc2 (az:G.P.follows .mixedOrders=true):∀(c:Code) {C:Cx} {ro:Option Nat} {e0:Env} {σ0:St} {w0:World} {N:Nat} {ds:Nat×List Deferred×Bool} {n:Nat},CxOK G C ro e0 σ0 w0->CxMono C.calm->(ds.2.2=true->∀g args raw σ K,¬C.iter g args raw σ K)->ZE N c=true->∀(ks:List Nat) (t0:Array Value),Yg ks c=true->∀(Q:PQ) {e:Env} {σ:St} {w:World} {a:Act} {f:Frame},
  SRel G e σ w->FRel G e σ w f a.tmps->Later e0 σ0 w0 e σ w->a.tmps.size=N->Marks ds e σ w a.defers->Kept ks t0 a.tmps->W C c Q f σ->c.wpIn (fw ro) n G.P (ZL G e0 σ0 w0 ds N (Kept ks t0) Q) a w:=by
 intro c
 induction c with
 | skip=>intro C ro e0 σ0 w0 N ds n hC hM dz _ ks t0 _ Q e σ w a f hS hF hL hN bf hZ h;exact wpIn_skip ⟨.normal,f,e,σ,h,rfl,hS,hF,hL,hN,bf,hZ⟩
 | label l=>intro C ro e0 σ0 w0 N ds n hC hM dz _ ks t0 _ Q e σ w a f hS hF hL hN bf hZ h;exact wpIn_label ⟨.normal,f,e,σ,h,rfl,hS,hF,hL,hN,bf,hZ⟩
 | exit id=>intro C ro e0 σ0 w0 N ds n hC hM dz _ ks t0 _ Q e σ w a f hS hF hL hN bf hZ h;exact wpIn_exit ⟨.exit id,f,e,σ,h,rfl,hS,hF,hL,hN,bf,hZ⟩
 | goto l=>intro C ro e0 σ0 w0 N ds n hC hM dz _ ks t0 _ Q e σ w a f hS hF hL hN bf hZ h;exact wpIn_goto ⟨.goto l,f,e,σ,h,rfl,hS,hF,hL,hN,bf,hZ⟩
 | ret=>intro C ro e0 σ0 w0 N ds n hC hM dz _ ks t0 _ Q e σ w a f hS hF hL hN bf hZ h;exact wpIn_ret ⟨.ret,f,e,σ,h,rfl,hS,hF,hL,hN,bf,hZ⟩
 | region id ops draw =>
  intro C ro e0 σ0 w0 N ds n hC hM dz ao ks t0 dc Q0 e σ w a f hS hF hL hN bf hZ h
  have core:∀{Q:PQ} {e:Env} {σ:St},SRel G e σ w->FRel G e σ w f a.tmps->Later e0 σ0 w0 e σ w->Marks ds e σ w a.defers->WR C ops.toList draw Q f σ->(Code.region id ops draw).wpIn (fw ro) n G.P (ZL G e0 σ0 w0 ds N (Kept ks t0) Q) a w:=fun {Q e σ} hS hF hL bf h=>Zh3 az hC hM ao dc hS hF hL hN bf hZ h
  simp only [W] at h;split at h
  ·exact core hS hF hL bf h
  obtain ⟨b,k,h⟩:=h;obtain ⟨e1,σ1,h,hst,gm⟩:=ZjT hS h;rw [ZM] at h;refine wpIn_mono (core gm (hF.step hst) (hL.trans hst.toLater) (bf.later hst.toLater) h) fun x a' w' hp=>?_
  obtain ⟨pe,f',e',σ',hq,hx,g1,g2,g3,g4,g5,g6⟩:=hp
  cases pe with
  | normal =>
   obtain ⟨e2,σ2,hq,jt,iz⟩:=Zgi g1 (K:=fun σ=>Xp σ fun σ=>Q0 .normal f' σ) hq;rw [ZM] at hq;exact ⟨.normal,f',e2,σ2,hq,hx,iz,g2.step jt,g3.trans jt.toLater,g4,g5.later jt.toLater,g6⟩
  | _=>exact hq.elim
 | seq x y ihx ihy =>
  intro C ro e0 σ0 w0 N ds n hC hM dz ao ks t0 dc Q e σ w a f hS hF hL hN bf hZ h
  simp only [ZE,Tn] at ao;simp only [Yg,Tn] at dc;simp only [W] at h;split at h
  ·exact wpIn_seq (wpIn_mono (ihx hC hM dz ao.1 ks t0 dc.1 _ hS hF hL hN bf hZ h) (ZsD fun Q {e σ w a f}=>ihy hC hM dz ao.2 ks t0 dc.2 Q))
  rename_i live I f5
  obtain ⟨h1,h2⟩:=h;refine wpIn_seq (wpIn_mono (ihx hC hM dz ao.1 ks t0 dc.1 _ hS hF hL hN bf hZ h1) fun x' a' w' hp=>?_);obtain ⟨pe,f',e',σ',hq,hx,g1,g2,g3,g4,g5,g6⟩:=hp
  cases pe with
  | normal =>
   obtain rfl:x'=.normal:=hx;obtain ⟨vs0,σ1,e1,hI,gm,kr,hlen,be⟩:=Zlk g1 hq;have w8:FRel G e1 σ1 w' (Zf4 (fun _=>.undef) live vs0) a'.tmps:=J2 (fun i=>.undef _) fun k i x h1 h2=>be k (f' i) x _ (by rw [Th,h1];rfl) h2 (g2 i)
   exact ihy hC hM dz ao.2 ks t0 dc.2 Q gm w8 (g3.drop kr g3.len) g4 (g5.drop kr) g6 (h2 _ _ hI)
  | exit id=>obtain rfl:x'=.exit id:=hx;exact ⟨.exit id,f',e',σ',hq,rfl,g1,g2,g3,g4,g5,g6⟩
  | goto l=>obtain rfl:x'=.goto l:=hx;exact ⟨.goto l,f',e',σ',hq,rfl,g1,g2,g3,g4,g5,g6⟩
  | ret=>obtain rfl:x'=.ret:=hx;exact ⟨.ret,f',e',σ',hq,rfl,g1,g2,g3,g4,g5,g6⟩
  | panic p=>obtain ⟨v,rfl,hv⟩:=hx;exact ⟨.panic p,f',e',σ',hq,⟨v,rfl,hv⟩,g1,g2,g3,g4,g5,g6⟩
 | cond c x y ihx ihy =>
  intro C ro e0 σ0 w0 N ds n hC hM dz ao ks t0 dc Q e σ w a f hS hF hL hN bf hZ h
  simp only [ZE,Tn] at ao;simp only [Yg,Tn] at dc;simp only [W] at h;have hv:=Zby hF c;split at h
  ·rename_i t hc
   rw [hc] at hv
   cases t with
   | true=>exact wpIn_cond_true hv.dbool (ihx hC hM dz ao.1 ks t0 dc.1 _ hS hF hL hN bf hZ h)
   | false=>exact wpIn_cond_false hv.dbool (ihy hC hM dz ao.2 ks t0 dc.2 _ hS hF hL hN bf hZ h)
  exact h.elim
 | block id b ih =>
  intro C ro e0 σ0 w0 N ds n hC hM dz ao ks t0 dc Q e σ w a f hS hF hL hN bf hZ h
  exact wpIn_block (wpIn_mono (ih hC hM dz ao ks t0 dc _ hS hF hL hN bf hZ h) Znc)
 | scope b ih =>
  intro C ro e0 σ0 w0 N ds n hC hM dz ao ks t0 dc Q e σ w a f hS hF hL hN bf hZ h
  exact Znb (wpIn_mono (ih hC hM dz ao ks t0 dc _ hS hF hL hN bf hZ h) Znd)
 | loop b ih =>
  intro C ro e0 σ0 w0 N ds n hC hM dz ao ks t0 dc Q e σ w a f hS hF hL hN bf hZ h
  simp only [W] at h;generalize C.loop (keyOf b)=A at h;split at h
  ·rename_i m0 _
   generalize m0+1=m at h
   let J:Nat->Frame->St->Act->World->Prop:=fun k f1 σ1 a1 w1=>∃e1,Zbw (fun Q f σ=>W C b Q f σ) Q k f1 σ1/\SRel G e1 σ1 w1/\FRel G e1 σ1 w1 f1 a1.tmps/\Later e σ w e1 σ1 w1/\a1.tmps.size=N/\Marks ds e1 σ1 w1 a1.defers/\Kept ks a.tmps a1.tmps
   let In:Act->World->Prop:=fun a1 w1=>∃k f1 σ1,J k f1 σ1 a1 w1
   let Mu:Act->World->Nat->Prop:=fun a1 w1 m=>∃f1 σ1,J m f1 σ1 a1 w1
   have least:∀a1 w1,In a1 w1->∃m,Mu a1 w1 m/\∀m',Mu a1 w1 m'->m<=m':=fun a1 w1 ⟨k,f1,σ1,hJ⟩=>by
    have:∀m,Mu a1 w1 m->∃m,Mu a1 w1 m/\∀m',Mu a1 w1 m'->m<=m':=by
     intro m
     induction m using Nat.strongRecOn with
     | _ m ihm =>
     intro hm
     exact mq122
    exact this _ ⟨f1,σ1,hJ⟩
   classical
   let mu:Act->World->Nat:=fun a1 w1=>if hh:∃m,Mu a1 w1 m/\∀m',Mu a1 w1 m'->m<=m' then Classical.choose hh else 0
   have w9:∀a1 w1,In a1 w1->Mu a1 w1 (mu a1 w1)/\∀m',Mu a1 w1 m'->mu a1 w1<=m':=fun a1 w1 tr=>by
    have hh:=least a1 w1 tr;simp only [mu,dif_pos hh];exact Classical.choose_spec hh
   refine wpIn_loop In mu ⟨m,f,σ,e,h,hS,hF,Later.refl e σ w,hN,bf,fun i _=>rfl⟩ ?_;intro a1 w1 tr
   obtain ⟨⟨f2,σ2,⟨e2,hU,iz,s7,ma,hN2,tt,hK2⟩⟩,_⟩:=w9 a1 w1 tr;generalize ir:mu a1 w1=mm at hU
   cases mm with
   | zero=>exact hU.elim
   | succ mm =>
   simp only [Zbw] at hU;have hb:=ih (n:=n) (hC.later hL) hM dz ao ks a.tmps dc _ iz s7 ma hN2 tt hK2 hU;refine wpIn_mono hb fun x a' w' hp=>?_
   obtain ⟨pe,f',e',σ',hq,hx,h1,h2,h3,h4,h5,h6⟩:=hp;have qj:Kept ks t0 a'.tmps:=fun i hi=>(h6 i hi).trans (hZ i hi)
   cases pe with
   | normal =>
    obtain rfl:x=.normal:=hx;have hJ:J mm f' σ' a' w':=⟨e',hq,h1,h2,h3,h4,h5,h6⟩
    have og:In a' w':=⟨mm,f',σ',hJ⟩
    refine ⟨og,?_⟩;have:=(w9 a' w' og).2 _ ⟨f',σ',hJ⟩;exact Nat.lt_succ_of_le this
   | exit id=>obtain rfl:x=.exit id:=hx;exact ⟨.exit id,f',e',σ',hq,rfl,h1,h2,hL.trans h3,h4,h5,qj⟩
   | goto l=>obtain rfl:x=.goto l:=hx;exact ⟨.goto l,f',e',σ',hq,rfl,h1,h2,hL.trans h3,h4,h5,qj⟩
   | ret=>obtain rfl:x=.ret:=hx;exact ⟨.ret,f',e',σ',hq,rfl,h1,h2,hL.trans h3,h4,h5,qj⟩
   | panic p=>obtain ⟨v,rfl,hv⟩:=hx;exact ⟨.panic p,f',e',σ',hq,⟨v,rfl,hv⟩,h1,h2,hL.trans h3,h4,h5,qj⟩
  have key:∀A:LoopAnn,Yg A.keep b=true->(V6 (C.ag (keyOf b)) σ.bx.length (A.live.map f) σ fun vs σ0=>A.I vs σ0 /\
    ∀vs σ1,A.I vs σ1->W C b (fun e f' σ'=>match e with
     | .normal=>V6 (C.ag (keyOf b)) σ1.bx.length (A.live.map f') σ' fun vs' σ''=>A.I vs' σ''/\A.μ vs' σ''<A.μ vs σ1
     | e=>Q e f' σ') (Zf4 (ZjD f A.keep) A.live vs) σ1)->(Code.loop b).wpIn (fw ro) n G.P (ZL G e0 σ0 w0 ds N (Kept ks t0) Q) a w:=fun A gl h=>by
   obtain ⟨vs0,σ1,e1,⟨hI,lu⟩,gm,kr,hlen,be⟩:=ZcV hS h;have ku:∀{e':Env} {σ':St} {w':World} {tm:Array Value},Later e σ w e' σ' w'->Kept (ks++A.keep) a.tmps tm->∀i,i∈A.keep->VRel G e' σ' w' (clean (f i)) (tm.getD i Go.undef):=fun {e' σ' w' tm} hl hk i hi=>by
    rw [hk i (TD.2 (.inr hi))];exact VRel.clean hl.len hl.beta hl.pres (hF i) (hF i).bnd
   have rl:∀(f':Frame) (tm:Array Value) (vs':List PV) {e':Env} {σ':St} {w':World} {e'':Env} {σ'':St},FRel G e' σ' w' f' tm->(∀(i:Nat) (x y:PV) (u:Value),(A.live.map f')[i]?=some x->vs'[i]?=some y->VRel G e' σ' w' x u->VRel G e'' σ'' w' y u) ->
     ∀(k i:Nat) (x:PV),A.live[k]?=some i->vs'[k]?=some x->VRel G e'' σ'' w' x (tm.getD i Go.undef):=fun f' tm vs' {e' σ' w' e'' σ''} hf hv k i x h1 h2 =>
    hv k (f' i) x _ (by rw [Th,h1];rfl) h2 (hf i)
   let J:List PV->St->Act->World->Prop:=fun vs σ1 a1 w1=>∃e1,A.I vs σ1/\SRel G e1 σ1 w1/\FRel G e1 σ1 w1 (Zf4 (ZjD f A.keep) A.live vs) a1.tmps/\Later e σ w e1 σ1 w1/\a1.tmps.size=N/\Marks ds e1 σ1 w1 a1.defers/\Kept (ks++A.keep) a.tmps a1.tmps
   let In:Act->World->Prop:=fun a1 w1=>∃vs σ1,J vs σ1 a1 w1
   let Mu:Act->World->Nat->Prop:=fun a1 w1 m=>∃vs σ1,J vs σ1 a1 w1/\A.μ vs σ1=m
   have least:∀a1 w1,In a1 w1->∃m,Mu a1 w1 m/\∀m',Mu a1 w1 m'->m<=m':=fun a1 w1 ⟨vs,σ1,hJ⟩=>by
    have:∀m,Mu a1 w1 m->∃m,Mu a1 w1 m/\∀m',Mu a1 w1 m'->m<=m':=by
     intro m
     induction m using Nat.strongRecOn with
     | _ m ihm =>
     intro hm
     exact mq122
    exact this _ ⟨vs,σ1,hJ,rfl⟩
   classical
   let mu:Act->World->Nat:=fun a1 w1=>if hh:∃m,Mu a1 w1 m/\∀m',Mu a1 w1 m'->m<=m' then Classical.choose hh else 0
   have w9:∀a1 w1,In a1 w1->Mu a1 w1 (mu a1 w1)/\∀m',Mu a1 w1 m'->mu a1 w1<=m':=fun a1 w1 tr=>by
    have hh:=least a1 w1 tr;simp only [mu,dif_pos hh];exact Classical.choose_spec hh
   have qk:Later e σ w e1 σ1 w:=(Later.refl e σ w).drop kr (Tu _);have oh:Kept (ks++A.keep) a.tmps a.tmps:=fun i _=>rfl
   refine wpIn_loop In mu ⟨vs0,σ1,e1,hI,gm,?_,qk,hN,bf.drop kr,oh⟩ ?_
   ·exact J2 (Zc1 (ku qk oh)) (rl f a.tmps vs0 hF be)
   intro a1 w1 tr
   obtain ⟨⟨vs,σ2,⟨e2,fk,iz,s7,ma,hN2,tt,hK2⟩,hm⟩,_⟩:=w9 a1 w1 tr;have hb:=ih (n:=n) (hC.later hL) hM dz ao (ks++A.keep) a.tmps (Zem dc gl) _ iz s7 ma hN2 tt hK2 (lu vs σ2 fk);refine wpIn_mono hb fun x a' w' hp=>?_
   obtain ⟨pe,f',e',σ',hq,hx,h1,h2,h3,h4,h5,h6⟩:=hp;have qj:Kept ks t0 a'.tmps:=fun i hi=>(h6 i (TD.2 (.inl hi))).trans (hZ i hi)
   cases pe with
   | normal =>
    obtain rfl:x=.normal:=hx;obtain ⟨vs',σ3,e3,⟨hI3,aa⟩,gx,oi,jg,abk⟩:=ZcV h1 hq;have vt:Later e σ w e3 σ3 w':=h3.drop oi ma.len;have hJ:J vs' σ3 a' w':=⟨e3,hI3,gx,J2 (Zc1 (ku vt h6)) (rl f' a'.tmps vs' h2 abk),vt,h4,h5.drop oi,h6⟩
    have og:In a' w':=⟨vs',σ3,hJ⟩
    refine ⟨og,?_⟩;have:=(w9 a' w' og).2 _ ⟨vs',σ3,hJ,rfl⟩;rw [<- hm];exact Nat.lt_of_le_of_lt this aa
   | exit id=>obtain rfl:x=.exit id:=hx;exact ⟨.exit id,f',e',σ',hq,rfl,h1,h2,hL.trans h3,h4,h5,qj⟩
   | goto l=>obtain rfl:x=.goto l:=hx;exact ⟨.goto l,f',e',σ',hq,rfl,h1,h2,hL.trans h3,h4,h5,qj⟩
   | ret=>obtain rfl:x=.ret:=hx;exact ⟨.ret,f',e',σ',hq,rfl,h1,h2,hL.trans h3,h4,h5,qj⟩
   | panic p=>obtain ⟨v,rfl,hv⟩:=hx;exact ⟨.panic p,f',e',σ',hq,⟨v,rfl,hv⟩,h1,h2,hL.trans h3,h4,h5,qj⟩
  split at h
  ·rename_i gl
   split at h
   ·exact key _ gl h
   exact key (A.tied f) gl h
  exact h.elim
 | rangeFunc g ps asg body iha ihb =>
  intro C ro e0 σ0 w0 N ds n hC hM dz ao ks t0 dc Q e σ w a f hS hF hL hN bf hZ h
  simp only [ZE,Tn] at ao;simp only [W] at h;split at h
  ·rename_i gid first caps hg
   have hv:=Zby hF g;rw [hg] at hv;generalize hgv:a.eval g=gv at hv
   cases hv with
   | func _ _ _ va vc ha hc h1 h2 =>
   have s9:ro=none:=by
    rcases hC.out with h0 | h0
    ·exact h0
    exact absurd (h 0 default) (h0 _ _ _ _ _)
   subst s9;refine wpIn_rangeFunc fun fn _=>?_
   have hMi:CxMono C.inner.calm:=⟨hM.one,hM.call,hM.raw,hM.iter,rfl⟩
   have hdf:ds.2.2=false:=by
    cases cg:ds.2.2 with
    | false=>rfl
    | true=>exact absurd (h 0 default) (dz cg _ _ _ _ _)
   let rec0:Loop:={ state:=.ready,pending:=none,fn,tmps:=a.tmps,params:=ps,assign:=asg,body,defers:=w.heap.size }
   let wA:=w.alloc (.deferred (some []))
   have hgA:Grows w wA:=Grows.alloc w _;have hSA:SRel G e σ wA:=hS.grow hgA;have tu:Stepped e σ w e σ wA:=hgA.stepped e σ;have abm:Marks ds e σ wA (JW w.heap.size::a.defers):=bf.push hS hdf;have hsz:wA.heap.size=w.heap.size+1:=by simp [wA]
   obtain ⟨ql,gm,_⟩:=W3 hSA (.loop .ready none rec0) (.loop rec0) (fun _ _ _ _ hh=>hh);have vq:(e.more σ.bx.length wA.heap.size).β σ.bx.length=w.heap.size+1:=by simp [Env.more,hsz]
   have ki:=h (w.heap.size+1) rec0;obtain ⟨gu,il⟩:=hC.iter _ _ _ _ _ ki;have tv:ArgsRel G (e.more σ.bx.length wA.heap.size) (σ.new (.loop .ready none rec0)) (wA.alloc (.loop rec0)) (first++.raw (.func (.yield (w.heap.size+1)) #[] #[])::caps) (va++#[.func (.yield (w.heap.size+1)) #[] #[]]++vc):=by
    rw [List.append_cons];refine (ArgsRel.append (ArgsRel.append ⟨ha,fun i x u hx hu=>((h1 i x u hx hu).step tu).step ql⟩ ⟨rfl,fun i x u hx hu=>?_⟩) ⟨hc,fun i x u hx hu=>((h2 i x u hx hu).step tu).step ql⟩)
    match i with
    | 0=>cases hx;cases hu;exact .raw _
    | n+1=>cases hx
   have qk:Later e σ w (e.more σ.bx.length wA.heap.size) (σ.new (.loop .ready none rec0)) (wA.alloc (.loop rec0)):=tu.toLater.trans ql.toLater;have rm:σ.bx.length<(σ.new (.loop .ready none rec0)).bx.length:=by rw [ZF1];omega
   refine ⟨w.heap.size+1,[JW w.heap.size],wA.alloc (.loop rec0),{ target:=.fn (.func gid) vc,args:=va++#[.func (.yield (w.heap.size+1)) #[] #[]] },wA.alloc (.loop rec0),gid,va++#[.func (.yield (w.heap.size+1)) #[] #[]]++vc,wA.alloc (.loop rec0),
    run_enterLoop_outer fn a.tmps ps asg body,?_,fun _ _=>trivial,?_,fun hh=>by simp [fw] at hh,?_⟩
   ·show (Deferred.ofValue (a.eval g) _).run _ _=_;rw [hgv];simp [Deferred.ofValue,rangeCall,Act.eval]
   ·simp only [invoke];exact gu _ _
   refine (il (n - 1) _ _ _ gm (hL.trans qk) tv ?_).mono fun en w3 hA=>?_
   ·
    intro v args σ' K hr
    obtain ⟨rfl,du,xa,hWA⟩:=hr;refine ⟨w.heap.size+1,rfl,fun ro n e' w' vs hS' ik s5=>?_⟩;have ey:σ.bx.length<σ'.bx.length:=(Ti.1 du).1;have hβ':e'.β σ.bx.length=w.heap.size+1:=(ik.beta _ rm).trans vq;have gp:w'.heap[w.heap.size+1]?=some (.loop rec0):=by have:=hS'.box _ _ du;rw [hβ'] at this;exact this
    have be:vs.size=rec0.params.size:=by rw [s5.1,xa];simp [rec0]
    refine ⟨_,_,_,_,run_yield gp be,?_⟩;have hF0:FRel G e' σ' w' (VT f) a.tmps:=hF.clean (qk.trans ik);have s8:∀p∈ps.toList,p<a.tmps.size:=fun p hp=>by
     have:=Tr.1 ao.1.1 p hp;rw [hN];exact Tc this
    have rn:(rec0.params.zip vs).foldl (fun tmps (x:Nat×Value)=>tmps.setIfInBounds x.1 x.2) rec0.tmps=(ps.toList.zip vs.toList).foldl (fun tmps (x:Nat×Value)=>tmps.setIfInBounds x.1 x.2) a.tmps:=by
     rw [<- Array.foldl_toList,Array.toList_zip]
    obtain ⟨w8,kg⟩:=Zh2 (ps:=ps.toList) (args:=args) (vs:=vs.toList) hF0 (by simpa using s5.1) (fun i x u hx hu=>s5.2 i x u hx (by simpa using hu)) s8;refine roundIn_of_wpIn trivial ?_;have hCr:CxOK G C.inner (some (w.heap.size+1)) e' σ' w':=⟨hC.tab,hC.call,hC.raw.later (hL.trans (qk.trans ik)),fun _ _ _ _ _ hh=>hh.elim,.inr fun _ _ _ _ _ hh=>hh⟩
    have hwa:=iha (n:=n) (ds:=(0,[],false)) hCr hMi (fun h=>by cases h) ao.1.2 [] #[] (Y2 _) _ (a:={ tmps:=(rec0.params.zip vs).foldl (fun tmps (x:Nat×Value)=>tmps.setIfInBounds x.1 x.2) rec0.tmps,defers:=[] }) hS' (by rw [rn];exact w8) (Later.refl _ _ _) (by rw [rn];exact kg.trans hN) (Marks.nil _ _ (Sa _)) (fun i hi=>by cases hi) hWA;refine wpIn_mono hwa fun x1 a1 w1 hp=>?_
    obtain ⟨pe,f1,e1,σ1,hq,hx,k1,k2,k3,k4,k5,k6⟩:=hp
    cases pe with
    | normal =>
     obtain rfl:x1=.normal:=hx;obtain ⟨cm,hWB⟩:=hq;obtain ⟨jt,iz⟩:=Zgk (st':=.busy) (pd':=none) k1 cm;have t7:e1.β σ.bx.length=w.heap.size+1:=(k3.beta _ ey).trans hβ';have t8:w1.heap[w.heap.size+1]?=some (.loop rec0):=by have:=k1.box _ _ cm;rw [t7] at this;exact this
     refine ⟨_,run_beginRound t8 rfl,?_⟩;rw [t7] at jt iz;have hwb:=ihb (n:=n) (ds:=(0,[],false)) (hCr.later (k3.trans jt.toLater)) hMi (fun h=>by cases h) ao.2 [] #[] (Y2 _) _ iz (k2.step jt) (Later.refl _ _ _) k4 (k5.later jt.toLater) (fun i hi=>by cases hi) hWB;refine wpIn_mono hwb fun x2 a2 w2 j9=>?_
     obtain ⟨pe2,f2,e2,σ2,nj,bm,m1,m2,m3,m4,m5,m6⟩:=j9;have gy:σ.bx.length<(σ1.set σ.bx.length (.loop .busy none rec0)).bx.length:=by simp only [St.set,SC];exact (Ti.1 cm).1
     have w7:e2.β σ.bx.length=w.heap.size+1:=(m3.beta _ gy).trans t7;have ma:Later e' σ' w' e2 σ2 w2:=(k3.trans jt.toLater).trans m3;have fin:∀(jump:Option Code),Zz0 σ.bx.length rec0 (if jump.isNone then .ready else .done) jump jump.isNone σ2 K->∃v w'',(Instr.endRound (w.heap.size+1) jump).run G.P w2=.ok v w''/\YB G e' σ' w' K (.returned v) w'':=fun jump hq=>by
      obtain ⟨xb,hK⟩:=hq;have ua:w2.heap[w.heap.size+1]?=some (.loop { rec0 with state:=.busy,pending:=none }):=by have:=m1.box _ _ xb;rw [w7] at this;exact this
      have ub:=Zgk (st':=if jump.isNone then .ready else .done) (pd':=jump) m1 xb;rw [w7] at ub;exact ⟨_,_,run_endRound jump ua,_,_,e2,hK,⟨_,rfl,.mkbool⟩,ub.2,ma.trans ub.1.toLater⟩
     cases pe2 with
     | normal=>obtain rfl:x2=.normal:=bm;exact fin none nj
     | ret=>obtain rfl:x2=.ret:=bm;exact fin (some .ret) nj
     | exit id=>obtain rfl:x2=.exit id:=bm;exact fin (some (.exit id)) nj
     | goto t=>obtain rfl:x2=.goto t:=bm;exact fin (some (.goto t)) nj
     | panic p=>exact nj.elim
    | exit id=>exact hq.elim
    | goto t=>exact hq.elim
    | ret=>exact hq.elim
    | panic p=>exact hq.elim
   
   obtain ⟨pe,σ3,e3,hk,hE,gx,vt⟩:=hA;have hLs:=qk.trans vt;have xc:Marks ds e3 σ3 w3 (JW w.heap.size::a.defers):=(abm.later ql.toLater).later vt;have hβ3:e3.β σ.bx.length=w.heap.size+1:=(vt.beta _ rm).trans vq
   cases pe with
   | panic p =>
    obtain ⟨u,rfl,hr⟩:=hE;exact ⟨.panic p,_,e3,σ3,hk,⟨u,rfl,hr⟩,gx,fun i=>.undef _,hL.trans hLs,hN,xc,hZ⟩
   | ret p =>
   obtain ⟨u,rfl,hr⟩:=hE;unfold Zle at hk
   simp only at hk;split at hk
   ·rename_i st pd r du
    have gp:w3.heap[w.heap.size+1]?=some (.loop { r with state:=st,pending:=pd }):=by have:=gx.box _ _ du;rw [hβ3] at this;exact this
    have mr:=Zgk (st':=.exhausted) (pd':=pd) gx du;rw [hβ3] at mr;obtain ⟨mr,hS4⟩:=mr;have fp:∀(pe:PExit) (x:Exit),Q pe (VT f) (σ3.set σ.bx.length (.loop .exhausted pd r))->Zz3 G e3 (σ3.set σ.bx.length (.loop .exhausted pd r)) (w3.putObj (w.heap.size+1) (.loop { r with state:=.exhausted,pending:=pd })) pe x ->
      ZL G e0 σ0 w0 ds N (Kept ks t0) Q x { a with defers:=[JW w.heap.size]++a.defers } (w3.putObj (w.heap.size+1) (.loop { r with state:=.exhausted,pending:=pd })):=fun pe x hq hx =>
     ⟨pe,_,e3,_,hq,hx,hS4,hF.clean (hLs.trans mr.toLater),hL.trans (hLs.trans mr.toLater),hN,xc.later mr.toLater,hZ⟩
    have d7:∀(hb:st≠.busy),(Instr.endLoop (w.heap.size+1)).run G.P w3=.ok pd (w3.putObj (w.heap.size+1) (.loop { r with state:=.exhausted,pending:=pd })):=fun hb=>run_endLoop gp hb
    have go:st≠.busy->ZoI σ.bx.length r (VT f) Q σ3 pd->rangePost (fw none) n G.P (w.heap.size+1) (ZL G e0 σ0 w0 ds N (Kept ks t0) Q) { a with defers:=[JW w.heap.size]++a.defers } (.returned u) w3:=fun hb hq=>by
     refine ⟨pd,_,d7 hb,?_⟩;unfold ZoI at hq
     split at hq
     ·exact fp .normal .normal hq rfl
     ·exact wpIn_ret (fp .ret .ret hq rfl)
     ·rename_i id;exact wpIn_exit (fp (.exit id) (.exit id) hq rfl)
     ·rename_i t;exact wpIn_goto (fp (.goto t) (.goto t) hq rfl)
     exact hq.elim
    cases st with
    | busy=>exact hk.elim
    | ready=>exact go sM hk
    | done=>exact go sM hk
    | exhausted=>exact go sM hk
   exact hk.elim
  exact h.elim
 | _=>intro C ro e0 σ0 w0 N ds n hC hM dz _ ks t0 _ Q e σ w a f hS hF hL hN bf hZ h;exact h.elim
end
end Go.PM
end

section
namespace Go.PM
abbrev Zn:=List PV->St->(PEnd->St->Prop)->Prop
structure PCalls (G:GE) (g:FuncId) (sp:Zn):Prop where
 enters:Wi G.P g
 calls:∀args σ K,sp args σ K->∀(n:Nat) (e:Env) (w:World) (vs:Array Value),SRel G e σ w->ArgsRel G e σ w args vs->CallsIn (fw none) n G.P g vs w (YB G e σ w K)
def Ze {P : Program} {f : FuncId} {fn : Func} {c : Code} (hf : P.funcs[f]? = some fn) (ak : (fn.name == "runtime.NumGoroutine") = false) (hb : fn.body = some c) : Wi P f := fun args w => by
 have h1 : fn.name ≠ "runtime.NumGoroutine" := by simpa using ak
 simp [callFunc,hf,h1,hb]
section
variable {G:GE} {C:Cx} {e:Env} {σ:St} {w:World} {f:Frame} {n:Nat} {tm:Array Value}
def ZzL (tm:Array Value):ResultVar->Sem Value
 | .tmp t=>pure (tm.getD t Go.undef)
 | .cell a t=>do loadVar t (<- asAddr (tm.getD a Go.undef))
def Zgl {P:Program} {t:TypeId} {v u:Value} (hv:∃a,v=.pointer (some a)) (h:(Instr.loadAt t v).run P w=.ok u w):(do loadVar t (<- asAddr v):Sem Value).run P w=.ok u w:=by
 obtain ⟨a,rfl⟩:=hv;simpa [Instr.loadAt,Instr.sureAddr,asAddr] using h
def ZaT (hT:TabOK C.T G.P) (hS:SRel G e σ w) (hF:FRel G e σ w f tm):∀{l:List ResultVar} {K:List PV->Prop},pres C.T f σ.bx l K ->
  ∃pvs vs,K pvs/\(l.mapM (ZzL tm)).run G.P w=.ok vs w/\vs.length=pvs.length/\∀(i:Nat) (x:PV) (u:Value),pvs[i]?=some x->vs[i]?=some u->VRel G e σ w x u
 | [],K,h=>⟨[],[],h,rfl,rfl,fun i x u hx=>by simp at hx⟩
 | .tmp t::l,K,h=>by
  simp only [pres,ZO] at h;obtain ⟨pvs,vs,hK,hr,hl,hv⟩:=ZaT hT hS hF h;refine ⟨f t::pvs,tm.getD t Go.undef::vs,hK,?_,by simp [hl],fun i x u hx hu=>?_⟩
  ·rw [List.mapM_cons];simp only [ZzL,Sem.run_bind,Sem.run_pure,Result.andThen,hr]
  cases i with
  | zero=>simp only [Sz,Option.some.injEq] at hx hu;subst hx;subst hu;exact hF t
  | succ i=>exact hv i x u (by simpa using hx) (by simpa using hu)
 | .cell a t::l,K,h=>by
  simp only [pres] at h;have abo:∃a',tm.getD a Go.undef=.pointer (some a'):=by
   have:=hF a;generalize tm.getD a Go.undef=v at this;generalize f a=x at this h
   cases this with
   | ptr b off _=>exact ⟨_,rfl⟩
   | elem r off b o u _ _ _=>exact ⟨_,rfl⟩
   | _=>exact h.elim
  obtain ⟨pv,u0,hk,ol,af⟩:=ZeX hT hS (hF a) h;rw [ZO] at hk;obtain ⟨pvs,vs,hK,hr,hl,hv⟩:=ZaT hT hS hF hk;refine ⟨pv::pvs,u0::vs,hK,?_,by simp [hl],fun i x u hx hu=>?_⟩
  ·rw [List.mapM_cons];have:=Zgl abo af;simp only [ZzL];rw [Sem.run_bind,this];simp only [Sem.run_bind,Sem.run_pure,Result.andThen,hr]
  cases i with
  | zero=>simp only [Sz,Option.some.injEq] at hx hu;subst hx;subst hu;exact ol
  | succ i=>exact hv i x u (by simpa using hx) (by simpa using hu)
def X4 (hT:TabOK C.T G.P) (hS:SRel G e σ w) (hF:FRel G e σ w f tm) {fn:Func} {K:List PV->Prop} (h:pres C.T f σ.bx fn.results.toList K) :
  ∃pvs v,K pvs/\(results fn tm).run G.P w=.ok v w/\VRel G e σ w (V7 pvs) v:=by
 obtain ⟨pvs,vs,hK,hr,hl,hv⟩:=ZaT hT hS hF h;have jm:(results fn tm).run G.P w=.ok (if h:vs.toArray.size=1 then vs.toArray[0] else .tuple vs.toArray) w:=by
  have abp:results fn tm=(do let vs <- fn.results.mapM (ZzL tm);pure (if h:vs.size=1 then vs[0] else .tuple vs)):=by
   unfold results
   congr 1
  have h1:fn.results.mapM (ZzL tm)=List.toArray <$> fn.results.toList.mapM (ZzL tm):=by
   conv=>lhs;rw [show fn.results=fn.results.toList.toArray from sM]
   exact List.mapM_toArray
  rw [abp,h1,Sem.run_bind,Sem.run_map,hr];rfl
 refine ⟨pvs,_,hK,jm,?_⟩
 match pvs,vs,hl,hv with
 | [],[],_,hv=>exact .tuple [] #[] rfl (fun i x u hx=>by simp at hx)
 | [x],[u],_,hv=>exact hv 0 x u rfl rfl
 | x::y::l,u::v::m,hl,hv =>
  have:¬((u::v::m).toArray.size=1):=sM;rw [dif_neg this];exact .tuple _ _ (by simpa using hl) (fun i a b ha hb=>hv i a b ha (by simpa using hb))
def Wn {e0:Env} {σ0:St} {w0:World} {keep:Nat} {own:Bool} {pv:PV} {v:Value} {K:PV->St->Prop} (hS:SRel G e σ w) (hL:Later e0 σ0 w0 e σ w) (hk:σ0.bx.length<=keep) (hv:VRel G e σ w pv v)
  {ag:Bool} (h:JT ag keep own pv σ K):∃pv' σ' e',K pv' σ'/\VRel G e' σ' w pv' v/\SRel G e' σ' w/\Later e0 σ0 w0 e' σ' w:=by
 unfold JT at h
 split at h
 ·rename_i hb
  cases own with
  | true =>
   simp only at h;obtain ⟨vs',σ',e',hK,hS',hd,hlen,be⟩:=ZcV hS h
   match vs',hlen,hK with
   | [y],_,hK=>exact ⟨y,σ',e',hK,be 0 pv y v rfl rfl hv,hS',hL.drop hd hk⟩
  | false =>
  simp only at h;obtain ⟨bs,tk',as',hK,hx,hI,cf,hn,lj⟩:=WP (as:=[]) (ZF7 σ.tk [] (fun t ht=>by cases ht)) h;exact ⟨clean pv,_,e.re as',hK,(NV.cl pv hb).rel hn hI cf hv,Zge hS hn hI cf lj,hL.drop (ZcU hn hI cf) hk⟩
 exact h.elim
def J3 {vs:Array Value}:∀(args:List PV) (i:Nat),(∀(k:Nat) (x:PV),args[k]?=some x->VRel G e σ w x (vs.getD (i+k) Go.undef))->FRel G e σ w (Zb3 i args) vs
 | [],i,_=>fun j=>.undef _
 | a::args,i,h=>by
  intro j
  simp only [Zb3]
  by_cases i5:i=j
  ·subst i5;rw [Yx];exact h 0 a sM
  rw [Xb _ _ i5];exact J3 args (i+1) (fun k x hx=>by have:=h (k+1) x (by simpa using hx);rwa [show i+(k+1)=i+1+k by omega] at this) j
def VRel.world {w':World} (hc:∀b off u,w.cell? ⟨b,off,none⟩=some u->w'.cell? ⟨b,off,none⟩=some u) (hb:∀(b:Nat) (cs:Array Value) (ty:TypeId) (fz:Nat×Nat),w.heap[b]?=some (Obj.cells cs ty fz)->w'.heap[b]?=some (Obj.cells cs ty fz)) {x:PV} {v:Value} (h:VRel G e σ w x v):VRel G e σ w' x v:=by
 have hd:∀{x:D} {v:Value},DRel (okc e σ) w x v->DRel (okc e σ) w' x v:=fun hd=>hd.mono fun b off u hu ho=>⟨ho,hc b off u hu⟩
 induction h with
 | d x v h=>exact .d _ _ (hd h)
 | undef v=>exact .undef _
 | ptr b off h=>exact .ptr b off h
 | asl b off n h=>exact .asl b off n h
 | elem r off b o u wx ho hu=>exact .elem r off b o u (fun j hj=>hc _ _ _ (wx j hj)) ho (fun j x hx=>hd (hu j x hx))
 | sl t el rows v hn oe ht =>
  refine .sl t el rows v hn (hd oe) fun h=>?_
  rcases ht h with h1 | ⟨sz,g1,g2,g3,b,off,cap,cs,ty,fz,g4,g5,g6,g7,g8⟩
  ·exact .inl h1
  exact .inr ⟨sz,g1,g2,g3,b,off,cap,cs,ty,fz,g4,g5,g6,hb _ _ _ _ g7,g8⟩
 | nils el=>exact .nils el
 | func f a c va vc ha wx _ _ ih1 ih2=>exact .func f a c va vc ha wx ih1 ih2
 | iface t x v _ ih=>exact .iface t x v ih
 | agg cs vs hs _ h1 ih=>exact .agg cs vs hs ih h1
 | tuple cs vs hs _ ih=>exact .tuple cs vs hs ih
 | raw v=>exact .raw v
 | mp b h=>exact .mp b h
 | nilm=>exact .nilm
def ZsF {r:Nat} (hS:SRel G e σ w) (hr:w.heap[r]?=some (.deferred (some []))) (hb:(∀i,i<σ.bx.length->e.β i≠r)/\e.H r=none) (hg:G.nG<=r) :
  SRel G e σ (w.putObj r (.deferred none))/\(∀x v,VRel G e σ w x v->VRel G e σ (w.putObj r (.deferred none)) x v)/\∀(e0:Env) (σ0:St) (w0:World),Later e0 σ0 w0 e σ w->w0.heap.size<=r->Later e0 σ0 w0 e σ (w.putObj r (.deferred none)):=by
 have kj:∀k,k≠r->(w.putObj r (.deferred none)).heap[k]?=w.heap[k]?:=fun k hk=>World.putObj_heap_other hk
 have ax:∀b off u,w.cell? ⟨b,off,none⟩=some u->b≠r:=fun b off u hu he=>by
  subst he;simp [World.cell?,hr] at hu
 have hc:∀b off u,w.cell? ⟨b,off,none⟩=some u->(w.putObj r (.deferred none)).cell? ⟨b,off,none⟩=some u:=fun b off u hu=>by
  have:=ax b off u hu;simpa [World.cell?,kj b this] using hu
 have ph:∀(b:Nat) (cs:Array Value) (ty:TypeId) (fz:Nat×Nat),w.heap[b]?=some (Obj.cells cs ty fz)->(w.putObj r (.deferred none)).heap[b]?=some (Obj.cells cs ty fz):=fun b cs ty fz h=>by
  have:b≠r:=fun he=>by subst he;rw [hr] at h;cases h
  rw [kj b this];exact h
 have hV:∀x v,VRel G e σ w x v->VRel G e σ (w.putObj r (.deferred none)) x v:=fun x v h=>h.world hc ph
 refine ⟨?_,hV,fun e0 σ0 w0 hL ol=>?_⟩
 ·exact {
   inj:=hS.inj
   box:=fun i x hx=>by
    have hi:=(Ti.1 hx).1;have hB:=hS.box i x hx;have bu:=kj (e.β i) (hb.1 i hi)
    cases x with
    | cells t cs =>
     obtain ⟨vs,g1,g2,g3⟩:=hB;exact ⟨vs,bu.trans g1,g2,fun k y u hy hu=>⟨hV _ _ (g3 k y u hy hu).1,(g3 k y u hy hu).2⟩⟩
    | iter s p=>exact bu.trans hB
    | loop st pd r=>exact bu.trans hB
    | dmap m=>exact hB.dmapTo bu fun d v hv=>by have q:=hV _ _ (VRel.d (G:=G) d v hv);cases q;assumption
    | smap el m fo =>
     have:=hB.smapTo bu id (fun _=>rfl) (fun _=>rfl) (fun _ _ _ _ hv=>hV _ _ hv) fun b q hq _=>⟨hq,kj b fun he=>by rw [he,hb.2] at hq;cases hq⟩
     rwa [show (fo.map fun kv=>(kv.1,id kv.2))=fo by cases fo <;> rfl] at this
    | map cs bn ck=>exact hB.mapTo bu rfl fun i x y hx hy=>by rw [hx] at hy;cases hy;exact ⟨fun v hv=>hV _ _ hv,fun d hd=>hd⟩
   low:=hS.low
   tkn:=hS.tkn
   own:=fun t ht p hp=>by
    obtain ⟨q1,q2,cs,ty,fz,q3⟩:=hS.own t ht p hp;exact ⟨q1,q2,cs,ty,fz,ph _ _ _ _ q3⟩
   dis:=hS.dis
   xlt:=fun b off hx=>by rw [World.putObj_size];exact hS.xlt b off hx
   hid:=fun b q hq=>by rw [World.putObj_size];exact hS.hid b q hq
   xown:=hS.xown
   glob:=fun b zt=>(kj b oM).trans (hS.glob b zt)
   big:=by rw [World.putObj_size];exact hS.big }
 exact {
  len:=hL.len
  beta:=hL.beta
  X:=hL.X
  pres:=fun b off u hu ho=>let ⟨h1,h2⟩:=hL.pres b off u hu ho;⟨h1,hc b off u h2⟩
  blocks:=fun b aa hn ht hh=>(kj b oM).trans (hL.blocks b aa hn ht hh)
  fhid:=hL.fhid
  size:=by rw [World.putObj_size];exact hL.size
  os:=hL.os
  tape:=hL.tape
  output:=hL.output
  fresh:=hL.fresh
  ftok:=hL.ftok }
def Ud {fn:Func} {R:Ending->World->Prop} {u:FrameMode} {e0:Env} {σ0:St} {w0:World} (hu:u≠.run):∀(rs:List Nat) {w:World},rs.Nodup->(∀r,r∈rs->w0.heap.size<=r/\w.heap[r]?=some (.deferred (some []))/\(∀i,i<σ.bx.length->e.β i≠r)/\e.H r=none) ->
  G.nG<=w0.heap.size->SRel G e σ w->FRel G e σ w f tm->Later e0 σ0 w0 e σ w->(∀pv v,VRel G e σ w pv v->∀w',SRel G e σ w'->FRel G e σ w' f tm->Later e0 σ0 w0 e σ w'->VRel G e σ w' pv v->True) ->
  (∀w',(∀x v,VRel G e σ w x v->VRel G e σ w' x v)->SRel G e σ w'->FRel G e σ w' f tm->Later e0 σ0 w0 e σ w'->LeavesIn (fw none) n G.P fn tm R [] u w')->LeavesInM (fw none) n G.P fn tm R (rs.map JW) u w
 | [],w,_,_,_,hS,hF,hL,_,d7=>by
  simp only [TQ,LeavesInM];exact d7 w (fun _ _ h=>h) hS hF hL
 | r::rs,w,iv,n9,hG,hS,hF,hL,_,d7=>by
  obtain ⟨h1,h2,h3⟩:=n9 r sM;obtain ⟨hS',hV,ik⟩:=ZsF hS h2 h3 (TT hG h1);simp only [TF,LeavesInM];refine ⟨hu,.inl ⟨r,_,rfl,run_takeDeferred h2,?_⟩⟩;refine Ud hu rs (List.nodup_cons.1 iv).2 (fun q hq=>?_) hG hS' (fun i=>hV _ _ (hF i)) (ik _ _ _ hL h1) (fun _ _ _ _ _ _ _ _=>trivial) (fun w' hV'=>d7 w' fun x v h=>hV' x v (hV x v h));obtain ⟨g1,g2,g3⟩:=n9 q (Tx _ hq);have ah:q≠r:=fun e=>(List.nodup_cons.1 iv).1 (e ▸ hq)
  exact ⟨g1,(World.putObj_heap_other ah).trans g2,g3⟩
def Zc3 (az:G.P.follows .mixedOrders=true) {g:FuncId} {fn:Func} {c:Code} (hC:CxOK G C none e σ w) (hM:CxMono C.calm) (hf:G.P.funcs[g]?=some fn) (hb:fn.body=some c) (ao:ZE fn.ntmps c=true)
  {args:List PV} {Q:PQ} {K:PEnd->St->Prop} (hlen:args.length<=fn.ntmps) (h:W C c Q (Zb3 0 args) σ)
  (hQ:∀(pe:PExit) (f:Frame) (σ':St),Q pe f σ'->match pe with
   | .normal | .ret=>pres C.T f σ'.bx fn.results.toList fun vs=>∀(e':Env) (w':World) (v:Value),SRel G e' σ' w'->VRel G e' σ' w' (V7 vs) v->Later e σ w e' σ' w'->YB G e σ w K (.returned v) w'
   | .panic p=>∀(e':Env) (w':World) (v:Value),SRel G e' σ' w'->VRel G e' σ' w' p v->Later e σ w e' σ' w'->YB G e σ w K (.panicked [{ v:=v,recovered:=false }]) w'
   | _=>False)
  {vs:Array Value} (hS:SRel G e σ w) (ac:ArgsRel G e σ w args vs):CallsIn (fw none) n G.P g vs w (YB G e σ w K):=by
 have hsz:vs.size=args.length:=ac.1;have hF:FRel G e σ w (Zb3 0 args) (vs++Array.replicate (fn.ntmps - vs.size) undef):=J3 args 0 fun k x hx=>by
  exact mq34
 have hw:=Zc2 (n:=n) (ro:=none) (ds:=(w.heap.size,[],false)) az c hC hM (fun h=>by cases h) ao [] #[] (Y2 c) _ (a:={ tmps:=vs++Array.replicate (fn.ntmps - vs.size) undef,defers:=[] }) hS hF (Later.refl e σ w) sO (Marks.nil e σ (Tu _)) (fun i hi=>by cases hi) h;refine callsIn_of_wp_marks hf hb trivial (wpIn_mono hw fun x a' w' hp=>?_);obtain ⟨pe,f',e',σ',hq,hx,h1,h2,h3,h4,⟨_,rs,h5,_,h5n,h5r⟩,h6⟩:=hp;have h5:a'.defers=rs.map JW:=by rw [h5];exact T1 _
 have iq:=hQ pe f' σ' hq;have n9:∀r,r∈rs->w.heap.size<=r/\w'.heap[r]?=some (.deferred (some []))/\(∀i,i<σ'.bx.length->e'.β i≠r)/\e'.H r=none:=fun r hr=>let ⟨g1,g2,g3,_,g4⟩:=h5r r hr;⟨g1,g2,g3,g4⟩
 have ends:∀(iq:pres C.T f' σ'.bx fn.results.toList fun vs=>∀(e':Env) (w':World) (v:Value),SRel G e' σ' w'->VRel G e' σ' w' (V7 vs) v->Later e σ w e' σ' w'->YB G e σ w K (.returned v) w'),LeavesInM (fw none) n G.P fn a'.tmps (YB G e σ w K) a'.defers .returning w':=fun iq=>by
  rw [h5];refine Ud sM rs h5n n9 hS.big h1 h2 h3 (fun _ _ _ _ _ _ _ _=>trivial) fun w2 _ k1 k2 k3=>?_
  obtain ⟨pvs,v,hl,hr,hv⟩:=X4 hC.tab k1 k2 iq;exact ⟨v,hr,hl e' w2 v k1 hv k3⟩
 cases pe with
 | normal=>obtain rfl:x=.normal:=hx;exact ends iq
 | ret=>obtain rfl:x=.ret:=hx;exact ends iq
 | panic p =>
  obtain ⟨v,rfl,hv⟩:=hx;show LeavesInM (fw none) n G.P fn a'.tmps (YB G e σ w K) a'.defers (.panicking _) w';rw [h5];refine Ud sM rs h5n n9 hS.big h1 h2 h3 (fun _ _ _ _ _ _ _ _=>trivial) fun w2 hV k1 k2 k3=>?_
  exact iq e' w2 v k1 (hV _ _ hv) k3
 | exit id=>exact iq.elim
 | goto l=>exact iq.elim
def Ue (az:G.P.follows .mixedOrders=true) {g:FuncId} {fn:Func} {c:Code} (hC:CxOK G C none e σ w) (hM:CxMono C.calm) (hf:G.P.funcs[g]?=some fn) (hb:fn.body=some c) (ao:ZE fn.ntmps c=true)
  {ag:Bool} {keep:Nat} {own:Bool} {args:List PV} {R:PEnd->St->Prop} (hk:σ.bx.length<=keep) (hlen:args.length<=fn.ntmps) (h:WFG ag C fn keep own args σ R) {vs:Array Value} (hS:SRel G e σ w) (ac:ArgsRel G e σ w args vs) :
  CallsIn (fw none) n G.P g vs w (YB G e σ w R):=by
 have xd:YP fn=c:=by simp [YP,hb]
 unfold WFG at h
 rw [xd] at h;have presM:∀{T:Tab} {f:Frame} {bx:List Box} {l:List ResultVar} {K K':List PV->Prop},(∀vs,K vs->K' vs)->pres T f bx l K->pres T f bx l K':=by
  intro T f bx l
  induction l with
  | nil=>exact fun hK h=>hK _ h
  | cons r l ih =>
  intro K K' hK h
  exact mq82
 refine Zc3 az hC hM hf hb ao hlen h (fun pe f' σ' hq=>?_) hS ac;have fin:∀{pv:PV} {p:PV->PEnd} {en:Value->Ending},(∀(pv:PV) (e:Env) (σ:St) (w:World) v,VRel G e σ w pv v->ZoY G e σ w (p pv) (en v))->(JT ag keep own pv σ' fun v σ''=>R (p v) σ'')->∀(e':Env) (w':World) (v:Value),SRel G e' σ' w'->VRel G e' σ' w' pv v->Later e σ w e' σ' w'->YB G e σ w R (en v) w':=fun {pv p en} hpe hl e' w' v hS' hv hL=>by
  obtain ⟨pv',σ'',e'',hK,hv',abq,abr⟩:=Wn hS' hL hk hv hl;exact ⟨p pv',σ'',e'',hK,hpe _ _ _ _ _ hv',abq,abr⟩
 cases pe with
 | normal=>exact presM (fun vs hl=>fin (p:=.ret) (en:=.returned) (fun _ _ _ _ v h=>⟨v,rfl,h⟩) hl) hq
 | ret=>exact presM (fun vs hl=>fin (p:=.ret) (en:=.returned) (fun _ _ _ _ v h=>⟨v,rfl,h⟩) hl) hq
 | panic p=>exact fin (p:=.panic) (en:=fun v=>.panicked [{ v:=v,recovered:=false }]) (fun _ _ _ _ v h=>⟨v,rfl,h⟩) hq
 | exit id=>exact hq.elim
 | goto l=>exact hq.elim
end
end Go.PM
end

section
namespace Go.PM
mutual
def ZvS:PV->List Nat->List Nat
 | .ptr b _,acc=>match Zej b acc with | true=>acc | false=>acc++[b]
 | .asl b _ _,acc=>match Zej b acc with | true=>acc | false=>acc++[b]
 | .mp b,acc=>match Zej b acc with | true=>acc | false=>acc++[b]
 | .func _ a c,acc=>ZaU c (ZaU a acc)
 | .iface _ v,acc=>ZvS v acc
 | .agg cs,acc=>ZaU cs acc
 | .tuple vs,acc=>ZaU vs acc
 | _,acc=>acc
def ZaU:List PV->List Nat->List Nat
 | [],acc=>acc
 | v::l,acc=>ZaU l (ZvS v acc)
end
def J4 (bx:List Box):Nat->Nat->List Nat->List Nat
 | 0,_,acc=>acc
 | n+1,i,acc=>match acc[i]? with
  | none=>acc
  | some b=>match bx[b]? with
   | some (.cells _ cs)=>J4 bx n (i+1) (ZaU cs acc)
   | some (.map cs _ _)=>J4 bx n (i+1) (ZaU cs acc)
   | _=>J4 bx n (i+1) acc
def Zne:List PV->List Nat->(List Nat->Prop)->Prop
 | [],acc,K=>K acc
 | v::l,acc,K=>ZcC (ZvS v acc) fun acc=>Zne l acc K
def Ze8 (bx:List Box):Nat->Nat->List Nat->(List Nat->Prop)->Prop
 | 0,_,acc,K=>K acc
 | n+1,i,acc,K=>match acc[i]? with
  | none=>K acc
  | some b=>match bx[b]? with
   | some (.cells _ cs)=>Zne cs acc fun acc=>Ze8 bx n (i+1) acc K
   | some (.map cs _ _)=>Zne cs acc fun acc=>Ze8 bx n (i+1) acc K
   | _=>Ze8 bx n (i+1) acc K
def J5 {K:List Nat->Prop}:∀(l:List PV) (acc:List Nat),Zne l acc K=K (ZaU l acc)
 | [],_=>rfl
 | v::l,acc=>by simp only [Zne,ZaU,Wk,J5 l]
def J6 {bx:List Box} {K:List Nat->Prop}:∀(n i:Nat) (acc:List Nat),Ze8 bx n i acc K=K (J4 bx n i acc)
 | 0,_,_=>rfl
 | n+1,i,acc=>by
  unfold Ze8 J4
  split
  ·rfl
  split <;> simp only [J5,J6 n]
def Zc4 (b:Nat):List Nat->Nat->Option Nat
 | [],_=>none
 | x::l,i=>match Nat.beq x b with | true=>some i | false=>Zc4 b l (i+1)
def Zh4:List Nat->Bool
 | []=>true
 | x::l=>match Zej x l with | true=>false | false=>Zh4 l
mutual
def ZsG (bs:List Nat):PV->PV
 | .ptr b o=>match Zc4 b bs 0 with | some i=>.ptr i o | none=>.undef
 | .asl b o n=>match Zc4 b bs 0 with | some i=>.asl i o n | none=>.undef
 | .func f a c=>.func f (Zgm bs a) (Zgm bs c)
 | .iface t v=>.iface t (ZsG bs v)
 | .agg cs=>.agg (Zgm bs cs)
 | .tuple vs=>.tuple (Zgm bs vs)
 | .d x=>.d x
 | .undef=>.undef
 | .elem r o=>.elem r o
 | .sl t e rows=>.sl t e rows
 | .nils e=>.nils e
 | .raw v=>.raw v
 | .mp b=>match Zc4 b bs 0 with | some i=>.mp i | none=>.undef
 | .nilm=>.nilm
def Zgm (bs:List Nat):List PV->List PV
 | []=>[]
 | v::l=>ZsG bs v::Zgm bs l
end
def Znf (bs:List Nat) (bx:List Box):List Nat->(List Box->Prop)->Prop
 | [],K=>K []
 | b::l,K=>match bx[b]? with
  | some (.cells t cs)=>Znf bs bx l fun r=>K (.cells t (Zgm bs cs)::r)
  | some (.iter s p)=>Znf bs bx l fun r=>K (.iter s p::r)
  | some (.map cs bn ck)=>Znf bs bx l fun r=>K (.map (Zgm bs cs) bn ck::r)
  | some (.dmap m)=>Znf bs bx l fun r=>K (.dmap m::r)
  | some (.smap el m none)=>Znf bs bx l fun r=>K (.smap el m none::r)
  | some (.smap _ _ (some _))=>False
  | some (.loop _ _ _)=>False
  | none=>False
mutual
def Zc5 (bs:List Nat) (m L nx:Nat):PV->PV
 | .ptr i o=>match bs[i]? with | some b=>.ptr b o | none=>.ptr (L+(i - m)) o
 | .asl i o n=>match bs[i]? with | some b=>.asl b o n | none=>.asl (L+(i - m)) o n
 | .sl t e rows=>.sl (nx+t) e rows
 | .func f a c=>.func f (ZaV bs m L nx a) (ZaV bs m L nx c)
 | .iface t v=>.iface t (Zc5 bs m L nx v)
 | .agg cs=>.agg (ZaV bs m L nx cs)
 | .tuple vs=>.tuple (ZaV bs m L nx vs)
 | .d x=>.d x
 | .undef=>.undef
 | .elem r o=>.elem r o
 | .nils e=>.nils e
 | .raw v=>.raw v
 | .mp i=>match bs[i]? with | some b=>.mp b | none=>.mp (L+(i - m))
 | .nilm=>.nilm
def ZaV (bs:List Nat) (m L nx:Nat):List PV->List PV
 | []=>[]
 | v::l=>Zc5 bs m L nx v::ZaV bs m L nx l
end
def ZaW (bs:List Nat) (m L nx:Nat):Box->Box
 | .cells t cs=>.cells t (ZaV bs m L nx cs)
 | .iter s p=>.iter s p
 | .loop st pd r=>.loop st pd r
 | .map cs bn ck=>.map (ZaV bs m L nx cs) bn ck
 | .dmap c=>.dmap c
 | .smap el c fo=>.smap el c (fo.map fun kv=>(kv.1,Zc5 bs m L nx kv.2))
def Zen (bb:Box->Box):List Nat->List Box->List Box->(List Box->Prop)->Prop
 | [],xs,acc,K=>K (acc++xs.map bb)
 | b::l,x::xs,acc,K=>Zen bb l xs (acc.set b (bb x)) K
 | _::_,[],_,_=>False
def ZsH (bs:List Nat) (m L nx:Nat):PEnd->PEnd
 | .ret v=>.ret (Zc5 bs m L nx v)
 | .panic v=>.panic (Zc5 bs m L nx v)
def VA (md:Nat) (sp:Zn) (args:List PV) (σ:St) (K:PEnd->St->Prop):Prop :=
 Zne args [] fun a=>Ze8 σ.bx (σ.bx.length+1) 0 a fun bs=>ZcC bs fun bs=>match Zh4 bs with
 | true=>Znf bs σ.bx bs fun cb=>ZoF md bs.length (Zgm bs args) σ.tk 0 fun args' tk k=>ZcF bs.length bs.length cb tk k fun cb' rest k =>
   sp args' ⟨cb',toks k,k⟩ fun pe σ3=>Zen (ZaW bs bs.length σ.bx.length σ.nx) bs σ3.bx σ.bx fun bx =>
    K (ZsH bs bs.length σ.bx.length σ.nx pe) ⟨bx,rest++σ3.tk.map (σ.nx+·),σ.nx+σ3.nx⟩
 | false=>False
abbrev ZjY (sp:Zn) (args:List PV) (σ:St) (K:PEnd->St->Prop):Prop:=VA 0 sp args σ K
def Zc6:∀{l:List Nat},Zh4 l=true->∀(i j b:Nat),l[i]?=some b->l[j]?=some b->i=j
 | [],_,i,j,b,h,_=>by simp at h
 | x::l,h,i,j,b,hi,hj=>by
  simp only [Zh4] at h;split at h
  ·cases h
  rename_i hm
  have hx:∀k:Nat,l[k]?≠some x:=fun k hk=>by
   have:=(Yq x l).2 (TX hk);rw [this] at hm;cases hm
  cases i with
  | zero =>
   cases j with
   | zero=>rfl
   | succ j=>simp at hi hj;subst hi;exact absurd hj (hx j)
  | succ i =>
  cases j with
  | zero=>simp at hi hj;subst hj;exact absurd hi (hx i)
  | succ j=>simp at hi hj;rw [Zc6 h i j b hi hj]
def Ze9 {b:Nat}:∀{l:List Nat} {i j:Nat},Zc4 b l i=some j->i<=j/\l[j - i]?=some b
 | [],i,j,h=>by simp [Zc4] at h
 | x::l,i,j,h=>by
  simp only [Zc4] at h;split at h
  ·rename_i hb;cases h;simp [Tl hb]
  obtain ⟨h1,h2⟩:=Ze9 h;refine ⟨oM,?_⟩;rw [show j - i=(j - (i+1))+1 by omega];simpa using h2
def WI {bs:List Nat}:∀{l:List PV} (i:Nat) (y:PV),(Zgm bs l)[i]?=some y->∃x,l[i]?=some x/\y=ZsG bs x
 | [],i,y,h=>by simp [Zgm] at h
 | x::l,i,y,h=>by
  cases i with
  | zero=>simp [Zgm] at h;exact ⟨x,sM,h.symm⟩
  | succ i=>simp only [Zgm,TN] at h;obtain ⟨z,h1,h2⟩:=WI i y h;exact ⟨z,by simpa using h1,h2⟩
def YC {bs:List Nat}:∀{l:List PV},(Zgm bs l).length=l.length
 | []=>rfl
 | x::l=>by simp [Zgm,YC]
def Wo {bs:List Nat} {m L nx:Nat}:∀{l:List PV} (i:Nat) (y:PV),(ZaV bs m L nx l)[i]?=some y->∃x,l[i]?=some x/\y=Zc5 bs m L nx x
 | [],i,y,h=>by simp [ZaV] at h
 | x::l,i,y,h=>by
  cases i with
  | zero=>simp [ZaV] at h;exact ⟨x,sM,h.symm⟩
  | succ i=>simp only [ZaV,TN] at h;obtain ⟨z,h1,h2⟩:=Wo i y h;exact ⟨z,by simpa using h1,h2⟩
def YD {bs:List Nat} {m L nx:Nat}:∀{l:List PV},(ZaV bs m L nx l).length=l.length
 | []=>rfl
 | x::l=>by simp [ZaV,YD]
def ZuX (bs:List Nat):Box->Box
 | .cells t cs=>.cells t (Zgm bs cs)
 | .iter s p=>.iter s p
 | .loop st pd r=>.loop st pd r
 | .map cs bn ck=>.map (Zgm bs cs) bn ck
 | .dmap m=>.dmap m
 | .smap el m fo=>.smap el m (fo.map fun kv=>(kv.1,ZsG bs kv.2))
def Zpm {bs:List Nat} {bx:List Box}:∀{l:List Nat} {K:List Box->Prop},Znf bs bx l K->∃cb,K cb/\cb.length=l.length/\∀(j b:Nat),l[j]?=some b->∃x,bx[b]?=some x/\cb[j]?=some (ZuX bs x)
 | [],K,h=>⟨[],h,rfl,fun j b hj=>by simp at hj⟩
 | b::l,K,h=>by
  simp only [Znf] at h;split at h
  all_goals first
   | exact h.elim
   | (rename_i hb
      obtain ⟨cb,h1,h2,h3⟩:=Zpm h;refine ⟨_,h1,by simp [h2],fun j b' hj=>?_⟩
      cases j with
      | zero=>simp at hj;subst hj;exact ⟨_,hb,rfl⟩
      | succ j=>exact h3 j b' (by simpa using hj))
def Zlq {bb:Box->Box}:∀{bs:List Nat} {xs acc:List Box} {K:List Box->Prop},(∀(i j b:Nat),bs[i]?=some b->bs[j]?=some b->i=j)->(∀b,b∈bs->b<acc.length)->Zen bb bs xs acc K ->
  ∃r,K r/\bs.length<=xs.length/\r.length=acc.length+(xs.length - bs.length)/\(∀(j b:Nat) (x:Box),bs[j]?=some b->xs[j]?=some x->r[b]?=some (bb x))/\(∀i,i<acc.length->i∉bs->r[i]?=acc[i]?) /\
   ∀i,acc.length<=i->r[i]?=xs[bs.length+(i - acc.length)]?.map bb
 | [],xs,acc,K,hn,hl,h=>⟨_,h,sM,sM,fun j b x hj=>by simp at hj,fun i hi _=>by rw [TJ hi],fun i hi=>by rw [TU hi,Th];simp⟩
 | b::bs,x::xs,acc,K,hn,hl,h=>by
  simp only [Zen] at h;have aa:b<acc.length:=hl b sM;obtain ⟨r,h1,h2,h3,h4,h5,h6⟩:=Zlq (bs:=bs) (fun i j c hi hj=>by have:=hn (i+1) (j+1) c (by simpa using hi) (by simpa using hj);omega) (fun c hc=>by rw [SC];exact hl c (Tx _ hc)) h;have pz:b∉bs:=fun hm=>by
   obtain ⟨k,hk,zl⟩:=Sg hm;have:=hn 0 (k+1) b sM (by simp [Ta hk,zl]);omega
  refine ⟨r,h1,sO,by rw [h3,SC];simp,fun j c y hj hy=>?_,fun i hi uc=>?_,fun i hi=>?_⟩
  ·cases j with
   | zero =>
    simp only [Sz,Option.some.injEq] at hj hy;subst hj;subst hy;rw [h5 b (by rw [SC];exact aa) pz,SB aa]
   | succ j=>exact h4 j c y (by simpa using hj) (by simpa using hy)
  ·have rh:b≠i:=fun e=>uc (e ▸ by simp)
   rw [h5 i (by rw [SC];exact hi) (fun hm=>uc (Tx _ hm)),SJ rh]
  rw [h6 i (by rw [SC];exact hi),SC,Te,show bs.length+1+(i - acc.length)=bs.length+(i - acc.length)+1 by omega,TN]
 | b::bs,[],acc,K,hn,hl,h=>h.elim
section
variable {G:GE} {e:Env} {σ:St} {w:World}
def Zgn (e:Env) (σ:St) (bs rest:List Nat) (b off:Nat):Prop :=
 e.X b off\/(∃i,i<σ.bx.length/\i∉bs/\e.β i=b)\/(∃t,t∈rest/\∃p,e.M t=some p/\p.1=b/\p.2<=off)\/∃q,e.H b=some q/\q.2<=off/\∀i,i∈bs->e.β i≠q.1.1
open Classical in
def Zng (e:Env) (bs:List Nat) (b:Nat):Option ((Nat×List UInt8)×Nat):=match e.H b with
 | none=>none
 | some q=>if ∃i,i∈bs/\e.β i=q.1.1 then some q else none
def handH_iff {e:Env} {bs:List Nat} {b:Nat} {q:(Nat×List UInt8)×Nat}:Zng e bs b=some q↔e.H b=some q/\∃i,i∈bs/\e.β i=q.1.1:=by
 unfold Zng
 cases h:e.H b with
 | none=>simp
 | some r =>
 simp only;split
 ·rename_i hx
  constructor
  ·intro g;cases g;exact ⟨rfl,hx⟩
  rintro ⟨g,_⟩;exact g
 rename_i hx
 constructor
 ·intro g;cases g
 rintro ⟨g,g2⟩;cases g;exact absurd g2 hx
def Env.handed (e:Env) (σ:St) (bs rest:List Nat):Env:=⟨fun j=>e.β (bs.getD j 0),e.M,Zgn e σ bs rest,Zng e bs⟩
structure Hand (σ:St) (bs rest pass:List Nat) (cb:List Box):Prop where
 nodup:∀(i j b:Nat),bs[i]?=some b->bs[j]?=some b->i=j
 len:cb.length=bs.length
 get:∀(j b:Nat),bs[j]?=some b->∃x,σ.bx[b]?=some x/\cb[j]?=some (ZuX bs x)
 restIn:∀t,t∈rest->t∈σ.tk
 passIn:∀t,t∈pass->t∈σ.tk/\t∉rest
variable {bs rest pass:List Nat} {cb:List Box}
def Hand.lt (h:Hand σ bs rest pass cb) {b:Nat} (hb:b∈bs):b<σ.bx.length:=by
 obtain ⟨k,hk,he⟩:=Sg hb;obtain ⟨x,hx,_⟩:=h.get k b (by rw [Ta hk,he]);exact (Ti.1 hx).1
def Hand.at (h:Hand σ bs rest pass cb) {j:Nat} (hj:j<bs.length):∃b,bs[j]?=some b/\b∈bs/\(e.handed σ bs rest).β j=e.β b:=by
 have:=Ta hj;exact ⟨bs[j],this,TC hj,by simp [Env.handed,this]⟩
def Zpn (hS:SRel G e σ w) (h:Hand σ bs rest pass cb) {b off:Nat} (ho:okc e σ b off):okc (e.handed σ bs rest) ⟨cb,pass,σ.nx⟩ b off:=by
 refine ⟨fun hX=>?_,fun j hj=>?_,fun t ht p hp s4=>ho.2.2.1 t (h.passIn t ht).1 p hp s4,fun q hq=>ho.2.2.2 q (handH_iff.1 hq).1⟩
 ·rcases hX with hX | ⟨i,h1,_,h2⟩ | ⟨t,h1,p,h2,h3,h4⟩ | ⟨q,h1,h2,_⟩
  ·exact ho.1 hX
  ·exact ho.2.1 i h1 h2
  ·have:=ho.2.2.1 t (h.restIn t h1) p h2 h3;omega
  have:=ho.2.2.2 q h1;omega
 obtain ⟨b',h1,h2,h3⟩:=h.at (e:=e) (show j<bs.length by rw [<- h.len];exact hj);rw [h3];exact ho.2.1 b' (h.lt h2)
def VRel.ren (hS:SRel G e σ w) (h:Hand σ bs rest pass cb) {x:PV} {v:Value} (hv:VRel G e σ w x v):VRel G (e.handed σ bs rest) ⟨cb,pass,σ.nx⟩ w (ZsG bs x) v:=by
 have hd:∀{x:D} {v:Value},DRel (okc e σ) w x v->DRel (okc (e.handed σ bs rest) ⟨cb,pass,σ.nx⟩) w x v:=fun hd=>hd.mono fun b off u hu ho=>⟨Zpn hS h ho,hu⟩
 have at':∀b i,Zc4 b bs 0=some i->(e.handed σ bs rest).β i=e.β b/\i<cb.length:=fun b i hi=>by
  obtain ⟨_,h2⟩:=Ze9 hi;simp only [Nat.sub_zero] at h2;exact ⟨by simp [Env.handed,h2],by rw [h.len];exact (Ti.1 h2).1⟩
 induction hv with
 | d x v hx=>exact .d _ _ (hd hx)
 | undef v=>exact .undef _
 | ptr b off hb =>
  simp only [ZsG]
  cases hi:Zc4 b bs 0 with
  | none=>exact .undef _
  | some i =>
  obtain ⟨h1,h2⟩:=at' b i hi;rw [<- h1];exact .ptr i off h2
 | asl b off n hb =>
  simp only [ZsG]
  cases hi:Zc4 b bs 0 with
  | none=>exact .undef _
  | some i =>
  obtain ⟨h1,h2⟩:=at' b i hi;rw [<- h1];exact .asl i off n h2
 | mp b hb =>
  simp only [ZsG]
  cases hi:Zc4 b bs 0 with
  | none=>exact .undef _
  | some i =>
  obtain ⟨h1,h2⟩:=at' b i hi;rw [<- h1];exact .mp i h2
 | nilm=>exact .nilm
 | elem r off b o u hc ho hu=>exact .elem r off b o u hc (fun j hj=>Zpn hS h (ho j hj)) (fun j x hx=>hd (hu j x hx))
 | sl t el rows v hn oe ht=>exact .sl t el rows v hn (hd oe) fun hp=>ht (h.passIn t hp).1
 | nils el=>exact .nils el
 | func f a c va vc ha hc _ _ ih1 ih2 =>
  refine .func f _ _ va vc (by rw [YC];exact ha) (by rw [YC];exact hc) (fun i y u hy hu=>?_) (fun i y u hy hu=>?_)
  ·obtain ⟨x,hx,rfl⟩:=WI i y hy;exact ih1 i x u hx hu
  obtain ⟨x,hx,rfl⟩:=WI i y hy;exact ih2 i x u hx hu
 | iface t x v _ ih=>exact .iface t _ v ih
 | agg cs vs hs _ h1 ih=>exact .agg _ vs (by rw [YC];exact hs) (fun i y u hy hu=>by obtain ⟨x,hx,rfl⟩:=WI i y hy;exact ih i x u hx hu) h1
 | tuple cs vs hs _ ih=>exact .tuple _ vs (by rw [YC];exact hs) (fun i y u hy hu=>by obtain ⟨x,hx,rfl⟩:=WI i y hy;exact ih i x u hx hu)
 | raw v=>exact .raw _
def SRel.ren (hS:SRel G e σ w) (h:Hand σ bs rest pass cb):SRel G (e.handed σ bs rest) ⟨cb,pass,σ.nx⟩ w where
 inj:=fun i j hi hj he=>by
  obtain ⟨b,h1,h2,h3⟩:=h.at (e:=e) (show i<bs.length by rw [<- h.len];exact hi);obtain ⟨b',n7,dj,ek⟩:=h.at (e:=e) (show j<bs.length by rw [<- h.len];exact hj);rw [h3,ek] at he;have:=hS.inj b b' (h.lt h2) (h.lt dj) he;subst this;exact h.nodup i j b h1 n7
 box:=fun j y hy=>by
  have hj:=(Ti.1 hy).1;obtain ⟨b,h1,h2,h3⟩:=h.at (e:=e) (show j<bs.length by rw [<- h.len];exact hj);obtain ⟨x,hx,zg⟩:=h.get j b h1;simp only at hy;rw [zg] at hy
  cases hy
  have hB:=hS.box b x hx;rw [h3]
  cases x with
  | cells t cs =>
   obtain ⟨vs,g1,g2,g3⟩:=hB;refine ⟨vs,g1,by rw [YC];exact g2,fun i y u hy hu=>?_⟩;obtain ⟨z,hz,rfl⟩:=WI i y hy;exact ⟨(g3 i z u hz hu).1.ren hS h,(g3 i z u hz hu).2⟩
  | iter s p=>exact hB
  | loop st pd r=>exact hB
  | dmap m=>exact hB.dmapTo rfl fun d v hv=>by have q:VRel G _ _ _ (.d d) v:=(VRel.d (G:=G) d v hv).ren hS h;cases q;assumption
  | smap el m fo=>exact hB.smapTo rfl (ZsG bs) (fun _=>rfl) (fun _=>rfl) (fun _ _ _ _ hv=>hv.ren hS h) fun b' q hq ni=>⟨handH_iff.2 ⟨hq,b,h2,ni.symm⟩,rfl⟩
  | map cs bn ck=>exact hB.mapTo rfl YC fun i x y hx hy=>by obtain ⟨z,hz,rfl⟩:=WI i y hy;rw [hx] at hz;cases hz;exact ⟨fun v hv=>hv.ren hS h,fun d hd=>by subst hd;rfl⟩
 low:=fun j hj=>by
  obtain ⟨b,h1,h2,h3⟩:=h.at (e:=e) (show j<bs.length by rw [<- h.len];exact hj);rw [h3];exact hS.low b (h.lt h2)
 tkn:=fun t ht=>hS.tkn t (h.passIn t ht).1
 own:=fun t ht p hp=>by
  obtain ⟨h1,h2,h3⟩:=hS.own t (h.passIn t ht).1 p hp;refine ⟨h1,fun j hj=>?_,h3⟩;obtain ⟨b,g1,g2,g3⟩:=h.at (e:=e) (show j<bs.length by rw [<- h.len];exact hj);rw [g3];exact h2 b (h.lt g2)
 dis:=fun t t' ht kq=>hS.dis t t' (h.passIn t ht).1 (h.passIn t' kq).1
 xlt:=fun b off hX=>by
  rcases hX with hX | ⟨i,h1,_,h2⟩ | ⟨t,h1,p,h2,h3,h4⟩ | ⟨q,h1,_⟩
  ·exact hS.xlt b off hX
  ·rw [<- h2];exact hS.lt h1
  ·obtain ⟨_,_,cs,ty,fz,hh⟩:=hS.own t (h.restIn t h1) p h2;rw [<- h3];exact (Tp.1 hh).1
  exact (hS.hid _ _ h1).2.1
 xown:=fun t ht p hp off ic hX=>by
  rcases hX with hX | ⟨i,h1,_,h2⟩ | ⟨t',h1,p',h2,h3,h4⟩ | ⟨q,h1,_⟩
  ·exact hS.xown t (h.passIn t ht).1 p hp off ic hX
  ·exact (hS.own t (h.passIn t ht).1 p hp).2.1 i h1 h2
  ·exact hS.dis t' t (h.restIn t' h1) (h.passIn t ht).1 (fun e=>(h.passIn t ht).2 (e ▸ h1)) p' p h2 hp h3
  exact (hS.hid _ _ h1).2.2.2.1 t (h.passIn t ht).1 p hp rfl
 hid:=fun b q hq=>by
  obtain ⟨g0,i0,gi,gb⟩:=handH_iff.1 hq;obtain ⟨k1,k2,k3,k4,k5⟩:=hS.hid b q g0;refine ⟨k1,k2,fun j hj=>?_,fun t ht=>k4 t (h.passIn t ht).1,fun off ic hX=>?_⟩
  ·obtain ⟨b',g1,g2,g3⟩:=h.at (e:=e) (show j<bs.length by rw [<- h.len];exact hj);rw [g3];exact k3 b' (h.lt g2)
  rcases hX with hX | ⟨i,h1,_,h2⟩ | ⟨t',h1,p',h2,h3,h4⟩ | ⟨q',h1,_,h3⟩
  ·exact k5 off ic hX
  ·exact k3 i h1 h2
  ·exact k4 t' (h.restIn t' h1) p' h2 h3
  rw [g0] at h1;cases h1;exact h3 i0 gi gb
 glob:=hS.glob
 big:=hS.big
open Classical in
def Zh5 (e:Env) (bs:List Nat) (e3:Env) (b:Nat):Option ((Nat×List UInt8)×Nat):=match e3.H b with
 | some q=>some q
 | none=>match e.H b with
  | none=>none
  | some q=>if ∃i,i∈bs/\e.β i=q.1.1 then none else some q
def ZaX {e:Env} {bs:List Nat} {e3:Env} {b:Nat} {q:(Nat×List UInt8)×Nat} (h:Zh5 e bs e3 b=some q):e3.H b=some q\/(e3.H b=none/\e.H b=some q/\∀i,i∈bs->e.β i≠q.1.1):=by
 unfold Zh5 at h
 split at h
 ·rename_i r hr;cases h;exact .inl hr
 rename_i hr
 split at h
 ·cases h
 rename_i r he
 split at h
 ·cases h
 rename_i hx;cases h;exact .inr ⟨hr,he,fun i hi hb=>hx ⟨i,hi,hb⟩⟩
def Zpo {e:Env} {bs:List Nat} {e3:Env} {b:Nat} {q:(Nat×List UInt8)×Nat} (h:e3.H b=some q):Zh5 e bs e3 b=some q:=by
 unfold Zh5;rw [h]
def Zpp {e:Env} {bs:List Nat} {e3:Env} {b:Nat} {q:(Nat×List UInt8)×Nat} (h:e3.H b=none) (h2:e.H b=some q) (h3:∀i,i∈bs->e.β i≠q.1.1):Zh5 e bs e3 b=some q:=by
 unfold Zh5;rw [h,h2];exact Tf fun ⟨i,hi,hb⟩=>h3 i hi hb
def Env.back (e:Env) (bs:List Nat) (L m nx:Nat) (e3:Env):Env:=⟨fun i=>if i<L then e.β i else e3.β (m+(i - L)),fun t=>if t<nx then e.M t else e3.M (t - nx),e.X,Zh5 e bs e3⟩
structure Handed (e:Env) (σ:St) (w:World) (bs rest:List Nat) (e2:Env) (σ2:St):Prop where
 nodup:∀(i j b:Nat),bs[i]?=some b->bs[j]?=some b->i=j
 lt:∀b,b∈bs->b<σ.bx.length
 len:σ2.bx.length=bs.length
 beta:∀(j b:Nat),bs[j]?=some b->e2.β j=e.β b
 X:e2.X=Zgn e σ bs rest
 H:e2.H=Zng e bs
 okc:∀b off,okc e σ b off->okc e2 σ2 b off
 tok:∀t,t∈σ2.tk->∀p,e2.M t=some p->∃t0,t0∈σ.tk/\t0∉rest/\e.M t0=some p
 restIn:∀t,t∈rest->t∈σ.tk
def Handed.hnone {e2:Env} {σ2:St} (h:Handed e σ w bs rest e2 σ2) {b:Nat} (hb:e.H b=none):e2.H b=none:=by
 rw [h.H]
 cases hq:Zng e bs b with
 | none=>rfl
 | some q=>rw [(handH_iff.1 hq).1] at hb;cases hb
def SRel.tokH (hS:SRel G e σ w) {t:Nat} (ht:t∈σ.tk) {p:Nat×Nat} (hp:e.M t=some p):e.H p.1=none:=by
 cases hq:e.H p.1 with
 | none=>rfl
 | some q=>exact absurd rfl ((hS.hid _ _ hq).2.2.2.1 t ht p hp)
variable {e2 e3:Env} {σ2 σ3:St} {w':World} {bx:List Box}
structure Backed (σ:St) (bs:List Nat) (σ3:St) (bx:List Box):Prop where
 le:bs.length<=σ3.bx.length
 len:bx.length=σ.bx.length+(σ3.bx.length - bs.length)
 some:∀(j b:Nat) (x:Box),bs[j]?=some b->σ3.bx[j]?=some x->bx[b]?=some (ZaW bs bs.length σ.bx.length σ.nx x)
 old:∀i,i<σ.bx.length->i∉bs->bx[i]?=σ.bx[i]?
 new:∀i,σ.bx.length<=i->bx[i]?=σ3.bx[bs.length+(i - σ.bx.length)]?.map (ZaW bs bs.length σ.bx.length σ.nx)
abbrev U8 (σ:St) (rest:List Nat) (σ3:St) (bx:List Box):St:=⟨bx,rest++σ3.tk.map (σ.nx+·),σ.nx+σ3.nx⟩
def Ya {t:Nat} (hS:SRel G e σ w) (h:Handed e σ w bs rest e2 σ2) (ht:t∈(U8 σ rest σ3 bx).tk):(t∈rest/\t<σ.nx)\/∃t',t'∈σ3.tk/\t=σ.nx+t':=by
 rcases TD.1 ht with h1 | h1
 ·exact .inl ⟨h1,hS.tkn t (h.restIn t h1)⟩
 obtain ⟨t',h2,h3⟩:=Sl.1 h1;exact .inr ⟨t',h2,h3.symm⟩
def Yn {L m nx t:Nat} (h:t<nx):(e.back bs L m nx e3).M t=e.M t:=by simp [Env.back,h]
def back_M_new {L m nx t:Nat}:(e.back bs L m nx e3).M (nx+t)=e3.M t:=by
 have:¬nx+t<nx:=oM;simp [Env.back,this]
def Z5 {L m nx i:Nat} (h:i<L):(e.back bs L m nx e3).β i=e.β i:=by simp [Env.back,h]
def W8 {L m nx i:Nat} (h:L<=i):(e.back bs L m nx e3).β i=e3.β (m+(i - L)):=by
 have:¬i<L:=oM;simp [Env.back,this]
def Zgo (h:Handed e σ w bs rest e2 σ2) (hL:Later e2 σ2 w e3 σ3 w') {i:Nat} (hi:i<σ.bx.length):(∃j,j<σ2.bx.length/\bs[j]?=some i/\e3.β j=e.β i)\/(i∉bs/\∀off,e3.X (e.β i) off):=by
 by_cases hm:i∈bs
 ·obtain ⟨j,hj,he⟩:=Sg hm;have hb:bs[j]?=some i:=by rw [Ta hj,he]
  have nf:j<σ2.bx.length:=by rw [h.len];exact hj
  exact .inl ⟨j,nf,hb,(hL.beta j nf).trans (h.beta j i hb)⟩
 exact .inr ⟨hm,fun off=>hL.X _ _ (by rw [h.X];exact .inr (.inl ⟨i,hi,hm,rfl⟩))⟩
def Zgp (hS:SRel G e σ w) (h:Handed e σ w bs rest e2 σ2) (hL:Later e2 σ2 w e3 σ3 w') (hb:Backed σ bs σ3 bx) {b off:Nat} (ho:okc e3 σ3 b off) :
  okc (e.back bs σ.bx.length bs.length σ.nx e3) (U8 σ rest σ3 bx) b off:=by
 have hX:¬Zgn e σ bs rest b off:=fun hk=>ho.1 (hL.X _ _ (by rw [h.X];exact hk))
 refine ⟨fun hx=>hX (.inl hx),fun i hi=>?_,fun t ht p hp s4=>?_,fun q hq=>?_⟩
 ·by_cases aa:i<σ.bx.length
  ·rw [Z5 aa];rcases Zgo h hL aa with ⟨j,hj,_,he⟩ | ⟨_,hx⟩
   ·rw [<- he];exact ho.2.1 j (TA hj hL.len)
   intro e;rw [<- e] at ho;exact ho.1 (hx off)
  rw [W8 oM];have hlen:=hb.len;have aj:=hb.le;simp only at hi;exact ho.2.1 _ oM
 ·rcases Ya hS h ht with ⟨h1,h2⟩ | ⟨t',h1,rfl⟩
  ·rw [Yn h2] at hp;have:¬p.2<=off:=fun aj=>hX (.inr (.inr (.inl ⟨t,h1,p,hp,s4,aj⟩)))
   omega
  rw [back_M_new] at hp;exact ho.2.2.1 t' h1 p hp s4
 rcases ZaX hq with h1 | ⟨_,h1,h2⟩
 ·exact ho.2.2.2 q h1
 have:¬q.2<=off:=fun aj=>hX (.inr (.inr (.inr ⟨q,h1,aj,h2⟩)))
 omega
def VRel.back (hS:SRel G e σ w) (h:Handed e σ w bs rest e2 σ2) (hL:Later e2 σ2 w e3 σ3 w') (hb:Backed σ bs σ3 bx) {x:PV} {v:Value} (hv:VRel G e3 σ3 w' x v) :
  VRel G (e.back bs σ.bx.length bs.length σ.nx e3) (U8 σ rest σ3 bx) w' (Zc5 bs bs.length σ.bx.length σ.nx x) v:=by
 have hd:∀{x:D} {v:Value},DRel (okc e3 σ3) w' x v->DRel (okc (e.back bs σ.bx.length bs.length σ.nx e3) (U8 σ rest σ3 bx)) w' x v:=fun hd=>hd.mono fun b off u hu ho=>⟨Zgp hS h hL hb ho,hu⟩
 have bk:∀i,i<σ3.bx.length->e3.β i=(e.back bs σ.bx.length bs.length σ.nx e3).β (match bs[i]? with | some b=>b | none=>σ.bx.length+(i - bs.length))/\(match bs[i]? with | some b=>b | none=>σ.bx.length+(i - bs.length))<bx.length:=fun i hi=>by
  have hlen:=hb.len;have aj:=hb.le
  cases pi:bs[i]? with
  | some b =>
   have hj:=(Ti.1 pi).1;have aa:=h.lt b (TX pi);refine ⟨?_,by show b<bx.length;omega⟩;rw [Z5 aa];exact (hL.beta i (by rw [h.len];exact hj)).trans (h.beta i b pi)
  | none =>
  have dl:bs.length<=i:=by simpa using pi
  show e3.β i=(e.back bs σ.bx.length bs.length σ.nx e3).β (σ.bx.length+(i - bs.length))/\σ.bx.length+(i - bs.length)<bx.length;refine ⟨?_,oM⟩;rw [W8 oM];congr 1;omega
 induction hv with
 | d x v hx=>exact .d _ _ (hd hx)
 | undef v=>exact .undef _
 | ptr i off hi =>
  obtain ⟨h1,h2⟩:=bk i hi;simp only [Zc5]
  cases pi:bs[i]? <;> rw [pi] at h1 h2 <;> (rw [h1];exact .ptr _ off h2)
 | asl i off n hi =>
  obtain ⟨h1,h2⟩:=bk i hi;simp only [Zc5]
  cases pi:bs[i]? <;> rw [pi] at h1 h2 <;> (rw [h1];exact .asl _ off n h2)
 | mp i hi =>
  obtain ⟨h1,h2⟩:=bk i hi;simp only [Zc5]
  cases pi:bs[i]? <;> rw [pi] at h1 h2 <;> (rw [h1];exact .mp _ h2)
 | nilm=>exact .nilm
 | elem r off b o u hc ho hu=>exact .elem r off b o u hc (fun j hj=>Zgp hS h hL hb (ho j hj)) (fun j x hx=>hd (hu j x hx))
 | sl t el rows v hn oe ht =>
  refine .sl _ el rows v (by show σ.nx+t<σ.nx+σ3.nx;omega) (hd oe) fun hp=>?_
  rcases Ya hS h hp with ⟨_,h2⟩ | ⟨t',h1,h2⟩
  ·omega
  obtain rfl:t=t':=by omega
  rcases ht h1 with ⟨g1,g2,g3⟩ | ⟨sz,g1,g2,g3,b,off,cap,cs,ty,fz,g4,g5,g6,g7,g8,g9,g10⟩
  ·exact .inl ⟨g1,g2,back_M_new.trans g3⟩
  exact .inr ⟨sz,g1,g2,g3,b,off,cap,cs,ty,fz,g4,g5,g6,g7,g8,g9,back_M_new.trans g10⟩
 | nils el=>exact .nils el
 | func f a c va vc ha hc _ _ ih1 ih2 =>
  refine .func f _ _ va vc (by rw [YD];exact ha) (by rw [YD];exact hc) (fun i y u hy hu=>?_) (fun i y u hy hu=>?_)
  ·obtain ⟨x,hx,rfl⟩:=Wo i y hy;exact ih1 i x u hx hu
  obtain ⟨x,hx,rfl⟩:=Wo i y hy;exact ih2 i x u hx hu
 | iface t x v _ ih=>exact .iface t _ v ih
 | agg cs vs hs _ h1 ih=>exact .agg _ vs (by rw [YD];exact hs) (fun i y u hy hu=>by obtain ⟨x,hx,rfl⟩:=Wo i y hy;exact ih i x u hx hu) h1
 | tuple cs vs hs _ ih=>exact .tuple _ vs (by rw [YD];exact hs) (fun i y u hy hu=>by obtain ⟨x,hx,rfl⟩:=Wo i y hy;exact ih i x u hx hu)
 | raw v=>exact .raw _
def ZbG (hS:SRel G e σ w) (h:Handed e σ w bs rest e2 σ2) (gx:SRel G e3 σ3 w') (hL:Later e2 σ2 w e3 σ3 w') (hb:Backed σ bs σ3 bx):Stepped e σ w (e.back bs σ.bx.length bs.length σ.nx e3) (U8 σ rest σ3 bx) w' where
 len:=by show σ.bx.length<=bx.length;rw [hb.len];omega
 beta:=fun i hi=>Z5 hi
 X:=fun _ _ h=>h
 pres:=fun b off u hu ho=>by
  obtain ⟨h1,h2⟩:=hL.pres b off u hu (h.okc b off ho);exact ⟨Zgp hS h hL hb h1,h2⟩
 blocks:=fun b aa hn ht hH=>hL.blocks b aa (fun j hj=>by
   have li:j<bs.length:=by rw [<- h.len];exact hj
   have qm:=Ta li;rw [h.beta j _ qm];exact hn _ (h.lt _ (TC li))) (fun t wc p hp=>by
   obtain ⟨t0,h1,_,h2⟩:=h.tok t wc p hp;exact ht t0 h1 p h2) (h.hnone hH)
 size:=hL.size
 os:=hL.os
 tape:=hL.tape
 output:=hL.output
 fresh:=fun i h1 h2=>by
  rw [W8 h1];have hlen:=hb.len;have aj:=hb.le;have:i<bx.length:=h2;exact hL.fresh _ (by rw [h.len];omega) oM
 ftok:=fun t ht p hp=>by
  rcases Ya hS h ht with ⟨h1,h2⟩ | ⟨t',h1,rfl⟩
  ·rw [Yn h2] at hp;exact .inr (.inl ⟨t,h.restIn t h1,p,hp,rfl⟩)
  rw [back_M_new] at hp;rcases hL.ftok t' h1 p hp with h2 | ⟨t0,h3,p0,h4,h5⟩ | h2
  ·exact .inl h2
  ·obtain ⟨t1,g1,_,g2⟩:=h.tok t0 h3 p0 h4;exact .inr (.inl ⟨t1,g1,p0,g2,h5⟩)
  exact .inr (.inr fun hn=>h2 (h.hnone hn))
 fhid:=fun b hb=>by
  cases hq:Zh5 e bs e3 b with
  | none=>exact absurd hq hb
  | some q =>
  rcases ZaX hq with h1 | ⟨_,h1,_⟩
  ·rcases hL.fhid b (by rw [h1];simp) with h2 | ⟨t0,h3,p0,h4,h5⟩ | h2
   ·exact .inl h2
   ·obtain ⟨t1,g1,_,g2⟩:=h.tok t0 h3 p0 h4;exact .inr (.inl ⟨t1,g1,p0,g2,h5⟩)
   exact .inr (.inr fun hn=>h2 (h.hnone hn))
  exact .inr (.inr (by rw [h1];simp))
 nx:=Nat.le_add_right _ _
 toks:=fun t aa ht=>by
  rcases Ya hS h ht with ⟨h1,_⟩ | ⟨t',h1,rfl⟩
  ·exact ⟨h.restIn t h1,Yn aa⟩
  omega
 own:=fun t aa ht p hp abs=>by
  rcases Ya hS h ht with ⟨h1,_⟩ | ⟨t',h1,rfl⟩
  ·obtain ⟨_,pz,_⟩:=hS.own t (h.restIn t h1) p hp;refine hL.blocks p.1 abs (fun j hj=>?_) (fun t2 kp p2 j9=>?_) (h.hnone (hS.tokH (h.restIn t h1) hp))
   ·have li:j<bs.length:=by rw [<- h.len];exact hj
    have qm:=Ta li;rw [h.beta j _ qm];exact pz _ (h.lt _ (TC li))
   obtain ⟨t0,g1,g2,g3⟩:=h.tok t2 kp p2 j9;exact hS.dis t0 t g1 (h.restIn t h1) (fun e=>g2 (e ▸ h1)) p2 p g3 hp
  omega
def SRel.back (hS:SRel G e σ w) (h:Handed e σ w bs rest e2 σ2) (gx:SRel G e3 σ3 w') (hL:Later e2 σ2 w e3 σ3 w') (hb:Backed σ bs σ3 bx):SRel G (e.back bs σ.bx.length bs.length σ.nx e3) (U8 σ rest σ3 bx) w':=by
 have hst:=ZbG hS h gx hL hb;have hlen:=hb.len;have aj:=hb.le;have du:(U8 σ rest σ3 bx).bx.length=bx.length:=rfl;have gt:∀i,σ.bx.length<=i->i<bx.length->(e.back bs σ.bx.length bs.length σ.nx e3).β i=e3.β (bs.length+(i - σ.bx.length))/\bs.length+(i - σ.bx.length)<σ3.bx.length/\w.heap.size<=e3.β (bs.length+(i - σ.bx.length)):=fun i h1 h2=>by
  have:=hst.fresh i h1 h2;rw [W8 h1] at this;exact ⟨W8 h1,oM,this⟩
 have am:∀t,t∈rest->∀p,e.M t=some p->p.1<w.heap.size:=fun t ht p hp=>by
  obtain ⟨_,_,cs,ty,fz,hh⟩:=hS.own t (h.restIn t ht) p hp;exact (Tp.1 hh).1
 constructor
 ·intro i j hi hj he
  by_cases h1:i<σ.bx.length <;> by_cases h2:j<σ.bx.length
  ·rw [Z5 h1,Z5 h2] at he;exact hS.inj i j h1 h2 he
  ·obtain ⟨g1,g2,g3⟩:=gt j oM hj;rw [Z5 h1,g1] at he;have:=hS.lt h1;omega
  ·obtain ⟨g1,g2,g3⟩:=gt i oM hi;rw [Z5 h2,g1] at he;have:=hS.lt h2;omega
  obtain ⟨g1,g2,g3⟩:=gt i oM hi;obtain ⟨k1,k2,k3⟩:=gt j oM hj;rw [g1,k1] at he;have:=gx.inj _ _ g2 k2 he;omega
 ·intro i x hx
  have hi:=(Ti.1 hx).1;simp only at hx hi;have hBk:∀(y:Box) (b:Nat),BRel G e3 σ3 w' y b->BRel G (e.back bs σ.bx.length bs.length σ.nx e3) (U8 σ rest σ3 bx) w' (ZaW bs bs.length σ.bx.length σ.nx y) b:=fun y b hB=>by
   cases y with
   | cells t cs =>
    obtain ⟨vs,g1,g2,g3⟩:=hB;refine ⟨vs,g1,by rw [YD];exact g2,fun k z u hz hu=>?_⟩;obtain ⟨z',wd,rfl⟩:=Wo k z hz;exact ⟨(g3 k z' u wd hu).1.back hS h hL hb,(g3 k z' u wd hu).2⟩
   | iter s p=>exact hB
   | loop st pd r=>exact hB
   | dmap m=>exact hB.dmapTo rfl fun d v hv=>by have q:VRel G _ _ _ (.d d) v:=(VRel.d (G:=G) d v hv).back hS h hL hb;cases q;assumption
   | smap el m fo=>exact hB.smapTo rfl (Zc5 bs bs.length σ.bx.length σ.nx) (fun _=>rfl) (fun _=>rfl) (fun _ _ _ _ hv=>hv.back hS h hL hb) fun b' q hq _=>⟨Zpo hq,rfl⟩
   | map cs bn ck=>exact hB.mapTo rfl YD fun i x y hx hy=>by obtain ⟨z,hz,rfl⟩:=Wo i y hy;rw [hx] at hz;cases hz;exact ⟨fun v hv=>hv.back hS h hL hb,fun d hd=>by subst hd;rfl⟩
  by_cases h1:i<σ.bx.length
  ·rw [Z5 h1];rcases Zgo h hL h1 with ⟨j,hj,qm,he⟩ | ⟨uc,hX⟩
   ·have zu:j<σ3.bx.length:=TA hj hL.len;have:=hb.some j i _ qm (Ta zu);rw [this] at hx
    cases hx
    rw [<- he];exact hBk _ _ (gx.box j _ (Ta zu))
   rw [hb.old i h1 uc] at hx;have notB:∀j,j<bs.length->∀b,bs[j]?=some b->e.β b≠e.β i:=fun j hj b hb he=>by
    have:=hS.inj _ _ (h.lt _ (TX hb)) h1 he;exact uc (this ▸ TX hb)
   have hnH:e.H (e.β i)=none:=by
    cases hq:e.H (e.β i) with
    | none=>rfl
    | some q=>exact absurd rfl ((hS.hid _ _ hq).2.2.1 i h1)
   refine (hS.box i x hx).step hst (hL.blocks _ (hS.lt h1) (fun j hj=>?_) (fun t ht p hp=>?_) (h.hnone hnH)) fun b' q hq zn=>?_
   ·have li:j<bs.length:=by rw [<- h.len];exact hj
    have qm:=Ta li;rw [h.beta j _ qm];intro he
    have:=hS.inj _ _ (h.lt _ (TC li)) h1 he;exact uc (this ▸ TC li)
   ·obtain ⟨t0,g1,_,g2⟩:=h.tok t ht p hp;exact fun he=>(hS.own t0 g1 p g2).2.1 i h1 he.symm
   obtain ⟨k1,k2,k3,k4,k5⟩:=hS.hid b' q hq;have hnp:∀i',i'∈bs->e.β i'≠q.1.1:=fun i' ey he=>by
    have:=hS.inj _ _ (h.lt _ ey) h1 (he.trans zn);exact uc (this ▸ ey)
   have qd:e2.H b'=none:=by
    rw [h.H]
    cases nj:Zng e bs b' with
    | none=>rfl
    | some q2 =>
    obtain ⟨g1,i',g2,g3⟩:=handH_iff.1 nj;rw [hq] at g1;cases g1;exact absurd g3 (hnp i' g2)
   have kp:∀t,t∈σ2.tk->∀p,e2.M t=some p->p.1≠b':=fun t ht p hp=>by
    obtain ⟨t0,g1,_,g2⟩:=h.tok t ht p hp;exact k4 t0 g1 p g2
   refine ⟨Zpp ?_ hq hnp,hL.blocks b' k2 (fun j hj=>?_) kp qd⟩
   ·cases hq3:e3.H b' with
    | none=>rfl
    | some q3 =>
    rcases hL.fhid b' (by rw [hq3];simp) with g1 | ⟨t0,g1,p0,g2,g3⟩ | g1
    ·omega
    ·exact absurd g3 (kp t0 g1 p0 g2)
    exact absurd qd g1
   have li:j<bs.length:=by rw [<- h.len];exact hj
   have qm:=Ta li;rw [h.beta j _ qm];exact k3 _ (h.lt _ (TC li))
  obtain ⟨g1,g2,g3⟩:=gt i oM hi;rw [hb.new i oM,Ta g2] at hx
  cases hx
  rw [g1];exact hBk _ _ (gx.box _ _ (Ta g2))
 ·intro i hi
  by_cases h1:i<σ.bx.length
  ·rw [Z5 h1];exact hS.low i h1
  obtain ⟨g1,g2,g3⟩:=gt i oM hi;rw [g1];exact gx.low _ g2
 ·intro t ht
  rcases Ya hS h ht with ⟨_,h2⟩ | ⟨t',h1,rfl⟩
  ·show t<σ.nx+σ3.nx;omega
  have:=gx.tkn t' h1;show σ.nx+t'<σ.nx+σ3.nx;omega
 ·intro t ht p hp
  rcases Ya hS h ht with ⟨h1,h2⟩ | ⟨t',h1,rfl⟩
  ·rw [Yn h2] at hp;obtain ⟨g1,g2,cs,ty,fz,g3⟩:=hS.own t (h.restIn t h1) p hp;refine ⟨g1,fun i hi=>?_,cs,ty,fz,(hst.own t h2 ht p hp (am t h1 p hp)).trans g3⟩
   by_cases h3:i<σ.bx.length
   ·rw [Z5 h3];exact g2 i h3
   obtain ⟨k1,k2,k3⟩:=gt i oM hi;rw [k1];have:=am t h1 p hp;omega
  rw [back_M_new] at hp;obtain ⟨g1,g2,g3⟩:=gx.own t' h1 p hp;refine ⟨g1,fun i hi=>?_,g3⟩
  by_cases h3:i<σ.bx.length
  ·rw [Z5 h3];rcases Zgo h hL h3 with ⟨j,hj,_,he⟩ | ⟨_,hX⟩
   ·rw [<- he];exact g2 j (TA hj hL.len)
   intro he
   exact gx.xown t' h1 p hp p.2 (Tu _) (he ▸ hX p.2)
  obtain ⟨k1,k2,k3⟩:=gt i oM hi;rw [k1];exact g2 _ k2
 ·intro t t' ht kq ah p p' hp ja
  have mixed:∀t t',t∈rest->t<σ.nx->t'∈σ3.tk->∀p p',e.M t=some p->e3.M t'=some p'->p.1≠p'.1:=fun t t' h1 h2 h3 p p' hp ja he=>by
   refine gx.xown t' h3 p' ja (max p.2 p'.2) (Nat.le_max_right _ _) ?_;exact hL.X _ _ (by rw [h.X];exact .inr (.inr (.inl ⟨t,h1,p,hp,he,Nat.le_max_left _ _⟩)))
  rcases Ya hS h ht with ⟨h1,h2⟩ | ⟨s,h1,rfl⟩ <;> rcases Ya hS h kq with ⟨k1,k2⟩ | ⟨s',k1,rfl⟩
  ·rw [Yn h2] at hp;rw [Yn k2] at ja;exact hS.dis t t' (h.restIn t h1) (h.restIn t' k1) ah p p' hp ja
  ·rw [Yn h2] at hp;rw [back_M_new] at ja;exact mixed t s' h1 h2 k1 p p' hp ja
  ·rw [back_M_new] at hp;rw [Yn k2] at ja;exact fun he=>mixed t' s k1 k2 h1 p' p ja hp he.symm
  rw [back_M_new] at hp ja;exact gx.dis s s' h1 k1 (fun e=>ah (by rw [e])) p p' hp ja
 ·intro b off hX
  exact TA (hS.xlt b off hX) hL.size
 ·intro t ht p hp off ic hX
  rcases Ya hS h ht with ⟨h1,h2⟩ | ⟨t',h1,rfl⟩
  ·rw [Yn h2] at hp;exact hS.xown t (h.restIn t h1) p hp off ic hX
  rw [back_M_new] at hp;refine gx.xown t' h1 p hp off ic ?_;exact hL.X _ _ (by rw [h.X];exact .inl hX)
 ·intro b q hq
  rcases ZaX hq with g | ⟨g0,g,gn⟩
  ·obtain ⟨k1,k2,k3,k4,k5⟩:=gx.hid b q g;refine ⟨k1,k2,fun i hi=>?_,fun t ht p hp=>?_,fun off ho hX=>k5 off ho (hL.X _ _ (by rw [h.X];exact .inl hX))⟩
   ·by_cases h3:i<σ.bx.length
    ·rw [Z5 h3];rcases Zgo h hL h3 with ⟨j,hj,_,he⟩ | ⟨_,hX⟩
     ·rw [<- he];exact k3 j (TA hj hL.len)
     intro he
     exact k5 q.2 (Tu _) (he ▸ hX q.2)
    obtain ⟨g1,g2,g3⟩:=gt i oM hi;rw [g1];exact k3 _ g2
   rcases Ya hS h ht with ⟨h1,h2⟩ | ⟨t',h1,rfl⟩
   ·rw [Yn h2] at hp;intro he
    refine k5 (max p.2 q.2) (Nat.le_max_right _ _) ?_;exact hL.X _ _ (by rw [h.X];exact .inr (.inr (.inl ⟨t,h1,p,hp,he,Nat.le_max_left _ _⟩)))
   rw [back_M_new] at hp;exact k4 t' h1 p hp
  obtain ⟨k1,k2,k3,k4,k5⟩:=hS.hid b q g;refine ⟨k1,TA k2 hL.size,fun i hi=>?_,fun t ht p hp=>?_,k5⟩
  ·by_cases h3:i<σ.bx.length
   ·rw [Z5 h3];exact k3 i h3
   obtain ⟨g1,g2,g3⟩:=gt i oM hi;rw [g1];omega
  rcases Ya hS h ht with ⟨h1,h2⟩ | ⟨t',h1,rfl⟩
  ·rw [Yn h2] at hp;exact k4 t (h.restIn t h1) p hp
  rw [back_M_new] at hp;intro he
  refine gx.xown t' h1 p hp (max p.2 q.2) (Nat.le_max_left _ _) ?_;exact hL.X _ _ (by rw [h.X,he];exact .inr (.inr (.inr ⟨q,g,Nat.le_max_right _ _,gn⟩)))
 ·exact gx.glob
 exact gx.big
def Xy {md:Nat} {g:FuncId} {sp:Zn} (hP:PCalls G g sp) {args:List PV} {K:PEnd->St->Prop} (hv:VA md sp args σ K) :
  Wi G.P g/\∀(ro:Option Nat) (n:Nat) (e:Env) (w:World) (vs:Array Value),SRel G e σ w->ArgsRel G e σ w args vs->CallsIn (fw ro) n G.P g vs w (Zz2 G e σ w K):=by
 unfold VA at hv
 simp only [J5,J6,Wk] at hv;generalize J4 σ.bx (σ.bx.length+1) 0 (ZaU args [])=bs at hv;split at hv
 ·rename_i iv
  obtain ⟨cb,hv,om,hcg⟩:=Zpm hv;obtain ⟨args',tk1,as1,hv,dh,lw,xa,hav⟩:=Zsy (as:=[]) (ZF7 σ.tk σ.tk fun _ h=>h) hv;obtain ⟨cb',rest,as2,hv,bm,fk,cf,afb,lj⟩:=WP lw hv;have lx:=Zc6 iv;have rp:∀b,b∈bs->b<σ.bx.length:=fun b hb=>by
   obtain ⟨k,hk,he⟩:=Sg hb;obtain ⟨x,hx,_⟩:=hcg k b (by rw [Ta hk,he]);exact (Ti.1 hx).1
  have backOf:∀(pe:PEnd) (σ3:St),(Zen (ZaW bs bs.length σ.bx.length σ.nx) bs σ3.bx σ.bx fun bx=>K (ZsH bs bs.length σ.bx.length σ.nx pe) (U8 σ rest σ3 bx))->∃bx,Backed σ bs σ3 bx/\K (ZsH bs bs.length σ.bx.length σ.nx pe) (U8 σ rest σ3 bx):=fun pe σ3 hb=>by
   obtain ⟨bx,h1,h2,h3,h4,h5,h6⟩:=Zlq lx rp hb;exact ⟨bx,⟨h2,h3,h4,h5,h6⟩,h1⟩
  refine ⟨hP.enters,fun ro n e w vs hS ac=>?_⟩;have rq:∀t,t∈as2.filterMap id↔some t∈as2:=fun t=>by simp
  have oq:∀t,t∈as2.filterMap id->t∈σ.tk/\t∉rest:=fun t ht=>by
   obtain ⟨i,hi,he⟩:=Sg ((rq t).1 ht);exact fk.mem i t (by rw [Ta hi,he])
  have hH:Hand σ bs rest (as2.filterMap id) cb:=⟨lx,om,hcg,fk.sub,oq⟩
  have gm:=hS.ren hH;have hIP:NInv (as2.filterMap id) [] as2:=⟨(fun t ht=>by cases ht),(fun i t hi=>⟨(rq t).2 (TX hi),sM⟩),fk.inj⟩
  have gc:bs.length<=(St.mk cb (as2.filterMap id) σ.nx).bx.length:=Nat.le_of_eq om.symm;have iz:=Zge gm gc hIP cf lj;have hD:=ZcU (e:=e.handed σ bs rest) gc hIP cf;have hA2:ArgsRel G ((e.handed σ bs rest).re as2) ⟨cb',toks as2.length,as2.length⟩ w args' vs:=by
   refine ⟨by rw [ac.1,xa,YC],fun i x u hx hu=>?_⟩;have hi:=(Ti.1 hx).1;rw [xa] at hi;have hy:=Ta hi;obtain ⟨z,hz,ud⟩:=WI i _ hy;have h1:=(ac.2 i z u hz hu).ren hS hH;rw [<- ud] at h1;exact ((hav i _ x hy hx).ext bm).rel gc hIP cf h1
  have zw:Handed e σ w bs rest ((e.handed σ bs rest).re as2) ⟨cb',toks as2.length,as2.length⟩:={
   nodup:=lx
   lt:=rp
   len:=cf
   beta:=fun j b hj=>by simp [Env.re,Env.handed,hj]
   X:=rfl
   H:=rfl
   okc:=fun b off ho=>hD.okc b off (Zpn hS hH ho)
   tok:=fun t ht p hp=>by
    obtain ⟨t0,h1,h2⟩:=hD.tok t ht p hp;exact ⟨t0,(oq t0 h1).1,(oq t0 h1).2,h2⟩
   restIn:=fk.sub }
  have il:=hP.calls _ _ _ hv n _ w vs iz hA2;have s9:∀R,CallsIn (fw none) n G.P g vs w R->CallsIn (fw ro) n G.P g vs w R:=fun R h=>by
   cases ro with
   | none=>exact h
   | some l=>exact h.inRound l
  refine (s9 _ il).mono fun en w' hA=>?_
  obtain ⟨pe,σ3,e3,hk,hE,gx,hL⟩:=hA;obtain ⟨bx,hB,hK⟩:=backOf pe σ3 hk;refine ⟨_,_,e.back bs σ.bx.length bs.length σ.nx e3,hK,?_,hS.back zw gx hL hB,ZbG hS zw gx hL hB⟩
  cases pe with
  | ret x=>obtain ⟨v,rfl,hr⟩:=hE;exact ⟨v,rfl,hr.back hS zw hL hB⟩
  | panic x=>obtain ⟨v,rfl,hr⟩:=hE;exact ⟨v,rfl,hr.back hS zw hL hB⟩
 exact hv.elim
def Zy (sp:Zn):Prop:=∀args σ (K K':PEnd->St->Prop),(∀e σ,K e σ->K' e σ)->sp args σ K->sp args σ K'
def Zh6 {bs:List Nat} {bx:List Box}:∀{l:List Nat} {K K':List Box->Prop},(∀r,K r->K' r)->Znf bs bx l K->Znf bs bx l K'
 | [],K,K',hK,h=>hK _ h
 | b::l,K,K',hK,h=>by
  simp only [Znf] at h |-;split at h
  all_goals first
   | exact Zh6 (fun r hr=>hK _ hr) h
   | exact h.elim
def Zpq {n:Nat} {tk:List Nat} {k:Nat} {v:PV} {K K':PV->List Nat->Nat->Prop} (hK:∀v t k,K v t k->K' v t k) (h:Zso n tk k v K):Zso n tk k v K':=by
 have gen:∀v,(match bnd n v with | true=>UX (clean v) fun v=>K v tk k | false=>K .undef tk k:Prop)->(match bnd n v with | true=>UX (clean v) fun v=>K' v tk k | false=>K' .undef tk k:Prop):=fun v h=>by
  split at h
  ·rw [ZO] at h |-;exact hK _ _ _ h
  exact hK _ _ _ h
 cases v with
 | sl t el rows =>
  simp only [Zso] at h |-;split at h <;> exact hK _ _ _ h
 | nils el=>exact hK _ _ _ h
 | d x=>exact gen (.d x) h
 | undef=>exact gen .undef h
 | ptr b o=>exact gen (.ptr b o) h
 | asl b o n=>exact gen (.asl b o n) h
 | elem r o=>exact gen (.elem r o) h
 | func f a c=>exact gen (.func f a c) h
 | iface t v=>exact gen (.iface t v) h
 | agg cs=>exact gen (.agg cs) h
 | tuple cs=>exact gen (.tuple cs) h
 | raw v=>exact gen (.raw v) h
 | mp b=>exact gen (.mp b) h
 | nilm=>exact gen .nilm h
def Uf {n:Nat}:∀{vs:List PV} {tk:List Nat} {k:Nat} {K K':List PV->List Nat->Nat->Prop},(∀v t k,K v t k->K' v t k)->Zsp n vs tk k K->Zsp n vs tk k K'
 | [],_,_,_,_,hK,h=>hK _ _ _ h
 | v::vs,_,_,_,_,hK,h=>Zpq (fun v t k h=>Uf (fun vs t k h=>hK _ _ _ h) h) h
def Zfa {n:Nat} {tk:List Nat} {k:Nat} {v:PV} {K K':PV->List Nat->Nat->Prop} (hK:∀v t k,K v t k->K' v t k) (h:ZcE n tk k v K):ZcE n tk k v K':=by
 have gen:∀v,(match bnd n v with | true=>UX (cleanN v) fun v=>K v tk k | false=>K .undef tk k:Prop)->(match bnd n v with | true=>UX (cleanN v) fun v=>K' v tk k | false=>K' .undef tk k:Prop):=fun v h=>by
  split at h
  ·rw [ZO] at h |-;exact hK _ _ _ h
  exact hK _ _ _ h
 cases v with
 | sl t el rows =>
  simp only [ZcE] at h |-;split at h <;> exact hK _ _ _ h
 | nils el=>exact hK _ _ _ h
 | d x=>exact gen (.d x) h
 | undef=>exact gen .undef h
 | ptr b o=>exact gen (.ptr b o) h
 | asl b o n=>exact gen (.asl b o n) h
 | elem r o=>exact gen (.elem r o) h
 | func f a c=>exact gen (.func f a c) h
 | iface t v=>exact gen (.iface t v) h
 | agg cs=>exact gen (.agg cs) h
 | tuple cs=>exact gen (.tuple cs) h
 | raw v=>exact gen (.raw v) h
 | mp b=>exact gen (.mp b) h
 | nilm=>exact gen .nilm h
def Zfb {n:Nat}:∀{vs:List PV} {tk:List Nat} {k:Nat} {K K':List PV->List Nat->Nat->Prop},(∀v t k,K v t k->K' v t k)->ZjB n vs tk k K->ZjB n vs tk k K'
 | [],_,_,_,_,hK,h=>hK _ _ _ h
 | v::vs,_,_,_,_,hK,h=>Zfa (fun v t k h=>Zfb (fun vs t k h=>hK _ _ _ h) h) h
def Xe {n:Nat}:∀{m:Nat} {bs:List Box} {tk:List Nat} {k:Nat} {K K':List Box->List Nat->Nat->Prop},(∀v t k,K v t k->K' v t k)->ZcF n m bs tk k K->ZcF n m bs tk k K'
 | 0,_,_,_,_,_,hK,h=>by simp only [ZcF] at h |-;exact hK _ _ _ h
 | _+1,[],_,_,_,_,_,h=>h.elim
 | _+1,.cells t cs::bs,_,_,_,_,hK,h=>by
  simp only [ZcF] at h |-;exact Uf (fun v t k h=>Xe (fun _ _ _ h=>hK _ _ _ h) h) h
 | _+1,.iter s p::bs,_,_,K,K',hK,h=>by
  simp only [ZcF] at h |-;exact Xe (K:=fun l tk k=>K (.iter s p::l) tk k) (K':=fun l tk k=>K' (.iter s p::l) tk k) (fun _ _ _ h=>hK _ _ _ h) h
 | _+1,.loop st pd r::bs,_,_,K,K',hK,h=>by
  simp only [ZcF] at h |-;exact Xe (K:=fun l tk k=>K (.loop st pd r::l) tk k) (K':=fun l tk k=>K' (.loop st pd r::l) tk k) (fun _ _ _ h=>hK _ _ _ h) h
 | _+1,.dmap m::bs,_,_,K,K',hK,h=>by
  simp only [ZcF] at h |-;exact Xe (K:=fun l tk k=>K (.dmap m::l) tk k) (K':=fun l tk k=>K' (.dmap m::l) tk k) (fun _ _ _ h=>hK _ _ _ h) h
 | _+1,.smap el m none::bs,_,_,K,K',hK,h=>by
  simp only [ZcF] at h |-;exact Xe (K:=fun l tk k=>K (.smap el m none::l) tk k) (K':=fun l tk k=>K' (.smap el m none::l) tk k) (fun _ _ _ h=>hK _ _ _ h) h
 | _+1,.smap _ _ (some _)::_,_,_,_,_,_,h=>h.elim
 | _+1,.map cs bn ck::bs,_,_,_,_,hK,h=>by
  simp only [ZcF] at h |-;exact Uf (fun v t k h=>Xe (fun _ _ _ h=>hK _ _ _ h) h) h
def Zfc {bb:Box->Box}:∀{bs:List Nat} {xs acc:List Box} {K K':List Box->Prop},(∀r,K r->K' r)->Zen bb bs xs acc K->Zen bb bs xs acc K'
 | [],_,_,_,_,hK,h=>by simp only [Zen] at h |-;exact hK _ h
 | _::_,[],_,_,_,_,h=>h.elim
 | b::bs,x::xs,_,_,_,hK,h=>by simp only [Zen] at h |-;exact Zfc hK h
def Zh7 {sp:Zn} (xe:Zy sp):Zy (ZjY sp):=fun args σ K K' hK h=>by
 unfold ZjY VA ZoF at h |-
 simp only [J5,J6,Wk] at h |-;split at h
 ·exact Zh6 (fun cb h=>Uf (fun a t k h=>Xe (fun cb' r k h=>xe _ _ _ _ (fun pe σ3 h=>Zfc (fun bx h=>hK _ _ h) h) h) h) h) h
 exact h.elim
end
end Go.PM
end

section
namespace Go.PM
def Cx.up (C:Cx):Cx:={ C with call:=fun g args σ K=>∃K',C.call g args σ K'/\∀e σ,K' e σ->K e σ }
def Znh {n:Nat} {tk:List Nat} {k:Nat} {v:PV} {K K':PV->List Nat->Nat->Prop} (hK:∀v t k,K v t k->K' v t k) (h:ZhK n tk k v K):ZhK n tk k v K':=by
 cases v with
 | agg cs=>exact Zfb (fun v t k h=>hK _ _ _ h) h
 | _=>simp only [ZhK] at h |-;exact Zfa hK h
def Zfd {n:Nat}:∀{vs:List PV} {tk:List Nat} {k:Nat} {K K':List PV->List Nat->Nat->Prop},(∀v t k,K v t k->K' v t k)->ZjC n vs tk k K->ZjC n vs tk k K'
 | [],_,_,_,_,hK,h=>hK _ _ _ h
 | v::vs,_,_,_,_,hK,h=>Znh (fun v t k h=>Zfd (fun vs t k h=>hK _ _ _ h) h) h
def Zni {n:Nat} {vs:List PV} {σ:St} {K K':List PV->St->Prop} (hK:∀v s,K v s->K' v s) (h:ZoG n vs σ K):ZoG n vs σ K' :=
 Uf (fun _ _ _ h=>Xe (fun _ _ _ h=>hK _ _ h) h) h
def Zc7 {ag:Bool} {n:Nat} {vs:List PV} {σ:St} {K K':List PV->St->Prop} (hK:∀v s,K v s->K' v s) (h:V6 ag n vs σ K):V6 ag n vs σ K':=by
 cases ag with
 | true=>exact Zfd (fun _ _ _ h=>Xe (fun _ _ _ h=>hK _ _ h) h) h
 | false=>exact Zni hK h
section
variable {C:Cx} {all:List Oper} {ms:List Nat} {Q Q':PQ}
abbrev Zb5 (C:Cx):Prop:=(∀v args σ (K:PEnd->St->Prop),¬C.raw v args σ K)/\∀g args r σ (K:PEnd->St->Prop),¬C.iter g args r σ K
def ZsI (hr:Zb5 C) (hQ:∀e f σ,Q e f σ->Q' e f σ) {o:Oper} {f:Frame} {σ:St} {K K':Frame->St->Prop} (hK:∀f σ,K f σ->K' f σ) (h:XM C o f σ Q K):XM C.up o f σ Q' K':=by
 unfold XM at h |-
 simp only [ZM,ZO] at h |-;split at h
 ·exact JX (fun v hv=>by rw [ZU] at hv |-;exact hK _ _ hv) h
 split at h
 ·unfold ZcD at h |-
  split at h
  ·split at h
   ·refine ⟨_,h,fun e σ he=>?_⟩
    cases e with
    | ret v=>simp only at he |-;rw [ZU] at he |-;exact hK _ _ he
    | panic v=>exact hQ _ _ _ he
   exact (hr.2 _ _ _ _ _ h).elim
  ·exact (hr.1 _ _ _ _ h).elim
  exact h
 ·split at h
  ·exact hQ _ _ _ h
  exact h.elim
 exact Zch (fun v σ hv=>by rw [ZU] at hv |-;exact hK _ _ hv) h
def Zck (hr:Zb5 C) (hQ:∀e f σ,Q e f σ->Q' e f σ) {o:Oper} {f:Frame} {σ:St} {K K':Frame->St->Prop} (hK:∀f σ,K f σ->K' f σ) (h:W0 C all Q o f σ K):W0 C.up all Q' o f σ K':=by
 rw [YY] at h |-;split at h
 ·exact ZsI hr hQ hK h
 ·exact hK _ _ h
 exact h
def Zpr {T:Tab} {o:Op} {ρ:Operand->PV} {σ:St} {K K':PV->St->Prop} (hK:∀v σ,K v σ->K' v σ) (h:ZzK T o ρ σ K):ZzK T o ρ σ K':=by
 unfold ZzK at h |-
 (repeat' split at h) <;> first
  | exact h.elim
  | exact hK _ _ h
  | exact ⟨h.choose,h.choose_spec.1,h.choose_spec.2.1,hK _ _ h.choose_spec.2.2⟩
  | (rename_i hk;exfalso;simp_all;done)
def ZjZ (hr:Zb5 C) (hQ:∀e f σ,Q e f σ->Q' e f σ):∀{l:List Oper} {f:Frame} {σ:St},Zox C all Q l f σ->Zox C.up all Q' l f σ
 | [],f,σ,h=>hQ _ _ _ h
 | o::rest,f,σ,h=>by
  simp only [Zox,ZhJ] at h |-;show match ZeT C o with | true=>_ | false=>_
  cases hb:ZeT C o with
  | true =>
   rw [hb] at h;refine Zpr (fun v σ hv=>?_) h;simp only [ZM] at hv |-;rw [ZU] at hv |-;exact ZjZ hr hQ hv
  | false =>
  rw [hb] at h;exact Zck hr hQ (fun f σ h=>ZjZ hr hQ h) h
def Zgq (hr:Zb5 C) (hQ:∀e f σ,Q e f σ->Q' e f σ) {i:Nat} {o:Oper} {ctx:List Ld} {f:Frame} {σ:St} {K K':List Ld->Frame->St->Prop} (hK:∀c f σ,K c f σ->K' c f σ) (h:XZ C all ms Q i o ctx f σ K):XZ C.up all ms Q' i o ctx f σ K':=by
 unfold XZ at h |-
 refine Zck hr hQ (fun f' σ' hk=>?_) h;exact mq121
def Zgr (hr:Zb5 C) (hQ:∀e f σ,Q e f σ->Q' e f σ):∀{l:List (Nat×Oper)} {ctx:List Ld} {f:Frame} {σ:St},X0 C all ms Q l ctx f σ->X0 C.up all ms Q' l ctx f σ
 | [],_,f,σ,h=>hQ _ _ _ h
 | (i,o)::rest,ctx,f,σ,h=>Zgq hr hQ (fun _ _ _ h=>Zgr hr hQ h) h
def Zgs (hr:Zb5 C) (hQ:∀e f σ,Q e f σ->Q' e f σ):∀(n:Nat) (l:List (Nat×Oper)) (c:List Ld) (f:Frame) (σ:St),Wg C all ms Q n l c f σ->Wg C.up all ms Q' n l c f σ
 | 0,[],_,_,_,h=>hQ _ _ _ h
 | _+1,[],_,_,_,h=>hQ _ _ _ h
 | 0,_::_,_,_,_,h=>h.elim
 | n+1,x::l,c,f,σ,h=>by
  unfold Wg at h |-
  split at h
  ·exact Zgq hr hQ (fun c f σ h=>Zgs hr hQ n _ c f σ h) h
  rw [conjE_iff] at h |-;exact fun p hp hw=>Zgq hr hQ (fun c f σ h=>Zgs hr hQ n _ c f σ h) (h p hp hw)
def Znj {T:Tab} {h:Hole} {f:Frame} {σ:St} {K K':Frame->St->Prop} (hK:∀f σ,K f σ->K' f σ) (g:ZmV T h f σ K):ZmV T h f σ K':=by
 unfold ZmV at g |-
 simp only [ZM,ZU] at g |-
 (repeat' split at g) <;> first
  | exact g.elim
  | exact ⟨g.1,g.2.1,hK _ _ g.2.2⟩
  | exact ⟨g.1,g.2.1,g.2.2.1,hK _ _ g.2.2.2⟩
def ZsJ (hr:Zb5 C) (hQ:∀e f σ,Q e f σ->Q' e f σ) {h:Hole}:∀e f σ,ZoJ C all h Q e f σ->ZoJ C.up all h Q' e f σ:=fun e f σ g=>by
 cases e with
 | normal=>exact Znj (fun f σ g=>Zck hr hQ (fun f σ g=>Zck hr hQ (fun f σ g=>hQ _ _ _ g) g) g) g
 | _=>exact hQ _ _ _ g
def Zz6 {C:Cx} {Q Q':PQ} (hr:Zb5 C) (hQ:∀e f σ,Q e f σ->Q' e f σ) {ops:List Oper} {draw:Bool} {f:Frame} {σ:St} (h:WR C ops draw Q f σ):WR C.up ops draw Q' f σ:=by
 have ue:Zb5 C.calm:=⟨fun _ _ _ _ h=>h,fun _ _ _ _ _ h=>h⟩
 cases draw with
 | false=>simp only [WR] at h |-;exact ZjZ hr hQ h
 | true =>
 simp only [WR] at h |-;have hQd:∀e f' σ,ZjE C ops f Q e f' σ->ZjE C.up ops f Q' e f' σ:=fun e f' σ h=>by
  cases e <;> exact hQ _ _ _ h
 cases hh:ZcG ops with
 | none =>
  simp only [hh] at h |-
  cases hc:ZeU (Wf ops []) none (ZG 0 ops) with
  | true=>simp only [hc] at h |-;exact Zgr (C:=C.calm) ue hQd h
  | false=>simp only [hc] at h |-;exact Zgs (C:=C.calm) ue hQd _ _ _ _ _ h
 | some x=>simp only [hh] at h |-;exact Zgr (C:=C.calm) ue (ZsJ (C:=C.calm) ue hQd) h
def Zj0 {b:Nat} {k:List UInt8} {σ:St} {K K':St->Prop} (hK:∀σ,K σ->K' σ) (h:ZeV b k σ K):ZeV b k σ K':=by
 unfold ZeV at h |-
 split at h
 ·rcases h.ex with ⟨a,ha,h⟩ | ⟨ha,h⟩
  ·exact .yes ha (hK _ h)
  exact .no ha (hK _ h)
 exact h.elim
def Zgt {b:Nat} {σ:St} {K K':St->Prop} (hK:∀σ,K σ->K' σ) (h:UC b σ K):UC b σ K':=by
 unfold UC at h |-
 (repeat' split at h) <;> first
  | exact h.elim
  | exact hK _ h
def Zh8 {S S':PQ->Frame->St->Prop} (hS:∀Q Q' f σ,(∀e f σ,Q e f σ->Q' e f σ)->S Q f σ->S' Q' f σ):∀(n:Nat) {Q Q':PQ} {f:Frame} {σ:St},(∀e f σ,Q e f σ->Q' e f σ)->Zbw S Q n f σ->Zbw S' Q' n f σ
 | 0,_,_,_,_,_,h=>h
 | n+1,Q,Q',f,σ,hQ,h=>hS _ _ _ _ (fun e f σ h=>by cases e with | normal=>exact Zh8 hS n hQ h | _=>exact hQ _ _ _ h) h
def Zj1 {t:Bool} {X Y X' Y':Prop} (h1:X->X') (h2:Y->Y') (h:CondP t X Y):CondP t X' Y':=by cases t;exact h2 h;exact h1 h
def ZFw (hr:Zb5 C) (hi:∀g a r σ K,¬C.iter g a r σ K):∀(c:Code) {Q Q':PQ} {f:Frame} {σ:St},(∀e f σ,Q e f σ->Q' e f σ)->W C c Q f σ->W C.up c Q' f σ:=by
 have ue:Zb5 C.calm:=⟨fun _ _ _ _ h=>h,fun _ _ _ _ _ h=>h⟩
 intro c
 induction c with
 | region id ops draw =>
  intro Q Q' f σ hQ h
  simp only [W] at h |-;rw [show C.up.foc=C.foc from rfl]
  cases hf:C.foc id with
  | false=>rw [hf] at h;exact Zz6 hr hQ h
  | true =>
  rw [hf] at h;obtain ⟨b,k,h⟩:=h;refine ⟨b,k,Zj0 (fun σ h=>?_) h⟩;rw [ZM] at h |-;refine Zz6 hr (fun e f σ h=>?_) h
  cases e with
  | normal=>exact Zgt (K:=fun σ=>Xp σ fun σ=>Q .normal f σ) (K':=fun σ=>Xp σ fun σ=>Q' .normal f σ) (fun σ h=>by rw [ZM] at h |-;exact hQ _ _ _ h) h
  | _=>exact h
 | seq a b iha ihb =>
  intro Q Q' f σ hQ h
  simp only [W] at h |-;rw [show C.up.cut=C.cut from rfl]
  cases hc:C.cut (keyOf b) with
  | none =>
   rw [hc] at h;exact iha (fun e f σ h=>by cases e with | normal=>exact ihb hQ h | _=>exact hQ _ _ _ h) h
  | some x =>
  rw [hc] at h;exact ⟨iha (fun e f σ h=>by cases e with | normal=>exact h | _=>exact hQ _ _ _ h) h.1,fun vs σ1 hI=>ihb hQ (h.2 vs σ1 hI)⟩
 | cond c x y ihx ihy =>
  intro Q Q' f σ hQ h
  simp only [W] at h |-;split at h
  ·exact Zj1 (fun h=>ihx hQ h) (fun h=>ihy hQ h) h
  exact h
 | block id b ih =>
  intro Q Q' f σ hQ h
  simp only [W] at h |-;refine ih (fun e f σ h=>?_) h
  cases e with
  | exit i =>
   simp only at h |-;split at h <;> exact hQ _ _ _ h
  | _=>exact hQ _ _ _ h
 | scope b ih =>
  intro Q Q' f σ hQ h
  simp only [W] at h |-;refine ih (fun e f σ h=>?_) h
  cases e with
  | goto l=>exact h
  | _=>exact hQ _ _ _ h
 | loop b ih =>
  intro Q Q' f σ hQ h
  simp only [W] at h |-;rw [show C.up.unr=C.unr from rfl,show C.up.loop=C.loop from rfl,show C.up.tie=C.tie from rfl,show C.up.ag=C.ag from rfl]
  cases hu:C.unr (keyOf b) with
  | succ n =>
   rw [hu] at h;exact Zh8 (S:=fun Q f σ=>W C b Q f σ) (S':=fun Q f σ=>W C.up b Q f σ) (fun Q Q' f σ hQ h=>ih hQ h) (n+1) hQ h
  | zero =>
  rw [hu] at h;simp only at h |-;split at h
  ·split at h
   ·exact mq126
   exact mq126
  exact h
 | rangeFunc g ps asg body iha ihb =>
  intro Q Q' f σ hQ h
  simp only [W] at h |-;split at h
  ·exact (hi _ _ _ _ _ (h 0 default)).elim
  exact h
 | _ =>
 intro Q Q' f σ hQ h
 first
  | exact hQ _ _ _ h
  | exact h
end
def CallSem.up {G:GE} {cc:FuncId->List PV->St->(PEnd->St->Prop)->Prop} (h:CallSem G cc):CallSem G (fun g args σ K=>∃K',cc g args σ K'/\∀e σ,K' e σ->K e σ):=fun g args σ K ⟨K',h1,h2⟩ =>
 ⟨(h g args σ K' h1).1,fun ro n e w vs hS ha=>((h g args σ K' h1).2 ro n e w vs hS ha).mono fun en w' ⟨pe,σ',e',hk,r⟩=>⟨pe,σ',e',h2 _ _ hk,r⟩⟩
def Zcl {G:GE} {C:Cx} (hT:TabOK C.T G.P) (dg:CallSem G C.call) (hr:Zb5 C) (hi:∀g a r σ K,¬C.iter g a r σ K) (az:G.P.follows .mixedOrders=true) {g:FuncId} {fn:Func} {c:Code} (hf:G.P.funcs[g]?=some fn) (hb:fn.body=some c) (ao:ZE fn.ntmps c=true)
  {ag:Bool} {keep:Nat} {own:Bool} {args:List PV} {σ:St} {R:PEnd->St->Prop} (hk:σ.bx.length<=keep) (hlen:args.length<=fn.ntmps) (h:WFG ag C fn keep own args σ R) {n:Nat} {e:Env} {w:World} {vs:Array Value} (hS:SRel G e σ w) (ac:ArgsRel G e σ w args vs) :
  CallsIn (fw none) n G.P g vs w (YB G e σ w R) :=
 Ue az (C:=C.up) ⟨hT,dg.up,fun v a s K h=>(hr.1 v a s K h).elim,fun g a r s K h=>(hi g a r s K h).elim,.inl rfl⟩
  ⟨fun _ h1 h2=>hT.one h1 h2,fun _ _ _ K K' hK ⟨K0,h1,h2⟩=>⟨K0,h1,fun e σ h=>hK _ _ (h2 _ _ h)⟩,fun _ _ _ _ h=>h.elim,fun _ _ _ _ _ h=>h.elim,rfl⟩ hf hb ao hk hlen (ag:=ag) (ZFw hr hi _ (fun _ _ _ h=>h) h) hS ac
end Go.PM
end

section
namespace Go.PM
abbrev Tbl:=List (Nat×Zn)
def ZF4:Tbl->Nat->List PV->St->(PEnd->St->Prop)->Prop
 | [],_,_,_,_=>False
 | (g,sp)::l,n,args,σ,K=>match Nat.beq g n with
  | true=>ZjY sp args σ K
  | false=>ZF4 l n args σ K
def TblOK (G:GE):Tbl->Prop
 | []=>True
 | (g,sp)::l=>PCalls G g sp/\TblOK G l
def TblM:Tbl->Prop
 | []=>True
 | (_,sp)::l=>Zy sp/\TblM l
def TblM.mono:∀{l:Tbl},TblM l->∀n args σ (K K':PEnd->St->Prop),(∀e σ,K e σ->K' e σ)->ZF4 l n args σ K->ZF4 l n args σ K'
 | [],_=>fun _ _ _ _ _ _ h=>h.elim
 | (g,sp)::l,⟨h1,h2⟩=>fun n args σ K K' hK h=>by
  simp only [ZF4] at h |-;split at h
  ·exact Zh7 h1 _ _ _ _ hK h
  exact TblM.mono h2 n args σ K K' hK h
def ZF5 (md:Nat->Nat):Tbl->Nat->List PV->St->(PEnd->St->Prop)->Prop
 | [],_,_,_,_=>False
 | (g,sp)::l,n,args,σ,K=>match Nat.beq g n with
  | true=>VA (md n) sp args σ K
  | false=>ZF5 md l n args σ K
def TblOK.semM {G:GE} {md:Nat->Nat}:∀{l:Tbl},TblOK G l->CallSem G (ZF5 md l)
 | [],_=>fun _ _ _ _ h=>h.elim
 | (g,sp)::l,⟨h1,h2⟩=>fun n args σ K h=>by
  simp only [ZF5] at h;split at h
  ·rename_i hb
   cases Tl hb
   exact Xy h1 h
  exact TblOK.semM h2 n args σ K h
def TblOK.sem {G:GE}:∀{l:Tbl},TblOK G l->CallSem G (ZF4 l)
 | [],_=>fun _ _ _ _ h=>h.elim
 | (g,sp)::l,⟨h1,h2⟩=>fun n args σ K h=>by
  simp only [ZF4] at h;split at h
  ·rename_i hb
   cases Tl hb
   exact Xy h1 h
  exact TblOK.sem h2 n args σ K h
def Znk:Value->List PV->St->(PEnd->St->Prop)->Prop:=fun _ _ _ _=>False
abbrev Raw:=Value->List PV->St->(PEnd->St->Prop)->Prop
abbrev Zfe:=FuncId->List PV->Raw->St->(PEnd->St->Prop)->Prop
def Zc8:Zfe:=fun _ _ _ _ _=>False
def ZuY:LoopAnn:=⟨[],[],fun _ _=>False,fun _ _=>0⟩
def Zj:List (Nat×LoopAnn)->Nat->LoopAnn
 | [],_=>ZuY
 | (k,a)::l,n=>match Nat.beq k n with | true=>a | false=>Zj l n
def ctx (T:Tab) (tbl:Tbl) (loops:Nat->LoopAnn):Cx:=⟨T,ZF4 tbl,Znk,Zc8,loops,fun _=>0,fun _=>false,fun _=>false,true,fun _=>none,fun _=>false,fun _=>false⟩
def ZEH (T:Tab) (tbl:Tbl) (it:Zfe) (loops:Nat->LoopAnn):Cx:=⟨T,ZF4 tbl,Znk,it,loops,fun _=>0,fun _=>false,fun _=>false,true,fun _=>none,fun _=>false,fun _=>false⟩
def Zz7 (T:Tab) (tbl:Tbl) (md:Nat->Nat) (loops:Nat->LoopAnn) (unr:Nat->Nat) (ties bsl:Nat->Bool) (cut:Nat->Option (List Nat×(List PV->St->Prop))) (ag:Nat->Bool):Cx:=⟨T,ZF5 md tbl,Znk,Zc8,loops,unr,ties,bsl,true,cut,ag,fun _=>false⟩
def ZEI (T:Tab) (tbl:Tbl) (md:Nat->Nat) (loops:Nat->LoopAnn) (unr:Nat->Nat) (ties bsl foc:Nat->Bool):Cx:=⟨T,ZF5 md tbl,Znk,Zc8,loops,unr,ties,bsl,true,fun _=>none,fun _=>false,foc⟩
def ZEJ (nl:Nat->Bool) (k n:Nat):Nat:=match nl n with | true=>k | false=>0
abbrev ZDg (T:Tab) (tbl:Tbl) (loops:Nat->LoopAnn) (unr:Nat->Nat) (ties:Nat->Bool):Cx:=Zz7 T tbl (fun _=>0) loops unr ties (fun _=>false) (fun _=>none) (fun _=>false)
def Zoy (T:Tab) (tbl:Tbl) (loops:Nat->LoopAnn) (unr:Nat->Nat) (ties:Nat->Bool):Cx:=⟨T,ZF4 tbl,Znk,Zc8,loops,unr,ties,fun _=>false,true,fun _=>none,fun _=>false,fun _=>false⟩
def ZvT:List (Nat×List Nat×(List PV->St->Prop))->Nat->Option (List Nat×(List PV->St->Prop))
 | [],_=>none
 | (k,a)::l,n=>match Nat.beq k n with | true=>some a | false=>ZvT l n
def Yh:List Nat->Nat->Bool
 | [],_=>false
 | k::l,n=>match Nat.beq k n with | true=>true | false=>Yh l n
def Xk:List (Nat×Nat)->Nat->Nat
 | [],_=>0
 | (k,a)::l,n=>match Nat.beq k n with | true=>a | false=>Xk l n
def Zps (T:Tab) (tbl:Tbl) (it:Zfe) (gid:FuncId) (fn:Func) (loops:Nat->LoopAnn):Zfe:=fun g args raw σ K=>match Nat.beq gid g with
 | true=>Nat.ble args.length fn.ntmps=true/\W ⟨T,ZF4 tbl,raw,it,loops,fun _=>0,fun _=>false,fun _=>false,true,fun _=>none,fun _=>false,fun _=>false⟩ (YP fn) (fun e f σ'=>match e with
   | .normal | .ret=>pres T f σ'.bx fn.results.toList fun vs=>K (.ret (V7 vs)) σ'
   | .panic v=>K (.panic v) σ'
   | _=>False) (Zb3 0 args) σ
 | false=>False
def noIter_sem {G:GE}:IterSem G Zc8:=fun _ _ _ _ _ h=>h.elim
def Znl {G : GE} {T : Tab} {tbl : Tbl} (hT : TabOK T G.P) (az : G.P.follows .mixedOrders = true) (ht : TblOK G tbl) (hm : TblM tbl) {it : Zfe} (ki : IterSem G it) {gid : FuncId} {fn : Func} {c : Code} (hf : G.P.funcs[gid]? = some fn) (hb : fn.body = some c) (ak : (fn.name == "runtime.NumGoroutine") = false)
  (ao:ZE fn.ntmps c=true) (loops:Nat->LoopAnn):IterSem G (Zps T tbl it gid fn loops):=fun g args raw σ K h=>by
 unfold Zps at h
 split at h
 ·rename_i hbq
  cases Tl hbq
  refine ⟨Ze hf ak hb,fun n e w vs hS ac gw=>?_⟩;have xd:YP fn=c:=by simp [YP,hb]
  rw [xd] at h;have presM:∀{T:Tab} {f:Frame} {bx:List Box} {l:List ResultVar} {K K':List PV->Prop},(∀vs,K vs->K' vs)->pres T f bx l K->pres T f bx l K':=by
   intro T f bx l
   induction l with
   | nil=>exact fun hK h=>hK _ h
   | cons r l ih =>
   intro K K' hK h
   exact mq82
  refine Zc3 az (C:=⟨T,ZF4 tbl,raw,it,loops,fun _=>0,fun _=>false,fun _=>false,true,fun _=>none,fun _=>false,fun _=>false⟩) ⟨hT,ht.sem,gw,ki.at',.inl rfl⟩ ⟨fun _ h1 h2=>hT.one h1 h2,hm.mono,fun _ _ _ _ h=>h.elim,fun _ _ _ _ _ h=>h.elim,rfl⟩ hf hb ao (Tc h.1) h.2 (fun pe f' σ' hq=>?_) hS ac
  cases pe with
  | normal=>exact presM (fun vs hK e' w' v h1 h2 h3=>⟨.ret (V7 vs),σ',e',hK,⟨v,rfl,h2⟩,h1,h3⟩) hq
  | ret=>exact presM (fun vs hK e' w' v h1 h2 h3=>⟨.ret (V7 vs),σ',e',hK,⟨v,rfl,h2⟩,h1,h3⟩) hq
  | panic p=>exact fun e' w' v h1 h2 h3=>⟨.panic p,_,e',hq,⟨v,rfl,h2⟩,h1,h3⟩
  | exit id=>exact hq.elim
  | goto l=>exact hq.elim
 exact h.elim
def Zj2 {G : GE} {T : Tab} {tbl : Tbl} (hT : TabOK T G.P) (az : G.P.follows .mixedOrders = true) (ht : TblOK G tbl) (hm : TblM tbl) {it : Zfe} (ki : IterSem G it) {g : FuncId} {fn : Func} {c : Code} (hf : G.P.funcs[g]? = some fn) (hb : fn.body = some c) (ak : (fn.name == "runtime.NumGoroutine") = false)
  (ao:ZE fn.ntmps c=true) {sp:Zn}
  (h:∀args σ K,sp args σ K->∃loops keep own,σ.bx.length<=keep/\args.length<=fn.ntmps/\WF (ZEH T tbl it loops) fn keep own args σ K):PCalls G g sp where
 enters:=Ze hf ak hb
 calls:=fun args σ K hs n e w vs hS ha=>by
  obtain ⟨loops,keep,own,h1,h2,h3⟩:=h args σ K hs;exact Ue az (C:=ZEH T tbl it loops) ⟨hT,ht.sem,fun _ _ _ _ h=>h.elim,ki.at',.inl rfl⟩ ⟨fun _ h1 h2=>hT.one h1 h2,hm.mono,fun _ _ _ _ h=>h.elim,fun _ _ _ _ _ h=>h.elim,rfl⟩ hf hb ao h1 h2 h3 hS ha
def Zj3 {G : GE} {T : Tab} {tbl : Tbl} (hT : TabOK T G.P) (az : G.P.follows .mixedOrders = true) (ht : TblOK G tbl) {g : FuncId} {fn : Func} {c : Code} (hf : G.P.funcs[g]? = some fn) (hb : fn.body = some c) (ak : (fn.name == "runtime.NumGoroutine") = false)
  (ao:ZE fn.ntmps c=true) {sp:Zn}
  (h:∀args σ K,sp args σ K->∃md loops unr ties bsl cut ag al keep own,σ.bx.length<=keep/\args.length<=fn.ntmps/\WFG al (Zz7 T tbl md loops unr ties bsl cut ag) fn keep own args σ K):PCalls G g sp where
 enters:=Ze hf ak hb
 calls:=fun args σ K hs n e w vs hS ha=>by
  obtain ⟨md,loops,unr,ties,bsl,cut,ag,al,keep,own,h1,h2,h3⟩:=h args σ K hs;exact Zcl (C:=Zz7 T tbl md loops unr ties bsl cut ag) hT ht.semM ⟨fun _ _ _ _ h=>h,fun _ _ _ _ _ h=>h⟩ (fun _ _ _ _ _ h=>h) az hf hb ao h1 h2 h3 hS ha
def Zpt {G : GE} {T : Tab} {tbl : Tbl} (hT : TabOK T G.P) (az : G.P.follows .mixedOrders = true) (ht : TblOK G tbl) {g : FuncId} {fn : Func} {c : Code} (hf : G.P.funcs[g]? = some fn) (hb : fn.body = some c) (ak : (fn.name == "runtime.NumGoroutine") = false)
  (ao:ZE fn.ntmps c=true) {sp:Zn}
  (h:∀args σ K,sp args σ K->∃loops unr ties bsl foc keep own,σ.bx.length<=keep/\args.length<=fn.ntmps/\WF (ZEI T tbl (fun _=>0) loops unr ties bsl foc) fn keep own args σ K):PCalls G g sp where
 enters:=Ze hf ak hb
 calls:=fun args σ K hs n e w vs hS ha=>by
  obtain ⟨loops,unr,ties,bsl,foc,keep,own,h1,h2,h3⟩:=h args σ K hs;exact Zcl (C:=ZEI T tbl (fun _=>0) loops unr ties bsl foc) hT ht.semM ⟨fun _ _ _ _ h=>h,fun _ _ _ _ _ h=>h⟩ (fun _ _ _ _ _ h=>h) az hf hb ao h1 h2 h3 hS ha
def Zj4 {G : GE} {T : Tab} {tbl : Tbl} (hT : TabOK T G.P) (az : G.P.follows .mixedOrders = true) (ht : TblOK G tbl) {g : FuncId} {fn : Func} {c : Code} (hf : G.P.funcs[g]? = some fn) (hb : fn.body = some c) (ak : (fn.name == "runtime.NumGoroutine") = false)
  (ao:ZE fn.ntmps c=true) {sp:Zn}
  (h:∀args σ K,sp args σ K->∃loops unr ties bsl nl keep own,σ.bx.length<=keep/\args.length<=fn.ntmps/\WF (Zz7 T tbl (ZEJ nl 1) loops unr ties bsl (fun _=>none) (fun _=>false)) fn keep own args σ K):PCalls G g sp :=
 Zj3 hT az ht hf hb ak ao fun args σ K hs=>let ⟨_,_,_,_,_,_,_,h⟩:=h args σ K hs;⟨_,_,_,_,_,_,_,_,_,_,h⟩
def Zpu {G : GE} {T : Tab} {tbl : Tbl} (hT : TabOK T G.P) (az : G.P.follows .mixedOrders = true) (ht : TblOK G tbl) {g : FuncId} {fn : Func} {c : Code} (hf : G.P.funcs[g]? = some fn) (hb : fn.body = some c) (ak : (fn.name == "runtime.NumGoroutine") = false)
  (ao:ZE fn.ntmps c=true) {sp:Zn}
  (h:∀args σ K,sp args σ K->∃loops unr ties bsl nl cut keep own,σ.bx.length<=keep/\args.length<=fn.ntmps/\WF (Zz7 T tbl (ZEJ nl 1) loops unr ties bsl cut (fun _=>false)) fn keep own args σ K):PCalls G g sp :=
 Zj3 hT az ht hf hb ak ao fun args σ K hs=>let ⟨_,_,_,_,_,_,_,_,h⟩:=h args σ K hs;⟨_,_,_,_,_,_,_,_,_,_,h⟩
def XN {G : GE} {T : Tab} {tbl : Tbl} (hT : TabOK T G.P) (az : G.P.follows .mixedOrders = true) (ht : TblOK G tbl) {g : FuncId} {fn : Func} {c : Code} (hf : G.P.funcs[g]? = some fn) (hb : fn.body = some c) (ak : (fn.name == "runtime.NumGoroutine") = false)
  (ao:ZE fn.ntmps c=true) {sp:Zn}
  (h:∀args σ K,sp args σ K->∃loops unr ties keep own,σ.bx.length<=keep/\args.length<=fn.ntmps/\WF (ZDg T tbl loops unr ties) fn keep own args σ K):PCalls G g sp :=
 Zj3 hT az ht hf hb ak ao fun args σ K hs=>let ⟨_,_,_,_,_,h⟩:=h args σ K hs;⟨_,_,_,_,_,_,_,_,_,_,h⟩
def Zh9 {G : GE} {T : Tab} {tbl : Tbl} (hT : TabOK T G.P) (az : G.P.follows .mixedOrders = true) (ht : TblOK G tbl) {g : FuncId} {fn : Func} {c : Code} (hf : G.P.funcs[g]? = some fn) (hb : fn.body = some c) (ak : (fn.name == "runtime.NumGoroutine") = false)
  (ao:ZE fn.ntmps c=true) {sp:Zn}
  (h:∀args σ K,sp args σ K->∃loops keep own,σ.bx.length<=keep/\args.length<=fn.ntmps/\WF (ctx T tbl loops) fn keep own args σ K):PCalls G g sp where
 enters:=Ze hf ak hb
 calls:=fun args σ K hs n e w vs hS ha=>by
  obtain ⟨loops,keep,own,h1,h2,h3⟩:=h args σ K hs;exact Zcl (C:=ctx T tbl loops) hT ht.sem ⟨fun _ _ _ _ h=>h,fun _ _ _ _ _ h=>h⟩ (fun _ _ _ _ _ h=>h) az hf hb ao h1 h2 h3 hS ha
def ZGb {X Y:Prop} (h:X):CondP true X Y:=h
def ZGc {X Y:Prop} (h:Y):CondP false X Y:=h
def ZFU {p:Prop} [Decidable p] {X Y:Prop} (h1:p->X) (h2:¬p->Y):CondP (decide p) X Y:=by
 by_cases h:p
 ·simp only [h,decide_true];exact h1 h
 simp only [h,decide_false];exact h2 h
def ZFX {p:Prop} [Decidable p] {X Y:Prop} (h1:¬p->X) (h2:p->Y):CondP (!decide p) X Y:=by
 by_cases h:p
 ·simp only [h,decide_true];exact h2 h
 simp only [h,decide_false];exact h1 h
def InR.i64 {n:Int} (h1:-9223372036854775808<=n) (h2:n<=9223372036854775807):InR .i64 n:=by
 unfold InR IntKind.wrap
 exact mq148
def InR.i32 {n:Int} (h1:-2147483648<=n) (h2:n<=2147483647):InR .i32 n:=by
 unfold InR IntKind.wrap
 simp only [show IntKind.i32.bits=32 from rfl,show IntKind.i32.signed=true from rfl,TW];split <;> simp at * <;> omega
def InR.u8 {n:Int} (h1:0<=n) (h2:n<=255):InR .u8 n:=by
 unfold InR IntKind.wrap
 simp only [show IntKind.u8.bits=8 from rfl,show IntKind.u8.signed=false from rfl,TV];simp;omega
def InR.u32 {n:Int} (h1:0<=n) (h2:n<=4294967295):InR .u32 n:=by
 unfold InR IntKind.wrap
 simp only [show IntKind.u32.bits=32 from rfl,show IntKind.u32.signed=false from rfl,TV];simp;omega
def InR.u64 {n:Int} (h1:0<=n) (h2:n<=18446744073709551615):InR .u64 n:=by
 unfold InR IntKind.wrap
 simp only [show IntKind.u64.bits=64 from rfl,show IntKind.u64.signed=false from rfl,TV];simp;omega
def Zl {n:Int} {K Q X:Prop} (q:Q) (h1:-9223372036854775808<=n:=by omega) (h2:n<=9223372036854775807:=by omega) (h:Q->K:=by intro k;(conv=>whnf);exact k):InR .i64 n/\K\/X:=.inl ⟨InR.i64 h1 h2,h q⟩
def X5 {n:Int} {K Q X:Prop} (q:Q) (h1:-9223372036854775808<=n:=by decide) (h2:n<=9223372036854775807:=by decide) (h:Q->K:=by intro k;(conv=>whnf);exact k):InR .i64 n/\K\/X:=.inl ⟨InR.i64 h1 h2,h q⟩
def V5 {n:Int} {K Q X:Prop} (q:Q) (h1:0<=n:=by omega) (h2:n<=255:=by omega) (h:Q->K:=by intro k;(conv=>whnf);exact k):InR .u8 n/\K\/X:=.inl ⟨InR.u8 h1 h2,h q⟩
def Zc9 {n:Int} {K Q X:Prop} (q:Q) (h1:0<=n:=by omega) (h2:n<=18446744073709551615:=by omega) (h:Q->K:=by intro k;(conv=>whnf);exact k):InR .u64 n/\K\/X:=.inl ⟨InR.u64 h1 h2,h q⟩
def oiO {n:Int} {K X:Prop} (q:K) (h1:-9223372036854775808<=n:=by omega) (h2:n<=9223372036854775807:=by omega):InR .i64 n/\K\/X:=.inl ⟨InR.i64 h1 h2,q⟩
def oiD {n:Int} {K X:Prop} (q:K) (h1:-9223372036854775808<=n:=by decide) (h2:n<=9223372036854775807:=by decide):InR .i64 n/\K\/X:=.inl ⟨InR.i64 h1 h2,q⟩
def oiB {n:Int} {K X:Prop} (q:K) (h1:0<=n:=by omega) (h2:n<=255:=by omega):InR .u8 n/\K\/X:=.inl ⟨InR.u8 h1 h2,q⟩
def oiU {n:Int} {K X:Prop} (q:K) (h1:0<=n:=by omega) (h2:n<=18446744073709551615:=by omega):InR .u64 n/\K\/X:=.inl ⟨InR.u64 h1 h2,q⟩
def Zsk {K:PEnd->St->Prop} {p p':PEnd} {σ σ':St} (h:K p σ) (h1:p=p') (h2:σ=σ'):K p' σ':=by subst h1;subst h2;exact h
end Go.PM
end

section
namespace Go.PM
structure CxG (G:GE) (T:Tab) (C:Cx):Prop where
 T:C.T=T
 ok:∀e σ w,CxOK G C none e σ w
 mono:CxMono C.calm
 it:∀g args raw σ K,¬C.iter g args raw σ K
def CxG.of {G:GE} {T:Tab} {tbl:Tbl} (hT:TabOK T G.P) (ht:TblOK G tbl) (hm:TblM tbl) (loops:Nat->LoopAnn) (unr:Nat->Nat) (ties:Nat->Bool):CxG G T (Zoy T tbl loops unr ties) :=
 ⟨rfl,fun _ _ _=>⟨hT,ht.sem,fun _ _ _ _ h=>h.elim,noIter_sem.at',.inl rfl⟩,⟨fun _ h1 h2=>hT.one h1 h2,hm.mono,fun _ _ _ _ h=>h.elim,fun _ _ _ _ _ h=>h.elim,rfl⟩,fun _ _ _ _ _ h=>h⟩
structure PDef (G:GE) (g:FuncId) (spR:List PV->St->(St->Prop)->Prop) (spP:PV->List PV->St->(St->Prop)->Prop):Prop where
 enters:Wi G.P g
 ret:∀args σ K,spR args σ K->∀(n:Nat) (e:Env) (w:World) (vs:Array Value),SRel G e σ w->ArgsRel G e σ w args vs ->
  CallsDIn (fw none) n G.P g vs .returning w fun en u' w'=>u'=.returning/\(∃r,en=.returned r)/\∃σ' e',K σ'/\SRel G e' σ' w'/\Later e σ w e' σ' w'
 pan:∀pv args σ K,spP pv args σ K->∀(n:Nat) (e:Env) (w:World) (vs:Array Value) (v:Value),SRel G e σ w->ArgsRel G e σ w args vs->VRel G e σ w pv v ->
  CallsDIn (fw none) n G.P g vs (.panicking [{ v:=v,recovered:=false }]) w fun en u' w'=>u'=.panicking [{ v:=v,recovered:=true }]/\(∃r,en=.returned r)/\∃σ' e',K σ'/\SRel G e' σ' w'/\Later e σ w e' σ' w'
def ZzM (c:Code):Option (Nat×Nat×Code):=match c with
 | .seq (.region _ ops false) rest=>match ops.toList with
  | [o1,o2]=>match o1.op,o1.dst,o1.guard,o2.op,o2.dst,o2.guard with
   | .call { callee:=.builtin .recover,args,.. },some a,none,.assign (.tmp a'),some b,none=>match args.toList,Nat.beq a a' with
    | [],true=>some (a,b,rest)
    | _,_=>none
   | _,_,_,_,_,_=>none
  | _=>none
 | _=>none
def ZpT {c:Code} {a b:Nat} {rest:Code} (h:ZzM c=some (a,b,rest)):∃id ops o1 o2 at',c=.seq (.region id ops false) rest/\ops=#[o1,o2]/\o1.op=.call { callee:=.builtin .recover,args:=#[],argTypes:=at' }/\o1.dst=some a/\o1.guard=none/\o2.op=.assign (.tmp a)/\o2.dst=some b/\o2.guard=none:=by
 unfold ZzM at h
 split at h
 ·rename_i id ops rest'
  split at h
  ·rename_i o1 o2 js
   split at h
   ·rename_i args at' a1 a2 b1 h1 h2 h3 h4 h5 h6
    split at h
    ·rename_i h7 h8
     cases h
     have:=Tl h8;subst this;have ha:args=#[]:=by apply Array.ext';simpa using h7
     subst ha;exact ⟨id,ops,o1,o2,at',rfl,by apply Array.ext';simpa using js,h1,h2,h3,h4,h5,h6⟩
    cases h
   cases h
  cases h
 cases h
section
variable {G:GE}
def ZsS (T:Tab) (fn:Func) (keep:Nat) (K:St->Prop):PQ:=fun e f σ=>match e with
 | .normal | .ret=>pres T f σ.bx fn.results.toList fun vs=>ZhL keep false (V7 vs) σ fun _ σ'=>K σ'
 | _=>False
def Zkc {T : Tab} (hT : TabOK T G.P) (az : G.P.follows .mixedOrders = true) {g : FuncId} {fn : Func} {c : Code} (hf : G.P.funcs[g]? = some fn) (hb : fn.body = some c) (ak : (fn.name == "runtime.NumGoroutine") = false)
  {a b:Nat} {rest:Code} (ab1:ZzM c=some (a,b,rest)) (ao:ZE fn.ntmps c=true) {spR:List PV->St->(St->Prop)->Prop} {spP:PV->List PV->St->(St->Prop)->Prop}
  (hr:∀args σ K,spR args σ K->∃C keep,CxG G T C/\σ.bx.length<=keep/\args.length<=fn.ntmps/\W C rest (ZsS T fn keep K) (WY (WY (Zb3 0 args) a (.d .nili)) b (.d .nili)) σ)
  (hp:∀pv args σ K,spP pv args σ K->∃C keep,CxG G T C/\σ.bx.length<=keep/\args.length<=fn.ntmps/\W C rest (ZsS T fn keep K) (WY (WY (Zb3 0 args) a pv) b pv) σ):PDef G g spR spP:=by
 obtain ⟨id,ops,o1,o2,at',rfl,rfl,q1,q2,q3,q4,q5,q6⟩:=ZpT ab1;simp only [ZE,Tn,Zpl,q2,q5] at ao;have ha:a<fn.ntmps:=by have:=Tc ao.1.1.1;omega
 have hbN:b<fn.ntmps:=by have:=Tc ao.1.1.2.1;omega
 have walk:∀(pv:PV) (v:Value) (u u':FrameMode) (args:List PV) (σ:St) (K:St->Prop) (C:Cx) (keep:Nat),CxG G T C->σ.bx.length<=keep->args.length<=fn.ntmps->W C rest (ZsS T fn keep K) (WY (WY (Zb3 0 args) a pv) b pv) σ ->
   (∀(c₀:Go.Frame) (cs:List Go.Frame),c₀.mode=u->match recoverD (c₀::cs) with | some (x,cs')=>x=v/\cs'={ c₀ with mode:=u' }::cs | none=>v=.nilIface/\u'=u) ->
   ∀(n:Nat) (e:Env) (w:World) (vs:Array Value),SRel G e σ w->ArgsRel G e σ w args vs->VRel G e σ w pv v ->
   CallsDIn (fw none) n G.P g vs u w fun en u2 w'=>u2=u'/\(∃r,en=.returned r)/\∃σ' e',K σ'/\SRel G e' σ' w'/\Later e σ w e' σ' w':=by
  intro pv v u u' args σ K C keep hC hk hlen hW ue n e w vs hS ac hv
  refine callsDIn_of_wpSIn hf hb trivial fun c₀ cs hu=>?_
  have hsz:vs.size=args.length:=ac.1;have hF:FRel G e σ w (Zb3 0 args) (vs++Array.replicate (fn.ntmps - vs.size) undef):=J3 args 0 fun k x hx=>by
   exact mq34
  refine wpSIn_seq (wpSIn_region ?_)
  let A0:Act:={ tmps:=vs++Array.replicate (fn.ntmps - vs.size) undef,defers:=[] }
  have vz:A0.tmps.size=fn.ntmps:=by simp [A0];omega
  have s0:(#[o1,o2]:Array Oper)[0]?=some o1:=rfl;have s1:(#[o1,o2]:Array Oper)[1]?=some o2:=rfl;have w1:∀t,Region.wanted o1 (yielded #[o1,o2] t)=true:=fun t=>by simp [Region.wanted,q3]
  have w2:∀t,Region.wanted o2 (yielded #[o1,o2] t)=true:=fun t=>by simp [Region.wanted,q6]
  have x1:∀A:Act,(execOp A.eval o1).run G.P w=.ok .recover w:=fun A=>by
   unfold execOp
   simp only [q1,resolve,Sem.run_bind,Sem.run_pure,Result.andThen,invoke,builtin]
  have x2:∀A:Act,(execOp A.eval o2).run G.P w=.ok (.value (A.eval (.tmp a))) w:=fun A=>by
   unfold execOp
   simp only [q4,Sem.run_pure]
  have y2:(A0.put (some a) v).eval (.tmp a)=v:=by
   simp [Act.put,Act.eval,TY,vz,ha]
  have tail:rest.wpSIn (fw none) n G.P (bodyPostS G.P fn c₀ cs fun en u2 w'=>u2=u'/\(∃r,en=.returned r)/\∃σ' e',K σ'/\SRel G e' σ' w'/\Later e σ w e' σ' w') ((A0.put (some a) v).put (some b) v) ({ c₀ with mode:=u' }::cs) w:=by
   have w8:FRel G e σ w (WY (Zb3 0 args) a pv) (A0.put (some a) v).tmps:=FRel.put (a:=A0) (d:=some a) hF hv (fun i hi=>by cases hi;rw [vz];exact ha);have s7:FRel G e σ w (WY (WY (Zb3 0 args) a pv) b pv) ((A0.put (some a) v).put (some b) v).tmps:=FRel.put (a:=A0.put (some a) v) (d:=some b) w8 hv (fun i hi=>by cases hi;rw [Yr,vz];exact hbN);refine wpSIn_of_wpIn rfl (wpIn_mono (Zc2 (n:=n) (ro:=none) (ds:=(w.heap.size,[],true)) az rest (C:=C) (hC.ok _ _ _) hC.mono (fun _ _ _ _ _ _=>hC.it _ _ _ _ _) ao.2 [] #[] (Y2 _) _
    (a:=(A0.put (some a) v).put (some b) v) hS s7 (Later.refl e σ w) (by rw [Yr,Yr,vz]) (by rw [Y7,Y7];exact Marks.nil e σ (Tu _)) (fun i hi=>by cases hi) hW) fun x a' w' hp=>?_)
   obtain ⟨pe,f',e',σ',hq,hx,h1,h2,h3,h4,⟨_,rs,h5,ov,_⟩,h6⟩:=hp;have kb:a'.defers=[]:=by rw [h5,ov rfl];rfl
   have done:(pres T f' σ'.bx fn.results.toList fun vs=>ZhL keep false (V7 vs) σ' fun _ σ''=>K σ'')->∃r,(results fn a'.tmps).run G.P w'=.ok r w'/\u'=u'/\(∃r',Ending.returned r=.returned r')/\∃σ' e',K σ'/\SRel G e' σ' w'/\Later e σ w e' σ' w':=fun hl=>by
    exact mq93
   cases pe with
   | normal=>obtain rfl:x=.normal:=hx;obtain ⟨r,hr,hR⟩:=done hq;exact ⟨kb,u',rfl,r,hr,hR⟩
   | ret=>obtain rfl:x=.ret:=hx;obtain ⟨r,hr,hR⟩:=done hq;exact ⟨kb,u',rfl,r,hr,hR⟩
   | exit id=>exact hq.elim
   | goto l=>exact hq.elim
   | panic p=>exact hq.elim
  show wpOpsSIn (fw none) n G.P #[o1,o2] _ [0,1] A0 (c₀::cs) w;simp only [wpOpsSIn,s0,s1,w1,w2,if_true,x1,x2,q2,q5];refine ⟨fun _ _=>trivial,?_⟩;have hh:=ue c₀ cs hu
  cases xm:recoverD (c₀::cs) with
  | none =>
   rw [xm] at hh;obtain ⟨rfl,rfl⟩:=hh;have jb:({ c₀ with mode:=u' }:Go.Frame)=c₀:=by subst hu;rfl
   rw [jb] at tail;simp only [y2];exact ⟨fun _ _=>trivial,tail⟩
  | some p =>
  obtain ⟨x,cs'⟩:=p;rw [xm] at hh;obtain ⟨rfl,rfl⟩:=hh;simp only [y2];exact ⟨fun _ _=>trivial,tail⟩
 refine ⟨Ze hf ak hb,fun args σ K hs n e w vs hS ac=>?_,fun pv args σ K hs n e w vs v hS ac hv=>?_⟩
 ·obtain ⟨C,keep,h0,h1,h2,h3⟩:=hr args σ K hs;exact walk (.d .nili) .nilIface .returning .returning args σ K C keep h0 h1 h2 h3 (fun c₀ cs hu=>by simp [recoverD,hu]) n e w vs hS ac (.d _ _ .nili)
 obtain ⟨C,keep,h0,h1,h2,h3⟩:=hp pv args σ K hs;exact walk pv v _ _ args σ K C keep h0 h1 h2 h3 (fun c₀ cs hu=>by simp [recoverD,hu]) n e w vs hS ac hv
end
def Zac:List Oper->Option (List Oper×Oper)
 | []=>none
 | [o]=>some ([],o)
 | o::p::l=>match Zac (p::l) with | some (a,b)=>some (o::a,b) | none=>none
def Ja:∀{l:List Oper} {i:List Oper} {o:Oper},Zac l=some (i,o)->l=i++[o]
 | [],i,o,h=>by cases h
 | [x],i,o,h=>by cases h;rfl
 | x::p::l,i,o,h=>by
  simp only [Zac] at h;split at h
  ·rename_i a b hs
   cases h
   rw [Ja hs];rfl
  cases h
def Zdm (o:Oper):Option (Operand×List Operand):=match o.op,o.guard,o.dst with
 | .defer { callee:=.value x,args,.. },none,none=>some (x,args.toList)
 | _,_,_=>none
def Zev {o:Oper} {x:Operand} {args:List Operand} (h:Zdm o=some (x,args)):∃as at',o.op=.defer { callee:=.value x,args:=as,argTypes:=at' }/\as.toList=args/\o.guard=none/\o.dst=none:=by
 unfold Zdm at h
 split at h
 ·rename_i x' as at' h1 h2 h3;cases h;exact ⟨as,at',h1,rfl,h2,h3⟩
 cases h
def Zkd (c:Code):Option (List Oper×List Oper×Operand×List Operand):=match c with
 | .region _ ops false=>match Zac ops.toList with
  | some (init,last)=>match Zdm last with
   | some (x,args)=>some (ops.toList,init,x,args)
   | none=>none
  | none=>none
 | _=>none
section
variable {G:GE} {C:Cx} {e0:Env} {σ0:St} {w0:World} {n N:Nat} {ds:Nat×List Deferred×Bool} {Z:Array Value->Prop} {Q:PQ}
def Zdn (hC:CxOK G C none e0 σ0 w0) {ops:Array Oper} {rest:List Nat} {QQ:Exit->Act->World->Prop} (hd:∀o,o∈ops->∀d,o.dst=some d->d<N/\∀t v,Z t->Z (t.setIfInBounds d v))
  (wy:∀x a w,x≠.normal->ZL G e0 σ0 w0 ds N Z Q x a w->QQ x a w) (d7:∀a w,ZL G e0 σ0 w0 ds N Z Q .normal a w->wpOpsIn (fw none) n G.P ops QQ rest a w) :
  ∀(l:List Oper) (k:Nat),(∀j,j<l.length->l[j]?=ops[k+j]?)->∀{e:Env} {σ:St} {w:World} {a:Act} {f:Frame},
  SRel G e σ w->FRel G e σ w f a.tmps->Later e0 σ0 w0 e σ w->a.tmps.size=N->Marks ds e σ w a.defers->Z a.tmps->Zox C ops.toList Q l f σ->wpOpsIn (fw none) n G.P ops QQ (List.range' k l.length++rest) a w
 | [],k,_,e,σ,w,a,f,hS,hF,hL,hN,bf,hZ,h=>d7 a w ⟨.normal,f,e,σ,h,rfl,hS,hF,hL,hN,bf,hZ⟩
 | o::l,k,hl,e,σ,w,a,f,hS,hF,hL,hN,bf,hZ,h=>by
  have h0:ops[k]?=some o:=by simpa using (hl 0 sM).symm
  have bi:=ZbA (ro:=none) (n:=n) hC hS hF hL hN bf hZ (ops:=ops) (hd o (Se h0)) h;have next:∀a' w',KRel G e0 σ0 w0 ds N Z (Zox C ops.toList Q l) a' w'->wpOpsIn (fw none) n G.P ops QQ (List.range' (k+1) l.length++rest) a' w':=fun a' w' ⟨f',e',σ',h1,h2,h3,h4,h5,h6,h7⟩ =>
   Zdn hC hd wy d7 l (k+1) (fun j hj=>by have:=hl (j+1) sO;simpa [So,Nat.add_comm 1 j] using this) h2 h3 h4 h5 h6 h7 h1
  rw [Te,List.range'_succ,T5];simp only [wpOpsIn,h0];split at bi
  ·rename_i hw
   rw [Tk hw];exact ZF8 wy (Oper.wpIn_mono next bi)
  rename_i hw
  rw [Tf hw];exact ⟨fun _ _=>trivial,next _ _ bi⟩
def YM (g0:FuncId) (va vc:Array Value):Deferred:={ target:=.fn (.func g0) vc,args:=va }
def Zwd (G:GE) (g0:FuncId) (e0:Env) (σ0:St) (w0:World) (N:Nat) (Q0:PQ) (Q1:List PV->PQ):Exit->Act->World->Prop:=fun x a w =>
 ZL G e0 σ0 w0 (0,[],true) N (Kept [] #[]) Q0 x a w \/
 ∃fa va vc e1 σ1 w1,Later e0 σ0 w0 e1 σ1 w1/\ArgsRel G e1 σ1 w1 fa (va++vc)/\ZL G e1 σ1 w1 (0,[YM g0 va vc],true) N (Kept [] #[]) (Q1 (Xa fa)) x a w
end
def ZAm (T:Tab) (fn:Func) (keep:Nat) (own:Bool) (spR:List PV->St->(St->Prop)->Prop) (spP:PV->List PV->St->(St->Prop)->Prop) (R:PEnd->St->Prop) (fa:List PV):PQ:=fun e f σ=>match e with
 | .normal | .ret=>spR fa σ fun σ2=>pres T (VT f) σ2.bx fn.results.toList fun vs=>ZhL keep own (V7 vs) σ2 fun v σ'=>R (.ret v) σ'
 | .panic pv=>spP pv fa σ fun σ2=>pres T (VT f) σ2.bx fn.results.toList fun vs=>ZhL keep own (V7 vs) σ2 fun v σ'=>R (.ret v) σ'
 | _=>False
def ArgsRel.clean {G:GE} {e e':Env} {σ σ':St} {w w':World} {fa:List PV} {vs:Array Value} (h:ArgsRel G e σ w fa vs) (hL:Later e σ w e' σ' w'):ArgsRel G e' σ' w' (Xa fa) vs:=by
 refine ⟨by rw [YJ];exact h.1,fun i y u hy hu=>?_⟩;obtain ⟨x,hx,rfl⟩:=Wc i y hy;have hv:=h.2 i x u hx hu;exact VRel.clean hL.len hL.beta hL.pres hv hv.bnd
def CallsDIn.mono {F:Fence} {n:Nat} {P:Program} {f:FuncId} {args:Array Value} {u:FrameMode} {w:World} {R R':Ending->FrameMode->World->Prop} (h:CallsDIn F n P f args u w R) (hR:∀e u w,R e u w->R' e u w):CallsDIn F n P f args u w R' :=
 ⟨h.1,fun c cs hu hr=>let ⟨e,u',w',fr,h1,h2⟩:=h.2 c cs hu hr;⟨e,u',w',fr,hR _ _ _ h1,h2⟩⟩
end Go.PM
end
